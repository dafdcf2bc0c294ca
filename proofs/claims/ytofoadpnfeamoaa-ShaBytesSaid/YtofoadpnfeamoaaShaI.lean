/- ShaBytes. -/
import Derived.Test.YtofoadpnfeamoaaShaH
import Derived.Test.YtofoadpnfeamoaaGrowS
set_option linter.unusedVariables false
namespace Go.Proofs.Ytofoadpnfeamoaa
open Go.RowKit

theorem Rd.sub {w : World} {a : Option Addr} {l : List UInt8} (h : Rd w a l) (i n c : Nat) (hc : l.length ≤ c) (hi : i + n ≤ l.length) : Rd w (if c = i then a else a.map (·.add (i * 1))) ((l.drop i).take n) := by
  rcases h with rfl | ⟨b, off, rfl, hcell⟩
  · exact .inl (by simp)
  · by_cases e : c = i
    · refine .inl ?_
      have : n = 0 := by omega
      subst this
      simp
    · rw [if_neg e]
      refine .inr ⟨b, off + i, by simp [Addr.add_lit], fun j hj => ?_⟩
      simp at hj
      have := hcell (i + j) (by omega)
      rw [show off + i + j = off + (i + j) by omega, this]
      simp
/-- l[i:j], l[:j], l[i:]. -/
theorem slice_lh (a : Option Addr) (l : List UInt8) (c i j n : Nat) (I J : Int) (hI : I = i) (hJ : J = j) (hc : l.length ≤ c) (hij : i ≤ j) (hj : j ≤ l.length) (hn : n = j - i) :
    ∃ a' c', (∀ w, (Instr.slice 22 (.slice a l.length c) (some (.int .i64 I)) (some (.int .i64 J)) none).run Try.prog w = .ok (.slice a' n c') w) ∧ ∀ w, Rd w a l → Rd w a' ((l.drop i).take n) := by
  subst hI hJ
  refine ⟨if c = i then a else a.map (·.add (i * 1)), c - i, fun w => ?_, fun w h => ?_⟩
  · rw [run_slice_lh w 22 a l.length c Try.underlying22 .i64 .i64 i j (by omega) (by omega) (by omega)]
    simp [go_sem, hn]
  · exact h.sub i n c hc (by omega)
theorem slice_h (a : Option Addr) (l : List UInt8) (c j : Nat) (J : Int) (hJ : J = j) (hc : l.length ≤ c) (hj : j ≤ l.length) :
    ∃ a' c', (∀ w, (Instr.slice 22 (.slice a l.length c) none (some (.int .i64 J)) none).run Try.prog w = .ok (.slice a' j c') w) ∧ ∀ w, Rd w a l → Rd w a' (l.take j) := by
  subst hJ
  refine ⟨if c = 0 then a else a.map (·.add (0 * 1)), c - 0, fun w => ?_, fun w h => ?_⟩
  · rw [run_slice_h w 22 a l.length c Try.underlying22 .i64 j (by omega) (by omega)]
    simp [go_sem]
  · exact h.sub 0 j c hc (by omega)
theorem slice_l (a : Option Addr) (l : List UInt8) (c i n : Nat) (I : Int) (hI : I = i) (hc : l.length ≤ c) (hi : i ≤ l.length) (hn : n = l.length - i) :
    ∃ a' c', (∀ w, (Instr.slice 22 (.slice a l.length c) (some (.int .i64 I)) none none).run Try.prog w = .ok (.slice a' n c') w) ∧ ∀ w, Rd w a l → Rd w a' (l.drop i) := by
  subst hI
  refine ⟨if c = i then a else a.map (·.add (i * 1)), c - i, fun w => ?_, fun w h => ?_⟩
  · rw [run_slice_l w 22 a l.length c Try.underlying22 .i64 i (by omega) (by omega)]
    simp [go_sem, hn]
  · have := h.sub i n c hc (by omega)
    rwa [List.take_of_length_le (by simp; omega)] at this

set_option maxRecDepth 100000 in
set_option maxHeartbeats 4000000 in
theorem shaBytes_walk (a : Option Addr) (c : Nat) (l : List UInt8) (x : Int) (w : World) (hr : Rd w a l) (hlc : l.length ≤ c) (hx : (Lit.int .i64 x).wf = true) :
    Calls Try.prog 9 #[.slice a l.length c, .int .i64 x] w fun e w' => e = .returned (.bool true) ∧ Below w.heap.size w w' := by
  go_enter Try.func9, Try.ntmps9
  go_wp2_with fail
  refine (anchor01_any w).mono ?_
  rintro e w1 ⟨rfl, hb1⟩
  have HR := Lib.hid hr
  have HB1 := Lib.hid hb1
  clear hr hb1
  by_cases hl : l.length ≤ 200
  · by_cases hx0 : 0 ≤ x
    · go_wp2_with fail
      refine (new_any w1).mono ?_
      rintro e w2 ⟨rfl, hw2⟩
      obtain ⟨p1, hp1⟩ : ∃ p, w1.heap.size = p := ⟨_, rfl⟩
      have hm2 : HM p1 w2 p1 (.slice none 0 0) [] := by rw [hw2, ← hp1]; exact new_hm _ w1 (Nat.le_refl _)
      have hb2 : Below p1 w1 w2 := by rw [hw2, ← hp1]; exact (Below.refl _ _).alloc (Nat.le_refl _) _
      have hsz2 : w2.heap.size = p1 + 1 := by rw [hw2, ← hp1]; simp
      rw [hp1]
      clear hw2
      go_wp2_with fail
      refine (new_any w2).mono ?_
      rintro e w3 ⟨rfl, hw3⟩
      rw [hsz2]
      have hm3 : HM p1 w3 (p1 + 1) (.slice none 0 0) [] := by rw [hw3, ← hsz2]; exact new_hm _ w2 (by omega)
      have hb23 : Below (p1 + 1) w2 w3 := by rw [hw3, ← hsz2]; exact (Below.refl _ _).alloc (Nat.le_refl _) _
      have hm2' : HM p1 w3 p1 (.slice none 0 0) [] := HAt.below hm2 (by rw [hsz2]; exact hb23)
      have hb3 : Below p1 w1 w3 := hb2.trans (hb23.mono (by omega))
      have HG := Lib.hid hm2'
      have HH := Lib.hid hm3
      have HB3 := Lib.hid hb3
      have HP := Lib.hid hp1
      clear hw3 hm2 hb2 hsz2 hm3 hb23 hm2' hb3 hp1
      go_wp2_with fail
      go_loopg [22] l.length (fun k y wr => ∃ j : Nat, ∃ v : Value, y = .int .i64 j ∧ j + k = l.length ∧ Hid (HM p1 wr p1 v (l.take j)) ∧ Hid (HM p1 wr (p1 + 1) (.slice none 0 0) []) ∧ Hid (Below p1 w1 wr))
      case atStart => exact ⟨0, _, rfl, by omega, HG, HH, HB3⟩
      case round =>
        clear HG HH HB3
        obtain ⟨j, v, rfl, hj, HG, HH, HB⟩ := hrel
        by_cases hlt : j < l.length
        · obtain ⟨a', c', hsl, hrd⟩ := slice_lh a l c j (j + 1) 1 (j : Int) ((j : Int) + 1) rfl (by omega) hlc (by omega) (by omega) (by omega)
          have hw1 : IntKind.i64.wrap ((j : Int) + 1) = (j : Int) + 1 := IntWalk.i64_in _ (by omega)
          have hone : (l.drop j).take 1 = [l[j]] := by
            rw [List.drop_eq_getElem_cons hlt]
            rfl
          have hrdl : Rd w1 a l := HR.out.below HB1.out
          have hrdr : Rd wr a l := hrdl.below (by rw [HP.out]; exact HB.out)
          have hra := hrd wr hrdr
          rw [hone] at hra
          have hle : (l.take j).length ≤ 200 := by simp; omega
          have hW := write_any p1 p1 v (l.take j) [l[j]] a' 1 c' wr HG.out (by have := HB.out.size; have := HP.out; omega) hra rfl (fun _ b off s e => by
            subst e
            have h1 := (hrd w1 hrdl)
            rw [hone] at h1
            have := h1.lt (by simp)
            have := HP.out
            omega) (by simp; omega)
          have htk : l.take (j + 1) = l.take j ++ [l[j]] := by rw [List.take_add_one, List.getElem?_eq_getElem hlt]; rfl
          rw [← htk] at hW
          have HW := Lib.hid hW
          have hjI : (j : Int) < (l.length : Int) := by omega
          have hjn : ((j : Int)).toNat = j := by omega
          have hj0 : 0 ≤ (j : Int) := by omega
          clear hone hrdl hrdr hra hrd hW htk
          go_wp2_with fail
          refine HW.out.mono ?_
          rintro e w4 ⟨rfl, v', hm4, hk4, how⟩
          have hh4 : HM p1 w4 (p1 + 1) (.slice none 0 0) [] := HM.keeps HH.out hk4 (fun h => by
            rcases h with h | h
            · omega
            · obtain ⟨cur, hc⟩ := HG.out.tl.kind _ h
              rw [HH.out.blk] at hc
              simp at hc) (fun k h => by cases h)
          have hb4 : Below p1 w1 w4 := HB.out.trans (hk4.below p1 (by have := HB.out.size; have := HP.out; omega) (fun k hk h => by
            rcases h with h | h
            · omega
            · have := (HG.out.tl.lt k h).1
              omega))
          have HG4 := Lib.hid hm4
          have HH4 := Lib.hid hh4
          have HB4 := Lib.hid hb4
          clear hm4 hk4 how hh4 hb4
          go_wp2_with fail
          go_roundg (gk - 1)
          case measure => omega
          case rel => exact ⟨j + 1, v', by go_num, by omega, HG4, HH4, HB4⟩
        · obtain rfl : j = l.length := by omega
          have hg := HG.out
          rw [List.take_length] at hg
          have HG := Lib.hid hg
          clear hg
          obtain ⟨kk, hkk⟩ : ∃ kk : Nat, x % ((l.length : Int) + 1) = kk := ⟨(x % ((l.length : Int) + 1)).toNat, by have := Int.emod_nonneg x (show (l.length : Int) + 1 ≠ 0 by omega); omega⟩
          have hkl : kk ≤ l.length := by have := Int.emod_lt_of_pos x (show (0 : Int) < (l.length : Int) + 1 by omega); omega
          obtain ⟨a2, c2, hsl2, hrd2⟩ := slice_h a l c kk (kk : Int) rfl hlc hkl
          obtain ⟨n3, hn3⟩ : ∃ n, n = l.length - kk := ⟨_, rfl⟩
          obtain ⟨a3, c3, hsl3, hrd3⟩ := slice_l a l c kk n3 (kk : Int) rfl hlc hkl hn3
          have hrdl : Rd w1 a l := HR.out.below HB1.out
          have hrdr : Rd wr a l := hrdl.below (by rw [HP.out]; exact HB.out)
          have hB : p1 ≤ wr.heap.size := by have := HB.out.size; have := HP.out; omega
          have hW := write_any p1 (p1 + 1) (.slice none 0 0) [] (l.take kk) a2 kk c2 wr HH.out hB (hrd2 wr hrdr) (by simp; omega) (fun hne b off s e => by
            subst e
            have := (hrd2 w1 hrdl).lt hne
            have := HP.out
            omega) (by simp; omega)
          rw [List.nil_append] at hW
          have HW := Lib.hid hW
          have HK := Lib.hid hkk
          clear hW
          obtain ⟨kk, hkk⟩ : ∃ kk : Nat, x % ((l.length : Int) + 1) = kk := ⟨(x % ((l.length : Int) + 1)).toNat, by have := Int.emod_nonneg x (show (l.length : Int) + 1 ≠ 0 by omega); omega⟩
          have hkl : kk ≤ l.length := by have := Int.emod_lt_of_pos x (show (0 : Int) < (l.length : Int) + 1 by omega); omega
          obtain ⟨a2, c2, hsl2, hrd2⟩ := slice_h a l c kk (kk : Int) rfl hlc hkl
          obtain ⟨n3, hn3⟩ : ∃ n, n = l.length - kk := ⟨_, rfl⟩
          obtain ⟨a3, c3, hsl3, hrd3⟩ := slice_l a l c kk n3 (kk : Int) rfl hlc hkl hn3
          have hrdl : Rd w1 a l := HR.out.below HB1.out
          have hrdr : Rd wr a l := hrdl.below (by rw [HP.out]; exact HB.out)
          have hB : p1 ≤ wr.heap.size := by have := HB.out.size; have := HP.out; omega
          have hW := write_any p1 (p1 + 1) (.slice none 0 0) [] (l.take kk) a2 kk c2 wr HH.out hB (hrd2 wr hrdr) (by simp; omega) (fun hne b off s e => by
            subst e
            have := (hrd2 w1 hrdl).lt hne
            have := HP.out
            omega) (by simp; omega)
          rw [List.nil_append] at hW
          have HW := Lib.hid hW
          have HK := Lib.hid hkk
          have HN3 := Lib.hid hn3
          clear hW hn3
          obtain ⟨kk, hkk⟩ : ∃ kk : Nat, x % ((l.length : Int) + 1) = kk := ⟨(x % ((l.length : Int) + 1)).toNat, by have := Int.emod_nonneg x (show (l.length : Int) + 1 ≠ 0 by omega); omega⟩
          have hkl : kk ≤ l.length := by have := Int.emod_lt_of_pos x (show (0 : Int) < (l.length : Int) + 1 by omega); omega
          obtain ⟨a2, c2, hsl2, hrd2⟩ := slice_h a l c kk (kk : Int) rfl hlc hkl
          obtain ⟨n3, hn3⟩ : ∃ n, n = l.length - kk := ⟨_, rfl⟩
          obtain ⟨a3, c3, hsl3, hrd3⟩ := slice_l a l c kk n3 (kk : Int) rfl hlc hkl hn3
          have hrdl : Rd w1 a l := HR.out.below HB1.out
          have hrdr : Rd wr a l := hrdl.below (by rw [HP.out]; exact HB.out)
          have hB : p1 ≤ wr.heap.size := by have := HB.out.size; have := HP.out; omega
          have hW := write_any p1 (p1 + 1) (.slice none 0 0) [] (l.take kk) a2 kk c2 wr HH.out hB (hrd2 wr hrdr) (by simp; omega) (fun hne b off s e => by
            subst e
            have := (hrd2 w1 hrdl).lt hne
            have := HP.out
            omega) (by simp; omega)
          rw [List.nil_append] at hW
          have HW := Lib.hid hW
          have HK := Lib.hid hkk
          have HN3 := Lib.hid hn3
          clear hW hn3
          go_upto_region 12 with (fail)
          rw [hkk]
          clear hkk
          go_wp2_with fail
          refine HW.out.mono ?_
          rintro e w4 ⟨rfl, v2, hm4, hk4, how⟩
          have hg4 : HM p1 w4 p1 v l := HM.keeps HG.out hk4 (fun h => by
            rcases h with h | h
            · omega
            · cases h) (fun k h h' => by
            rcases h' with h' | h'
            · obtain ⟨cur, hc⟩ := HG.out.tl.kind _ h
              rw [h', HH.out.blk] at hc
              simp at hc
            · cases h')
          have hb4 : Below p1 w1 w4 := HB.out.trans (hk4.below p1 hB (fun k hk h => by
            rcases h with h | h
            · omega
            · cases h))
          have hne4 : ∀ k, v2.ownBlock = some k → v.ownBlock ≠ some k := by
            intro k h1 h2
            rcases how with h | ⟨k', h, h'⟩
            · rw [h] at h1; cases h1
            · rw [h] at h1
              simp at h1
              have := (HG.out.tl.lt k h2).2
              omega
          have hrd4 : Rd w4 a l := hrdl.below (by rw [HP.out]; exact hb4)
          have hB4 : p1 ≤ w4.heap.size := by have := hb4.size; have := HP.out; omega
          have hW := write_any p1 (p1 + 1) v2 (l.take kk) (l.drop kk) a3 n3 c3 w4 hm4 hB4 (hrd3 w4 hrd4) (by rw [List.length_drop]; exact HN3.out) (fun hne b off s e => by
            subst e
            have := (hrd3 w1 hrdl).lt hne
            have := HP.out
            omega) (by rw [List.length_take, List.length_drop]; omega)
          rw [List.take_append_drop] at hW
          have HW := Lib.hid hW
          have HG4 := Lib.hid hg4
          have HB4 := Lib.hid hb4
          have HM4 := Lib.hid hm4
          have HN4 := Lib.hid hne4
          clear hW hg4 hb4 how hk4 hm4 hne4 hrd4 hrd2 hrd3 hrdr hrdl hB hsl2
          go_wp2_with fail
          refine HW.out.mono ?_
          rintro e w5 ⟨rfl, v3, hm5, hk5, how⟩
          have hg5 : HM p1 w5 p1 v l := HM.keeps HG4.out hk5 (fun h => by
            rcases h with h | h
            · omega
            · obtain ⟨cur, hc⟩ := HM4.out.tl.kind _ h
              rw [HG4.out.blk] at hc
              simp at hc) (fun k h h' => by
            rcases h' with h' | h'
            · obtain ⟨cur, hc⟩ := HG4.out.tl.kind _ h
              rw [h', HM4.out.blk] at hc
              simp at hc
            · exact HN4.out k h' h)
          have hb5 : Below p1 w1 w5 := HB4.out.trans (hk5.below p1 hB4 (fun k hk h => by
            rcases h with h | h
            · omega
            · have := (HM4.out.tl.lt k h).1
              omega))
          have hrd : Rd w5 a l := (HR.out.below HB1.out).below (by rw [HP.out]; exact hb5)
          have hbw : Below w.heap.size w w5 := HB1.out.trans ((show Below w1.heap.size w1 w5 by rw [HP.out]; exact hb5).mono HB1.out.size)
          have HGx := fun w' (hb : Below w5.heap.size w5 w') => HAt.below hg5 hb
          have HHx := fun w' (hb : Below w5.heap.size w5 w') => HAt.below hm5 hb
          have HGH := Lib.hid (And.intro HGx HHx)
          have HRD := Lib.hid hrd
          have HBW := Lib.hid hbw
          clear HGx HHx hrd hbw hb5 hg5 how hk5 hm5 hsl3
          go_upto_region 14 with (fail)
          obtain ⟨HGx, HHx⟩ := HGH.out
          have hrd := HRD.out
          refine wp_region_grow (by kernel_rfl) (by kernel_rfl) [48, 49, 50, 51, 52, 53, 54, 55, 56, 57, 58, 59, 60, 61, 62, 63, 64, 65, 4] rfl (by decide) (by kernel_rfl) (fun i => [VIs (.pointer (some ⟨p1, 0, none⟩)), VBytes (sha (l)), VStr (sha l), VIs (.slice a l.length c), VParts [l], VBytes (sha (l)), VStr (sha l), VIs (.bool true), VIs (.bool true), VIs (.pointer (some ⟨p1 + 1, 0, none⟩)), VBytes (sha (l)), VStr (sha l), VIs (.slice a l.length c), VParts [l], VBytes (sha (l)), VStr (sha l), VIs (.bool true), VIs (.bool true), VIs (.bool true)].getD i fun _ _ => True) (stab_list _ ?_) ?_ ?_
          · intro V hV
            simp only [List.mem_cons, List.mem_nil_iff, or_false] at hV
            rcases hV with rfl | rfl | rfl | rfl | rfl | rfl | rfl | rfl | rfl | rfl | rfl | rfl | rfl | rfl | rfl | rfl | rfl | rfl | rfl <;> first | exact VIs.stab _ | exact VBytes.stab _ | exact VStr.stab _ | exact VParts.stab _
          · intro i o ho a' w' hf hb hd
            rcases i with _ | _ | _ | _ | _ | _ | _ | _ | _ | _ | _ | _ | _ | _ | _ | _ | _ | _ | _ | i
            · cases ho
              refine grow_op rfl rfl rfl (grow_move rfl ?_)
              exact (hf.same 5 (by decide)).trans rfl
            · cases ho
              refine grow_op rfl rfl rfl ?_
              exact grow_hsum rfl (hd 0 (by kernel_rfl)) (HGx w' hb) (by omega)
            · cases ho
              refine grow_op rfl rfl rfl ?_
              exact grow_str rfl (hd 1 (by kernel_rfl))
            · cases ho
              refine grow_op rfl rfl rfl (grow_move rfl ?_)
              exact (hf.same 0 (by decide)).trans rfl
            · cases ho
              refine grow_op rfl rfl rfl ?_
              exact grow_part rfl (hd 3 (by kernel_rfl)) (hrd.below hb)
            · cases ho
              refine grow_op rfl rfl rfl ?_
              exact grow_sum (by simp) rfl (hd 4 (by kernel_rfl)) (by simp) (by omega)
            · cases ho
              refine grow_op rfl rfl rfl ?_
              exact grow_str rfl (hd 5 (by kernel_rfl))
            · cases ho
              refine grow_op rfl rfl rfl ?_
              exact grow_eq_same rfl (hd 2 (by kernel_rfl)) (hd 6 (by kernel_rfl))
            · cases ho
              refine grow_op rfl rfl rfl (grow_move rfl ?_)
              exact hd 7 (by kernel_rfl)
            · cases ho
              have hg : a'.tmps.getD 56 undef = .bool true := hd 8 (by kernel_rfl)
              refine grow_op rfl (grow_wanted rfl rfl hg) rfl (grow_move rfl ?_)
              exact (hf.same 6 (by decide)).trans rfl
            · cases ho
              have hg : a'.tmps.getD 56 undef = .bool true := hd 8 (by kernel_rfl)
              refine grow_op rfl (grow_wanted rfl rfl hg) rfl ?_
              exact grow_hsum rfl (hd 9 (by kernel_rfl)) (HHx w' hb) (by omega)
            · cases ho
              have hg : a'.tmps.getD 56 undef = .bool true := hd 8 (by kernel_rfl)
              refine grow_op rfl (grow_wanted rfl rfl hg) rfl ?_
              exact grow_str rfl (hd 10 (by kernel_rfl))
            · cases ho
              have hg : a'.tmps.getD 56 undef = .bool true := hd 8 (by kernel_rfl)
              refine grow_op rfl (grow_wanted rfl rfl hg) rfl (grow_move rfl ?_)
              exact (hf.same 0 (by decide)).trans rfl
            · cases ho
              have hg : a'.tmps.getD 56 undef = .bool true := hd 8 (by kernel_rfl)
              refine grow_op rfl (grow_wanted rfl rfl hg) rfl ?_
              exact grow_part rfl (hd 12 (by kernel_rfl)) (hrd.below hb)
            · cases ho
              have hg : a'.tmps.getD 56 undef = .bool true := hd 8 (by kernel_rfl)
              refine grow_op rfl (grow_wanted rfl rfl hg) rfl ?_
              exact grow_sum (by simp) rfl (hd 13 (by kernel_rfl)) (by simp) (by omega)
            · cases ho
              have hg : a'.tmps.getD 56 undef = .bool true := hd 8 (by kernel_rfl)
              refine grow_op rfl (grow_wanted rfl rfl hg) rfl ?_
              exact grow_str rfl (hd 14 (by kernel_rfl))
            · cases ho
              have hg : a'.tmps.getD 56 undef = .bool true := hd 8 (by kernel_rfl)
              refine grow_op rfl (grow_wanted rfl rfl hg) rfl ?_
              exact grow_eq_same rfl (hd 11 (by kernel_rfl)) (hd 15 (by kernel_rfl))
            · cases ho
              refine grow_op rfl rfl rfl (grow_pick (b := true) rfl (hd 8 (by kernel_rfl)) ?_)
              exact hd 16 (by kernel_rfl)
            · cases ho
              refine grow_op rfl rfl rfl (grow_assign rfl ?_)
              exact hd 17 (by kernel_rfl)
            · simp at ho
          · intro a' w' hf hb hd
            have h4 : a'.tmps.getD 4 undef = .bool true := hd 18 (by decide)
            have hdf : a'.defers = [] := hf.defers
            have HBx := Lib.hid (HBW.out.trans (hb.mono HBW.out.size))
            have H4 := Lib.hid h4
            clear h4 hd hf hb HGx HHx hrd
            go_wp2_with fail
            refine bodyPost_ret (results_tmp rfl _ _ _) hdf ?_
            exact ⟨by rw [H4.out], HBx.out⟩
    · go_wp2_with fail
      go_ret
      exact ⟨rfl, HB1.out⟩
  · go_wp2_with fail

    go_ret
    exact ⟨rfl, HB1.out⟩
end Go.Proofs.Ytofoadpnfeamoaa
