/- ShaOwn. -/
import Derived.Test.YtofoadpnfeamoaaShaH
import Derived.Test.YtofoadpnfeamoaaGrowS
import Derived.Test.YtofoadpnfeamoaaSl
import Derived.Deep.LoopGhost
set_option linter.unusedVariables false
namespace Go.Proofs.Ytofoadpnfeamoaa
open Go.RowKit

/-- A row of bytes of which the first j may have been written over. -/
def XRow (B : Nat) (w : World) (ax : Option Addr) (l : List UInt8) (j : Nat) : Prop :=
  l = [] ∨ ∃ gx off cur, ax = some ⟨gx, off, none⟩ ∧ B ≤ gx ∧ w.heap[gx]? = some (.cells cur 5 (0, 0)) ∧ off + l.length ≤ cur.size ∧ ∀ i (h : i < l.length), j ≤ i → cur[off + i]? = some (.int .u8 (l[i]).toNat)
theorem XRow.of_tl {B : Nat} {w : World} {ax : Option Addr} {n c : Nat} {l : List UInt8} (h : Tl B w (.slice ax n c) l) : XRow B w ax l 0 := by
  rcases h with ⟨_, h⟩ | ⟨g, off, cap, cur, e, hB, hg, h1, h2, h3, h4⟩
  · exact .inl h
  · simp at e
    exact .inr ⟨g, off, cur, e.1, hB, hg, by omega, fun i hi _ => h4 i hi⟩
theorem XRow.step {B : Nat} {w : World} {ax : Option Addr} {l : List UInt8} {j : Nat} (h : XRow B w ax l j) (hj : j < l.length) :
    ∃ gx off, ax = some ⟨gx, off, none⟩ ∧ B ≤ gx ∧ w.cell? ⟨gx, off + j, none⟩ = some (.int .u8 (l[j]).toNat) ∧ w.frozen? ⟨gx, off + j, none⟩ = false ∧ ∀ v, XRow B (w.setCell ⟨gx, off + j, none⟩ v) ax l (j + 1) := by
  rcases h with rfl | ⟨gx, off, cur, e, hB, hg, hs, hc⟩
  · simp at hj
  · refine ⟨gx, off, e, hB, by rw [Lib.cell_of_heap hg]; exact hc j hj (Nat.le_refl _), Lib.frozen_of_heap hg _, fun v => .inr ⟨gx, off, cur.setIfInBounds (off + j) v, e, hB, setCell_block hg v, by simpa using hs, fun i hi hle => ?_⟩⟩
    rw [Array.getElem?_setIfInBounds_ne (by omega)]
    exact hc i hi (by omega)
theorem HM.below {B : Nat} {w w' : World} {p : Nat} {v : Value} {m : List UInt8} (h : HM B w p v m) (hb : Below w.heap.size w w') : HM B w' p v m := HAt.below h hb

set_option maxRecDepth 100000 in
set_option maxHeartbeats 4000000 in
theorem shaOwn_walk (a : Option Addr) (c : Nat) (l : List UInt8) (a1 : Option Addr) (c1 : Nat) (m : List UInt8) (w : World) (hr : Rd w a l) (hr1 : Rd w a1 m) :
    Calls Try.prog 8 #[.slice a l.length c, .slice a1 m.length c1] w fun e w' => e = .returned (.bool true) ∧ Below w.heap.size w w' := by
  go_enter Try.func8, Try.ntmps8
  go_wp2_with fail
  refine (anchor01_any w).mono ?_
  rintro e w1 ⟨rfl, hb1⟩
  have HRA := Lib.hid (hr.below hb1)
  have HRB := Lib.hid (hr1.below hb1)
  have HB1 := Lib.hid hb1
  clear hr hr1 hb1
  by_cases hl : l.length ≤ 300
  · by_cases hm : m.length ≤ 300
    · have hlI : (l.length : Int) ≤ 300 := by omega
      have hmI : (m.length : Int) ≤ 300 := by omega
      go_wp2_with fail
      refine (new_any w1).mono ?_
      rintro e w2 ⟨rfl, hw2⟩
      obtain ⟨p1, hp1⟩ : ∃ p, w1.heap.size = p := ⟨_, rfl⟩
      have hm2 : HM p1 w2 p1 (.slice none 0 0) [] := by rw [hw2, ← hp1]; exact new_hm _ w1 (Nat.le_refl _)
      have hb2 : Below p1 w1 w2 := by rw [hw2, ← hp1]; exact (Below.refl _ _).alloc (Nat.le_refl _) _
      have hsz2 : w2.heap.size = p1 + 1 := by rw [hw2, ← hp1]; simp
      rw [hp1]
      clear hw2
      go_wp2_with fail
      refine (new_any w2).mono ?_
      rintro e w3 ⟨rfl, hw3⟩
      rw [hsz2]
      have hm3 : HM p1 w3 (p1 + 1) (.slice none 0 0) [] := by rw [hw3, ← hsz2]; exact new_hm _ w2 (by omega)
      have hb23 : Below (p1 + 1) w2 w3 := by rw [hw3, ← hsz2]; exact (Below.refl _ _).alloc (Nat.le_refl _) _
      have hm2' : HM p1 w3 p1 (.slice none 0 0) [] := HM.below hm2 (by rw [hsz2]; exact hb23)
      have hb3 : Below p1 w1 w3 := hb2.trans (hb23.mono (by omega))
      have hsz3 : w3.heap.size = p1 + 2 := by rw [hw3]; simp; omega
      have HG := Lib.hid hm2'
      have HH := Lib.hid hm3
      have HB3 := Lib.hid hb3
      have HP := Lib.hid hp1
      have HS3 := Lib.hid hsz3
      have HRA3 := Lib.hid (HRA.out.below (by rw [hp1]; exact hb3))
      clear hw3 hm2 hb2 hsz2 hm3 hb23 hm2' hb3 hp1 hsz3
      go_wp2_with (at_builtin; go_loud (refine wpList_append_tl rfl (.tmp 23) (.tmp 24) rfl w3.heap.size _ [] rfl (Tl.of_own (Own.empty w3)) a l l.length c rfl rfl (HRA3.out.alloc _) ?c1 ?c2 ?_))
      case c1 => simp; omega
      case c2 => simp
      intro ax nx cx w4 hnx htx hgx howx
      have htx' : Tl w3.heap.size w4 (.slice ax nx cx) l := by simpa using htx
      have hb34 : Below w3.heap.size w3 w4 := below_grow_tl ((Below.refl _ _).alloc (Nat.le_refl _) _) (Tl.of_own (Own.empty w3)) hgx (by simp)
      obtain rfl : nx = l.length := by
        obtain ⟨a', c', h, _⟩ := htx'.shape
        simp at h
        exact h.2.1
      have hg4 := HG.out.below hb34
      have hh4 := HH.out.below hb34
      have hB4 : Below p1 w1 w4 := HB3.out.trans (hb34.mono (by rw [HS3.out]; omega))
      have hrx : Rd w4 ax l := by
        obtain ⟨a', c', h, hr, _⟩ := htx'.shape
        simp at h
        rw [h.1]
        exact hr
      have hxb : ∀ k, Value.ownBlock (.slice ax l.length cx) = some k → p1 + 2 ≤ k ∧ k < w4.heap.size := fun k hk => by
        have := htx'.lt k hk
        rw [HS3.out] at this
        exact this
      have hW := write_any p1 p1 (.slice none 0 0) [] l ax l.length cx w4 hg4 (by have := hB4.size; have := HP.out; omega) hrx rfl (fun hne b off s e => by
        subst e
        have := (hxb b rfl).1
        omega) (by simp; omega)
      rw [List.nil_append] at hW
      have HW := Lib.hid hW
      have HH4 := Lib.hid hh4
      have HB4 := Lib.hid hB4
      have HTX := Lib.hid htx'
      have HXB := Lib.hid hxb
      clear hW hh4 hB4 hnx htx hgx howx htx' hb34 hg4 hrx hxb HG HH HB3 HRA3
      go_wp2_with fail
      refine HW.out.mono ?_
      rintro e w5 ⟨rfl, v1, hm5, hk5, how5⟩
      have hh5 : HM p1 w5 (p1 + 1) (.slice none 0 0) [] := HM.keeps HH4.out hk5 (fun h => by
        rcases h with h | h
        · omega
        · cases h) (fun k h => by cases h)
      have ht5 : Tl w3.heap.size w5 (.slice ax l.length cx) l := HTX.out.keep fun k hk => hk5.block k (HXB.out k hk).2 (fun h => by
        have := (HXB.out k hk).1
        rcases h with h | h
        · omega
        · cases h)
      have hB5 : Below p1 w1 w5 := HB4.out.trans (hk5.below p1 (by have := HB4.out.size; have := HP.out; omega) (fun k hk h => by
        rcases h with h | h
        · omega
        · cases h))
      have hv1 : ∀ k, v1.ownBlock = some k → w4.heap.size ≤ k := by
        intro k h
        rcases how5 with h' | ⟨k', h', h2⟩
        · rw [h'] at h; cases h
        · rw [h'] at h; simp at h; omega
      have HG5 := Lib.hid hm5
      have HH5 := Lib.hid hh5
      have HX5 := Lib.hid (XRow.of_tl ht5)
      have HB5 := Lib.hid hB5
      have HV1 := Lib.hid hv1
      clear hm5 hk5 how5 hh5 ht5 hB5 hv1 HW HH4 HB4 HTX
      go_wp2_with fail
      go_loopg [31] l.length (fun k y wr => ∃ j : Nat, y = .int .i64 j ∧ j + k = l.length ∧ Hid (XRow w3.heap.size wr ax l j) ∧ Hid (Keeps (fun k => Value.ownBlock (.slice ax l.length cx) = some k) w5 wr))
      case atStart => exact ⟨0, rfl, by omega, HX5, Lib.hid (Keeps.refl _ _)⟩
      case round =>
        clear HX5
        obtain ⟨j, rfl, hj, HX, HK⟩ := hrel
        by_cases hlt : j < l.length
        · obtain ⟨gx, off, hax, hBx, hcx, hfx, hset⟩ := HX.out.step hlt
          subst hax
          have HSET := Lib.hid hset
          have j0 : 0 ≤ (j : Int) := by omega
          have jn : ((j : Int)).toNat = j := by omega
          have jlt : (j : Int) < (l.length : Int) := by omega
          obtain ⟨xb, hxb'⟩ : ∃ x, (l[j]).toNat = x := ⟨_, rfl⟩
          rw [hxb'] at hcx
          clear hset hxb'
          go_wp2_with fail
          go_roundg (gk - 1)
          case measure => omega
          case rel => exact ⟨j + 1, by go_num, by omega, Lib.hid (HSET.out _), Lib.hid (HK.out.trans (Keeps.setCell (f := fun k => Value.ownBlock (.slice (some ⟨gx, off, none⟩) l.length cx) = some k) _ _ _ rfl) (fun k _ h => h))⟩
        · have hg6 : HM p1 wr p1 v1 l := HM.keeps HG5.out HK.out (fun h => by have := (HXB.out _ h).1; omega) (fun k h h' => by have := (HXB.out k h').2; have := HV1.out k h; omega)
          have hh6 : HM p1 wr (p1 + 1) (.slice none 0 0) [] := HM.keeps HH5.out HK.out (fun h => by have := (HXB.out _ h).1; omega) (fun k h => by cases h)
          have hsz5 : p1 ≤ w5.heap.size := by have := HB5.out.size; have := HP.out; omega
          have hB6 : Below p1 w1 wr := HB5.out.trans (HK.out.below p1 hsz5 (fun k hk h => by have := (HXB.out k h).1; omega))
          have hB6s : p1 ≤ wr.heap.size := by have := hB6.size; have := HP.out; omega
          have hW := write_any p1 (p1 + 1) (.slice none 0 0) [] m a1 m.length c1 wr hh6 hB6s (HRB.out.below (by rw [HP.out]; exact hB6)) rfl (fun hne b off s e => by
            have h1 := HRB.out
            subst e
            have := h1.lt hne
            have := HP.out
            omega) (by simp; omega)
          rw [List.nil_append] at hW
          have HW := Lib.hid hW
          have HHB := Lib.hid hh6.blk
          have HG6 := Lib.hid hg6
          have HB6 := Lib.hid hB6
          clear hW hg6 hB6 hh6 hsz5 HX HK HG5 HH5 HB5
          go_wp2_with fail
          refine HW.out.mono ?_
          rintro e w7 ⟨rfl, v2, hm7, hk7, how7⟩
          have hg7 : HM p1 w7 p1 v1 l := HM.keeps HG6.out hk7 (fun h => by
            rcases h with h | h
            · omega
            · cases h) (fun k h h' => by
            rcases h' with h' | h'
            · have h2 := hm7.blk
              obtain ⟨cur, hc⟩ := HG6.out.tl.kind k h
              obtain ⟨cur2, hc2⟩ : ∃ cur2, wr.heap[p1 + 1]? = some (.cells cur2 5 (0, 0)) := ⟨cur, by rw [← h']; exact hc⟩
              have hhm := HHB.out
              rw [hc2] at hhm
              simp at hhm
            · cases h')
          have hB7 : Below p1 w1 w7 := HB6.out.trans (hk7.below p1 hB6s (fun k hk h => by
            rcases h with h | h
            · omega
            · cases h))
          have HG7 := Lib.hid hg7
          have HH7 := Lib.hid hm7
          have HB7 := Lib.hid hB7
          clear hm7 hk7 how7 hg7 hB7 HW HG6 HB6
          go_wp2_with fail
          refine (hsum_any p1 p1 v1 l w7 HG7.out (by omega)).mono ?_
          rintro e w8 ⟨vs, rfl, hts, hb8⟩
          obtain ⟨asx, csx, rfl, _⟩ := hts.shape
          have HX8 := Lib.hid (XRow.of_tl hts)
          have HB8 := Lib.hid hb8
          have HTS := Lib.hid hts
          rw [sha_len]
          clear hts hb8
          go_wp2_with fail
          go_loopg [48] 32 (fun k y wr => ∃ j : Nat, y = .int .i64 j ∧ j + k = 32 ∧ Hid (XRow w7.heap.size wr asx (sha l) j) ∧ Hid (Below w7.heap.size w7 wr))
          case atStart => exact ⟨0, rfl, rfl, HX8, HB8⟩
          case round =>
            clear HX8 HB8
            obtain ⟨j, rfl, hj, HX, HK⟩ := hrel
            by_cases hlt : j < 32
            · obtain ⟨gx, off, hax, hBx, hcx, hfx, hset⟩ := HX.out.step (by rw [sha_len]; exact hlt)
              subst hax
              have HSET := Lib.hid hset
              have HBX := Lib.hid hBx
              have j0 : 0 ≤ (j : Int) := by omega
              have jn : ((j : Int)).toNat = j := by omega
              have jlt : (j : Int) < 32 := by omega
              obtain ⟨xb, hxb'⟩ : ∃ x, ((sha l)[j]'(by rw [sha_len]; exact hlt)).toNat = x := ⟨_, rfl⟩
              rw [hxb'] at hcx
              clear hset hxb' hBx
              go_wp2_with fail
              go_roundg (gk - 1)
              case measure => omega
              case rel => exact ⟨j + 1, by go_num, by omega, Lib.hid (HSET.out _), Lib.hid (HK.out.setCell HBX.out _)⟩
            · have hjI : ¬ (j : Int) < 32 := by omega
              have hgg := HG7.out.below HK.out
              have hhh := HH7.out.below HK.out
              have hB9 : Below p1 w1 wr := HB7.out.trans (HK.out.mono (by have := HB7.out.size; have := HP.out; omega))
              have hra := HRA.out.below (by rw [HP.out]; exact hB9)
              have hrb := HRB.out.below (by rw [HP.out]; exact hB9)
              have HALL := Lib.hid (And.intro hgg (And.intro hhh (And.intro hra hrb)))
              have HBW := Lib.hid (HB1.out.trans ((show Below w1.heap.size w1 wr by rw [HP.out]; exact hB9).mono HB1.out.size))
              clear hgg hhh hB9 hra hrb HX HK
              go_upto_region 20 with (fail)
              obtain ⟨hgg, hhh, hra, hrb⟩ := HALL.out
              refine wp_region_grow (by kernel_rfl) (by kernel_rfl) [58, 59, 60, 61, 62, 63, 64, 65, 66, 67, 68, 69, 70, 71, 72, 73, 74, 75, 4] rfl (by decide) (by kernel_rfl) (fun i => [VIs (.pointer (some ⟨p1, 0, none⟩)), VBytes (sha (l)), VStr (sha l), VIs (.slice a l.length c), VParts [l], VBytes (sha (l)), VStr (sha l), VIs (.bool true), VIs (.bool true), VIs (.pointer (some ⟨p1 + 1, 0, none⟩)), VBytes (sha (m)), VStr (sha m), VIs (.slice a1 m.length c1), VParts [m], VBytes (sha (m)), VStr (sha m), VIs (.bool true), VIs (.bool true), VIs (.bool true)].getD i fun _ _ => True) (stab_list _ ?_) ?_ ?_
              · intro V hV
                simp only [List.mem_cons, List.mem_nil_iff, or_false] at hV
                rcases hV with rfl | rfl | rfl | rfl | rfl | rfl | rfl | rfl | rfl | rfl | rfl | rfl | rfl | rfl | rfl | rfl | rfl | rfl | rfl <;> first | exact VIs.stab _ | exact VBytes.stab _ | exact VStr.stab _ | exact VParts.stab _ | exact VRow.stab _ | exact VRow8.stab _ _
              · intro i o ho a' w' hf hb hd
                rcases i with _ | _ | _ | _ | _ | _ | _ | _ | _ | _ | _ | _ | _ | _ | _ | _ | _ | _ | _ | i
                · cases ho
                  refine grow_op rfl rfl rfl (grow_move rfl ?_)
                  exact (hf.same 5 (by decide)).trans rfl
                · cases ho
                  refine grow_op rfl rfl rfl ?_
                  exact grow_hsum rfl (hd 0 (by kernel_rfl)) (HAt.below hgg hb) (by omega)
                · cases ho
                  refine grow_op rfl rfl rfl ?_
                  exact grow_str rfl (hd 1 (by kernel_rfl))
                · cases ho
                  refine grow_op rfl rfl rfl (grow_move rfl ?_)
                  exact (hf.same 0 (by decide)).trans rfl
                · cases ho
                  refine grow_op rfl rfl rfl ?_
                  exact grow_part rfl (hd 3 (by kernel_rfl)) (hra.below hb)
                · cases ho
                  refine grow_op rfl rfl rfl ?_
                  exact grow_sum (by simp) rfl (hd 4 (by kernel_rfl)) (by first | (simp; done) | omega) (by omega)
                · cases ho
                  refine grow_op rfl rfl rfl ?_
                  exact grow_str rfl (hd 5 (by kernel_rfl))
                · cases ho
                  refine grow_op rfl rfl rfl ?_
                  exact grow_eq_same rfl (hd 2 (by kernel_rfl)) (hd 6 (by kernel_rfl))
                · cases ho
                  refine grow_op rfl rfl rfl (grow_move rfl ?_)
                  exact hd 7 (by kernel_rfl)
                · cases ho
                  have hg : a'.tmps.getD 66 undef = .bool true := hd 8 (by kernel_rfl)
                  refine grow_op rfl (grow_wanted rfl rfl hg) rfl (grow_move rfl ?_)
                  exact (hf.same 6 (by decide)).trans rfl
                · cases ho
                  have hg : a'.tmps.getD 66 undef = .bool true := hd 8 (by kernel_rfl)
                  refine grow_op rfl (grow_wanted rfl rfl hg) rfl ?_
                  exact grow_hsum rfl (hd 9 (by kernel_rfl)) (HAt.below hhh hb) (by omega)
                · cases ho
                  have hg : a'.tmps.getD 66 undef = .bool true := hd 8 (by kernel_rfl)
                  refine grow_op rfl (grow_wanted rfl rfl hg) rfl ?_
                  exact grow_str rfl (hd 10 (by kernel_rfl))
                · cases ho
                  have hg : a'.tmps.getD 66 undef = .bool true := hd 8 (by kernel_rfl)
                  refine grow_op rfl (grow_wanted rfl rfl hg) rfl (grow_move rfl ?_)
                  exact (hf.same 1 (by decide)).trans rfl
                · cases ho
                  have hg : a'.tmps.getD 66 undef = .bool true := hd 8 (by kernel_rfl)
                  refine grow_op rfl (grow_wanted rfl rfl hg) rfl ?_
                  exact grow_part rfl (hd 12 (by kernel_rfl)) (hrb.below hb)
                · cases ho
                  have hg : a'.tmps.getD 66 undef = .bool true := hd 8 (by kernel_rfl)
                  refine grow_op rfl (grow_wanted rfl rfl hg) rfl ?_
                  exact grow_sum (by simp) rfl (hd 13 (by kernel_rfl)) (by first | (simp; done) | omega) (by omega)
                · cases ho
                  have hg : a'.tmps.getD 66 undef = .bool true := hd 8 (by kernel_rfl)
                  refine grow_op rfl (grow_wanted rfl rfl hg) rfl ?_
                  exact grow_str rfl (hd 14 (by kernel_rfl))
                · cases ho
                  have hg : a'.tmps.getD 66 undef = .bool true := hd 8 (by kernel_rfl)
                  refine grow_op rfl (grow_wanted rfl rfl hg) rfl ?_
                  exact grow_eq_same rfl (hd 11 (by kernel_rfl)) (hd 15 (by kernel_rfl))
                · cases ho
                  refine grow_op rfl rfl rfl (grow_pick (b := true) rfl (hd 8 (by kernel_rfl)) ?_)
                  exact hd 16 (by kernel_rfl)
                · cases ho
                  refine grow_op rfl rfl rfl (grow_assign rfl ?_)
                  exact hd 17 (by kernel_rfl)
                · simp at ho
              · intro a' w' hf hb hd
                have h4 : a'.tmps.getD 4 undef = .bool true := hd 18 (by decide)
                have hdf : a'.defers = [] := hf.defers
                have HBx := Lib.hid (HBW.out.trans (hb.mono HBW.out.size))
                have H4 := Lib.hid h4
                clear h4 hd hf hb hgg hhh hra hrb
                go_wp2_with fail
                refine bodyPost_ret (results_tmp rfl _ _ _) hdf ?_
                exact ⟨by rw [H4.out], HBx.out⟩
    · have hmI : (300 : Int) < (m.length : Int) := by omega
      have hlI : (l.length : Int) ≤ 300 := by omega
      go_wp2_with fail
      go_ret
      exact ⟨rfl, HB1.out⟩
  · have hlI : (300 : Int) < (l.length : Int) := by omega
    go_wp2_with fail
    go_ret
    exact ⟨rfl, HB1.out⟩
end Go.Proofs.Ytofoadpnfeamoaa
