/- ShaParts. -/
import Derived.Test.YtofoadpnfeamoaaShaH
import Derived.Test.YtofoadpnfeamoaaGrowT
import Derived.Test.YtofoadpnfeamoaaParts
import Derived.Deep.LoopGhost
set_option linter.unusedVariables false
namespace Go.Proofs.Ytofoadpnfeamoaa
open Go.RowKit

theorem flat_le (ps : List (List UInt8)) (n : Nat) (h : ∀ l ∈ ps, l.length ≤ n) : ps.flatten.length ≤ ps.length * n := by
  induction ps with
  | nil => simp
  | cons l ps ih =>
    have h1 := h l (by simp)
    have h2 := ih fun x hx => h x (by simp [hx])
    simp only [List.flatten_cons, List.length_append, List.length_cons, Nat.add_mul, Nat.one_mul]
    omega

set_option maxRecDepth 100000 in
set_option maxHeartbeats 4000000 in
theorem shaParts_walk (a : Option Addr) (c : Nat) (ps : List (List UInt8)) (w : World) (hr : RdS w a ps) :
    Calls Try.prog 6 #[.slice a ps.length c] w fun e w' => e = .returned (.bool true) ∧ Below w.heap.size w w' := by
  go_enter Try.func6, Try.ntmps6
  go_wp2_with fail
  refine (anchor01_any w).mono ?_
  rintro e w1 ⟨rfl, hb1⟩
  have HR := Lib.hid hr
  have HB1 := Lib.hid hb1
  clear hr hb1
  by_cases hl : ps.length ≤ 30
  · have hlI : (ps.length : Int) ≤ 30 := by omega
    go_wp2_with fail
    refine (new_any w1).mono ?_
    rintro e w2 ⟨rfl, hw2⟩
    obtain ⟨p1, hp1⟩ : ∃ p, w1.heap.size = p := ⟨_, rfl⟩
    have hm2 : HM p1 w2 p1 (.slice none 0 0) [] := by rw [hw2, ← hp1]; exact new_hm _ w1 (Nat.le_refl _)
    have hb2 : Below p1 w1 w2 := by rw [hw2, ← hp1]; exact (Below.refl _ _).alloc (Nat.le_refl _) _
    rw [hp1]
    have HM2 := Lib.hid hm2
    have HB2 := Lib.hid hb2
    have HP := Lib.hid hp1
    clear hw2 hm2 hb2 hp1
    go_wp2_with fail
    go_loopg [15, 4] ps.length (fun k y x wr => ∃ j q ca : Nat, ∃ aa : Option Addr, ∃ v : Value, y = .int .i64 j ∧ x = .slice aa q ca ∧ j + k = ps.length ∧ Hid (∀ l ∈ ps.take j, l.length ≤ 300) ∧ Hid (q = (ps.take j).flatten.length) ∧ Hid (HM p1 wr p1 v (ps.take j).flatten) ∧ Hid (Tl p1 wr (.slice aa q ca) (ps.take j).flatten) ∧ Hid (∀ k, v.ownBlock = some k → Value.ownBlock (.slice aa q ca) ≠ some k) ∧ Hid (Below p1 w1 wr))
    case atStart => exact ⟨0, 0, 0, none, _, rfl, rfl, by omega, Lib.hid (by simp), Lib.hid rfl, HM2, Lib.hid (Tl.nil _ _), Lib.hid (fun k h => by cases h), HB2⟩
    case round =>
      clear HM2 HB2
      obtain ⟨j, q, ca, aa, v, rfl, rfl, hj, HLE, HQ, HX, HT, HNE, HB⟩ := hrel
      by_cases hlt : j < ps.length
      · obtain ⟨b, off, hap, hc⟩ : ∃ b off, a = some ⟨b, off, none⟩ ∧ ∀ i (h : i < ps.length), ∃ x c, w.cell? ⟨b, off + i, none⟩ = some (.slice x (ps[i]).length c) ∧ Rd w x ps[i] := by
          rcases HR.out with h | h
          · rw [h] at hlt; simp at hlt
          · exact h
        obtain ⟨x, cx, hcell, hrd⟩ := hc j hlt
        obtain ⟨l, hl2⟩ : ∃ l, ps[j] = l := ⟨_, rfl⟩
        rw [hl2] at hcell hrd
        have hcell' := cell_now (show Below w1.heap.size w1 wr by rw [HP.out]; exact HB.out) (cell_now HB1.out hcell)
        have htake : (ps.take (j + 1)).flatten = (ps.take j).flatten ++ l := by
          rw [List.take_add_one, List.getElem?_eq_getElem hlt, hl2]
          simp
        have hjI : (j : Int) < (ps.length : Int) := by omega
        have hjn : ((j : Int)).toNat = j := by omega
        have hj0 : 0 ≤ (j : Int) := by omega
        have hrd1 : Rd w1 x l := hrd.below HB1.out
        have HRD1 := Lib.hid hrd1
        have HTK := Lib.hid htake
        have hlj : l ∈ ps := by rw [← hl2]; exact List.getElem_mem _
        have hlm : ∀ x ∈ ps.take (j + 1), l.length ≤ 300 → x.length ≤ 300 := by
          intro x hx hle
          rw [List.take_add_one, List.getElem?_eq_getElem hlt, hl2] at hx
          rcases List.mem_append.1 hx with h | h
          · exact HLE.out x h
          · simp at h; rw [h]; exact hle
        have HLM := Lib.hid hlm
        subst hap
        clear hc hcell hrd hrd1 htake hl2 hlj hlm
        by_cases h300 : l.length ≤ 300
        · have h300I : (l.length : Int) ≤ 300 := by omega
          have hflat : (ps.take j).flatten.length ≤ 9000 := by
            have := flat_le (ps.take j) 300 HLE.out
            have : (ps.take j).length ≤ 30 := by simp; omega
            omega
          have hB : p1 ≤ wr.heap.size := by have := HB.out.size; have := HP.out; omega
          have hW := write_any p1 p1 v (ps.take j).flatten l x l.length cx wr HX.out hB (HRD1.out.below (by rw [HP.out]; exact HB.out)) rfl (fun hne b off s e => by
            subst e
            have := HRD1.out.lt hne
            have := HP.out
            omega) (by omega)
          rw [← HTK.out] at hW
          have HW := Lib.hid hW
          have HFL := Lib.hid hflat
          clear hW hflat
          go_wp2_with fail
          refine HW.out.mono ?_
          rintro e w2 ⟨rfl, v2, hm2, hk2, how2⟩
          have ht2 : Tl p1 w2 (.slice aa q ca) (ps.take j).flatten := HT.out.keep (fun k hk => by
            refine hk2.block k (HT.out.lt k hk).2 (fun h => ?_)
            rcases h with h | h
            · obtain ⟨cur, hc⟩ := HT.out.kind k hk
              rw [h, HX.out.blk] at hc
              simp at hc
            · exact HNE.out k h hk)
          have hb2 : Below p1 w1 w2 := HB.out.trans (hk2.below p1 hB (fun k hk h => by
            rcases h with h | h
            · omega
            · have := (HX.out.tl.lt k h).1
              omega))
          have hne2 : ∀ k, v2.ownBlock = some k → Value.ownBlock (.slice aa q ca) ≠ some k := by
            intro k h1 h2
            rcases how2 with h | ⟨k', h, h'⟩
            · rw [h] at h1; exact HNE.out k h1 h2
            · rw [h] at h1
              simp at h1
              have := (HT.out.lt k h2).2
              omega
          have hrd2 : Rd w2 x l := HRD1.out.below (by rw [HP.out]; exact hb2)
          have HM2 := Lib.hid hm2
          have HT2 := Lib.hid ht2
          have HB2 := Lib.hid hb2
          have HN2 := Lib.hid hne2
          have HR2 := Lib.hid hrd2
          clear hm2 ht2 hb2 hne2 hrd2 how2 hk2 hcell'
          go_wp2_with (at_builtin; go_loud (refine wpList_append_tl rfl (.tmp 25) (.tmp 26) rfl p1 _ _ rfl HT2.out x l l.length cx rfl rfl HR2.out ?c1 ?c2 ?_))
          case c1 => have := HFL.out; omega
          case c2 => have := HB2.out.size; have := HP.out; omega
          intro a4 n4 c4 w3 hn4 ht3 hg3 how3
          have hm3 : HM p1 w3 p1 v2 (ps.take (j + 1)).flatten := HAt.keep HM2.out (hg3.block p1 (Array.getElem?_eq_some_iff.1 HM2.out.blk).1 (fun e => by
            obtain ⟨cur, hc⟩ := HT2.out.kind p1 e.symm
            rw [HM2.out.blk] at hc
            simp at hc)) (fun k hk => hg3.block k (HM2.out.tl.lt k hk).2 (fun e => HN2.out k hk e.symm))
          have hb3 : Below p1 w1 w3 := HB2.out.grown hg3 (by have := HB2.out.size; have := HP.out; omega) (fun k hk => (HT2.out.lt k hk).1)
          have hne3 : ∀ k, v2.ownBlock = some k → Value.ownBlock (.slice a4 n4 c4) ≠ some k := by
            intro k h1 h2
            rcases how3 with h | ⟨k', h, h'⟩
            · rw [h] at h2; exact HN2.out k h1 h2
            · rw [h] at h2
              simp at h2
              have := (HM2.out.tl.lt k h1).2
              omega
          have ht4 : Tl p1 w3 (.slice a4 n4 c4) (ps.take (j + 1)).flatten := by rw [HTK.out]; exact ht3
          have hr3 : Rd w3 a4 (ps.take (j + 1)).flatten := by
            obtain ⟨a', c', h, hr, _⟩ := ht4.shape
            simp at h
            rw [h.1]
            exact hr
          have hle4 : ∀ l ∈ ps.take (j + 1), l.length ≤ 300 := fun x hx => HLM.out x hx h300
          have hMl : (ps.take (j + 1)).flatten.length ≤ 9300 := by
            rw [HTK.out, List.length_append]
            have := HFL.out
            omega
          obtain ⟨M, hM⟩ : ∃ M, (ps.take (j + 1)).flatten = M := ⟨_, rfl⟩
          rw [hM] at hm3 ht4 hr3 hMl
          obtain rfl : n4 = M.length := by
            obtain ⟨a', c', h, _⟩ := ht4.shape
            simp at h
            exact h.2.1
          have HG3 := Lib.hid hm3
          have HT4 := Lib.hid ht4
          have HR3 := Lib.hid hr3
          have HN3 := Lib.hid hne3
          have HB3 := Lib.hid hb3
          have HLE4 := Lib.hid hle4
          have HMM := Lib.hid hM
          clear hn4 ht3 hg3 how3 hm3 hb3 hne3 ht4 hr3 hle4 hM HM2 HT2 HB2 HN2 HR2
          go_upto_region 14 with (fail)
          refine wp_region_grow (by kernel_rfl) (by kernel_rfl) [28, 29, 30, 31, 32, 33, 34, 35] rfl (by decide) (by kernel_rfl) (fun i => [VIs (.pointer (some ⟨p1, 0, none⟩)), VBytes (sha (M)), VStr (sha M), VIs (.slice a4 M.length c4), VParts [M], VBytes (sha (M)), VStr (sha M), VIs (.bool false)].getD i fun _ _ => True) (stab_list _ ?_) ?_ ?_
          · intro V hV
            simp only [List.mem_cons, List.mem_nil_iff, or_false] at hV
            rcases hV with rfl | rfl | rfl | rfl | rfl | rfl | rfl | rfl <;> first | exact VIs.stab _ | exact VBytes.stab _ | exact VStr.stab _ | exact VParts.stab _ | exact VRow.stab _ | exact VRow8.stab _ _
          · intro i o ho a' w' hf hb hd
            rcases i with _ | _ | _ | _ | _ | _ | _ | _ | i
            · cases ho
              refine grow_op rfl rfl rfl (grow_move rfl ?_)
              exact (hf.same 3 (by decide)).trans rfl
            · cases ho
              refine grow_op rfl rfl rfl ?_
              exact grow_hsum rfl (hd 0 (by kernel_rfl)) (HAt.below HG3.out hb) (by omega)
            · cases ho
              refine grow_op rfl rfl rfl ?_
              exact grow_str rfl (hd 1 (by kernel_rfl))
            · cases ho
              refine grow_op rfl rfl rfl (grow_move rfl ?_)
              exact (hf.same 4 (by decide)).trans rfl
            · cases ho
              refine grow_op rfl rfl rfl ?_
              exact grow_part rfl (hd 3 (by kernel_rfl)) (HR3.out.below hb)
            · cases ho
              refine grow_op rfl rfl rfl ?_
              exact grow_sum (by simp) rfl (hd 4 (by kernel_rfl)) (by first | (simp; done) | omega) (by omega)
            · cases ho
              refine grow_op rfl rfl rfl ?_
              exact grow_str rfl (hd 5 (by kernel_rfl))
            · cases ho
              refine grow_op rfl rfl rfl ?_
              exact grow_ne_same rfl (hd 2 (by kernel_rfl)) (hd 6 (by kernel_rfl))
            · simp at ho
          · intro a' w' hf hb hd
            obtain ⟨a29, c29, hv29, _⟩ : VBytes (sha M) (a'.tmps.getD 29 undef) w' := hd 1 (by decide)
            have hv30 : a'.tmps.getD 30 undef = .string ⟨(sha M).toArray⟩ := hd 2 (by decide)
            obtain ⟨a32, c32, hv32, _⟩ : VParts [M] (a'.tmps.getD 32 undef) w' := hd 4 (by decide)
            obtain ⟨a33, c33, hv33, _⟩ : VBytes (sha M) (a'.tmps.getD 33 undef) w' := hd 5 (by decide)
            have hv34 : a'.tmps.getD 34 undef = .string ⟨(sha M).toArray⟩ := hd 6 (by decide)
            have hv35 : a'.tmps.getD 35 undef = .bool false := hd 7 (by decide)
            obtain rfl := hf.eq [Value.pointer (some ⟨p1, 0, none⟩), Value.slice a29 (sha M).length c29, .string ⟨(sha M).toArray⟩, Value.slice a4 M.length c4, Value.slice a32 1 c32, Value.slice a33 (sha M).length c33, .string ⟨(sha M).toArray⟩, Value.bool false] (fun j hj => match j, hj with
              | 0, _ => hd 0 (by decide)
              | 1, _ => hv29
              | 2, _ => hv30
              | 3, _ => hd 3 (by decide)
              | 4, _ => hv32
              | 5, _ => hv33
              | 6, _ => hv34
              | 7, _ => hv35
              | k + 8, h => absurd h (by simp)) (by decide) (by kernel_rfl) rfl
            simp only [List.zip_cons_cons, List.zip_nil_right, List.foldl_cons, List.foldl_nil, Act.put, List.setIfInBounds_toArray, List.set_cons_succ, List.set_cons_zero]
            have hm5 := HAt.below HG3.out hb
            have ht5 := HT4.out.keep (w' := w') fun k hk => hb.block k (HT4.out.lt k hk).2
            have hb5 : Below p1 w1 w' := HB3.out.trans (hb.mono (by have := HB3.out.size; have := HP.out; omega))
            have HM5 := Lib.hid (show HM p1 w' p1 v2 M from hm5)
            have HT5 := Lib.hid ht5
            have HB5 := Lib.hid hb5
            obtain ⟨sm, hsm⟩ : ∃ x, (sha M).length = x := ⟨_, rfl⟩
            obtain ⟨ss, hss⟩ : ∃ x : ByteArray, (⟨(sha M).toArray⟩ : ByteArray) = x := ⟨_, rfl⟩
            rw [hsm, hss]
            clear hm5 ht5 hb5 hd hf hb hv29 hv30 hv32 hv33 hv34 hv35 hsm hss HG3 HT4 HR3 HB3
            go_wp2_with fail
            go_roundg (gk - 1)
            case measure => omega
            case rel => exact ⟨j + 1, M.length, c4, a4, v2, by go_num, rfl, by omega, HLE4, Lib.hid (by rw [HMM.out]), Lib.hid (by rw [HMM.out]; exact HM5.out), Lib.hid (by rw [HMM.out]; exact HT5.out), HN3, HB5⟩
        · have h300I : (300 : Int) < (l.length : Int) := by omega
          have hbw := HB1.out.trans ((show Below w1.heap.size w1 wr by rw [HP.out]; exact HB.out).mono HB1.out.size)
          have HBW := Lib.hid hbw
          clear hbw
          go_wp2_with fail
          go_ret
          exact ⟨rfl, HBW.out⟩
      · obtain rfl : j = ps.length := by omega
        have hq := HQ.out
        have hg := HX.out
        have ht := HT.out
        have hle := HLE.out
        rw [List.take_length] at hq hg ht hle
        have hflat : ps.flatten.length ≤ 9000 := by
          have := flat_le ps 300 hle
          omega
        obtain ⟨M, hM⟩ : ∃ M, ps.flatten = M := ⟨_, rfl⟩
        rw [hM] at hq hg ht hflat
        subst hq
        have hrd : Rd wr aa M := by
          obtain ⟨a', c', h, hr, _⟩ := ht.shape
          simp at h
          rw [h.1]
          exact hr
        have hrds : RdS wr a ps := (HR.out.below HB1.out).below (by rw [HP.out]; exact HB.out)
        have hbw := HB1.out.trans ((show Below w1.heap.size w1 wr by rw [HP.out]; exact HB.out).mono HB1.out.size)
        have HALL := Lib.hid (And.intro hrd (And.intro hrds (And.intro hg hM)))
        have HBW := Lib.hid hbw
        clear hrd hrds hg ht hle hbw hM HX HT HQ HLE HNE HB
        go_upto_region 17 with (fail)
        obtain ⟨hrd, hrds, hgm, hM⟩ := HALL.out
        refine wp_region_grow (by kernel_rfl) (by kernel_rfl) [37, 38, 39, 40, 41, 42, 43, 44, 45, 46, 47, 48, 49, 50, 51, 52, 53, 54, 2] rfl (by decide) (by kernel_rfl) (fun i => [VParts ps, VBytes (sha M), VStr (sha M), VIs (.slice aa M.length ca), VParts [M], VBytes (sha (M)), VStr (sha M), VIs (.bool true), VIs (.bool true), VIs (.pointer (some ⟨p1, 0, none⟩)), VBytes (sha (M)), VStr (sha M), VIs (.slice aa M.length ca), VParts [M], VBytes (sha (M)), VStr (sha M), VIs (.bool true), VIs (.bool true), VIs (.bool true)].getD i fun _ _ => True) (stab_list _ ?_) ?_ ?_
        · intro V hV
          simp only [List.mem_cons, List.mem_nil_iff, or_false] at hV
          rcases hV with rfl | rfl | rfl | rfl | rfl | rfl | rfl | rfl | rfl | rfl | rfl | rfl | rfl | rfl | rfl | rfl | rfl | rfl | rfl <;> first | exact VIs.stab _ | exact VBytes.stab _ | exact VStr.stab _ | exact VParts.stab _ | exact VRow.stab _ | exact VRow8.stab _ _
        · intro i o ho a' w' hf hb hd
          rcases i with _ | _ | _ | _ | _ | _ | _ | _ | _ | _ | _ | _ | _ | _ | _ | _ | _ | _ | _ | i
          · cases ho
            refine grow_op rfl rfl rfl (grow_move rfl ?_)
            exact ⟨a, c, (hf.same 0 (by decide)).trans rfl, hrds.below hb⟩
          · cases ho
            refine grow_op rfl rfl rfl ?_
            exact grow_sum hM rfl (hd 0 (by kernel_rfl)) (by omega) (by omega)
          · cases ho
            refine grow_op rfl rfl rfl ?_
            exact grow_str rfl (hd 1 (by kernel_rfl))
          · cases ho
            refine grow_op rfl rfl rfl (grow_move rfl ?_)
            exact (hf.same 4 (by decide)).trans rfl
          · cases ho
            refine grow_op rfl rfl rfl ?_
            exact grow_part rfl (hd 3 (by kernel_rfl)) (hrd.below hb)
          · cases ho
            refine grow_op rfl rfl rfl ?_
            exact grow_sum (by simp) rfl (hd 4 (by kernel_rfl)) (by first | (simp; done) | omega) (by omega)
          · cases ho
            refine grow_op rfl rfl rfl ?_
            exact grow_str rfl (hd 5 (by kernel_rfl))
          · cases ho
            refine grow_op rfl rfl rfl ?_
            exact grow_eq_same rfl (hd 2 (by kernel_rfl)) (hd 6 (by kernel_rfl))
          · cases ho
            refine grow_op rfl rfl rfl (grow_move rfl ?_)
            exact hd 7 (by kernel_rfl)
          · cases ho
            have hg : a'.tmps.getD 45 undef = .bool true := hd 8 (by kernel_rfl)
            refine grow_op rfl (grow_wanted rfl rfl hg) rfl (grow_move rfl ?_)
            exact (hf.same 3 (by decide)).trans rfl
          · cases ho
            have hg : a'.tmps.getD 45 undef = .bool true := hd 8 (by kernel_rfl)
            refine grow_op rfl (grow_wanted rfl rfl hg) rfl ?_
            exact grow_hsum rfl (hd 9 (by kernel_rfl)) (HAt.below hgm hb) (by omega)
          · cases ho
            have hg : a'.tmps.getD 45 undef = .bool true := hd 8 (by kernel_rfl)
            refine grow_op rfl (grow_wanted rfl rfl hg) rfl ?_
            exact grow_str rfl (hd 10 (by kernel_rfl))
          · cases ho
            have hg : a'.tmps.getD 45 undef = .bool true := hd 8 (by kernel_rfl)
            refine grow_op rfl (grow_wanted rfl rfl hg) rfl (grow_move rfl ?_)
            exact (hf.same 4 (by decide)).trans rfl
          · cases ho
            have hg : a'.tmps.getD 45 undef = .bool true := hd 8 (by kernel_rfl)
            refine grow_op rfl (grow_wanted rfl rfl hg) rfl ?_
            exact grow_part rfl (hd 12 (by kernel_rfl)) (hrd.below hb)
          · cases ho
            have hg : a'.tmps.getD 45 undef = .bool true := hd 8 (by kernel_rfl)
            refine grow_op rfl (grow_wanted rfl rfl hg) rfl ?_
            exact grow_sum (by simp) rfl (hd 13 (by kernel_rfl)) (by first | (simp; done) | omega) (by omega)
          · cases ho
            have hg : a'.tmps.getD 45 undef = .bool true := hd 8 (by kernel_rfl)
            refine grow_op rfl (grow_wanted rfl rfl hg) rfl ?_
            exact grow_str rfl (hd 14 (by kernel_rfl))
          · cases ho
            have hg : a'.tmps.getD 45 undef = .bool true := hd 8 (by kernel_rfl)
            refine grow_op rfl (grow_wanted rfl rfl hg) rfl ?_
            exact grow_eq_same rfl (hd 11 (by kernel_rfl)) (hd 15 (by kernel_rfl))
          · cases ho
            refine grow_op rfl rfl rfl (grow_pick (b := true) rfl (hd 8 (by kernel_rfl)) ?_)
            exact hd 16 (by kernel_rfl)
          · cases ho
            refine grow_op rfl rfl rfl (grow_assign rfl ?_)
            exact hd 17 (by kernel_rfl)
          · simp at ho
        · intro a' w' hf hb hd
          have h4 : a'.tmps.getD 2 undef = .bool true := hd 18 (by decide)
          have hdf : a'.defers = [] := hf.defers
          have HBx := Lib.hid (HBW.out.trans (hb.mono HBW.out.size))
          have H4 := Lib.hid h4
          clear h4 hd hf hb hrd hrds hgm hM
          go_wp2_with fail
          refine bodyPost_ret (results_tmp rfl _ _ _) hdf ?_
          exact ⟨by rw [H4.out], HBx.out⟩
  · have hlI : (30 : Int) < (ps.length : Int) := by omega
    go_wp2_with fail
    go_ret
    exact ⟨rfl, HB1.out⟩
end Go.Proofs.Ytofoadpnfeamoaa
