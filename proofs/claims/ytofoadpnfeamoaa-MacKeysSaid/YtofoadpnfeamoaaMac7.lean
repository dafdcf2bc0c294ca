/- MacKeys. -/
import Derived.Test.YtofoadpnfeamoaaMac5
import Derived.Test.YtofoadpnfeamoaaZer
set_option linter.unusedVariables false
namespace Go.Proofs.Ytofoadpnfeamoaa
open Go.RowKit

theorem mac_zeros (k m : List UInt8) (z : Nat) (h : k.length + z ≤ 64) : mac (k ++ List.replicate z 0) m = mac k m := by
  have e : ∀ x, padF (k ++ List.replicate z 0) x = padF k x := by
    intro x
    unfold padF keyF
    rw [if_neg (by simp; omega), if_neg (by omega)]
    unfold padK
    congr 1
    rw [List.length_append, List.length_replicate, List.append_assoc, List.replicate_append_replicate]
    congr 2
    omega
  unfold mac
  rw [e, e]

set_option maxRecDepth 100000 in
set_option maxHeartbeats 4000000 in
theorem macKeys_walk (a0 : Option Addr) (c0 : Nat) (k : List UInt8) (x : Int) (a2 : Option Addr) (c2 : Nat) (m : List UInt8) (w : World) (hr0 : Rd w a0 k) (hx : (Lit.int .i64 x).wf = true) (hr2 : Rd w a2 m) :
    Calls Try.prog 13 #[.slice a0 k.length c0, .int .i64 x, .slice a2 m.length c2] w fun e w' => e = .returned (.bool true) ∧ Below w.heap.size w w' := by
  clear hx
  go_enter Try.func13, Try.ntmps13
  go_wp2_with fail
  refine (anchor02_any w).mono ?_
  rintro e w1 ⟨rfl, hb1⟩
  have HR0 := Lib.hid (hr0.below hb1)
  have HR2 := Lib.hid (hr2.below hb1)
  have HB1 := Lib.hid hb1
  clear hr0 hr2 hb1
  by_cases h1 : k.length ≤ 200
  · have h1I : (k.length : Int) ≤ 200 := by omega
    by_cases h2 : m.length ≤ 200
    · have h2I : (m.length : Int) ≤ 200 := by omega
      by_cases h3 : 0 ≤ x
      · by_cases h4 : x ≤ 64
        · obtain ⟨z, rfl⟩ : ∃ z : Nat, x = (z : Int) := ⟨x.toNat, by omega⟩
          have hz : z ≤ 64 := by omega
          go_wp2_with (at_builtin; go_loud (refine wpList_append_tl rfl (.tmp 26) (.tmp 27) rfl w1.heap.size _ [] rfl (Tl.of_own (Own.empty w1)) a0 k k.length c0 rfl rfl (HR0.out.alloc _) ?c1 ?c2 ?_))
          case c1 => simp; omega
          case c2 => simp
          intro a3 n3 c3 w3 hn3 ht3 hg3 how3
          have ht3' : Tl w1.heap.size w3 (.slice a3 n3 c3) k := by simpa using ht3
          have hb3 : Below w1.heap.size w1 w3 := below_grow_tl ((Below.refl _ _).alloc (Nat.le_refl _) _) (Tl.of_own (Own.empty w1)) hg3 (by simp)
          have HT3 := Lib.hid ht3'
          have HB3 := Lib.hid hb3
          clear hn3 ht3 hg3 how3 ht3' hb3
          refine wpList_plain rfl (fun K hK => ?_)
          go_simp
          with_reducible refine hK _ _ ?_
          clear hK K
          obtain ⟨v4, w4, hrun, ht4, hg4⟩ := run_append_tl_zeros 22 HT3.out z (by omega) HB3.out.size
          refine Lib.wpList_append_run _ rfl (.tmp 28) (.tmp 29) 22 3 rfl _ _ rfl rfl v4 w4 hrun ?_
          have hb4 : Below w1.heap.size w1 w4 := below_grow_tl HB3.out HT3.out hg4 HB3.out.size
          obtain ⟨aa, ca, rfl, hra, _⟩ := ht4.shape
          obtain ⟨A, hA⟩ : ∃ A, k ++ List.replicate z 0 = A := ⟨_, rfl⟩
          have hAl : A.length = k.length + z := by rw [← hA]; simp
          rw [hA] at hra ⊢
          have HRA := Lib.hid hra
          have HB4 := Lib.hid hb4
          have HA := Lib.hid hA
          have HAL := Lib.hid hAl
          clear hrun ht4 hg4 hra hb4 hA hAl HT3 HB3
          by_cases h64 : A.length ≤ 64
          · have h64I : (A.length : Int) ≤ 64 := by omega
            go_upto_region 7 with (fail)
            have hrk := HR0.out.below HB4.out
            have hrm := HR2.out.below HB4.out
            have hra := HRA.out
            have hal := HAL.out
            have hkz : mac A m = mac k m := by rw [← HA.out]; exact mac_zeros k m z (by omega)
            refine wp_region_grow (by kernel_rfl) (by kernel_rfl) [34, 35, 36, 37, 38, 39, 40, 41, 42, 43, 44, 6] rfl (by decide) (by kernel_rfl) (fun i => [VIs (.slice aa A.length ca), VIs (.slice a2 m.length c2), VParts [m], VBytes (mac A m), VStr (mac A m), VIs (.slice a0 k.length c0), VIs (.slice a2 m.length c2), VParts [m], VBytes (mac A m), VStr (mac A m), VIs (.bool true), VIs (.bool true)].getD i fun _ _ => True) (stab_list _ ?_) ?_ ?_
            · intro V hV
              simp only [List.mem_cons, List.mem_nil_iff, or_false] at hV
              rcases hV with rfl | rfl | rfl | rfl | rfl | rfl | rfl | rfl | rfl | rfl | rfl | rfl <;> first | exact VIs.stab _ | exact VBytes.stab _ | exact VStr.stab _ | exact VParts.stab _ | exact VRow.stab _ | exact VRow8.stab _ _
            · intro i o ho a' w' hf hb hd
              rcases i with _ | _ | _ | _ | _ | _ | _ | _ | _ | _ | _ | _ | i
              · cases ho
                refine grow_op rfl rfl rfl (grow_move rfl ?_)
                exact (hf.same 7 (by decide)).trans rfl
              · cases ho
                refine grow_op rfl rfl rfl (grow_move rfl ?_)
                exact (hf.same 2 (by decide)).trans rfl
              · cases ho
                refine grow_op rfl rfl rfl ?_
                exact grow_part rfl (hd 1 (by kernel_rfl)) (hrm.below hb)
              · cases ho
                refine grow_op rfl rfl rfl ?_
                exact grow_code (by simp) rfl ⟨_, _, hd 0 (by kernel_rfl), hra.below hb⟩ (hd 2 (by kernel_rfl)) (by omega) (by simp) (by omega)
              · cases ho
                refine grow_op rfl rfl rfl ?_
                exact grow_str rfl (hd 3 (by kernel_rfl))
              · cases ho
                refine grow_op rfl rfl rfl (grow_move rfl ?_)
                exact (hf.same 0 (by decide)).trans rfl
              · cases ho
                refine grow_op rfl rfl rfl (grow_move rfl ?_)
                exact (hf.same 2 (by decide)).trans rfl
              · cases ho
                refine grow_op rfl rfl rfl ?_
                exact grow_part rfl (hd 6 (by kernel_rfl)) (hrm.below hb)
              · cases ho
                refine grow_op rfl rfl rfl ?_
                have h5 := hd 5 (by kernel_rfl)
                have h7 := hd 7 (by kernel_rfl)
                rw [hkz]
                exact grow_code (by simp) rfl ⟨_, _, h5, hrk.below hb⟩ h7 (by omega) (by simp) (by omega)
              · cases ho
                refine grow_op rfl rfl rfl ?_
                exact grow_str rfl (hd 8 (by kernel_rfl))
              · cases ho
                refine grow_op rfl rfl rfl ?_
                exact grow_eq_same rfl (hd 4 (by kernel_rfl)) (hd 9 (by kernel_rfl))
              · cases ho
                refine grow_op rfl rfl rfl (grow_assign rfl ?_)
                exact hd 10 (by kernel_rfl)
              · simp at ho
            · intro a' w' hf hb hd
              have h4 : a'.tmps.getD 6 undef = .bool true := hd 11 (by decide)
              have hdf : a'.defers = [] := hf.defers
              have HBx := Lib.hid (HB1.out.trans ((HB4.out.trans (hb.mono HB4.out.size)).mono HB1.out.size))
              have H4 := Lib.hid h4
              clear h4 hd hf hb hrk hrm hra hal hkz
              go_wp2_with fail
              refine bodyPost_ret (results_tmp rfl _ _ _) hdf ?_
              exact ⟨by rw [H4.out], HBx.out⟩
          · have h64I : ¬ (A.length : Int) ≤ 64 := by omega
            go_upto_region 8 with (fail)
            have hrk := HR0.out.below HB4.out
            have hrm := HR2.out.below HB4.out
            have hra := HRA.out
            have hal := HAL.out
            refine wp_region_grow (by kernel_rfl) (by kernel_rfl) [45, 46, 47, 48, 49, 50, 51, 52, 53, 54, 6] rfl (by decide) (by kernel_rfl) (fun i => [VIs (.slice aa A.length ca), VIs (.slice a2 m.length c2), VParts [m], VBytes (mac A m), VStr (mac A m), VIs (.slice aa A.length ca), VIs (.slice a2 m.length c2), VBytes (mac A m), VStr (mac A m), VIs (.bool true), VIs (.bool true)].getD i fun _ _ => True) (stab_list _ ?_) ?_ ?_
            · intro V hV
              simp only [List.mem_cons, List.mem_nil_iff, or_false] at hV
              rcases hV with rfl | rfl | rfl | rfl | rfl | rfl | rfl | rfl | rfl | rfl | rfl <;> first | exact VIs.stab _ | exact VBytes.stab _ | exact VStr.stab _ | exact VParts.stab _ | exact VRow.stab _ | exact VRow8.stab _ _
            · intro i o ho a' w' hf hb hd
              rcases i with _ | _ | _ | _ | _ | _ | _ | _ | _ | _ | _ | i
              · cases ho
                refine grow_op rfl rfl rfl (grow_move rfl ?_)
                exact (hf.same 7 (by decide)).trans rfl
              · cases ho
                refine grow_op rfl rfl rfl (grow_move rfl ?_)
                exact (hf.same 2 (by decide)).trans rfl
              · cases ho
                refine grow_op rfl rfl rfl ?_
                exact grow_part rfl (hd 1 (by kernel_rfl)) (hrm.below hb)
              · cases ho
                refine grow_op rfl rfl rfl ?_
                exact grow_code (by simp) rfl ⟨_, _, hd 0 (by kernel_rfl), hra.below hb⟩ (hd 2 (by kernel_rfl)) (by omega) (by simp) (by omega)
              · cases ho
                refine grow_op rfl rfl rfl ?_
                exact grow_str rfl (hd 3 (by kernel_rfl))
              · cases ho
                refine grow_op rfl rfl rfl (grow_move rfl ?_)
                exact (hf.same 7 (by decide)).trans rfl
              · cases ho
                refine grow_op rfl rfl rfl (grow_move rfl ?_)
                exact (hf.same 2 (by decide)).trans rfl
              · cases ho
                refine grow_op rfl rfl rfl ?_
                exact grow_rcode rfl ⟨_, _, hd 5 (by kernel_rfl), hra.below hb⟩ ⟨_, _, hd 6 (by kernel_rfl), hrm.below hb⟩ (by omega) (by omega)
              · cases ho
                refine grow_op rfl rfl rfl ?_
                exact grow_str rfl (hd 7 (by kernel_rfl))
              · cases ho
                refine grow_op rfl rfl rfl ?_
                exact grow_eq_same rfl (hd 4 (by kernel_rfl)) (hd 8 (by kernel_rfl))
              · cases ho
                refine grow_op rfl rfl rfl (grow_assign rfl ?_)
                exact hd 9 (by kernel_rfl)
              · simp at ho
            · intro a' w' hf hb hd
              have h4 : a'.tmps.getD 6 undef = .bool true := hd 10 (by decide)
              have hdf : a'.defers = [] := hf.defers
              have HBx := Lib.hid (HB1.out.trans ((HB4.out.trans (hb.mono HB4.out.size)).mono HB1.out.size))
              have H4 := Lib.hid h4
              clear h4 hd hf hb hrk hrm hra hal
              go_wp2_with fail
              refine bodyPost_ret (results_tmp rfl _ _ _) hdf ?_
              exact ⟨by rw [H4.out], HBx.out⟩
        · have h4I : (64 : Int) < x := by omega
          go_wp2_with fail
          go_ret
          exact ⟨rfl, HB1.out⟩
      · go_wp2_with fail
        go_ret
        exact ⟨rfl, HB1.out⟩
    · have h2I : (200 : Int) < (m.length : Int) := by omega
      go_wp2_with fail
      go_ret
      exact ⟨rfl, HB1.out⟩
  · have h1I : (200 : Int) < (k.length : Int) := by omega
    go_wp2_with fail
    go_ret
    exact ⟨rfl, HB1.out⟩
end Go.Proofs.Ytofoadpnfeamoaa
