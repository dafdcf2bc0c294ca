/- ShaSums. -/
import Derived.Test.YtofoadpnfeamoaaShaH
import Derived.Test.YtofoadpnfeamoaaRefE
set_option linter.unusedVariables false
namespace Go.Proofs.Ytofoadpnfeamoaa
open Go.RowKit

set_option maxRecDepth 100000 in
set_option maxHeartbeats 4000000 in
theorem shaSums_walk (a : Option Addr) (c : Nat) (l : List UInt8) (w : World) (hr : Rd w a l) :
    Calls Try.prog 5 #[.slice a l.length c] w fun e w' => e = .returned (.bool true) ∧ Below w.heap.size w w' := by
  go_enter Try.func5, Try.ntmps5
  go_wp2_with fail
  refine (anchor01_any w).mono ?_
  rintro e w1 ⟨rfl, hb1⟩
  have HR := Lib.hid hr
  have HB1 := Lib.hid hb1
  clear hr hb1
  by_cases hl : l.length ≤ 400
  · have hlI : (l.length : Int) ≤ 400 := by omega
    go_upto_region 5 with (fail)
    have hrd := HR.out.below HB1.out
    refine wp_region_grow (by kernel_rfl) (by kernel_rfl) [8, 9, 10, 11, 12, 13, 14, 15, 2] rfl (by decide) (by kernel_rfl) (fun i => [VIs (.slice a l.length c), VParts [l], VBytes (sha (l)), VStr (sha l), VIs (.slice a l.length c), VBytes (sha (l)), VStr (sha l), VIs (.bool true), VIs (.bool true)].getD i fun _ _ => True) (stab_list _ ?_) ?_ ?_
    · intro V hV
      simp only [List.mem_cons, List.mem_nil_iff, or_false] at hV
      rcases hV with rfl | rfl | rfl | rfl | rfl | rfl | rfl | rfl | rfl <;> first | exact VIs.stab _ | exact VBytes.stab _ | exact VStr.stab _ | exact VParts.stab _ | exact VRow.stab _ | exact VRow8.stab _ _
    · intro i o ho a' w' hf hb hd
      rcases i with _ | _ | _ | _ | _ | _ | _ | _ | _ | i
      · cases ho
        refine grow_op rfl rfl rfl (grow_move rfl ?_)
        exact (hf.same 0 (by decide)).trans rfl
      · cases ho
        refine grow_op rfl rfl rfl ?_
        exact grow_part rfl (hd 0 (by kernel_rfl)) (hrd.below hb)
      · cases ho
        refine grow_op rfl rfl rfl ?_
        exact grow_sum (by simp) rfl (hd 1 (by kernel_rfl)) (by simp) (by omega)
      · cases ho
        refine grow_op rfl rfl rfl ?_
        exact grow_str rfl (hd 2 (by kernel_rfl))
      · cases ho
        refine grow_op rfl rfl rfl (grow_move rfl ?_)
        exact (hf.same 0 (by decide)).trans rfl
      · cases ho
        refine grow_op rfl rfl rfl ?_
        exact grow_rsum rfl (hd 4 (by kernel_rfl)) (hrd.below hb) (by omega)
      · cases ho
        refine grow_op rfl rfl rfl ?_
        exact grow_str rfl (hd 5 (by kernel_rfl))
      · cases ho
        refine grow_op rfl rfl rfl ?_
        exact grow_eq_same rfl (hd 3 (by kernel_rfl)) (hd 6 (by kernel_rfl))
      · cases ho
        refine grow_op rfl rfl rfl (grow_assign rfl ?_)
        exact hd 7 (by kernel_rfl)
      · simp at ho
    · intro a' w' hf hb hd
      have h4 : a'.tmps.getD 2 undef = .bool true := hd 8 (by decide)
      have hdf : a'.defers = [] := hf.defers
      have HBx := Lib.hid (HB1.out.trans (hb.mono HB1.out.size))
      have H4 := Lib.hid h4
      clear h4 hd hf hb hrd
      go_wp2_with fail
      refine bodyPost_ret (results_tmp rfl _ _ _) hdf ?_
      exact ⟨by rw [H4.out], HBx.out⟩
  · have hlI : (400 : Int) < (l.length : Int) := by omega
    go_wp2_with fail
    go_ret
    exact ⟨rfl, HB1.out⟩
end Go.Proofs.Ytofoadpnfeamoaa
