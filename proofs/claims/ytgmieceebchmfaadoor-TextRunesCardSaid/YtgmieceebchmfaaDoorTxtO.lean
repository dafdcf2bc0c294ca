/- The document's free and digit. -/
import Derived.Test.YtgmieceebchmfaaDoorTxtM
set_option linter.unusedVariables false
namespace Go.Proofs.YtgmieceebchmfaaDoor
open Go.RowKit

set_option maxRecDepth 100000 in
set_option maxHeartbeats 8000000 in
theorem reffree_any (c : UInt8) (w : World) :
    Calls Tryd.prog 34 #[.int .u8 (c.toNat : Nat)] w fun e w' => e = .returned (.bool (freeB c.toNat)) ∧ w' = w := by
  have hlt := UInt8.toNat_lt c
  generalize c.toNat = n at *
  by_cases h0 : n ≤ 41
  · have hlo : (0 : Int) ≤ (n : Int) := by omega
    have hhi : (n : Int) ≤ 41 := by omega
    have hn45 : ((n : Int) == 45) = false := by simp; omega
    have hn46 : ((n : Int) == 46) = false := by simp; omega
    have hn95 : ((n : Int) == 95) = false := by simp; omega
    have hn42 : ((n : Int) == 42) = false := by simp; omega
    have hv : freeB n = false := by simp [freeB, hasB]; omega
    have HV := Lib.hid hv
    clear hv
    go_enter Tryd.func34, Tryd.ntmps34
    go_wp2_with fail
    refine bodyPost_ret (results_tmp rfl _ _ _) rfl ?_
    exact ⟨by rw [HV.out]; first | rfl | (simp [Array.getD]; done) | (simp [Array.getD]; omega), rfl⟩
  by_cases h1 : n ≤ 42
  · obtain rfl : n = 42 := by omega
    have hv : freeB 42 = true := by decide
    have HV := Lib.hid hv
    clear hv
    go_enter Tryd.func34, Tryd.ntmps34
    go_wp2_with fail
    refine bodyPost_ret (results_tmp rfl _ _ _) rfl ?_
    exact ⟨by rw [HV.out]; first | rfl | (simp [Array.getD]; done) | (simp [Array.getD]; omega), rfl⟩
  by_cases h2 : n ≤ 44
  · have hlo : (43 : Int) ≤ (n : Int) := by omega
    have hhi : (n : Int) ≤ 44 := by omega
    have hn45 : ((n : Int) == 45) = false := by simp; omega
    have hn46 : ((n : Int) == 46) = false := by simp; omega
    have hn95 : ((n : Int) == 95) = false := by simp; omega
    have hn42 : ((n : Int) == 42) = false := by simp; omega
    have hv : freeB n = false := by simp [freeB, hasB]; omega
    have HV := Lib.hid hv
    clear hv
    go_enter Tryd.func34, Tryd.ntmps34
    go_wp2_with fail
    refine bodyPost_ret (results_tmp rfl _ _ _) rfl ?_
    exact ⟨by rw [HV.out]; first | rfl | (simp [Array.getD]; done) | (simp [Array.getD]; omega), rfl⟩
  by_cases h3 : n ≤ 45
  · obtain rfl : n = 45 := by omega
    have hv : freeB 45 = true := by decide
    have HV := Lib.hid hv
    clear hv
    go_enter Tryd.func34, Tryd.ntmps34
    go_wp2_with fail
    refine bodyPost_ret (results_tmp rfl _ _ _) rfl ?_
    exact ⟨by rw [HV.out]; first | rfl | (simp [Array.getD]; done) | (simp [Array.getD]; omega), rfl⟩
  by_cases h4 : n ≤ 46
  · obtain rfl : n = 46 := by omega
    have hv : freeB 46 = true := by decide
    have HV := Lib.hid hv
    clear hv
    go_enter Tryd.func34, Tryd.ntmps34
    go_wp2_with fail
    refine bodyPost_ret (results_tmp rfl _ _ _) rfl ?_
    exact ⟨by rw [HV.out]; first | rfl | (simp [Array.getD]; done) | (simp [Array.getD]; omega), rfl⟩
  by_cases h5 : n ≤ 47
  · obtain rfl : n = 47 := by omega
    have hv : freeB 47 = false := by decide
    have HV := Lib.hid hv
    clear hv
    go_enter Tryd.func34, Tryd.ntmps34
    go_wp2_with fail
    refine bodyPost_ret (results_tmp rfl _ _ _) rfl ?_
    exact ⟨by rw [HV.out]; first | rfl | (simp [Array.getD]; done) | (simp [Array.getD]; omega), rfl⟩
  by_cases h6 : n ≤ 57
  · have hlo : (48 : Int) ≤ (n : Int) := by omega
    have hhi : (n : Int) ≤ 57 := by omega
    have hn45 : ((n : Int) == 45) = false := by simp; omega
    have hn46 : ((n : Int) == 46) = false := by simp; omega
    have hn95 : ((n : Int) == 95) = false := by simp; omega
    have hn42 : ((n : Int) == 42) = false := by simp; omega
    have hv : freeB n = true := by simp [freeB, hasB]; omega
    have HV := Lib.hid hv
    clear hv
    go_enter Tryd.func34, Tryd.ntmps34
    go_wp2_with fail
    refine bodyPost_ret (results_tmp rfl _ _ _) rfl ?_
    exact ⟨by rw [HV.out]; first | rfl | (simp [Array.getD]; done) | (simp [Array.getD]; omega), rfl⟩
  by_cases h7 : n ≤ 64
  · have hlo : (58 : Int) ≤ (n : Int) := by omega
    have hhi : (n : Int) ≤ 64 := by omega
    have hn45 : ((n : Int) == 45) = false := by simp; omega
    have hn46 : ((n : Int) == 46) = false := by simp; omega
    have hn95 : ((n : Int) == 95) = false := by simp; omega
    have hn42 : ((n : Int) == 42) = false := by simp; omega
    have hv : freeB n = false := by simp [freeB, hasB]; omega
    have HV := Lib.hid hv
    clear hv
    go_enter Tryd.func34, Tryd.ntmps34
    go_wp2_with fail
    refine bodyPost_ret (results_tmp rfl _ _ _) rfl ?_
    exact ⟨by rw [HV.out]; first | rfl | (simp [Array.getD]; done) | (simp [Array.getD]; omega), rfl⟩
  by_cases h8 : n ≤ 90
  · have hlo : (65 : Int) ≤ (n : Int) := by omega
    have hhi : (n : Int) ≤ 90 := by omega
    have hn45 : ((n : Int) == 45) = false := by simp; omega
    have hn46 : ((n : Int) == 46) = false := by simp; omega
    have hn95 : ((n : Int) == 95) = false := by simp; omega
    have hn42 : ((n : Int) == 42) = false := by simp; omega
    have hv : freeB n = true := by simp [freeB, hasB]; omega
    have HV := Lib.hid hv
    clear hv
    go_enter Tryd.func34, Tryd.ntmps34
    go_wp2_with fail
    refine bodyPost_ret (results_tmp rfl _ _ _) rfl ?_
    exact ⟨by rw [HV.out]; first | rfl | (simp [Array.getD]; done) | (simp [Array.getD]; omega), rfl⟩
  by_cases h9 : n ≤ 94
  · have hlo : (91 : Int) ≤ (n : Int) := by omega
    have hhi : (n : Int) ≤ 94 := by omega
    have hn45 : ((n : Int) == 45) = false := by simp; omega
    have hn46 : ((n : Int) == 46) = false := by simp; omega
    have hn95 : ((n : Int) == 95) = false := by simp; omega
    have hn42 : ((n : Int) == 42) = false := by simp; omega
    have hv : freeB n = false := by simp [freeB, hasB]; omega
    have HV := Lib.hid hv
    clear hv
    go_enter Tryd.func34, Tryd.ntmps34
    go_wp2_with fail
    refine bodyPost_ret (results_tmp rfl _ _ _) rfl ?_
    exact ⟨by rw [HV.out]; first | rfl | (simp [Array.getD]; done) | (simp [Array.getD]; omega), rfl⟩
  by_cases h10 : n ≤ 95
  · obtain rfl : n = 95 := by omega
    have hv : freeB 95 = true := by decide
    have HV := Lib.hid hv
    clear hv
    go_enter Tryd.func34, Tryd.ntmps34
    go_wp2_with fail
    refine bodyPost_ret (results_tmp rfl _ _ _) rfl ?_
    exact ⟨by rw [HV.out]; first | rfl | (simp [Array.getD]; done) | (simp [Array.getD]; omega), rfl⟩
  by_cases h11 : n ≤ 96
  · obtain rfl : n = 96 := by omega
    have hv : freeB 96 = false := by decide
    have HV := Lib.hid hv
    clear hv
    go_enter Tryd.func34, Tryd.ntmps34
    go_wp2_with fail
    refine bodyPost_ret (results_tmp rfl _ _ _) rfl ?_
    exact ⟨by rw [HV.out]; first | rfl | (simp [Array.getD]; done) | (simp [Array.getD]; omega), rfl⟩
  by_cases h12 : n ≤ 122
  · have hlo : (97 : Int) ≤ (n : Int) := by omega
    have hhi : (n : Int) ≤ 122 := by omega
    have hn45 : ((n : Int) == 45) = false := by simp; omega
    have hn46 : ((n : Int) == 46) = false := by simp; omega
    have hn95 : ((n : Int) == 95) = false := by simp; omega
    have hn42 : ((n : Int) == 42) = false := by simp; omega
    have hv : freeB n = true := by simp [freeB, hasB]; omega
    have HV := Lib.hid hv
    clear hv
    go_enter Tryd.func34, Tryd.ntmps34
    go_wp2_with fail
    refine bodyPost_ret (results_tmp rfl _ _ _) rfl ?_
    exact ⟨by rw [HV.out]; first | rfl | (simp [Array.getD]; done) | (simp [Array.getD]; omega), rfl⟩
  have hlo : (123 : Int) ≤ (n : Int) := by omega
  have hhi : (n : Int) ≤ 255 := by omega
  have hn45 : ((n : Int) == 45) = false := by simp; omega
  have hn46 : ((n : Int) == 46) = false := by simp; omega
  have hn95 : ((n : Int) == 95) = false := by simp; omega
  have hn42 : ((n : Int) == 42) = false := by simp; omega
  have hv : freeB n = false := by simp [freeB, hasB]; omega
  have HV := Lib.hid hv
  clear hv
  go_enter Tryd.func34, Tryd.ntmps34
  go_wp2_with fail
  refine bodyPost_ret (results_tmp rfl _ _ _) rfl ?_
  exact ⟨by rw [HV.out]; first | rfl | (simp [Array.getD]; done) | (simp [Array.getD]; omega), rfl⟩

set_option maxRecDepth 100000 in
set_option maxHeartbeats 8000000 in
theorem refdigit_any (c : UInt8) (w : World) :
    Calls Tryd.prog 35 #[.int .u8 (c.toNat : Nat)] w fun e w' => e = .returned (.int .i64 (digI c.toNat)) ∧ w' = w := by
  have hlt := UInt8.toNat_lt c
  generalize c.toNat = n at *
  by_cases h0 : n ≤ 47
  · have hlo : (0 : Int) ≤ (n : Int) := by omega
    have hhi : (n : Int) ≤ 47 := by omega
    have hv : digI n = -1 := by unfold digI hasB; rw [if_neg (by simp; omega), if_neg (by simp; omega), if_neg (by simp; omega)]
    have HV := Lib.hid hv
    clear hv
    go_enter Tryd.func35, Tryd.ntmps35
    go_wp2_with fail
    refine bodyPost_ret (results_tmp rfl _ _ _) rfl ?_
    exact ⟨by rw [HV.out]; first | rfl | (simp [Array.getD]; done) | (simp [Array.getD]; omega), rfl⟩
  by_cases h1 : n ≤ 57
  · have hlo : (48 : Int) ≤ (n : Int) := by omega
    have hhi : (n : Int) ≤ 57 := by omega
    have hv : digI n = (n : Int) - 48 := by unfold digI hasB; rw [if_pos (by simp; omega)]
    have HV := Lib.hid hv
    clear hv
    go_enter Tryd.func35, Tryd.ntmps35
    go_wp2_with fail
    refine bodyPost_ret (results_tmp rfl _ _ _) rfl ?_
    exact ⟨by rw [HV.out]; first | rfl | (simp [Array.getD]; done) | (simp [Array.getD]; omega), rfl⟩
  by_cases h2 : n ≤ 64
  · have hlo : (58 : Int) ≤ (n : Int) := by omega
    have hhi : (n : Int) ≤ 64 := by omega
    have hv : digI n = -1 := by unfold digI hasB; rw [if_neg (by simp; omega), if_neg (by simp; omega), if_neg (by simp; omega)]
    have HV := Lib.hid hv
    clear hv
    go_enter Tryd.func35, Tryd.ntmps35
    go_wp2_with fail
    refine bodyPost_ret (results_tmp rfl _ _ _) rfl ?_
    exact ⟨by rw [HV.out]; first | rfl | (simp [Array.getD]; done) | (simp [Array.getD]; omega), rfl⟩
  by_cases h3 : n ≤ 70
  · have hlo : (65 : Int) ≤ (n : Int) := by omega
    have hhi : (n : Int) ≤ 70 := by omega
    have hv : digI n = (n : Int) - 55 := by unfold digI hasB; rw [if_neg (by simp; omega), if_neg (by simp; omega), if_pos (by simp; omega)]
    have HV := Lib.hid hv
    clear hv
    go_enter Tryd.func35, Tryd.ntmps35
    go_wp2_with fail
    refine bodyPost_ret (results_tmp rfl _ _ _) rfl ?_
    exact ⟨by rw [HV.out]; first | rfl | (simp [Array.getD]; done) | (simp [Array.getD]; omega), rfl⟩
  by_cases h4 : n ≤ 96
  · have hlo : (71 : Int) ≤ (n : Int) := by omega
    have hhi : (n : Int) ≤ 96 := by omega
    have hv : digI n = -1 := by unfold digI hasB; rw [if_neg (by simp; omega), if_neg (by simp; omega), if_neg (by simp; omega)]
    have HV := Lib.hid hv
    clear hv
    go_enter Tryd.func35, Tryd.ntmps35
    go_wp2_with fail
    refine bodyPost_ret (results_tmp rfl _ _ _) rfl ?_
    exact ⟨by rw [HV.out]; first | rfl | (simp [Array.getD]; done) | (simp [Array.getD]; omega), rfl⟩
  by_cases h5 : n ≤ 102
  · have hlo : (97 : Int) ≤ (n : Int) := by omega
    have hhi : (n : Int) ≤ 102 := by omega
    have hv : digI n = (n : Int) - 87 := by unfold digI hasB; rw [if_neg (by simp; omega), if_pos (by simp; omega)]
    have HV := Lib.hid hv
    clear hv
    go_enter Tryd.func35, Tryd.ntmps35
    go_wp2_with fail
    refine bodyPost_ret (results_tmp rfl _ _ _) rfl ?_
    exact ⟨by rw [HV.out]; first | rfl | (simp [Array.getD]; done) | (simp [Array.getD]; omega), rfl⟩
  have hlo : (103 : Int) ≤ (n : Int) := by omega
  have hhi : (n : Int) ≤ 255 := by omega
  have hv : digI n = -1 := by unfold digI hasB; rw [if_neg (by simp; omega), if_neg (by simp; omega), if_neg (by simp; omega)]
  have HV := Lib.hid hv
  clear hv
  go_enter Tryd.func35, Tryd.ntmps35
  go_wp2_with fail
  refine bodyPost_ret (results_tmp rfl _ _ _) rfl ?_
  exact ⟨by rw [HV.out]; first | rfl | (simp [Array.getD]; done) | (simp [Array.getD]; omega), rfl⟩
end Go.Proofs.YtgmieceebchmfaaDoor
