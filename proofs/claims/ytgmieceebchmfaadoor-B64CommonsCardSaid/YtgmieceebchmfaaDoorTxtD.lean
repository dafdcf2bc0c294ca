/- text.Wrong, text.Told. -/
import Derived.Test.YtgmieceebchmfaaDoorTxtC
set_option linter.unusedVariables false
namespace Go.Proofs.YtgmieceebchmfaaDoor
open Go.RowKit

set_option maxRecDepth 100000 in
set_option maxHeartbeats 4000000 in
theorem wrong_any (s : List UInt8) (w : World) (hs : s.length ≤ 1000000) :
    Calls Tryd.prog 13 #[.string ⟨s.toArray⟩] w fun e w' => e = .returned (.int .i64 (wrongI s)) ∧ Below w.heap.size w w' := by
  go_enter Tryd.func13, Tryd.ntmps13
  go_wp2_with fail
  go_loopg [3] s.length (fun k y wr => ∃ i : Nat, y = .int .i64 (i : Int) ∧ i + k = s.length ∧ Hid (Below w.heap.size w wr) ∧ Hid (wrongL s = (wrongL (s.drop i)).map (· + i)))
  case atStart => exact ⟨0, rfl, by omega, Lib.hid (Below.refl _ _), Lib.hid (by rw [List.drop_zero]; cases wrongL s <;> simp)⟩
  case round =>
    obtain ⟨i, rfl, hi, HB, HW⟩ := hrel
    by_cases hlt : i < s.length
    · have hltI : (i : Int) < (s.length : Int) := by omega
      have hsl := fun w => str_tail s i (by omega) (i : Int) rfl w
      have hne : s.drop i ≠ [] := by intro h; have := congrArg List.length h; rw [List.length_drop, List.length_nil] at this; omega
      have hw := HW.out
      have hcl := chr_len _ hne
      have hc4 := chr_le (s.drop i)
      have hdl : (s.drop i).length = s.length - i := List.length_drop
      rw [wrongL_ne _ hne] at hw
      rw [hdl] at hcl
      rw [List.drop_drop] at hw
      generalize s.drop i = t at *
      have HNE := Lib.hid hne
      have HW0 := Lib.hid hw
      clear hw hne HW
      go_wp2_with fail
      refine (char_any t HNE.out wr (by omega)).mono ?_
      rintro e w1 ⟨rfl, hb1⟩
      have HB1 := Lib.hid (HB.out.trans (hb1.mono HB.out.size))
      have hw := HW0.out
      clear hb1 HB HW0 hsl
      generalize chr t = n at *
      by_cases hz : n = 0
      · subst hz
        rw [if_pos rfl] at hw
        have HW1 := Lib.hid hw
        clear hw
        go_wp2_with fail
        refine bodyPost_ret (results_tmp rfl _ _ _) rfl ?_
        exact ⟨by unfold wrongI; rw [HW1.out]; simp [Array.getD], HB1.out⟩
      · rw [if_neg hz] at hw
        have HW1 := Lib.hid hw
        clear hw
        have hzI : ¬ (n : Int) = 0 := by omega
        go_wp2_with fail
        go_roundg (gk - n)
        case measure => omega
        case rel => exact ⟨i + n, by first | rfl | (congr 1), by omega, HB1, Lib.hid (by rw [HW1.out]; cases wrongL (s.drop (i + n)) <;> simp; omega)⟩
    · have hltI : ¬ (i : Int) < (s.length : Int) := by omega
      have hw := HW.out
      rw [List.drop_of_length_le (by omega), wrongL_nil] at hw
      have HW1 := Lib.hid hw
      clear hw HW
      go_wp2_with fail
      refine bodyPost_ret (results_tmp rfl _ _ _) rfl ?_
      exact ⟨by unfold wrongI; rw [HW1.out]; rfl, HB.out⟩
theorem wrongI_range (s : List UInt8) : -1 ≤ wrongI s := by
  unfold wrongI
  cases wrongL s with
  | none => simp
  | some n => simp only; omega
set_option maxHeartbeats 1000000 in
theorem told_any (s : List UInt8) (w : World) (hs : s.length ≤ 1000000) :
    Calls Tryd.prog 14 #[.string ⟨s.toArray⟩] w fun e w' => e = .returned (.bool (toldB s)) ∧ Below w.heap.size w w' := by
  have hn := wrongI_neg s
  have HN := Lib.hid hn
  clear hn
  go_enter Tryd.func14, Tryd.ntmps14
  go_wp2_with fail
  refine (wrong_any s w hs).mono ?_
  rintro e w1 ⟨rfl, hb1⟩
  have HB1 := Lib.hid hb1
  clear hb1
  go_wp2_with fail
  refine bodyPost_ret (results_tmp rfl _ _ _) rfl ?_
  exact ⟨by rw [← HN.out]; rfl, HB1.out⟩
end Go.Proofs.YtgmieceebchmfaaDoor
