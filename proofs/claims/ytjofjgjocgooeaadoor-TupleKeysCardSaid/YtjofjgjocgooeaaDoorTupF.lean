/- The document's Compare. -/
import Derived.Test.YtjofjgjocgooeaaDoorTupE
import Derived.Deep.QuietTactic
import Derived.BigQuiet
import Derived.WalkSmall
set_option linter.unusedVariables false
namespace Go.Proofs.YtjofjgjocgooeaaDoor
open Go.RowKit

set_option maxRecDepth 100000 in
set_option maxHeartbeats 8000000 in
theorem refcompare_any (a a' : Option Addr) (c c' : Nat) (l m : List TP) (w : World) (hr : RdP w a l) (hr' : RdP w a' m) (hl : l.length ≤ 1000) (hl' : m.length ≤ 1000) :
    Calls Tryd.prog 11 #[.slice a l.length c, .slice a' m.length c'] w fun e w' => e = .returned (.int .i64 (cmpK l m)) ∧ Below w.heap.size w w' := by
  have HR := Lib.hid hr
  have HR' := Lib.hid hr'
  clear hr hr'
  go_enter Tryd.func11, Tryd.ntmps11
  go_wp2_with fail
  go_loopg [5] l.length (fun k y wr => ∃ j : Nat, y = .int .i64 (j : Int) ∧ j + k = l.length ∧ j ≤ m.length ∧ Hid (cmpK (l.drop j) (m.drop j) = cmpK l m) ∧ Hid (Below w.heap.size w wr))
  case atStart => exact ⟨0, rfl, by omega, by omega, Lib.hid rfl, Lib.hid (Below.refl _ _)⟩
  case round =>
    obtain ⟨j, rfl, hj, hjm, HC, HB⟩ := hrel
    by_cases hlt : j < l.length ∧ j < m.length
    · obtain ⟨h1, h2⟩ := hlt
      have h1I : (j : Int) < (l.length : Int) := by omega
      have h2I : (j : Int) < (m.length : Int) := by omega
      obtain ⟨b, off, rfl, c1, c2, c3⟩ := (HR.out.below HB.out).get h1
      obtain ⟨b', off', rfl, d1, d2, d3⟩ := (HR'.out.below HB.out).get h2
      have hck := HC.out
      rw [cmpK_drop l m j h1 h2] at hck
      have HCK := Lib.hid hck
      clear hck HC
      generalize hp : l[j] = p at *
      generalize hq : m[j] = q at *
      have HPQ := Lib.hid (And.intro hp hq)
      clear hp hq
      obtain ⟨pk, x, t⟩ := p
      obtain ⟨qk, y, u⟩ := q
      simp only at c1 c2 c3 d1 d2 d3
      cases pk <;> cases qk
      · have hcm : cmpP ⟨false, x, t⟩ ⟨false, y, u⟩ = Lib.compareBytes t u := rfl
        rw [hcm] at HCK
        clear hcm
        go_wp2_with fail
        go_quiet ((go_at_call 26; exact Calls.quiet_of_same (texts_any _ _ _)))
        by_cases hz : Lib.compareBytes t u = 0
        · rw [if_pos hz] at HCK
          rw [hz]
          go_wp2_with fail
          go_roundg (gk - 1)
          case measure => omega
          case rel => exact ⟨j + 1, by first | rfl | (congr 1), by omega, by omega, Lib.hid (by rw [← HCK.out]; try rfl), Lib.hid (below_drewN HB.out _)⟩
        · rw [if_neg hz] at HCK
          go_wp2_with fail
          refine bodyPost_ret (results_tmp rfl _ _ _) rfl ?_
          exact ⟨by rw [← HCK.out]; rfl, (below_drewN HB.out _)⟩
      · go_wp2_with fail
        refine bodyPost_ret (results_tmp rfl _ _ _) rfl ?_
        exact ⟨by rw [← HCK.out]; rfl, HB.out⟩
      · go_wp2_with fail
        refine bodyPost_ret (results_tmp rfl _ _ _) rfl ?_
        exact ⟨by rw [← HCK.out]; rfl, HB.out⟩
      · rcases Int.lt_trichotomy x y with hxy | hxy | hxy
        · have hcm : cmpP ⟨true, x, t⟩ ⟨true, y, u⟩ = -1 := by show cmpI x y = -1; unfold cmpI; rw [if_pos hxy]
          rw [hcm] at HCK
          clear hcm
          have hng : ¬ y < x := by omega
          go_wp2_with fail
          go_quiet (fail)
          go_wp2_with fail
          go_quiet (fail)
          go_wp2_with fail
          refine bodyPost_ret (results_tmp rfl _ _ _) rfl ?_
          exact ⟨by rw [← HCK.out]; rfl, (below_drewN HB.out _)⟩
        · have hcm : cmpP ⟨true, x, t⟩ ⟨true, y, u⟩ = 0 := by show cmpI x y = 0; unfold cmpI; rw [if_neg (by omega), if_neg (by omega)]
          rw [hcm] at HCK
          clear hcm
          have hng : ¬ y < x := by omega
          have hng' : ¬ x < y := by omega
          go_wp2_with fail
          go_quiet (fail)
          go_wp2_with fail
          go_quiet (fail)
          go_wp2_with fail
          go_roundg (gk - 1)
          case measure => omega
          case rel => exact ⟨j + 1, by first | rfl | (congr 1), by omega, by omega, Lib.hid (by rw [← HCK.out]; try rfl), Lib.hid (below_drewN HB.out _)⟩
        · have hcm : cmpP ⟨true, x, t⟩ ⟨true, y, u⟩ = 1 := by show cmpI x y = 1; unfold cmpI; rw [if_neg (by omega), if_pos (by omega)]
          rw [hcm] at HCK
          clear hcm
          have hng' : ¬ x < y := by omega
          go_wp2_with fail
          go_quiet (fail)
          go_wp2_with fail
          go_quiet (fail)
          go_wp2_with fail
          refine bodyPost_ret (results_tmp rfl _ _ _) rfl ?_
          exact ⟨by rw [← HCK.out]; rfl, (below_drewN HB.out _)⟩
    · have hck := HC.out
      rw [cmpK_end l m j (by omega)] at hck
      unfold cmpI at hck
      rcases Nat.lt_trichotomy l.length m.length with h | h | h
      · rw [if_pos (by omega)] at hck
        have HC1 := Lib.hid hck
        clear hck HC
        have e1 : (j : Int) < (m.length : Int) := by omega
        have e2 : ¬ (j : Int) < (l.length : Int) := by omega
        have e3 : (l.length : Int) < (m.length : Int) := by omega
        clear hlt
        go_wp2_with fail
        refine bodyPost_ret (results_tmp rfl _ _ _) rfl ?_
        exact ⟨by rw [← HC1.out]; rfl, HB.out⟩
      · rw [if_neg (by omega), if_neg (by omega)] at hck
        have HC1 := Lib.hid hck
        clear hck HC
        have e2 : ¬ (j : Int) < (l.length : Int) := by omega
        have e3 : ¬ (l.length : Int) < (m.length : Int) := by omega
        have e4 : ¬ (m.length : Int) < (l.length : Int) := by omega
        clear hlt
        go_wp2_with fail
        refine bodyPost_ret (results_tmp rfl _ _ _) rfl ?_
        exact ⟨by rw [← HC1.out]; rfl, HB.out⟩
      · rw [if_neg (by omega), if_pos (by omega)] at hck
        have HC1 := Lib.hid hck
        clear hck HC
        have e1 : (j : Int) < (l.length : Int) := by omega
        have e2 : ¬ (j : Int) < (m.length : Int) := by omega
        have e3 : ¬ (l.length : Int) < (m.length : Int) := by omega
        have e4 : (m.length : Int) < (l.length : Int) := by omega
        clear hlt
        go_wp2_with fail
        refine bodyPost_ret (results_tmp rfl _ _ _) rfl ?_
        exact ⟨by rw [← HC1.out]; rfl, HB.out⟩
end Go.Proofs.YtjofjgjocgooeaaDoor
