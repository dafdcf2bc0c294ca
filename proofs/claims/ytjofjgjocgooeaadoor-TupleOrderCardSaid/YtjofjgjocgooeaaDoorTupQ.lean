/- The order of keys turned about. Plain lists, no program. -/
import Derived.Test.YtjofjgjocgooeaaDoorTupP
set_option linter.unusedVariables false
namespace Go.Proofs.YtjofjgjocgooeaaDoor
open Go.Lib
theorem cmpI_anti (x y : Int) : cmpI y x = -cmpI x y := by
  unfold cmpI
  rcases Int.lt_trichotomy x y with h | h | h
  · rw [if_neg (by omega), if_pos h, if_pos h]; rfl
  · rw [if_neg (by omega), if_neg (by omega), if_neg (by omega), if_neg (by omega)]; rfl
  · rw [if_pos h, if_neg (by omega), if_pos h]
theorem cmpI_rng (x y : Int) : -1 ≤ cmpI x y ∧ cmpI x y ≤ 1 := by
  unfold cmpI
  split
  · omega
  · split <;> omega
theorem bytes_anti : ∀ (t u : List UInt8), compareBytes u t = -compareBytes t u
  | [], [] => rfl
  | [], _ :: _ => rfl
  | _ :: _, [] => rfl
  | a :: t, b :: u => by
    have ih := bytes_anti t u
    rcases Nat.lt_trichotomy a.toNat b.toNat with h | h | h
    · have h1 : a < b := by rw [UInt8.lt_iff_toNat_lt]; exact h
      rw [cmp_lt _ _ h1, cmp_gt _ _ h1]; rfl
    · obtain rfl := UInt8.toNat_inj.1 h
      rw [cmp_same, cmp_same, ih]
    · have h1 : b < a := by rw [UInt8.lt_iff_toNat_lt]; exact h
      rw [cmp_lt _ _ h1, cmp_gt _ _ h1]
theorem bytes_rng : ∀ (t u : List UInt8), -1 ≤ compareBytes t u ∧ compareBytes t u ≤ 1
  | [], [] => by decide
  | [], _ :: _ => by simp [compareBytes]
  | _ :: _, [] => by simp [compareBytes]
  | a :: t, b :: u => by
    have ih := bytes_rng t u
    rcases Nat.lt_trichotomy a.toNat b.toNat with h | h | h
    · have h1 : a < b := by rw [UInt8.lt_iff_toNat_lt]; exact h
      rw [cmp_lt _ _ h1]; omega
    · obtain rfl := UInt8.toNat_inj.1 h
      rw [cmp_same]; exact ih
    · have h1 : b < a := by rw [UInt8.lt_iff_toNat_lt]; exact h
      rw [cmp_gt _ _ h1]; omega
theorem cmpP_anti (p q : TP) : cmpP q p = -cmpP p q := by
  obtain ⟨a, x, t⟩ := p
  obtain ⟨b, y, u⟩ := q
  cases a <;> cases b
  · exact bytes_anti t u
  · rfl
  · rfl
  · exact cmpI_anti x y
theorem cmpP_rng (p q : TP) : -1 ≤ cmpP p q ∧ cmpP p q ≤ 1 := by
  obtain ⟨a, x, t⟩ := p
  obtain ⟨b, y, u⟩ := q
  cases a <;> cases b
  · exact bytes_rng t u
  · show -1 ≤ (-1 : Int) ∧ (-1 : Int) ≤ 1; omega
  · show -1 ≤ (1 : Int) ∧ (1 : Int) ≤ 1; omega
  · exact cmpI_rng x y
theorem cmpK_anti : ∀ (l m : List TP), cmpK m l = -cmpK l m
  | [], [] => rfl
  | [], _ :: _ => rfl
  | _ :: _, [] => rfl
  | p :: l, q :: m => by
    have ih := cmpK_anti l m
    show (if cmpP q p = 0 then cmpK m l else cmpP q p) = -(if cmpP p q = 0 then cmpK l m else cmpP p q)
    rw [cmpP_anti p q]
    by_cases h : cmpP p q = 0
    · rw [if_pos (by omega), if_pos h, ih]
    · rw [if_neg (by omega), if_neg h]
theorem cmpK_rng : ∀ (l m : List TP), -1 ≤ cmpK l m ∧ cmpK l m ≤ 1
  | [], [] => by simp [cmpK]
  | [], _ :: _ => by simp [cmpK]
  | _ :: _, [] => by simp [cmpK]
  | p :: l, q :: m => by
    have ih := cmpK_rng l m
    show -1 ≤ (if cmpP p q = 0 then cmpK l m else cmpP p q) ∧ (if cmpP p q = 0 then cmpK l m else cmpP p q) ≤ 1
    split
    · exact ih
    · exact cmpP_rng p q
end Go.Proofs.YtjofjgjocgooeaaDoor
