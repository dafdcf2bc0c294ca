/- strings.Cut at one byte. Plain. -/
import Derived.Lib.Split
import Derived.Lib.SplitLaws
import Derived.Lib.IndexBytes
import Derived.Lib.IndexLaws
import Derived.Lib.IndexMore
set_option linter.unusedVariables false
namespace Go.Proofs.YtbblnlddiafkhaaDoor
open Go.Lib

theorem first_at (c : UInt8) : ∀ (s : List UInt8), c ∈ s → ∃ a r, s = a ++ c :: r ∧ c ∉ a
  | [], h => by cases h
  | b :: s, h => by
    by_cases e : b = c
    · subst e; exact ⟨[], s, rfl, by simp⟩
    · have h' : c ∈ s := by
        rcases List.mem_cons.1 h with h | h
        · exact absurd h.symm e
        · exact h
      obtain ⟨a, r, h1, h2⟩ := first_at c s h'
      exact ⟨b :: a, r, by rw [h1]; rfl, by simp only [List.mem_cons, not_or]; exact ⟨fun e' => e e'.symm, h2⟩⟩
theorem idx_none (c : UInt8) : ∀ (s : List UInt8), c ∉ s → indexByte s c = -1
  | [], _ => rfl
  | b :: s, h => by
    simp only [List.mem_cons, not_or] at h
    have ih := idx_none c s h.2
    have e : (b == c) = false := by simp only [beq_eq_false_iff_ne, ne_eq]; exact fun e => h.1 e.symm
    unfold indexByte
    rw [e, ih]
    rfl
theorem idx_hit (c : UInt8) : ∀ (a r : List UInt8), c ∉ a → indexByte (a ++ c :: r) c = a.length
  | [], r, _ => by
    show (if (c == c) = true then (0 : Int) else _) = _
    simp
  | b :: a, r, h => by
    simp only [List.mem_cons, not_or] at h
    have ih := idx_hit c a r h.2
    have e : (b == c) = false := by simp only [beq_eq_false_iff_ne, ne_eq]; exact fun e => h.1 e.symm
    show indexByte (b :: (a ++ c :: r)) c = _
    unfold indexByte
    rw [e, ih]
    have e2 : (((a.length : Nat) : Int) == -1) = false := by simp only [beq_eq_false_iff_ne, ne_eq]; omega
    rw [e2]
    simp
theorem cut_none (c : UInt8) (s : List UInt8) (h : c ∉ s) : cut s [c] = (s, [], false) := by
  unfold cut
  rw [index_one, idx_none c s h, if_neg (by decide)]
theorem cut_hit (c : UInt8) (a r : List UInt8) (h : c ∉ a) : cut (a ++ c :: r) [c] = (a, r, true) := by
  unfold cut
  rw [index_one, idx_hit c a r h, if_pos (by omega)]
  have e : ((a.length : Nat) : Int).toNat = a.length := by omega
  rw [e]
  simp
end Go.Proofs.YtbblnlddiafkhaaDoor
