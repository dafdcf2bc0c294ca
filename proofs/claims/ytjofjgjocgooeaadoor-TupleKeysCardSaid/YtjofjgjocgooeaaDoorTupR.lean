/- Noughts replaced are a text's escape. Plain lists, no program. -/
import Derived.Test.YtjofjgjocgooeaaDoorTupP
import Derived.Lib.Replace
import Derived.Lib.SplitLaws
set_option linter.unusedVariables false
namespace Go.Proofs.YtjofjgjocgooeaaDoor
open Go.Lib

theorem index_nought (b : UInt8) (l : List UInt8) : index (b :: l) [0] = if b = 0 then 0 else if index l [0] = -1 then -1 else index l [0] + 1 := by
  have e : index (b :: l) [0] = if ([0] : List UInt8).isPrefixOf (b :: l) = true then 0 else if index l [0] == -1 then -1 else index l [0] + 1 := rfl
  rw [e]
  by_cases h : b = 0
  · subst h; rfl
  · have h1 : (([0] : List UInt8).isPrefixOf (b :: l)) = false := by
      show ((0 == b) && true) = false
      have : ((0 : UInt8) == b) = false := by simp only [beq_eq_false_iff_ne, ne_eq]; exact fun e => h e.symm
      rw [this]; rfl
    rw [h1, if_neg h]
    simp only [Bool.false_eq_true, if_false, beq_iff_eq]
theorem replaceK_esc : ∀ l : List UInt8, replaceK [0] [0, 255] (count l [0]) l = esc l
  | [] => rfl
  | b :: l => by
    have ih := replaceK_esc l
    have hge := index_ge l [0]
    by_cases h : b = 0
    · subst h
      have hi : index (0 :: l) [0] = ((0 : Nat) : Int) := by rw [index_nought, if_pos rfl]; rfl
      rw [count_cons_eq, Nat.add_comm, replaceK_hit _ _ _ _ 0 hi]
      unfold esc
      rw [if_pos rfl]
      show [0, 255] ++ replaceK [0] [0, 255] (count l [0]) l = _
      rw [ih]; rfl
    · rw [count_cons_ne b 0 l h]
      unfold esc
      rw [if_neg h, ← ih]
      by_cases hm : index l [0] = -1
      · rw [count_miss hm]; rfl
      · obtain ⟨i, hi⟩ : ∃ i : Nat, index l [0] = i := ⟨(index l [0]).toNat, by omega⟩
        have hc := count_hit (sub := [0]) (by simp) hi
        have hi2 : index (b :: l) [0] = ((i + 1 : Nat) : Int) := by rw [index_nought, if_neg h, if_neg hm, hi]; omega
        rw [hc, Nat.add_comm, replaceK_hit _ _ _ _ (i + 1) hi2, replaceK_hit _ _ _ _ i hi]
        rfl
theorem replaceAll_esc (l : List UInt8) : replaceAll l [0] [0, 255] = esc l := by
  unfold replaceAll replace replaceNum
  rw [if_neg (by decide), if_pos (by omega)]
  exact replaceK_esc l
theorem esc_len (l : List UInt8) : (esc l).length = l.length + l.count 0 := by
  induction l with
  | nil => rfl
  | cons b l ih =>
    unfold esc
    by_cases h : b = 0
    · subst h; simp [ih]; omega
    · simp [h, ih]; omega
end Go.Proofs.YtjofjgjocgooeaaDoor
