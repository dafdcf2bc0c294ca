/- The least text behind all that begin so. Plain lists, no program. -/
import Derived.Test.YtjofjgjocgooeaaDoorTupP
import GoSem.Op.String
set_option linter.unusedVariables false
namespace Go.Proofs.YtjofjgjocgooeaaDoor
open Go.Lib Go.Op

/-- x is the least text behind all that begin as m. -/
def IsNext (m x : List UInt8) : Prop := (∃ k, m = List.replicate k 255 ∧ x = []) ∨ ∃ p c k, m = p ++ c :: List.replicate k 255 ∧ c ≠ 255 ∧ x = p ++ [c + 1]

theorem less_nil (s : List UInt8) : bytesLess s [] = false := by cases s <;> rfl
theorem less_cons (a b : UInt8) (x y : List UInt8) : bytesLess (a :: x) (b :: y) = (decide (a < b) || (a == b && bytesLess x y)) := rfl
theorem less_self (s : List UInt8) : bytesLess s s = false := by
  induction s with
  | nil => rfl
  | cons a s ih => rw [less_cons, ih]; simp [UInt8.lt_irrefl]
theorem pre_ff : ∀ (k : Nat) (s : List UInt8), (List.replicate k (255 : UInt8)).isPrefixOf s = !(bytesLess s (List.replicate k 255))
  | 0, s => by simp [less_nil]
  | k + 1, [] => rfl
  | k + 1, d :: s => by
    have ih := pre_ff k s
    rw [List.replicate_succ, List.isPrefixOf, less_cons, ih]
    by_cases h : d = 255
    · subst h
      simp [UInt8.lt_irrefl]
    · have h1 : d.toNat < 255 := by
        have h2 : d.toNat ≠ 255 := fun e => h (UInt8.toNat_inj.1 e)
        have := UInt8.toNat_lt d
        omega
      have h3 : d < 255 := by rw [UInt8.lt_iff_toNat_lt]; exact h1
      have h4 : (255 == d) = false := by simp only [beq_eq_false_iff_ne, ne_eq]; exact fun e => h e.symm
      simp [h3, h4]
theorem pre_next : ∀ (p : List UInt8) (c : UInt8) (k : Nat) (s : List UInt8), c ≠ 255 →
    (p ++ c :: List.replicate k 255).isPrefixOf s = (!(bytesLess s (p ++ c :: List.replicate k 255)) && bytesLess s (p ++ [c + 1]))
  | [], c, k, [], hc => rfl
  | b :: p, c, k, [], hc => rfl
  | [], c, k, d :: s, hc => by
    have ih := pre_ff k s
    simp only [List.nil_append, List.isPrefixOf, less_cons, ih, less_nil, Bool.and_false, Bool.or_false]
    have hc1 : (c + 1).toNat = c.toNat + 1 := by
      have h2 : c.toNat ≠ 255 := fun e => hc (UInt8.toNat_inj.1 e)
      have := UInt8.toNat_lt c
      rw [UInt8.toNat_add]
      show (c.toNat + 1) % 256 = _
      omega
    rcases Nat.lt_trichotomy d.toNat c.toNat with h | h | h
    · have h1 : d < c := by rw [UInt8.lt_iff_toNat_lt]; exact h
      have h2 : (c == d) = false := by simp only [beq_eq_false_iff_ne, ne_eq]; rintro rfl; omega
      simp [h1, h2]
    · obtain rfl := UInt8.toNat_inj.1 h
      have h3 : d < d + 1 := by rw [UInt8.lt_iff_toNat_lt, hc1]; omega
      simp [h3, UInt8.lt_irrefl]
    · have h1 : ¬ d < c + 1 := by rw [UInt8.lt_iff_toNat_lt, hc1]; omega
      have h2 : (c == d) = false := by simp only [beq_eq_false_iff_ne, ne_eq]; rintro rfl; omega
      simp [h1, h2]
  | b :: p, c, k, d :: s, hc => by
    have ih := pre_next p c k s hc
    simp only [List.cons_append, List.isPrefixOf, less_cons, ih]
    rcases Nat.lt_trichotomy d.toNat b.toNat with h | h | h
    · have h1 : d < b := by rw [UInt8.lt_iff_toNat_lt]; exact h
      have h2 : (b == d) = false := by simp only [beq_eq_false_iff_ne, ne_eq]; rintro rfl; omega
      simp [h1, h2]
    · obtain rfl := UInt8.toNat_inj.1 h
      simp [UInt8.lt_irrefl]
    · have h1 : ¬ d < b := by rw [UInt8.lt_iff_toNat_lt]; omega
      have h2 : (b == d) = false := by simp only [beq_eq_false_iff_ne, ne_eq]; rintro rfl; omega
      have h3 : (d == b) = false := by simp only [beq_eq_false_iff_ne, ne_eq]; rintro rfl; omega
      simp [h1, h2, h3]
/-- A text begins as m just if it lies from m on, ahead of the next. -/
theorem next_law {m x : List UInt8} (h : IsNext m x) (s : List UInt8) : m.isPrefixOf s = (!(bytesLess s m) && (x == [] || bytesLess s x)) := by
  rcases h with ⟨k, rfl, rfl⟩ | ⟨p, c, k, rfl, hc, rfl⟩
  · rw [pre_ff]; simp
  · rw [pre_next p c k s hc]
    have : (p ++ [c + 1] == []) = false := by cases p <;> rfl
    rw [this, Bool.false_or]
theorem less_next : ∀ (p : List UInt8) (c : UInt8) (r : List UInt8), c ≠ 255 → bytesLess (p ++ [c + 1]) (p ++ c :: r) = false ∧ (p ++ [c + 1] == p ++ c :: r) = false
  | [], c, r, hc => by
    have hc1 : (c + 1).toNat = c.toNat + 1 := by
      have h2 : c.toNat ≠ 255 := fun e => hc (UInt8.toNat_inj.1 e)
      have := UInt8.toNat_lt c
      rw [UInt8.toNat_add]
      show (c.toNat + 1) % 256 = _
      omega
    have h1 : ¬ c + 1 < c := by rw [UInt8.lt_iff_toNat_lt, hc1]; omega
    have h2 : (c + 1 == c) = false := by simp only [beq_eq_false_iff_ne, ne_eq]; intro e; have := congrArg UInt8.toNat e; omega
    refine ⟨?_, ?_⟩
    · rw [List.nil_append, List.nil_append, less_cons, h2]; simp [h1]
    · show ((c + 1 == c) && ([] == r)) = false
      rw [h2]; rfl
  | b :: p, c, r, hc => by
    obtain ⟨h1, h2⟩ := less_next p c r hc
    refine ⟨?_, ?_⟩
    · rw [List.cons_append, List.cons_append, less_cons, h1]; simp [UInt8.lt_irrefl]
    · show ((b == b) && (p ++ [c + 1] == p ++ c :: r)) = false
      rw [h2, Bool.and_false]
theorem next_more {m x : List UInt8} (h : IsNext m x) : (x == [] || !(bytesLess x m || x == m)) = true := by
  rcases h with ⟨k, rfl, rfl⟩ | ⟨p, c, k, rfl, hc, rfl⟩
  · rfl
  · obtain ⟨h1, h2⟩ := less_next p c (List.replicate k 255) hc
    rw [h1, h2]
    simp
/-- .. and it is found so: the first n bytes, of which the last is no 255, and 255s behind them. -/
theorem isNext_of {m : List UInt8} {n : Nat} (hn : n ≤ m.length) (hff : ∀ i (h : i < m.length), n ≤ i → m[i] = 255) (hlast : n = 0 ∨ ∃ h : n - 1 < m.length, 0 < n ∧ m[n - 1] ≠ 255) (x : List UInt8)
    (hx : x = if n = 0 then [] else m.take (n - 1) ++ [m.getD (n - 1) 0 + 1]) : IsNext m x := by
  have hrep : m.drop n = List.replicate (m.length - n) 255 := by
    apply List.ext_getElem
    · simp
    · intro i h1 h2
      simp only [List.getElem_drop, List.getElem_replicate]
      exact hff _ _ (by omega)
  rcases hlast with rfl | ⟨h, h0, hne⟩
  · rw [List.drop_zero] at hrep
    exact .inl ⟨m.length - 0, hrep, by rw [hx, if_pos rfl]⟩
  · refine .inr ⟨m.take (n - 1), m[n - 1], m.length - n, ?_, hne, ?_⟩
    · rw [← hrep]
      have e : m.drop (n - 1) = m[n - 1] :: m.drop (n - 1 + 1) := List.drop_eq_getElem_cons h
      rw [show n - 1 + 1 = n by omega] at e
      rw [← e, List.take_append_drop]
    · rw [hx, if_neg (by omega)]
      simp [List.getD_eq_getElem?_getD, List.getElem?_eq_getElem h]
end Go.Proofs.YtjofjgjocgooeaaDoor
