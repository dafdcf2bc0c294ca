/- A key's bytes begin with another one's just if its parts do. Plain lists, no program. -/
import Derived.Test.YtjofjgjocgooeaaDoorTupP
set_option linter.unusedVariables false
namespace Go.Proofs.YtjofjgjocgooeaaDoor
open Go.Lib

theorem cmp_self (l : List UInt8) : compareBytes l l = 0 := by
  have := cmp_pre l [] []
  simpa [compareBytes] using this
theorem cmp_zero : ∀ {a b : List UInt8}, compareBytes a b = 0 → a = b
  | [], [], _ => rfl
  | [], _ :: _, h => by simp [compareBytes] at h
  | _ :: _, [], h => by simp [compareBytes] at h
  | x :: a, y :: b, h => by
    unfold compareBytes at h
    by_cases h1 : x < y
    · rw [if_pos h1] at h; omega
    · rw [if_neg h1] at h
      by_cases h2 : y < x
      · rw [if_pos h2] at h; omega
      · rw [if_neg h2] at h
        have e : x = y := by
          rw [UInt8.lt_iff_toNat_lt] at h1 h2
          exact UInt8.toNat_inj.1 (by omega)
        rw [e, cmp_zero h]
theorem pb_same {p q : TP} (h : cmpP p q = 0) : pb p = pb q := by
  obtain ⟨a, x, t⟩ := p
  obtain ⟨b, y, u⟩ := q
  cases a <;> cases b
  · have : compareBytes t u = 0 := h
    rw [show t = u from cmp_zero this]; rfl
  · exact absurd h (by show ¬ (-1 : Int) = 0; decide)
  · exact absurd h (by show ¬ (1 : Int) = 0; decide)
  · have h' : cmpI x y = 0 := h
    unfold cmpI at h'
    have : x = y := by
      by_cases h1 : x < y
      · rw [if_pos h1] at h'; omega
      · rw [if_neg h1] at h'
        by_cases h2 : y < x
        · rw [if_pos h2] at h'; omega
        · omega
    rw [this]; rfl
theorem pre_append (l r s : List UInt8) : (l ++ r).isPrefixOf (l ++ s) = r.isPrefixOf s := by
  induction l with
  | nil => rfl
  | cons b l ih => simp [ih]
theorem pre_unlike {p q : TP} (r s : List UInt8) (hp : p.ok) (hq : q.ok) (h : cmpP p q ≠ 0) : (pb q ++ s).isPrefixOf (pb p ++ r) = false := by
  cases e : (pb q ++ s).isPrefixOf (pb p ++ r) with
  | false => rfl
  | true =>
    obtain ⟨t, ht⟩ := List.isPrefixOf_iff_prefix.1 e
    have h1 := cmp_pb p q r (s ++ t) hp hq
    rw [if_neg h, ← ht, List.append_assoc, cmp_self] at h1
    exact absurd h1.symm h
/-- The law. -/
theorem begins_law : ∀ (a b : List TP), (∀ p ∈ a, p.ok) → (∀ p ∈ b, p.ok) → (keyB b).isPrefixOf (keyB a) = (decide (b.length ≤ a.length) && cmpK (a.take b.length) b == 0)
  | a, [], _, _ => by simp [keyB, cmpK]
  | [], q :: b, _, _ => by
    obtain ⟨x, r, h⟩ := pb_cons q
    show (pb q ++ keyB b).isPrefixOf [] = _
    rw [h]; simp
  | p :: a, q :: b, ha, hb => by
    have ih := begins_law a b (fun x hx => ha x (by simp [hx])) (fun x hx => hb x (by simp [hx]))
    show (pb q ++ keyB b).isPrefixOf (pb p ++ keyB a) = (decide (b.length + 1 ≤ a.length + 1) && (if cmpP p q = 0 then cmpK (a.take b.length) b else cmpP p q) == 0)
    by_cases h : cmpP p q = 0
    · rw [if_pos h, pb_same h, pre_append, ih]
      simp
    · rw [if_neg h, pre_unlike _ _ (ha p (by simp)) (hb q (by simp)) h]
      simp [h]
end Go.Proofs.YtjofjgjocgooeaaDoor
