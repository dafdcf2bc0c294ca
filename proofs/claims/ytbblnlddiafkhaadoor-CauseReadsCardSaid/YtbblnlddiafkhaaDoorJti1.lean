/- Events' names. Plain. -/
import Derived.Test.YtbblnlddiafkhaaDoorDig
set_option linter.unusedVariables false
namespace Go.Proofs.YtbblnlddiafkhaaDoor
open Go.Lib

/-- An event's name. -/
def jtiL (n m : Nat) : List UInt8 := 101 :: (decDigits n ++ 46 :: decDigits m)
def OwnN (n : Int) : Prop := 1 ≤ n ∧ n ≤ 1099511627776
def Fig (l : List UInt8) : Prop := ∀ c ∈ l, 49 ≤ c.toNat ∧ c.toNat ≤ 57
theorem digitVal_fig {c : UInt8} (h : 48 ≤ c.toNat ∧ c.toNat ≤ 57) : digitVal c = some (c.toNat - 48) := by
  unfold digitVal
  rw [if_pos h]
theorem decFrom_fig : ∀ (l : List UInt8) (acc : Nat), Fig l → ∃ v, decFrom acc l = some v ∧ v < (acc + 1) * 10 ^ l.length
  | [], acc, _ => ⟨acc, rfl, by simp⟩
  | b :: l, acc, h => by
    have hb := h b (by simp)
    obtain ⟨v, h1, h2⟩ := decFrom_fig l (acc * 10 + (b.toNat - 48)) (fun c hc => h c (by simp [hc]))
    refine ⟨v, ?_, ?_⟩
    · simp only [decFrom, digitVal_fig (show 48 ≤ b.toNat ∧ b.toNat ≤ 57 by omega)]
      exact h1
    · refine Nat.lt_of_lt_of_le h2 ?_
      rw [List.length_cons, Nat.pow_succ, Nat.mul_comm (10 ^ l.length) 10, ← Nat.mul_assoc]
      exact Nat.mul_le_mul_right _ (by omega)
theorem fig_num (a : List UInt8) (hf : Fig a) (hne : a ≠ []) (hl : a.length ≤ 11) : ∃ n : Nat, decDigits n = a ∧ 1 ≤ n ∧ n ≤ 1099511627776 := by
  obtain ⟨v, h1, h2⟩ := decFrom_fig a 0 hf
  have hh : a.head? ≠ some 48 := by
    cases a with
    | nil => exact absurd rfl hne
    | cons b r =>
      simp only [List.head?_cons, ne_eq, Option.some.injEq]
      rintro rfl
      have := (hf 48 (by simp)).1
      have e : (48 : UInt8).toNat = 48 := rfl
      omega
  obtain ⟨h3, h4⟩ := dec_of a.length a v rfl hne hh h1
  refine ⟨v, h3, h4, ?_⟩
  have h5 : (0 + 1) * 10 ^ a.length ≤ 10 ^ 11 := by
    rw [Nat.zero_add, Nat.one_mul]
    exact Nat.pow_le_pow_right (by decide) hl
  have : (10 : Nat) ^ 11 = 100000000000 := by decide
  omega
/-- What Atoi says of a number's digits. -/
theorem atoiAll_dec (n : Nat) (h : n ≤ 1099511627776) : atoiAll (decDigits n) = .ok (n : Int) := by
  have hl := dec_len n 13 (by decide) (by have : (10 : Nat) ^ 13 = 10000000000000 := by decide
                                          omega)
  rw [atoiAll_short _ (by omega), atoi_dec]
  rfl
/-- Figures about one dot are a name. -/
theorem jti_of (a b : List UInt8) (ha : Fig a) (hb : Fig b) (ha0 : a ≠ []) (hb0 : b ≠ []) (hl : a.length + b.length ≤ 12) :
    ∃ n m : Nat, 101 :: (a ++ 46 :: b) = jtiL n m ∧ OwnN n ∧ OwnN m := by
  have h1 : 1 ≤ a.length := List.length_pos_iff.2 ha0
  have h2 : 1 ≤ b.length := List.length_pos_iff.2 hb0
  obtain ⟨n, e1, n1, n2⟩ := fig_num a ha ha0 (by omega)
  obtain ⟨m, e2, m1, m2⟩ := fig_num b hb hb0 (by omega)
  refine ⟨n, m, ?_, ⟨by omega, by omega⟩, ⟨by omega, by omega⟩⟩
  unfold jtiL
  rw [e1, e2]
/-- Dots and figures, one of them a dot. -/
theorem dot_split : ∀ (t : List UInt8), (∀ c ∈ t, c = 46 ∨ (49 ≤ c.toNat ∧ c.toNat ≤ 57)) → t.count 46 = 1 → ∃ a b, t = a ++ 46 :: b ∧ Fig a ∧ Fig b
  | [], _, h => by simp at h
  | c :: t, hc, h => by
    by_cases e : c = 46
    · subst e
      refine ⟨[], t, rfl, (fun c hc => by simp at hc), fun d hd => ?_⟩
      rcases hc d (by simp [hd]) with e | e
      · exfalso
        subst e
        rw [List.count_cons_self] at h
        have := List.count_pos_iff.2 hd
        omega
      · exact e
    · rw [List.count_cons_of_ne e] at h
      obtain ⟨a, b, h1, h2, h3⟩ := dot_split t (fun d hd => hc d (by simp [hd])) h
      refine ⟨c :: a, b, by rw [h1]; rfl, fun d hd => ?_, h3⟩
      rcases List.mem_cons.1 hd with rfl | hd
      · rcases hc d (by simp) with e' | e'
        · exact absurd e' e
        · exact e'
      · exact h2 d hd
end Go.Proofs.YtbblnlddiafkhaaDoor
