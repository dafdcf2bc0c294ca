/- Numbers as decimal digits. Plain. -/
import Derived.Lib.ItoaNum
import Derived.Lib.AtoiTie
set_option linter.unusedVariables false
namespace Go.Proofs.YtbblnlddiafkhaaDoor
open Go.Lib

theorem digit_at : ∀ d : Fin 10, (UInt8.ofNat (48 + d.1)).toNat = 48 + d.1 := by decide
theorem digit_nat (d : Nat) (h : d < 10) : (UInt8.ofNat (48 + d)).toNat = 48 + d := digit_at ⟨d, h⟩
theorem digitVal_dig (d : Nat) (h : d < 10) : digitVal (UInt8.ofNat (48 + d)) = some d := by
  unfold digitVal
  rw [digit_nat d h, if_pos (by omega)]
  congr 1
  omega
theorem decFrom_snoc : ∀ (l : List UInt8) (acc : Nat) (d : UInt8), decFrom acc (l ++ [d]) = (decFrom acc l).bind fun v => (digitVal d).map fun k => v * 10 + k
  | [], acc, d => by
    simp only [List.nil_append, decFrom, Option.bind_some]
    cases digitVal d <;> rfl
  | b :: l, acc, d => by
    simp only [List.cons_append, decFrom]
    cases digitVal b with
    | none => rfl
    | some k => exact decFrom_snoc l _ d
theorem dec_small (u : Nat) (h : u < 10) : decDigits u = [UInt8.ofNat (48 + u)] := by rw [decDigits, dif_pos h]
theorem dec_big (u : Nat) (h : ¬ u < 10) : decDigits u = decDigits (u / 10) ++ [UInt8.ofNat (48 + u % 10)] := by rw [decDigits, dif_neg h]
theorem dec_all (u : Nat) : ∀ c ∈ decDigits u, 48 ≤ c.toNat ∧ c.toNat ≤ 57 := by
  induction u using Nat.strongRecOn with
  | _ u ih =>
    intro c hc
    by_cases h : u < 10
    · rw [dec_small u h] at hc
      simp only [List.mem_singleton] at hc
      rw [hc, digit_nat u h]
      omega
    · rw [dec_big u h] at hc
      rcases List.mem_append.1 hc with hc | hc
      · exact ih (u / 10) (by omega) c hc
      · simp only [List.mem_singleton] at hc
        rw [hc, digit_nat (u % 10) (by omega)]
        omega
theorem dec_ne (u : Nat) : decDigits u ≠ [] := by
  by_cases h : u < 10
  · rw [dec_small u h]; simp
  · rw [dec_big u h]; simp
theorem decFrom_dec (u : Nat) : decFrom 0 (decDigits u) = some u := by
  induction u using Nat.strongRecOn with
  | _ u ih =>
    by_cases h : u < 10
    · rw [dec_small u h]
      simp only [decFrom, digitVal_dig u h]
      congr 1
      omega
    · rw [dec_big u h, decFrom_snoc, ih (u / 10) (by omega), digitVal_dig (u % 10) (by omega)]
      simp only [Option.bind_some, Option.map_some]
      congr 1
      omega
theorem dec_inj {u v : Nat} (h : decDigits u = decDigits v) : u = v := by
  have h1 := decFrom_dec u
  rw [h, decFrom_dec v] at h1
  exact (Option.some.inj h1).symm
theorem dec_head (u : Nat) (h : 1 ≤ u) : (decDigits u).head? ≠ some 48 := by
  induction u using Nat.strongRecOn with
  | _ u ih =>
    by_cases h10 : u < 10
    · rw [dec_small u h10]
      simp only [List.head?_cons, ne_eq, Option.some.injEq]
      intro e
      have h1 := digit_nat u h10
      rw [e] at h1
      have : (48 : UInt8).toNat = 48 := rfl
      omega
    · rw [dec_big u h10]
      have hi := ih (u / 10) (by omega) (by omega)
      have hne := dec_ne (u / 10)
      cases hd : decDigits (u / 10) with
      | nil => exact absurd hd hne
      | cons a r =>
        rw [hd] at hi
        simpa using hi
theorem dec_len (u k : Nat) (hk : 1 ≤ k) (h : u < 10 ^ k) : (decDigits u).length ≤ k := by
  induction k generalizing u with
  | zero => omega
  | succ k ih =>
    by_cases h10 : u < 10
    · rw [dec_small u h10]; simp
    · rw [dec_big u h10, List.length_append]
      have hk1 : 1 ≤ k := by
        rcases Nat.eq_zero_or_pos k with e | e
        · subst e; omega
        · exact e
      have := ih (u / 10) hk1 (by rw [Nat.pow_succ] at h; omega)
      simp only [List.length_cons, List.length_nil]
      omega
theorem digitVal_back {c : UInt8} {d : Nat} (h : digitVal c = some d) : d < 10 ∧ c = UInt8.ofNat (48 + d) := by
  unfold digitVal at h
  split at h
  · rename_i hc
    simp only [Option.some.injEq] at h
    refine ⟨by omega, UInt8.toNat_inj.1 ?_⟩
    rw [digit_nat d (by omega)]
    omega
  · cases h
theorem decFrom_pos : ∀ (l : List UInt8) (acc v : Nat), 1 ≤ acc → decFrom acc l = some v → 1 ≤ v
  | [], acc, v, h, e => by simp only [decFrom, Option.some.injEq] at e; omega
  | b :: l, acc, v, h, e => by
    simp only [decFrom] at e
    cases hd : digitVal b with
    | none => rw [hd] at e; cases e
    | some d => rw [hd] at e; exact decFrom_pos l _ v (by omega) e
/-- A row of digits that doesn't begin with 0 is its number's. -/
theorem dec_of : ∀ (n : Nat) (l : List UInt8) (u : Nat), l.length = n → l ≠ [] → l.head? ≠ some 48 → decFrom 0 l = some u → decDigits u = l ∧ 1 ≤ u := by
  intro n
  induction n with
  | zero => intro l u h hne; exact absurd (List.eq_nil_of_length_eq_zero h) hne
  | succ n ih =>
    intro l u h hne hh hd
    obtain ⟨r, d, rfl⟩ : ∃ r d, l = r ++ [d] := ⟨l.dropLast, l.getLast hne, (List.dropLast_concat_getLast hne).symm⟩
    rw [decFrom_snoc] at hd
    cases hr : decFrom 0 r with
    | none => rw [hr] at hd; cases hd
    | some v =>
      rw [hr] at hd
      simp only [Option.bind_some, Option.map_eq_some_iff] at hd
      obtain ⟨k, hk, rfl⟩ := hd
      obtain ⟨hk10, rfl⟩ := digitVal_back hk
      by_cases hrn : r = []
      · subst hrn
        simp only [decFrom, Option.some.injEq] at hr
        subst hr
        have hk0 : k ≠ 0 := by
          intro e
          subst e
          exact hh rfl
        rw [dec_small _ (by omega)]
        exact ⟨by simp, by omega⟩
      · have hrh : r.head? ≠ some 48 := by
          cases r with
          | nil => exact absurd rfl hrn
          | cons a t => simpa using hh
        obtain ⟨h1, h2⟩ := ih r v (by simp at h; omega) hrn hrh hr
        rw [dec_big _ (by omega)]
        rw [show (v * 10 + k) / 10 = v by omega, show (v * 10 + k) % 10 = k by omega, h1]
        exact ⟨rfl, by omega⟩
theorem atoi_dec (u : Nat) : atoi (decDigits u) = some (u : Int) := by
  have ha := dec_all u
  have hf := decFrom_dec u
  cases h : decDigits u with
  | nil => exact absurd h (dec_ne u)
  | cons b r =>
    rw [h] at ha hf
    have hb := ha b (by simp)
    have e1 : (b == 45) = false := by
      rw [beq_eq_false_iff_ne]
      rintro rfl
      have : (45 : UInt8).toNat = 45 := rfl
      omega
    have e2 : (b == 43) = false := by
      rw [beq_eq_false_iff_ne]
      rintro rfl
      have : (43 : UInt8).toNat = 43 := rfl
      omega
    unfold atoi
    simp only [e1, e2]
    unfold decNat
    simp only [List.isEmpty_cons, Bool.false_eq_true, if_false]
    rw [hf]
    rfl
theorem dec_no (u : Nat) (c : UInt8) (h : c.toNat < 48 ∨ 57 < c.toNat) : c ∉ decDigits u := by
  intro hm
  have := dec_all u c hm
  omega
end Go.Proofs.YtbblnlddiafkhaaDoor
