/- The plain law of package b64: three bytes are four letters. -/
import Derived.Test.YtgmieceebchmfaaDoorB64p
set_option linter.unusedVariables false
namespace Go.Proofs.YtgmieceebchmfaaDoor

/-- Three bytes at a time. -/
def enc3 : List UInt8 → List UInt8
  | x :: y :: z :: t =>
    lt64 (x.toNat / 4) :: lt64 (x.toNat % 4 * 16 + y.toNat / 16) :: lt64 (y.toNat % 16 * 4 + z.toNat / 64) :: lt64 (z.toNat % 64) :: enc3 t
  | [x, y] => [lt64 (x.toNat / 4), lt64 (x.toNat % 4 * 16 + y.toNat / 16), lt64 (y.toNat % 16 * 4)]
  | [x] => [lt64 (x.toNat / 4), lt64 (x.toNat % 4 * 16)]
  | [] => []

theorem step_a (o : List UInt8) (x : UInt8) : encStep (o, 0, 0) x = (o ++ [lt64 (x.toNat / 4)], x.toNat % 4, 2) := by
  simp [encStep, pop6]
theorem step_b (o : List UInt8) (r : Nat) (y : UInt8) (hr : r < 4) : encStep (o, r, 2) y = (o ++ [lt64 (r * 16 + y.toNat / 16)], y.toNat % 16, 4) := by
  have hy := y.toNat_lt
  have e1 : (r * 256 + y.toNat) / 16 = r * 16 + y.toNat / 16 := by omega
  have e2 : (r * 256 + y.toNat) % 16 = y.toNat % 16 := by omega
  simp [encStep, pop6, e1, e2]
theorem step_c (o : List UInt8) (r : Nat) (z : UInt8) (hr : r < 16) : encStep (o, r, 4) z = (o ++ [lt64 (r * 4 + z.toNat / 64), lt64 (z.toNat % 64)], 0, 0) := by
  have hz := z.toNat_lt
  have e1 : (r * 256 + z.toNat) / 64 = r * 4 + z.toNat / 64 := by omega
  have e2 : (r * 256 + z.toNat) % 64 = z.toNat % 64 := by omega
  simp [encStep, pop6, e1, e2, Nat.mod_one]

theorem foldl_enc3 : ∀ (l o : List UInt8), encEnd (l.foldl encStep (o, 0, 0)) = o ++ enc3 l
  | [], o => by simp [encEnd, enc3]
  | [x], o => by simp [step_a, encEnd, enc3]
  | [x, y], o => by
    have := step_b (o ++ [lt64 (x.toNat / 4)]) (x.toNat % 4) y (by omega)
    simp [step_a, this, encEnd, enc3]
  | x :: y :: z :: t, o => by
    have h1 := step_b (o ++ [lt64 (x.toNat / 4)]) (x.toNat % 4) y (by omega)
    have h2 := step_c (o ++ [lt64 (x.toNat / 4)] ++ [lt64 (x.toNat % 4 * 16 + y.toNat / 16)]) (y.toNat % 16) z (by omega)
    rw [List.foldl_cons, List.foldl_cons, List.foldl_cons, step_a, h1, h2, foldl_enc3 t]
    simp [enc3]

theorem enc_eq (l : List UInt8) : enc l = enc3 l := by simpa [enc, encAll] using foldl_enc3 l []

theorem enc3_app : ∀ (a b : List UInt8), a.length % 3 = 0 → enc3 (a ++ b) = enc3 a ++ enc3 b
  | [], b, _ => by simp [enc3]
  | [x], b, h => by simp at h
  | [x, y], b, h => by simp at h
  | x :: y :: z :: t, b, h => by
    simp only [List.cons_append, enc3]
    rw [enc3_app t b (by simp only [List.length_cons] at h; omega)]

theorem enc_app (a b : List UInt8) (h : a.length % 3 = 0) : enc (a ++ b) = enc a ++ enc b := by
  rw [enc_eq, enc_eq, enc_eq, enc3_app a b h]

theorem enc3_len : ∀ l : List UInt8, (enc3 l).length = (l.length * 8 + 5) / 6
  | [] => by simp [enc3]
  | [x] => by simp [enc3]
  | [x, y] => by simp [enc3]
  | x :: y :: z :: t => by
    simp only [enc3, List.length_cons, enc3_len t]
    omega
theorem enc_len (l : List UInt8) : (enc l).length = (l.length * 8 + 5) / 6 := by rw [enc_eq]; exact enc3_len l

/-- The four letters of a number of 24 bits. -/
def four (n : Nat) : List Nat := [n / 262144, n / 4096 % 64, n / 64 % 64, n % 64]
def fourL (n : Nat) : List UInt8 := (four n).map lt64
theorem four_lt (n : Nat) (h : n < 16777216) (j : Nat) (hj : j < 4) : ((four n)[j]'hj) < 64 := by
  match j, hj with
  | 0, _ => show n / 262144 < 64; omega
  | 1, _ => show n / 4096 % 64 < 64; omega
  | 2, _ => show n / 64 % 64 < 64; omega
  | 3, _ => show n % 64 < 64; omega

/-- Behind the first test: the number so far, and how many letters. -/
def G1 (l : List UInt8) (i n k : Nat) : Prop :=
  (∃ (h : i + 1 < l.length), n = (l[i]).toNat * 65536 + (l[i + 1]).toNat * 256 ∧ k = 3) ∨ (∃ (h : i + 1 = l.length), n = (l[i]).toNat * 65536 ∧ k = 2)
/-- Behind the second one: the letters that are told, and what is left. -/
def G2 (l : List UInt8) (i n k : Nat) : Prop := n < 16777216 ∧ 2 ≤ k ∧ k ≤ 4 ∧ (i + 3 ≤ l.length + 2) ∧ enc3 (l.drop i) = (fourL n).take k ++ enc3 (l.drop (i + 3))

theorem drop1 (l : List UInt8) (i : Nat) (h : i < l.length) : l.drop i = l[i] :: l.drop (i + 1) := List.drop_eq_getElem_cons h

theorem G2_of3 (l : List UInt8) (i n : Nat) (h : i + 2 < l.length) (hn : n = (l[i]).toNat * 65536 + (l[i + 1]).toNat * 256 + (l[i + 2]).toNat) : G2 l i n 4 := by
  have h0 := (l[i]).toNat_lt
  have h1 := (l[i + 1]).toNat_lt
  have h2 := (l[i + 2]).toNat_lt
  refine ⟨by omega, by omega, by omega, by omega, ?_⟩
  rw [drop1 l i (by omega), drop1 l (i + 1) (by omega), drop1 l (i + 2) h]
  have e1 : n / 262144 = (l[i]).toNat / 4 := by omega
  have e2 : n / 4096 % 64 = (l[i]).toNat % 4 * 16 + (l[i + 1]).toNat / 16 := by omega
  have e3 : n / 64 % 64 = (l[i + 1]).toNat % 16 * 4 + (l[i + 2]).toNat / 64 := by omega
  have e4 : n % 64 = (l[i + 2]).toNat % 64 := by omega
  simp [enc3, fourL, four, e1, e2, e3, e4]
theorem G2_of2 (l : List UInt8) (i n : Nat) (h : i + 2 = l.length) (hn : n = (l[i]).toNat * 65536 + (l[i + 1]).toNat * 256) : G2 l i n 3 := by
  have h0 := (l[i]).toNat_lt
  have h1 := (l[i + 1]).toNat_lt
  refine ⟨by omega, by omega, by omega, by omega, ?_⟩
  rw [drop1 l i (by omega), drop1 l (i + 1) (by omega), List.drop_eq_nil_of_le (show l.length ≤ i + 1 + 1 by omega), List.drop_eq_nil_of_le (show l.length ≤ i + 3 by omega)]
  have e1 : n / 262144 = (l[i]).toNat / 4 := by omega
  have e2 : n / 4096 % 64 = (l[i]).toNat % 4 * 16 + (l[i + 1]).toNat / 16 := by omega
  have e3 : n / 64 % 64 = (l[i + 1]).toNat % 16 * 4 := by omega
  simp [enc3, fourL, four, e1, e2, e3]
theorem G2_of1 (l : List UInt8) (i n : Nat) (h : i + 1 = l.length) (hn : n = (l[i]).toNat * 65536) : G2 l i n 2 := by
  have h0 := (l[i]).toNat_lt
  refine ⟨by omega, by omega, by omega, by omega, ?_⟩
  rw [drop1 l i (by omega), List.drop_eq_nil_of_le (show l.length ≤ i + 1 by omega), List.drop_eq_nil_of_le (show l.length ≤ i + 3 by omega)]
  have e1 : n / 262144 = (l[i]).toNat / 4 := by omega
  have e2 : n / 4096 % 64 = (l[i]).toNat % 4 * 16 := by omega
  simp [enc3, fourL, four, e1, e2]
end Go.Proofs.YtgmieceebchmfaaDoor
