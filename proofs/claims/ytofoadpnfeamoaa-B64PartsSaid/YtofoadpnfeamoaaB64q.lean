/- The plain law of package b64: three bytes are four letters. -/
import Derived.Test.YtofoadpnfeamoaaB64p
set_option linter.unusedVariables false
namespace Go.Proofs.Ytofoadpnfeamoaa

/-- Three bytes at a time. -/
def enc3 : List UInt8 → List UInt8
  | x :: y :: z :: t =>
    lt64 (x.toNat / 4) :: lt64 (x.toNat % 4 * 16 + y.toNat / 16) :: lt64 (y.toNat % 16 * 4 + z.toNat / 64) :: lt64 (z.toNat % 64) :: enc3 t
  | [x, y] => [lt64 (x.toNat / 4), lt64 (x.toNat % 4 * 16 + y.toNat / 16), lt64 (y.toNat % 16 * 4)]
  | [x] => [lt64 (x.toNat / 4), lt64 (x.toNat % 4 * 16)]
  | [] => []

theorem step_a (o : List UInt8) (x : UInt8) : encStep (o, 0, 0) x = (o ++ [lt64 (x.toNat / 4)], x.toNat % 4, 2) := by
  simp [encStep, pop6]
theorem step_b (o : List UInt8) (r : Nat) (y : UInt8) (hr : r < 4) : encStep (o, r, 2) y = (o ++ [lt64 (r * 16 + y.toNat / 16)], y.toNat % 16, 4) := by
  have hy := y.toNat_lt
  have e1 : (r * 256 + y.toNat) / 16 = r * 16 + y.toNat / 16 := by omega
  have e2 : (r * 256 + y.toNat) % 16 = y.toNat % 16 := by omega
  simp [encStep, pop6, e1, e2]
theorem step_c (o : List UInt8) (r : Nat) (z : UInt8) (hr : r < 16) : encStep (o, r, 4) z = (o ++ [lt64 (r * 4 + z.toNat / 64), lt64 (z.toNat % 64)], 0, 0) := by
  have hz := z.toNat_lt
  have e1 : (r * 256 + z.toNat) / 64 = r * 4 + z.toNat / 64 := by omega
  have e2 : (r * 256 + z.toNat) % 64 = z.toNat % 64 := by omega
  simp [encStep, pop6, e1, e2, Nat.mod_one]

theorem foldl_enc3 : ∀ (l o : List UInt8), encEnd (l.foldl encStep (o, 0, 0)) = o ++ enc3 l
  | [], o => by simp [encEnd, enc3]
  | [x], o => by simp [step_a, encEnd, enc3]
  | [x, y], o => by
    have := step_b (o ++ [lt64 (x.toNat / 4)]) (x.toNat % 4) y (by omega)
    simp [step_a, this, encEnd, enc3]
  | x :: y :: z :: t, o => by
    have h1 := step_b (o ++ [lt64 (x.toNat / 4)]) (x.toNat % 4) y (by omega)
    have h2 := step_c (o ++ [lt64 (x.toNat / 4)] ++ [lt64 (x.toNat % 4 * 16 + y.toNat / 16)]) (y.toNat % 16) z (by omega)
    rw [List.foldl_cons, List.foldl_cons, List.foldl_cons, step_a, h1, h2, foldl_enc3 t]
    simp [enc3]

theorem enc_eq (l : List UInt8) : enc l = enc3 l := by simpa [enc, encAll] using foldl_enc3 l []

theorem enc3_app : ∀ (a b : List UInt8), a.length % 3 = 0 → enc3 (a ++ b) = enc3 a ++ enc3 b
  | [], b, _ => by simp [enc3]
  | [x], b, h => by simp at h
  | [x, y], b, h => by simp at h
  | x :: y :: z :: t, b, h => by
    simp only [List.cons_append, enc3]
    rw [enc3_app t b (by simp only [List.length_cons] at h; omega)]

theorem enc_app (a b : List UInt8) (h : a.length % 3 = 0) : enc (a ++ b) = enc a ++ enc b := by
  rw [enc_eq, enc_eq, enc_eq, enc3_app a b h]

theorem enc3_len : ∀ l : List UInt8, (enc3 l).length = (l.length * 8 + 5) / 6
  | [] => by simp [enc3]
  | [x] => by simp [enc3]
  | [x, y] => by simp [enc3]
  | x :: y :: z :: t => by
    simp only [enc3, List.length_cons, enc3_len t]
    omega
theorem enc_len (l : List UInt8) : (enc l).length = (l.length * 8 + 5) / 6 := by rw [enc_eq]; exact enc3_len l
end Go.Proofs.Ytofoadpnfeamoaa
