/- The plain side of package sha: a message's sum. -/
import Derived.Test.YtbblnlddiafkhaaDoorShaP
set_option linter.unusedVariables false
namespace Go.Proofs.YtbblnlddiafkhaaDoor

/-- What a hash begins with. -/
def iv : List Nat := [0x6a09e667, 0xbb67ae85, 0x3c6ef372, 0xa54ff53a, 0x510e527f, 0x9b05688c, 0x1f83d9ab, 0x5be0cd19]
theorem iv_st8 : St8 iv := ⟨rfl, by decide⟩
/-- Behind k blocks. -/
def stOf (m : List UInt8) : Nat → List Nat
  | 0 => iv
  | k + 1 => comp (stOf m k) (m.drop (64 * k))
theorem stOf_st8 (m : List UInt8) (k : Nat) : St8 (stOf m k) := by
  induction k with
  | zero => exact iv_st8
  | succ k ih => exact comp_st8 ih _
/-- A number in eight bytes. -/
def be64 (n : Nat) : List UInt8 := [UInt8.ofNat (n / 2 ^ 56), UInt8.ofNat (n / 2 ^ 48), UInt8.ofNat (n / 2 ^ 40), UInt8.ofNat (n / 2 ^ 32), UInt8.ofNat (n / 2 ^ 24), UInt8.ofNat (n / 2 ^ 16), UInt8.ofNat (n / 2 ^ 8), UInt8.ofNat n]
/-- So many noughts. -/
def zer (n : Nat) : Nat := (119 - n % 64) % 64
def padT (n : Nat) : List UInt8 := [0x80] ++ List.replicate (zer n) 0 ++ be64 (n * 8)
def padded (m : List UInt8) : List UInt8 := m ++ padT m.length
/-- A number's four bytes. -/
def be32 (x : Nat) : List UInt8 := [UInt8.ofNat (x / 16777216), UInt8.ofNat (x / 65536), UInt8.ofNat (x / 256), UInt8.ofNat x]
def outB (st : List Nat) : List UInt8 := st.flatMap be32
def sha (m : List UInt8) : List UInt8 := outB (stOf (padded m) ((padded m).length / 64))

theorem padT_len (n : Nat) : (padT n).length = 1 + zer n + 8 := by simp [padT, be64]; omega
theorem padded_len (m : List UInt8) : (padded m).length % 64 = 0 := by
  simp only [padded, List.length_append, padT_len, zer]; omega
theorem padded_le (m : List UInt8) : (padded m).length ≤ m.length + 72 := by
  simp only [padded, List.length_append, padT_len, zer]; omega
theorem padded_gt (m : List UInt8) : m.length < (padded m).length := by
  simp only [padded, List.length_append, padT_len, zer]; omega

theorem schedU_congr (b c : List UInt8) (h : ∀ i, i < 64 → b.getD i 0 = c.getD i 0) (t : Nat) : schedU b t = schedU c t := by
  induction t with
  | zero => rfl
  | succ t ih =>
    have hn : nextW b (schedU c t) = nextW c (schedU c t) := by
      unfold nextW
      split
      · rename_i hlt
        rw [schedU_len] at hlt
        rw [schedU_len]
        unfold word
        rw [h (4 * t) (by omega), h (4 * t + 1) (by omega), h (4 * t + 2) (by omega), h (4 * t + 3) (by omega)]
      · rfl
    unfold schedU
    rw [ih, hn]
theorem comp_congr (s : List Nat) (b c : List UInt8) (h : ∀ i, i < 64 → b.getD i 0 = c.getD i 0) : comp s b = comp s c := by
  unfold comp; rw [schedU_congr b c h]
theorem stOf_app (m x : List UInt8) (k : Nat) (h : 64 * k ≤ m.length) : stOf (m ++ x) k = stOf m k := by
  induction k with
  | zero => rfl
  | succ k ih =>
    simp only [stOf]
    rw [ih (by omega)]
    apply comp_congr
    intro i hi
    simp only [List.getD_eq_getElem?_getD, List.getElem?_drop]
    rw [List.getElem?_append_left (by omega)]
theorem padded_drop (m : List UInt8) : (padded m).drop (64 * (m.length / 64)) = m.drop (64 * (m.length / 64)) ++ padT m.length := by
  unfold padded
  rw [List.drop_append_of_le_length (by omega)]
theorem padded_st (m : List UInt8) : stOf (padded m) (m.length / 64) = stOf m (m.length / 64) := stOf_app _ _ _ (by omega)
theorem outB_len (st : List Nat) : (outB st).length = 4 * st.length := by
  unfold outB
  induction st with
  | nil => rfl
  | cons x s ih => simp [be32, ih]; omega
theorem sha_len (m : List UInt8) : (sha m).length = 32 := by
  unfold sha
  rw [outB_len, (stOf_st8 _ _).1]
theorem sha_abc : sha [0x61, 0x62, 0x63] = [0xba, 0x78, 0x16, 0xbf, 0x8f, 0x01, 0xcf, 0xea, 0x41, 0x41, 0x40, 0xde, 0x5d, 0xae, 0x22, 0x23, 0xb0, 0x03, 0x61, 0xa3, 0x96, 0x17, 0x7a, 0x9c, 0xb4, 0x10, 0xff, 0x61, 0xf2, 0x00, 0x15, 0xad] := by decide +kernel
end Go.Proofs.YtbblnlddiafkhaaDoor
