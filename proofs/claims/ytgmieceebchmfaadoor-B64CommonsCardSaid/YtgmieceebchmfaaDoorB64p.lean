/- The plain side of package b64: bytes as letters, by an accumulator of bits. -/
namespace Go.Proofs.YtgmieceebchmfaaDoor

/-- The letters. -/
def alpha : List UInt8 := [65, 66, 67, 68, 69, 70, 71, 72, 73, 74, 75, 76, 77, 78, 79, 80, 81, 82, 83, 84, 85, 86, 87, 88, 89, 90, 97, 98, 99, 100, 101, 102, 103, 104, 105, 106, 107, 108, 109, 110, 111, 112, 113, 114, 115, 116, 117, 118, 119, 120, 121, 122, 48, 49, 50, 51, 52, 53, 54, 55, 56, 57, 45, 95]
def lt64 (n : Nat) : UInt8 := alpha.getD n 0

/-- As many letters as there are bits for. -/
def pop6 : Nat → List UInt8 → Nat → Nat → List UInt8 × Nat × Nat
  | 0, o, r, c => (o, r, c)
  | k + 1, o, r, c => if c < 6 then (o, r, c) else pop6 k (o ++ [lt64 (r / 2 ^ (c - 6))]) (r % 2 ^ (c - 6)) (c - 6)
def encStep (s : List UInt8 × Nat × Nat) (x : UInt8) : List UInt8 × Nat × Nat := pop6 3 s.1 (s.2.1 * 2 ^ 8 + x.toNat) (s.2.2 + 8)
def encAll (l : List UInt8) : List UInt8 × Nat × Nat := l.foldl encStep ([], 0, 0)
def encEnd (s : List UInt8 × Nat × Nat) : List UInt8 := if s.2.2 = 0 then s.1 else s.1 ++ [lt64 (s.2.1 * 2 ^ (6 - s.2.2))]
def enc (l : List UInt8) : List UInt8 := encEnd (encAll l)

/-- Fewer than six bits are left over, and the number is of so many. -/
def Acc (s : List UInt8 × Nat × Nat) : Prop := s.2.2 < 6 ∧ s.2.1 < 2 ^ s.2.2

theorem pop6_acc (k : Nat) : ∀ (o : List UInt8) (r c : Nat), c < 6 + 6 * k → r < 2 ^ c → Acc (pop6 k o r c) := by
  induction k with
  | zero => intro o r c h hr; exact ⟨by simpa [pop6] using h, by simpa [pop6] using hr⟩
  | succ k ih =>
    intro o r c h hr
    unfold pop6
    split
    · exact ⟨by assumption, hr⟩
    · exact ih _ _ _ (by omega) (Nat.mod_lt _ (Nat.two_pow_pos _))

theorem encStep_acc (s : List UInt8 × Nat × Nat) (x : UInt8) (h : Acc s) : Acc (encStep s x) := by
  obtain ⟨h1, h2⟩ := h
  refine pop6_acc 3 _ _ _ (by omega) ?_
  have hx : x.toNat < 2 ^ 8 := x.toNat_lt
  calc s.2.1 * 2 ^ 8 + x.toNat < s.2.1 * 2 ^ 8 + 2 ^ 8 := by omega
    _ = (s.2.1 + 1) * 2 ^ 8 := by omega
    _ ≤ 2 ^ s.2.2 * 2 ^ 8 := Nat.mul_le_mul_right _ h2
    _ = 2 ^ (s.2.2 + 8) := by rw [Nat.pow_add]

theorem foldl_acc (l : List UInt8) : ∀ s, Acc s → Acc (l.foldl encStep s) := by
  induction l with
  | nil => intro s h; exact h
  | cons x l ih => intro s h; exact ih _ (encStep_acc s x h)
theorem encAll_acc (l : List UInt8) : Acc (encAll l) := foldl_acc l _ ⟨by decide, by decide⟩

theorem encAll_snoc (l : List UInt8) (x : UInt8) : encAll (l ++ [x]) = encStep (encAll l) x := by simp [encAll]

theorem take_snoc8 (l : List UInt8) (k : Nat) (h : k < l.length) : l.take (k + 1) = l.take k ++ [l[k]] := by
  rw [List.take_succ_eq_append_getElem h]

theorem pop6_len (k : Nat) : ∀ (o : List UInt8) (r c : Nat), (pop6 k o r c).1.length ≤ o.length + k := by
  induction k with
  | zero => intro o r c; simp [pop6]
  | succ k ih =>
    intro o r c
    unfold pop6
    split
    · simp
    · have := ih (o ++ [lt64 (r / 2 ^ (c - 6))]) (r % 2 ^ (c - 6)) (c - 6); simp at this; omega
theorem foldl_len (l : List UInt8) : ∀ s, (l.foldl encStep s).1.length ≤ s.1.length + 3 * l.length := by
  induction l with
  | nil => intro s; simp
  | cons x l ih =>
    intro s
    have h1 := ih (encStep s x)
    have h2 := pop6_len 3 s.1 (s.2.1 * 2 ^ 8 + x.toNat) (s.2.2 + 8)
    simp only [List.foldl_cons, List.length_cons]
    unfold encStep at h1 ⊢
    omega
theorem encAll_len (l : List UInt8) : (encAll l).1.length ≤ 3 * l.length := by have := foldl_len l ([], 0, 0); simpa [encAll] using this
end Go.Proofs.YtgmieceebchmfaaDoor
