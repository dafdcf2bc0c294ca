/- Keys of several parts: their bytes, and their order. Plain lists, no program. -/
import Derived.Lib.Bytealg
set_option linter.unusedVariables false
namespace Go.Proofs.YtjofjgjocgooeaaDoor
open Go.Lib

/-- A part of a key: a number, or a text. -/
structure TP where
  isNum : Bool
  num : Int
  text : List UInt8
deriving DecidableEq
def esc : List UInt8 → List UInt8
  | [] => []
  | b :: r => if b = 0 then 0 :: 255 :: esc r else b :: esc r
/-- A number's last k bytes, the greatest first. -/
def beN : Nat → Nat → List UInt8
  | 0, _ => []
  | k + 1, n => UInt8.ofNat (n / 256 ^ k % 256) :: beN k n
def turnN (x : Int) : Nat := (x + 9223372036854775808).toNat
def pb (p : TP) : List UInt8 := if p.isNum then 2 :: beN 8 (turnN p.num) else 1 :: (esc p.text ++ [0, 0])
def keyB (l : List TP) : List UInt8 := l.flatMap pb
/-- A part that a number of 64 bits may be. -/
def TP.ok (p : TP) : Prop := -9223372036854775808 ≤ p.num ∧ p.num < 9223372036854775808
def cmpI (x y : Int) : Int := if x < y then -1 else if y < x then 1 else 0
def cmpP (p q : TP) : Int := if p.isNum && q.isNum then cmpI p.num q.num else if p.isNum then 1 else if q.isNum then -1 else compareBytes p.text q.text
def cmpK : List TP → List TP → Int
  | [], [] => 0
  | [], _ :: _ => -1
  | _ :: _, [] => 1
  | p :: a, q :: b => if cmpP p q = 0 then cmpK a b else cmpP p q

theorem cmp_same (b : UInt8) (r s : List UInt8) : compareBytes (b :: r) (b :: s) = compareBytes r s := by
  conv => lhs; unfold compareBytes
  simp only [UInt8.lt_irrefl, if_false]
theorem cmp_lt {a b : UInt8} (r s : List UInt8) (h : a < b) : compareBytes (a :: r) (b :: s) = -1 := by
  unfold compareBytes
  rw [if_pos h]
theorem cmp_gt {a b : UInt8} (r s : List UInt8) (h : b < a) : compareBytes (a :: r) (b :: s) = 1 := by
  unfold compareBytes
  rw [if_neg (fun h' => by
    rw [UInt8.lt_iff_toNat_lt] at h h'
    omega), if_pos h]
theorem cmp_pre (l r s : List UInt8) : compareBytes (l ++ r) (l ++ s) = compareBytes r s := by
  induction l with
  | nil => rfl
  | cons b l ih => rw [List.cons_append, List.cons_append, cmp_same, ih]

theorem byte_pos {b : UInt8} (h : b ≠ 0) : (0 : UInt8) < b := by
  rw [UInt8.lt_iff_toNat_lt]
  have : b.toNat ≠ 0 := fun e => h (UInt8.toNat_inj.1 e)
  show 0 < b.toNat
  omega
/-- Two texts' parts. -/
theorem cmp_esc : ∀ (t u r s : List UInt8), compareBytes (esc t ++ ([0, 0] ++ r)) (esc u ++ ([0, 0] ++ s)) = if compareBytes t u = 0 then compareBytes r s else compareBytes t u
  | [], [], r, s => by
    show compareBytes (0 :: 0 :: r) (0 :: 0 :: s) = _
    rw [cmp_same, cmp_same]
    rfl
  | [], b :: u, r, s => by
    show compareBytes (0 :: 0 :: r) (esc (b :: u) ++ _) = if (-1 : Int) = 0 then _ else -1
    rw [if_neg (by decide)]
    unfold esc
    by_cases hb : b = 0
    · rw [if_pos hb]
      show compareBytes (0 :: 0 :: r) (0 :: 255 :: _) = _
      rw [cmp_same, cmp_lt _ _ (by decide)]
    · rw [if_neg hb]
      exact cmp_lt _ _ (byte_pos hb)
  | b :: t, [], r, s => by
    show compareBytes (esc (b :: t) ++ _) (0 :: 0 :: s) = if (1 : Int) = 0 then _ else 1
    rw [if_neg (by decide)]
    unfold esc
    by_cases hb : b = 0
    · rw [if_pos hb]
      show compareBytes (0 :: 255 :: _) (0 :: 0 :: s) = _
      rw [cmp_same, cmp_gt _ _ (by decide)]
    · rw [if_neg hb]
      exact cmp_gt _ _ (byte_pos hb)
  | a :: t, b :: u, r, s => by
    have ih := cmp_esc t u r s
    by_cases hab : a = b
    · subst hab
      rw [cmp_same]
      unfold esc
      by_cases ha : a = 0
      · rw [if_pos ha, if_pos ha]
        simp only [List.cons_append]
        rw [cmp_same, cmp_same]
        exact ih
      · rw [if_neg ha, if_neg ha]
        simp only [List.cons_append]
        rw [cmp_same]
        exact ih
    · have hne : a.toNat ≠ b.toNat := fun e => hab (UInt8.toNat_inj.1 e)
      have hh : ∃ x y, esc (a :: t) = a :: x ∧ esc (b :: u) = b :: y := by
        unfold esc
        by_cases ha : a = 0 <;> by_cases hb : b = 0
        · exact absurd (ha.trans hb.symm) hab
        · rw [if_pos ha, if_neg hb, ha]; exact ⟨_, _, rfl, rfl⟩
        · rw [if_neg ha, if_pos hb, hb]; exact ⟨_, _, rfl, rfl⟩
        · rw [if_neg ha, if_neg hb]; exact ⟨_, _, rfl, rfl⟩
      obtain ⟨x, y, hx, hy⟩ := hh
      rw [hx, hy, List.cons_append (a := a), List.cons_append (a := b)]
      by_cases hlt : a < b
      · rw [cmp_lt _ _ hlt, cmp_lt _ _ hlt]; rfl
      · have hgt : b < a := by rw [UInt8.lt_iff_toNat_lt] at hlt ⊢; omega
        rw [cmp_gt _ _ hgt, cmp_gt _ _ hgt]; rfl

/-- Numbers' bytes. -/
theorem beN_len : ∀ (k n : Nat), (beN k n).length = k
  | 0, _ => rfl
  | k + 1, n => by unfold beN; rw [List.length_cons, beN_len k n]
theorem beN_mod : ∀ (k n : Nat), beN k n = beN k (n % 256 ^ k)
  | 0, _ => rfl
  | k + 1, n => by
    have h1 : n % 256 ^ (k + 1) % 256 ^ k = n % 256 ^ k := Nat.mod_mod_of_dvd _ ⟨256, by rw [Nat.pow_succ]⟩
    unfold beN
    rw [beN_mod k n, beN_mod k (n % 256 ^ (k + 1)), h1]
    congr 2
    rw [Nat.pow_succ, Nat.mod_mul_right_div_self, Nat.mod_mod]
theorem cmp_beN : ∀ (k n m : Nat) (r s : List UInt8), n < 256 ^ k → m < 256 ^ k → compareBytes (beN k n ++ r) (beN k m ++ s) = if n < m then -1 else if m < n then 1 else compareBytes r s
  | 0, n, m, r, s, hn, hm => by
    have : n = 0 := by simp at hn; omega
    have : m = 0 := by simp at hm; omega
    subst n m
    rfl
  | k + 1, n, m, r, s, hn, hm => by
    have hp : 0 < 256 ^ k := Nat.pow_pos (by decide)
    have hn1 : n / 256 ^ k < 256 := by rw [Nat.div_lt_iff_lt_mul hp]; rw [Nat.pow_succ, Nat.mul_comm] at hn; exact hn
    have hm1 : m / 256 ^ k < 256 := by rw [Nat.div_lt_iff_lt_mul hp]; rw [Nat.pow_succ, Nat.mul_comm] at hm; exact hm
    have ih := cmp_beN k (n % 256 ^ k) (m % 256 ^ k) r s (Nat.mod_lt _ hp) (Nat.mod_lt _ hp)
    have en := Nat.div_add_mod n (256 ^ k)
    have em := Nat.div_add_mod m (256 ^ k)
    have ln := Nat.mod_lt n hp
    have lm := Nat.mod_lt m hp
    unfold beN
    rw [List.cons_append, List.cons_append, beN_mod k n, beN_mod k m]
    generalize n / 256 ^ k = A at *
    generalize m / 256 ^ k = B at *
    generalize n % 256 ^ k = C at *
    generalize m % 256 ^ k = D at *
    have eA : (UInt8.ofNat (A % 256)).toNat = A := by rw [UInt8.toNat_ofNat']; omega
    have eB : (UInt8.ofNat (B % 256)).toNat = B := by rw [UInt8.toNat_ofNat']; omega
    rcases Nat.lt_trichotomy A B with h | h | h
    · rw [cmp_lt _ _ (by rw [UInt8.lt_iff_toNat_lt, eA, eB]; exact h), if_pos]
      have := Nat.mul_le_mul_left (256 ^ k) (Nat.succ_le_of_lt h)
      rw [Nat.mul_succ] at this
      omega
    · subst h
      rw [cmp_same, ih]
      by_cases h1 : C < D
      · rw [if_pos h1, if_pos (show n < m by omega)]
      · rw [if_neg h1, if_neg (show ¬ n < m by omega)]
        by_cases h2 : D < C
        · rw [if_pos h2, if_pos (show m < n by omega)]
        · rw [if_neg h2, if_neg (show ¬ m < n by omega)]
    · have := Nat.mul_le_mul_left (256 ^ k) (Nat.succ_le_of_lt h)
      rw [Nat.mul_succ] at this
      rw [cmp_gt _ _ (by rw [UInt8.lt_iff_toNat_lt, eA, eB]; exact h), if_neg (by omega), if_pos (by omega)]

/-- Two parts' bytes, whatever stands behind them. -/
theorem cmp_pb (p q : TP) (r s : List UInt8) (hp : p.ok) (hq : q.ok) : compareBytes (pb p ++ r) (pb q ++ s) = if cmpP p q = 0 then compareBytes r s else cmpP p q := by
  obtain ⟨a, x, t⟩ := p
  obtain ⟨b, y, u⟩ := q
  obtain ⟨hp1, hp2⟩ := hp
  obtain ⟨hq1, hq2⟩ := hq
  simp only at hp1 hp2 hq1 hq2
  cases a <;> cases b
  · show compareBytes (1 :: (esc t ++ [0, 0]) ++ r) (1 :: (esc u ++ [0, 0]) ++ s) = if compareBytes t u = 0 then _ else compareBytes t u
    rw [List.cons_append, List.cons_append, cmp_same, List.append_assoc, List.append_assoc, cmp_esc]
  · exact cmp_lt _ _ (by decide)
  · exact cmp_gt _ _ (by decide)
  · show compareBytes (2 :: beN 8 (turnN x) ++ r) (2 :: beN 8 (turnN y) ++ s) = if cmpI x y = 0 then _ else cmpI x y
    rw [List.cons_append, List.cons_append, cmp_same, cmp_beN 8 _ _ _ _ (by unfold turnN; omega) (by unfold turnN; omega)]
    unfold cmpI turnN
    by_cases h1 : x < y
    · rw [if_pos h1, if_pos (by omega)]; rfl
    · rw [if_neg h1, if_neg (by omega)]
      by_cases h2 : y < x
      · rw [if_pos h2, if_pos (by omega)]; rfl
      · rw [if_neg h2, if_neg (by omega), if_pos rfl]
theorem pb_cons (p : TP) : ∃ b r, pb p = b :: r := by
  unfold pb
  split
  · exact ⟨_, _, rfl⟩
  · exact ⟨_, _, rfl⟩
/-- Keys are in the order of their bytes. -/
theorem cmp_keyB : ∀ (a b : List TP), (∀ p ∈ a, p.ok) → (∀ p ∈ b, p.ok) → compareBytes (keyB a) (keyB b) = cmpK a b
  | [], [], _, _ => rfl
  | [], q :: b, _, _ => by
    obtain ⟨x, r, h⟩ := pb_cons q
    show compareBytes [] (pb q ++ keyB b) = -1
    rw [h]; rfl
  | p :: a, [], _, _ => by
    obtain ⟨x, r, h⟩ := pb_cons p
    show compareBytes (pb p ++ keyB a) [] = 1
    rw [h]; rfl
  | p :: a, q :: b, ha, hb => by
    show compareBytes (pb p ++ keyB a) (pb q ++ keyB b) = if cmpP p q = 0 then cmpK a b else cmpP p q
    rw [cmp_pb p q _ _ (ha p (by simp)) (hb q (by simp)), cmp_keyB a b (fun x hx => ha x (by simp [hx])) (fun x hx => hb x (by simp [hx]))]
end Go.Proofs.YtjofjgjocgooeaaDoor
