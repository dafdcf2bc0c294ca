/- Texts that are told: UTF-8, by plain lists. No program. -/
import Derived.Lib.Bytealg
set_option linter.unusedVariables false
namespace Go.Proofs.YtgmieceebchmfaaDoor

/-- Is the byte at a place from one to another one? -/
def inB (s : List UInt8) (i lo hi : Nat) : Bool := decide (i < s.length) && (decide (lo ≤ (s.getD i 0).toNat) && decide ((s.getD i 0).toNat ≤ hi))
def lo3 (c : Nat) : Nat := if c = 224 then 160 else 128
def hi3 (c : Nat) : Nat := if c = 237 then 159 else 191
def lo4 (c : Nat) : Nat := if c = 240 then 144 else 128
def hi4 (c : Nat) : Nat := if c = 244 then 143 else 191
def chrC (c : Nat) (s : List UInt8) : Nat :=
  if c < 128 then 1
  else if c < 194 then 0
  else if c < 224 then (if inB s 1 128 191 then 2 else 0)
  else if c < 240 then (if inB s 1 (lo3 c) (hi3 c) && inB s 2 128 191 then 3 else 0)
  else if c < 245 then (if inB s 1 (lo4 c) (hi4 c) && inB s 2 128 191 && inB s 3 128 191 then 4 else 0)
  else 0
/-- How many bytes the character has with which a text begins; 0: none does. -/
def chr (s : List UInt8) : Nat := chrC (s.getD 0 0).toNat s
theorem getD_drop (s : List UInt8) (a i : Nat) : (s.drop a).getD i 0 = s.getD (a + i) 0 := by
  simp [List.getD_eq_getElem?_getD]
theorem inB_drop (s : List UInt8) (a i lo hi : Nat) : inB (s.drop a) i lo hi = inB s (a + i) lo hi := by
  unfold inB
  rw [getD_drop, List.length_drop]
  congr 1
  rw [Bool.eq_iff_iff]
  simp only [decide_eq_true_eq]
  omega
/-- The spans that must stand behind a first byte. -/
def behindL (c : Nat) : Option (List (Nat × Nat)) :=
  if c < 128 then some []
  else if c < 194 then none
  else if c < 224 then some [(128, 191)]
  else if c = 224 then some [(160, 191), (128, 191)]
  else if c = 237 then some [(128, 159), (128, 191)]
  else if c < 240 then some [(128, 191), (128, 191)]
  else if c = 240 then some [(144, 191), (128, 191), (128, 191)]
  else if c < 244 then some [(128, 191), (128, 191), (128, 191)]
  else if c = 244 then some [(128, 143), (128, 191), (128, 191)]
  else none
def hasB (p : Nat × Nat) (c : Nat) : Bool := decide (p.1 ≤ c) && decide (c ≤ p.2)
def spansOK : List (Nat × Nat) → List UInt8 → Bool
  | [], _ => true
  | _ :: _, [] => false
  | p :: l, c :: r => hasB p c.toNat && spansOK l r
theorem spansOK_short : ∀ (l : List (Nat × Nat)) (r : List UInt8), r.length < l.length → spansOK l r = false
  | [], _, h => by simp at h
  | _ :: _, [], _ => rfl
  | p :: l, c :: r, h => by
    unfold spansOK
    rw [spansOK_short l r (by simpa using h), Bool.and_false]
theorem inB_0 (c : UInt8) (r : List UInt8) (lo hi : Nat) : inB (c :: r) 0 lo hi = hasB (lo, hi) c.toNat := by
  simp [inB, hasB]
theorem inB_nil (i lo hi : Nat) : inB [] i lo hi = false := by simp [inB]
theorem inB_succ (c : UInt8) (r : List UInt8) (i lo hi : Nat) : inB (c :: r) (i + 1) lo hi = inB r i lo hi := by
  simp [inB]
theorem spansOK_in : ∀ (p : Nat × Nat) (l : List (Nat × Nat)) (r : List UInt8), spansOK (p :: l) r = (inB r 0 p.1 p.2 && spansOK l (r.drop 1))
  | p, l, [] => by simp [spansOK, inB]
  | p, l, c :: r => by rw [inB_0]; rfl
theorem spans1 (r : List UInt8) (a b : Nat) : spansOK [(a, b)] r = inB r 0 a b := by
  rw [spansOK_in]; simp [spansOK]
theorem spans2 (r : List UInt8) (a b c d : Nat) : spansOK [(a, b), (c, d)] r = (inB r 0 a b && inB r 1 c d) := by
  rw [spansOK_in, spans1, inB_drop]
theorem spans3 (r : List UInt8) (a b c d e f : Nat) : spansOK [(a, b), (c, d), (e, f)] r = (inB r 0 a b && inB r 1 c d && inB r 2 e f) := by
  rw [spansOK_in, spans2, inB_drop, inB_drop, Bool.and_assoc]
theorem chr_spans (s : List UInt8) : chr s = match behindL (s.getD 0 0).toNat with
    | none => 0
    | some l => if spansOK l (s.drop 1) then 1 + l.length else 0 := by
  unfold chr
  generalize (s.getD 0 0).toNat = c
  unfold chrC behindL
  have e1 : ∀ i lo hi, inB (s.drop 1) i lo hi = inB s (1 + i) lo hi := fun i lo hi => inB_drop s 1 i lo hi
  by_cases h1 : c < 128
  · rw [if_pos h1, if_pos h1]; rfl
  rw [if_neg h1, if_neg h1]
  by_cases h2 : c < 194
  · rw [if_pos h2, if_pos h2]
  rw [if_neg h2, if_neg h2]
  by_cases h3 : c < 224
  · rw [if_pos h3, if_pos h3]
    simp only [spans1, e1]
    rfl
  rw [if_neg h3, if_neg h3]
  by_cases h4 : c = 224
  · subst h4
    rw [if_pos (show (224 : Nat) < 240 by decide), if_pos (rfl : (224 : Nat) = 224)]
    simp only [spans2, e1]
    rfl
  rw [if_neg h4]
  by_cases h5 : c = 237
  · subst h5
    rw [if_pos (show (237 : Nat) < 240 by decide), if_pos (rfl : (237 : Nat) = 237)]
    simp only [spans2, e1]
    rfl
  rw [if_neg h5]
  by_cases h6 : c < 240
  · rw [if_pos h6, if_pos h6]
    simp only [spans2, e1, lo3, hi3, if_neg h4, if_neg h5]
    rfl
  rw [if_neg h6, if_neg h6]
  by_cases h7 : c = 240
  · subst h7
    rw [if_pos (show (240 : Nat) < 245 by decide), if_pos (rfl : (240 : Nat) = 240)]
    simp only [spans3, e1]
    rfl
  rw [if_neg h7]
  by_cases h8 : c < 244
  · rw [if_pos h8, if_pos (by omega)]
    simp only [spans3, e1, lo4, hi4, if_neg h7, if_neg (show ¬ c = 244 by omega)]
    rfl
  rw [if_neg h8]
  by_cases h9 : c = 244
  · subst h9
    rw [if_pos (show (244 : Nat) < 245 by decide), if_pos (rfl : (244 : Nat) = 244)]
    simp only [spans3, e1]
    rfl
  rw [if_neg h9, if_neg (by omega)]
theorem chr_le (s : List UInt8) : chr s ≤ 4 := by
  unfold chr chrC
  repeat' split
  all_goals omega
theorem chr_len (s : List UInt8) (h : s ≠ []) : chr s ≤ s.length := by
  have hl : 1 ≤ s.length := by cases s with | nil => exact absurd rfl h | cons => simp
  have hin : ∀ i lo hi, inB s i lo hi = true → i < s.length := by
    intro i lo hi hh
    unfold inB at hh
    simp only [Bool.and_eq_true, decide_eq_true_eq] at hh
    exact hh.1
  unfold chr chrC
  split
  · exact hl
  · split
    · omega
    · split
      · split
        · rename_i h; have := hin _ _ _ h; omega
        · omega
      · split
        · split
          · rename_i h; simp only [Bool.and_eq_true] at h; have := hin _ _ _ h.2; omega
          · omega
        · split
          · split
            · rename_i h; simp only [Bool.and_eq_true] at h; have := hin _ _ _ h.2; omega
            · omega
          · omega
/-- Where a text isn't told. -/
def wrongN : Nat → List UInt8 → Option Nat
  | _, [] => none
  | 0, _ :: _ => none
  | n + 1, b :: r => if chr (b :: r) = 0 then some 0 else (wrongN n ((b :: r).drop (chr (b :: r)))).map (· + chr (b :: r))
def wrongL (s : List UInt8) : Option Nat := wrongN s.length s
theorem wrongN_any : ∀ (n m : Nat) (s : List UInt8), s.length ≤ n → s.length ≤ m → wrongN n s = wrongN m s
  | n, m, [], _, _ => by cases n <;> cases m <;> rfl
  | 0, m, _ :: _, h, _ => by simp at h
  | n + 1, 0, _ :: _, _, h => by simp at h
  | n + 1, m + 1, b :: r, h1, h2 => by
    unfold wrongN
    by_cases hc : chr (b :: r) = 0
    · rw [if_pos hc, if_pos hc]
    · rw [if_neg hc, if_neg hc, wrongN_any n m _ (by rw [List.length_drop]; simp at h1 ⊢; omega) (by rw [List.length_drop]; simp at h2 ⊢; omega)]
theorem wrongL_nil : wrongL [] = none := rfl
theorem wrongL_cons (b : UInt8) (r : List UInt8) : wrongL (b :: r) = if chr (b :: r) = 0 then some 0 else (wrongL ((b :: r).drop (chr (b :: r)))).map (· + chr (b :: r)) := by
  unfold wrongL
  rw [List.length_cons]
  conv => lhs; unfold wrongN
  by_cases hc : chr (b :: r) = 0
  · rw [if_pos hc, if_pos hc]
  · rw [if_neg hc, if_neg hc, wrongN_any r.length _ _ (by rw [List.length_drop]; simp; omega) (Nat.le_refl _)]
theorem wrongL_ne (s : List UInt8) (h : s ≠ []) : wrongL s = if chr s = 0 then some 0 else (wrongL (s.drop (chr s))).map (· + chr s) := by
  cases s with
  | nil => exact absurd rfl h
  | cons b r => exact wrongL_cons b r
/-- .. as a number: -1, if it is told. -/
def wrongI (s : List UInt8) : Int := match wrongL s with
  | some n => n
  | none => -1
def toldB (s : List UInt8) : Bool := (wrongL s).isNone
theorem wrongI_neg (s : List UInt8) : decide (wrongI s < 0) = toldB s := by
  unfold wrongI toldB
  cases wrongL s with
  | none => rfl
  | some n => simp
end Go.Proofs.YtgmieceebchmfaaDoor
