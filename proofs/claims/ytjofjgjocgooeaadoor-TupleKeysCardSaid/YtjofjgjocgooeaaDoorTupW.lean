/- Keys read back. Plain lists, no program. -/
import Derived.Test.YtjofjgjocgooeaaDoorTupP
set_option linter.unusedVariables false
namespace Go.Proofs.YtjofjgjocgooeaaDoor
open Go.Lib

/-- A text's part behind its first byte: the text, and what stands behind. -/
def wordsL : List UInt8 → Option (List UInt8 × List UInt8)
  | b :: c :: r => if b = 0 then (if c = 0 then some ([], r) else if c = 255 then (wordsL r).map fun x => (0 :: x.1, x.2) else none) else (wordsL (c :: r)).map fun x => (b :: x.1, x.2)
  | _ => none
theorem wordsL_esc : ∀ (t r : List UInt8), wordsL (esc t ++ 0 :: 0 :: r) = some (t, r)
  | [], r => rfl
  | b :: t, r => by
    have ih := wordsL_esc t r
    unfold esc
    by_cases hb : b = 0
    · subst hb
      rw [if_pos rfl]
      show wordsL (0 :: 255 :: (esc t ++ 0 :: 0 :: r)) = _
      unfold wordsL
      rw [if_pos rfl, if_neg (by decide), if_pos rfl, ih]
      rfl
    · rw [if_neg hb]
      have hne : ∃ c q, esc t ++ 0 :: 0 :: r = c :: q := by
        cases e : esc t ++ 0 :: 0 :: r with
        | nil => simp at e
        | cons c q => exact ⟨c, q, rfl⟩
      obtain ⟨c, q, e⟩ := hne
      rw [List.cons_append, e]
      unfold wordsL
      rw [if_neg hb, ← e, ih]
      rfl
theorem wordsL_some : ∀ (n : Nat) (s : List UInt8) (t r : List UInt8), s.length ≤ n → wordsL s = some (t, r) → s = esc t ++ 0 :: 0 :: r
  | 0, [], t, r, _, h => by simp [wordsL] at h
  | 0, _ :: _, t, r, hn, h => by simp at hn
  | n + 1, [], t, r, _, h => by simp [wordsL] at h
  | n + 1, [b], t, r, _, h => by simp [wordsL] at h
  | n + 1, b :: c :: q, t, r, hn, h => by
    unfold wordsL at h
    by_cases hb : b = 0
    · subst hb
      rw [if_pos rfl] at h
      by_cases hc : c = 0
      · subst hc
        rw [if_pos rfl] at h
        simp only [Option.some.injEq, Prod.mk.injEq] at h
        obtain ⟨rfl, rfl⟩ := h
        rfl
      · rw [if_neg hc] at h
        by_cases hc2 : c = 255
        · subst hc2
          rw [if_pos rfl] at h
          cases hq : wordsL q with
          | none => rw [hq] at h; cases h
          | some x =>
            rw [hq] at h
            simp only [Option.map_some, Option.some.injEq, Prod.mk.injEq] at h
            obtain ⟨rfl, rfl⟩ := h
            have := wordsL_some n q x.1 x.2 (by simp at hn; omega) hq
            conv => lhs; rw [this]
            conv => rhs; unfold esc
            rw [if_pos rfl]
            rfl
        · rw [if_neg hc2] at h; cases h
    · rw [if_neg hb] at h
      cases hq : wordsL (c :: q) with
      | none => rw [hq] at h; cases h
      | some x =>
        rw [hq] at h
        simp only [Option.map_some, Option.some.injEq, Prod.mk.injEq] at h
        obtain ⟨rfl, rfl⟩ := h
        have := wordsL_some n (c :: q) x.1 x.2 (by simp at hn ⊢; omega) hq
        conv => lhs; rw [this]
        conv => rhs; unfold esc
        rw [if_neg hb]
        rfl

/-- The number of bytes, the greatest first. -/
def fromBE (l : List UInt8) : Nat := l.foldl (fun n b => n * 256 + b.toNat) 0
theorem fromBE_snoc (l : List UInt8) (b : UInt8) : fromBE (l ++ [b]) = fromBE l * 256 + b.toNat := by simp [fromBE]
theorem fold_beN : ∀ (k n m : Nat), (beN k n).foldl (fun n b => n * 256 + b.toNat) m = m * 256 ^ k + n % 256 ^ k
  | 0, n, m => by simp [beN, Nat.mod_one]
  | k + 1, n, m => by
    have ih := fold_beN k n (m * 256 + (UInt8.ofNat (n / 256 ^ k % 256)).toNat)
    unfold beN
    rw [List.foldl_cons, ih]
    have e : (UInt8.ofNat (n / 256 ^ k % 256)).toNat = n / 256 ^ k % 256 := by rw [UInt8.toNat_ofNat']; omega
    rw [e, Nat.add_mul, Nat.pow_succ, Nat.mod_mul, Nat.mul_assoc, Nat.mul_comm 256 (256 ^ k), Nat.add_assoc, Nat.mul_comm (n / 256 ^ k % 256) (256 ^ k), Nat.add_comm (256 ^ k * _)]
theorem fromBE_beN (k n : Nat) (h : n < 256 ^ k) : fromBE (beN k n) = n := by
  unfold fromBE
  rw [fold_beN, Nat.mod_eq_of_lt h]
  omega
theorem fromBE_lt : ∀ (l : List UInt8), fromBE l < 256 ^ l.length := by
  have go : ∀ (l : List UInt8) (m : Nat), l.foldl (fun n b => n * 256 + b.toNat) m < (m + 1) * 256 ^ l.length := by
    intro l
    induction l with
    | nil => intro m; simp
    | cons b l ih =>
      intro m
      have h1 := ih (m * 256 + b.toNat)
      have h2 := UInt8.toNat_lt b
      rw [List.foldl_cons, List.length_cons, Nat.pow_succ]
      refine Nat.lt_of_lt_of_le h1 ?_
      rw [Nat.mul_comm (256 ^ l.length), ← Nat.mul_assoc]
      exact Nat.mul_le_mul_right _ (by omega)
  intro l
  have := go l 0
  simpa [fromBE] using this
theorem beN_cons (k m c q : Nat) (hc : c < 256 ^ k) (hq : q < 256) (hm : m = q * 256 ^ k + c) : beN (k + 1) m = UInt8.ofNat q :: beN k c := by
  have hp : 0 < 256 ^ k := Nat.pow_pos (by decide)
  have h1 : m / 256 ^ k = q := by rw [hm, Nat.mul_comm, Nat.mul_add_div hp, Nat.div_eq_of_lt hc]; omega
  have h2 : m % 256 ^ k = c := by rw [hm, Nat.mul_comm, Nat.mul_add_mod, Nat.mod_eq_of_lt hc]
  conv => lhs; unfold beN
  rw [h1, beN_mod k m, h2, Nat.mod_eq_of_lt hq]
theorem fromBE_cons (b : UInt8) (l : List UInt8) : fromBE (b :: l) = b.toNat * 256 ^ l.length + fromBE l := by
  have go : ∀ (l : List UInt8) (m : Nat), l.foldl (fun n b => n * 256 + b.toNat) m = m * 256 ^ l.length + fromBE l := by
    intro l
    induction l with
    | nil => intro m; simp [fromBE]
    | cons b l ih =>
      intro m
      have h0 := ih b.toNat
      rw [List.foldl_cons, ih, List.length_cons, Nat.pow_succ]
      show _ = _ + List.foldl _ 0 (b :: l)
      rw [List.foldl_cons, Nat.zero_mul, Nat.zero_add, h0, Nat.add_mul, Nat.mul_comm (256 ^ l.length) 256, ← Nat.mul_assoc, Nat.add_assoc]
  show List.foldl _ 0 (b :: l) = _
  rw [List.foldl_cons, Nat.zero_mul, Nat.zero_add, go]
theorem beN_fromBE : ∀ (l : List UInt8), beN l.length (fromBE l) = l
  | [] => rfl
  | b :: l => by
    rw [List.length_cons, beN_cons l.length (fromBE (b :: l)) (fromBE l) b.toNat (fromBE_lt l) (UInt8.toNat_lt b) (fromBE_cons b l), beN_fromBE l]
    simp

/-- A number's part behind its first byte. -/
def figuresL (s : List UInt8) : Option (Int × List UInt8) := if s.length < 8 then none else some ((fromBE (s.take 8) : Int) - 9223372036854775808, s.drop 8)
theorem figuresL_be (x : Int) (r : List UInt8) (h1 : -9223372036854775808 ≤ x) (h2 : x < 9223372036854775808) : figuresL (beN 8 (turnN x) ++ r) = some (x, r) := by
  unfold figuresL
  have hl := beN_len 8 (turnN x)
  rw [if_neg (by rw [List.length_append]; omega), List.take_append_of_le_length (by omega), List.drop_append_of_le_length (by omega), List.take_of_length_le (by omega), List.drop_of_length_le (by omega), fromBE_beN 8 _ (by unfold turnN; omega)]
  simp only [List.nil_append, Option.some.injEq, Prod.mk.injEq, and_true]
  unfold turnN
  omega
theorem figuresL_some {s : List UInt8} {x : Int} {r : List UInt8} (h : figuresL s = some (x, r)) : s = beN 8 (turnN x) ++ r ∧ -9223372036854775808 ≤ x ∧ x < 9223372036854775808 := by
  unfold figuresL at h
  by_cases hl : s.length < 8
  · rw [if_pos hl] at h; cases h
  · rw [if_neg hl] at h
    simp only [Option.some.injEq, Prod.mk.injEq] at h
    obtain ⟨h1, rfl⟩ := h
    have ht : (s.take 8).length = 8 := by rw [List.length_take]; omega
    have hlt := fromBE_lt (s.take 8)
    rw [ht] at hlt
    have hb := beN_fromBE (s.take 8)
    rw [ht] at hb
    have hlt' : fromBE (s.take 8) < 18446744073709551616 := hlt
    have e : turnN x = fromBE (s.take 8) := by unfold turnN; omega
    rw [e, hb]
    exact ⟨(List.take_append_drop 8 s).symm, by omega, by omega⟩

/-- A part without what plays no part. -/
def cleanP (p : TP) : TP := if p.isNum then ⟨true, p.num, []⟩ else ⟨false, 0, p.text⟩
theorem pb_clean (p : TP) : pb (cleanP p) = pb p := by
  unfold cleanP
  split
  · rename_i h; unfold pb; rw [if_pos h]; rfl
  · rename_i h; unfold pb; rw [if_neg h]; rfl
/-- One part, and what stands behind it. -/
def oneL (b : UInt8) (r : List UInt8) : Option (TP × List UInt8) :=
  if b = 2 then (figuresL r).map fun x => (⟨true, x.1, []⟩, x.2) else if b = 1 then (wordsL r).map fun x => (⟨false, 0, x.1⟩, x.2) else none
theorem wordsL_len : ∀ (n : Nat) (s t r : List UInt8), s.length ≤ n → wordsL s = some (t, r) → r.length < s.length := by
  intro n s t r hn h
  have := wordsL_some n s t r hn h
  rw [this]
  simp
  omega
theorem oneL_len {b : UInt8} {s r : List UInt8} {p : TP} (h : oneL b s = some (p, r)) : r.length < (b :: s).length := by
  unfold oneL at h
  split at h
  · cases hf : figuresL s with
    | none => rw [hf] at h; cases h
    | some x =>
      rw [hf] at h
      simp only [Option.map_some, Option.some.injEq, Prod.mk.injEq] at h
      obtain ⟨_, rfl⟩ := h
      have := (figuresL_some (x := x.1) (r := x.2) hf).1
      rw [this]
      simp
      omega
  · split at h
    · cases hf : wordsL s with
      | none => rw [hf] at h; cases h
      | some x =>
        rw [hf] at h
        simp only [Option.map_some, Option.some.injEq, Prod.mk.injEq] at h
        obtain ⟨_, rfl⟩ := h
        have := wordsL_len _ s x.1 x.2 (Nat.le_refl _) hf
        simp
        omega
    · cases h
theorem oneL_pb (p : TP) (hp : p.ok) (r : List UInt8) : ∃ b q, pb p ++ r = b :: q ∧ oneL b q = some (cleanP p, r) := by
  unfold pb cleanP
  split
  · refine ⟨2, beN 8 (turnN p.num) ++ r, rfl, ?_⟩
    unfold oneL
    rw [if_pos rfl, figuresL_be p.num r hp.1 hp.2]
    rfl
  · refine ⟨1, esc p.text ++ 0 :: 0 :: r, by simp, ?_⟩
    unfold oneL
    rw [if_neg (by decide), if_pos rfl, wordsL_esc]
    rfl
theorem oneL_some {b : UInt8} {s r : List UInt8} {p : TP} (h : oneL b s = some (p, r)) : b :: s = pb p ++ r ∧ p.ok ∧ cleanP p = p := by
  unfold oneL at h
  split at h
  · rename_i hb
    cases hf : figuresL s with
    | none => rw [hf] at h; cases h
    | some x =>
      rw [hf] at h
      simp only [Option.map_some, Option.some.injEq, Prod.mk.injEq] at h
      obtain ⟨rfl, rfl⟩ := h
      obtain ⟨h1, h2, h3⟩ := figuresL_some (x := x.1) (r := x.2) hf
      refine ⟨?_, ⟨h2, h3⟩, rfl⟩
      rw [hb, h1]
      rfl
  · split at h
    · rename_i hb
      cases hf : wordsL s with
      | none => rw [hf] at h; cases h
      | some x =>
        rw [hf] at h
        simp only [Option.map_some, Option.some.injEq, Prod.mk.injEq] at h
        obtain ⟨rfl, rfl⟩ := h
        have h1 := wordsL_some _ s x.1 x.2 (Nat.le_refl _) hf
        refine ⟨?_, ⟨by simp, by simp⟩, rfl⟩
        rw [hb]
        conv => lhs; rw [h1]
        simp [pb]
    · cases h
/-- A key's parts; as many bytes as n. -/
def readN : Nat → List UInt8 → Option (List TP)
  | _, [] => some []
  | 0, _ :: _ => none
  | n + 1, b :: s => (oneL b s).bind fun x => (readN n x.2).map (x.1 :: ·)
def readL (s : List UInt8) : Option (List TP) := readN s.length s
theorem readN_any : ∀ (n m : Nat) (s : List UInt8), s.length ≤ n → s.length ≤ m → readN n s = readN m s
  | n, m, [], _, _ => by cases n <;> cases m <;> rfl
  | 0, m, _ :: _, h, _ => by simp at h
  | n + 1, 0, _ :: _, _, h => by simp at h
  | n + 1, m + 1, b :: s, h1, h2 => by
    unfold readN
    cases ho : oneL b s with
    | none => rfl
    | some x =>
      have := oneL_len (p := x.1) (r := x.2) ho
      simp only [List.length_cons] at this h1 h2
      simp only [Option.bind_some]
      rw [readN_any n m x.2 (by omega) (by omega)]
theorem readL_cons (b : UInt8) (s : List UInt8) : readL (b :: s) = (oneL b s).bind fun x => (readL x.2).map (x.1 :: ·) := by
  unfold readL
  rw [List.length_cons]
  conv => lhs; unfold readN
  cases ho : oneL b s with
  | none => rfl
  | some x =>
    have := oneL_len (p := x.1) (r := x.2) ho
    simp only [List.length_cons] at this
    simp only [Option.bind_some]
    rw [readN_any s.length x.2.length x.2 (by omega) (Nat.le_refl _)]
theorem readL_key : ∀ (l : List TP), (∀ p ∈ l, p.ok) → readL (keyB l) = some (l.map cleanP)
  | [], _ => rfl
  | p :: l, h => by
    have ih := readL_key l (fun x hx => h x (by simp [hx]))
    obtain ⟨b, q, e, ho⟩ := oneL_pb p (h p (by simp)) (keyB l)
    show readL (pb p ++ keyB l) = _
    rw [e, readL_cons, ho]
    simp only [Option.bind_some]
    rw [ih]
    rfl
theorem readL_some : ∀ (n : Nat) (s : List UInt8) (l : List TP), s.length ≤ n → readL s = some l → keyB l = s ∧ ∀ p ∈ l, p.ok
  | n, [], l, _, h => by
    simp [readL, readN] at h
    subst h
    exact ⟨rfl, by simp⟩
  | 0, _ :: _, l, hn, h => by simp at hn
  | n + 1, b :: s, l, hn, h => by
    rw [readL_cons] at h
    cases ho : oneL b s with
    | none => rw [ho] at h; cases h
    | some x =>
      rw [ho] at h
      simp only [Option.bind_some] at h
      have hlen := oneL_len (p := x.1) (r := x.2) ho
      obtain ⟨h1, h2, _⟩ := oneL_some (p := x.1) (r := x.2) ho
      cases hr : readL x.2 with
      | none => rw [hr] at h; cases h
      | some q =>
        rw [hr] at h
        simp only [Option.map_some, Option.some.injEq] at h
        subst h
        simp only [List.length_cons] at hlen hn
        obtain ⟨h3, h4⟩ := readL_some n x.2 q (by omega) hr
        refine ⟨?_, ?_⟩
        · show pb x.1 ++ keyB q = _
          rw [h3, ← h1]
        · intro p hp
          rcases List.mem_cons.1 hp with rfl | hp
          · exact h2
          · exact h4 p hp
theorem esc_plain : ∀ (t : List UInt8), (0 : UInt8) ∉ t → esc t = t
  | [], _ => rfl
  | b :: t, h => by
    simp only [List.mem_cons, not_or] at h
    unfold esc
    rw [if_neg (fun e => h.1 e.symm), esc_plain t h.2]
/-- What is a text's key for sure. -/
theorem readL_plain (t : List UInt8) (h : (0 : UInt8) ∉ t) : readL (1 :: (t ++ [0, 0])) = some [⟨false, 0, t⟩] := by
  have e : keyB [⟨false, 0, t⟩] = 1 :: (t ++ [0, 0]) := by simp [keyB, pb, esc_plain t h]
  rw [← e, readL_key _ (by simp [TP.ok])]
  rfl
end Go.Proofs.YtjofjgjocgooeaaDoor
