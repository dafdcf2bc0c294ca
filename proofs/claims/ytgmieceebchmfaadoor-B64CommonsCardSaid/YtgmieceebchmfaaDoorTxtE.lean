/- Texts escaped, and read back. Plain lists, no program. -/
import Derived.Test.YtgmieceebchmfaaDoorTxtP
set_option linter.unusedVariables false
namespace Go.Proofs.YtgmieceebchmfaaDoor
open Go.Lib

/-- Does a byte stand for itself? -/
def freeB (c : Nat) : Bool := hasB (65, 90) c || hasB (97, 122) c || hasB (48, 57) c || decide (c = 45) || decide (c = 46) || decide (c = 95) || decide (c = 42)
def hexU : List UInt8 := [48, 49, 50, 51, 52, 53, 54, 55, 56, 57, 65, 66, 67, 68, 69, 70]
def hexD (n : Nat) : UInt8 := hexU.getD n 0
def escB (c : UInt8) : List UInt8 := if freeB c.toNat then [c] else if c = 32 then [43] else [37, hexD (c.toNat / 16), hexD (c.toNat % 16)]
def escT (l : List UInt8) : List UInt8 := l.flatMap escB
/-- A digit's number; -1: it is none. -/
def digI (c : Nat) : Int := if hasB (48, 57) c then (c : Int) - 48 else if hasB (97, 102) c then (c : Int) - 87 else if hasB (65, 70) c then (c : Int) - 55 else -1
/-- What was escaped; none: it was not. -/
def unescL : List UInt8 → Option (List UInt8)
  | [] => some []
  | c :: r =>
    if c = 43 then (unescL r).map (32 :: ·)
    else if c = 37 then
      (match r with
        | a :: b :: q => if digI a.toNat < 0 ∨ digI b.toNat < 0 then none else (unescL q).map (UInt8.ofNat ((digI a.toNat).toNat * 16 + (digI b.toNat).toNat) :: ·)
        | _ => none)
    else if c.toNat < 33 ∨ 126 < c.toNat ∨ c = 38 ∨ c = 61 then none
    else (unescL r).map (c :: ·)
theorem unescL_nil : unescL [] = some [] := rfl
theorem unescL_plus (r : List UInt8) : unescL (43 :: r) = (unescL r).map (32 :: ·) := by
  conv => lhs; unfold unescL
  rw [if_pos rfl]
theorem unescL_hex (a b : UInt8) (q : List UInt8) : unescL (37 :: a :: b :: q) = if digI a.toNat < 0 ∨ digI b.toNat < 0 then none else (unescL q).map (UInt8.ofNat ((digI a.toNat).toNat * 16 + (digI b.toNat).toNat) :: ·) := by
  conv => lhs; unfold unescL
  rw [if_neg (by decide), if_pos rfl]
theorem unescL_short (r : List UInt8) (h : r.length < 2) : unescL (37 :: r) = none := by
  match r, h with
  | [], _ => rfl
  | [_], _ => rfl
theorem unescL_bad (c : UInt8) (r : List UInt8) (h1 : c ≠ 43) (h2 : c ≠ 37) (h : c.toNat < 33 ∨ 126 < c.toNat ∨ c = 38 ∨ c = 61) : unescL (c :: r) = none := by
  conv => lhs; unfold unescL
  rw [if_neg h1, if_neg h2, if_pos h]
theorem unescL_plain (c : UInt8) (r : List UInt8) (h1 : c ≠ 43) (h2 : c ≠ 37) (h : ¬ (c.toNat < 33 ∨ 126 < c.toNat ∨ c = 38 ∨ c = 61)) : unescL (c :: r) = (unescL r).map (c :: ·) := by
  conv => lhs; unfold unescL
  rw [if_neg h1, if_neg h2, if_neg h]
theorem free_ok : ∀ c : Fin 256, freeB c.val = true → c.val ≠ 43 ∧ c.val ≠ 37 ∧ ¬ (c.val < 33 ∨ 126 < c.val ∨ c.val = 38 ∨ c.val = 61) := by decide +kernel
theorem hex_ok : ∀ n : Fin 16, digI (hexD n.val).toNat = n.val ∧ (33 ≤ (hexD n.val).toNat ∧ (hexD n.val).toNat ≤ 126 ∧ hexD n.val ≠ 38 ∧ hexD n.val ≠ 61) := by decide +kernel
theorem free_byte {c : UInt8} (h : freeB c.toNat = true) : c ≠ 43 ∧ c ≠ 37 ∧ ¬ (c.toNat < 33 ∨ 126 < c.toNat ∨ c = 38 ∨ c = 61) := by
  obtain ⟨h1, h2, h3⟩ := free_ok ⟨c.toNat, UInt8.toNat_lt c⟩ h
  simp only at h1 h2 h3
  have ne : ∀ k : UInt8, c.toNat ≠ k.toNat → c ≠ k := fun k hk e => hk (by rw [e])
  refine ⟨ne 43 h1, ne 37 h2, fun h => h3 ?_⟩
  rcases h with h | h | h | h
  · exact .inl h
  · exact .inr (.inl h)
  · exact .inr (.inr (.inl (by rw [h]; rfl)))
  · exact .inr (.inr (.inr (by rw [h]; rfl)))
theorem unesc_escB (c : UInt8) (r : List UInt8) : unescL (escB c ++ r) = (unescL r).map (c :: ·) := by
  unfold escB
  by_cases h : freeB c.toNat = true
  · rw [if_pos h]
    obtain ⟨h1, h2, h3⟩ := free_byte h
    exact unescL_plain c r h1 h2 h3
  · rw [if_neg h]
    by_cases h2 : c = 32
    · subst h2
      rw [if_pos rfl]
      exact unescL_plus r
    · rw [if_neg h2]
      have hlt := UInt8.toNat_lt c
      obtain ⟨e1, _⟩ := hex_ok ⟨c.toNat / 16, by omega⟩
      obtain ⟨e2, _⟩ := hex_ok ⟨c.toNat % 16, by omega⟩
      simp only at e1 e2
      show unescL (37 :: hexD (c.toNat / 16) :: hexD (c.toNat % 16) :: r) = _
      have e3 : UInt8.ofNat (((c.toNat / 16 : Nat) : Int).toNat * 16 + ((c.toNat % 16 : Nat) : Int).toNat) = c := by
        apply UInt8.toNat_inj.1
        rw [UInt8.toNat_ofNat']
        omega
      rw [unescL_hex, e1, e2, if_neg (by omega), e3]
theorem unesc_escT : ∀ (l : List UInt8), unescL (escT l) = some l
  | [] => rfl
  | c :: l => by
    have ih := unesc_escT l
    show unescL (escB c ++ escT l) = _
    rw [unesc_escB, ih]
    rfl
theorem escB_len (c : UInt8) : 1 ≤ (escB c).length ∧ (escB c).length ≤ 3 := by
  unfold escB
  split
  · simp
  · split <;> simp
theorem escT_len : ∀ (l : List UInt8), (escT l).length ≤ 3 * l.length
  | [] => by simp [escT]
  | c :: l => by
    have ih := escT_len l
    have := (escB_len c).2
    show (escB c ++ escT l).length ≤ _
    rw [List.length_append, List.length_cons]
    omega
theorem escT_take (l : List UInt8) (i : Nat) (h : i < l.length) : escT (l.take (i + 1)) = escT (l.take i) ++ escB l[i] := by
  unfold escT
  rw [List.take_succ_eq_append_getElem h, List.flatMap_append]
  simp [List.flatMap_cons]
/-- Nothing in it parts a form. -/
theorem escB_ok (c : UInt8) : ∀ x ∈ escB c, 33 ≤ x.toNat ∧ x.toNat ≤ 126 ∧ x ≠ 38 ∧ x ≠ 61 := by
  intro x hx
  unfold escB at hx
  split at hx
  · rename_i h
    simp only [List.mem_singleton] at hx
    subst hx
    obtain ⟨_, _, h3⟩ := free_byte h
    exact ⟨by omega, by omega, fun e => h3 (.inr (.inr (.inl e))), fun e => h3 (.inr (.inr (.inr e)))⟩
  · split at hx
    · simp only [List.mem_singleton] at hx
      subst hx
      decide
    · have hlt := UInt8.toNat_lt c
      obtain ⟨_, e1⟩ := hex_ok ⟨c.toNat / 16, by omega⟩
      obtain ⟨_, e2⟩ := hex_ok ⟨c.toNat % 16, by omega⟩
      simp only [List.mem_cons, List.mem_nil_iff, or_false] at hx
      rcases hx with rfl | rfl | rfl
      · decide
      · exact e1
      · exact e2
theorem escT_ok (l : List UInt8) : ∀ x ∈ escT l, 33 ≤ x.toNat ∧ x.toNat ≤ 126 ∧ x ≠ 38 ∧ x ≠ 61 := by
  intro x hx
  obtain ⟨c, _, h⟩ := List.mem_flatMap.1 hx
  exact escB_ok c x h
theorem unescL_len : ∀ (n : Nat) (l m : List UInt8), l.length ≤ n → unescL l = some m → m.length ≤ l.length
  | n, [], m, _, h => by
    simp [unescL] at h
    subst h
    exact Nat.le_refl _
  | 0, _ :: _, _, hn, _ => by simp at hn
  | n + 1, c :: r, m, hn, h => by
    have hn' : r.length ≤ n := by simpa using hn
    unfold unescL at h
    split at h
    · cases hr : unescL r with
      | none => rw [hr] at h; cases h
      | some x =>
        rw [hr] at h
        simp only [Option.map_some, Option.some.injEq] at h
        subst h
        have := unescL_len n r x hn' hr
        simp; omega
    · split at h
      · split at h
        · rename_i a b q
          split at h
          · cases h
          · cases hr : unescL q with
            | none => rw [hr] at h; cases h
            | some x =>
              rw [hr] at h
              simp only [Option.map_some, Option.some.injEq] at h
              subst h
              have := unescL_len n q x (by simp at hn'; omega) hr
              simp; omega
        · cases h
      · split at h
        · cases h
        · cases hr : unescL r with
          | none => rw [hr] at h; cases h
          | some x =>
            rw [hr] at h
            simp only [Option.map_some, Option.some.injEq] at h
            subst h
            have := unescL_len n r x hn' hr
            simp; omega
end Go.Proofs.YtgmieceebchmfaaDoor
