/- Merged: JsCp, JsMp, TxtE, TxtJ, SuP, SuQ, SuR, SuT, SuTx, Su1, PtU, Su2, Su3, Su4, Su5, Su6, Su7, GrowX. -/
import Derived.Lib.Split
import Derived.Lib.SplitLaws
import Derived.Lib.IndexBytes
import Derived.Lib.IndexLaws
import Derived.Lib.Join
import Derived.Laws.ResultCell
import Derived.Lib.IndexAny
import Derived.Lib.SlBytesConst
import Derived.Test.YtfcokdkbjajohaaGreatDoorMg1
import Derived.Test.YtfcokdkbjajohaaGreatDoorMg2
import Derived.Test.YtfcokdkbjajohaaGreatDoorMg3
import Derived.Test.YtfcokdkbjajohaaGreatDoorMg4
import Derived.Test.YtfcokdkbjajohaaGreatDoorMg5
import Derived.Test.YtfcokdkbjajohaaGreatDoorMg6
import Derived.Test.YtfcokdkbjajohaaGreatDoorMg7
/- json's laws: what they share; plain. -/
set_option linter.unusedVariables false
namespace Go.Proofs.YtfcokdkbjajohaaGreatDoor
open Go.RowKit

theorem bytes_list (s : ByteArray) : ∃ l : List UInt8, s = ⟨l.toArray⟩ := ⟨s.data.toList, by cases s; rfl⟩
theorem right_num (t : List UInt8) : rightJ (jnum t) = numericB t := by
  unfold jnum
  rw [rightJ]
  cases numericB t <;> rfl
theorem size_num (t : List UInt8) : sizeJ (jnum t) = 1 + t.length := by
  unfold jnum
  rw [sizeJ]
  rfl
theorem right_str (S : List UInt8) (h : toldB S = true) : rightJ (jstr S) = true := by
  unfold jstr
  rw [rightJ, h]
  rfl
theorem right_strB (S : List UInt8) : rightJ (jstr S) = toldB S := by
  unfold jstr
  rw [rightJ]
  cases toldB S <;> rfl
theorem plain_str (S : List UInt8) : plainJ (jstr S) = quoteL S := by
  unfold jstr
  rw [plainJ]
  rfl
theorem plain_num (S : List UInt8) : plainJ (jnum S) = S := by
  unfold jnum
  rw [plainJ]
  rfl
theorem size_str (S : List UInt8) : sizeJ (jstr S) = 1 + S.length := by
  unfold jstr
  rw [sizeJ]
  rfl
theorem i64_wf {n : Int} (h : (Lit.int .i64 n).wf = true) : -9223372036854775808 ≤ n ∧ n ≤ 9223372036854775807 := by
  simp only [Lit.wf, Bool.and_eq_true, decide_eq_true_eq] at h
  exact h
end Go.Proofs.YtfcokdkbjajohaaGreatDoor
/- json, plain: a member set, a member dropped; what stays right. -/
set_option linter.unusedVariables false
namespace Go.Proofs.YtfcokdkbjajohaaGreatDoor

/-- A name set to a value: in its place, or at the end. -/
def withM (n : List UInt8) (v : JV) : List (List UInt8 × JV) → List (List UInt8 × JV)
  | [] => [(n, v)]
  | p :: m => if p.1 = n then (p.1, v) :: m else p :: withM n v m
/-- A name dropped, wherever it stands. -/
def withoutM (n : List UInt8) (m : List (List UInt8 × JV)) : List (List UInt8 × JV) := m.filter fun p => decide (p.1 ≠ n)
theorem withM_get (n k : List UInt8) (v : JV) : ∀ m, getM k (withM n v m) = if k = n then some v else getM k m
  | [] => by
    rw [withM]
    simp only [getM]
    by_cases h : k = n
    · rw [if_pos h.symm, if_pos h]
    · rw [if_neg (fun e => h e.symm), if_neg h]
  | p :: m => by
    have ih := withM_get n k v m
    rw [withM]
    by_cases hp : p.1 = n
    · rw [if_pos hp]
      simp only [getM]
      by_cases h : k = n
      · rw [if_pos (hp.trans h.symm), if_pos h]
      · have : ¬ p.1 = k := fun e => h (e.symm.trans hp)
        rw [if_neg this, if_neg h, if_neg this]
    · rw [if_neg hp]
      simp only [getM]
      by_cases h : p.1 = k
      · have hk : ¬ k = n := fun e => hp (h.trans e)
        rw [if_pos h, if_neg hk, if_pos h]
      · rw [if_neg h, ih, if_neg h]
theorem withM_right (n : List UInt8) (v : JV) (hn : toldB n = true) (hv : rightJ v = true) : ∀ m, rightM m = true → rightM (withM n v m) = true
  | [], _ => by simp [withM, rightM, hn, hv, getM]
  | p :: m, h => by
    have ih := withM_right n v hn hv m
    rw [rightM, Bool.and_eq_true, Bool.and_eq_true, Bool.and_eq_true] at h
    rw [withM]
    by_cases hp : p.1 = n
    · rw [if_pos hp, rightM]
      simp [h.1.1.1, hv, h.1.2, h.2]
    · rw [if_neg hp, rightM, withM_get, if_neg hp, ih h.2, h.1.1.1, h.1.1.2, h.1.2]
      rfl
theorem without_none (n k : List UInt8) : ∀ m, getM k (withoutM n m) = if k = n then none else getM k m
  | [] => by simp [withoutM, getM]
  | p :: m => by
    have ih := without_none n k m
    unfold withoutM at ih ⊢
    rw [List.filter_cons]
    by_cases hp : p.1 = n
    · rw [if_neg (by simpa using hp), ih]
      simp only [getM]
      by_cases h : k = n
      · rw [if_pos h, if_pos h]
      · rw [if_neg h, if_neg h, if_neg (fun e => h (e.symm.trans hp))]
    · rw [if_pos (by simpa using hp)]
      simp only [getM]
      by_cases h : p.1 = k
      · rw [if_pos h, if_neg (fun e => hp (h.trans e)), if_pos h]
      · rw [if_neg h, ih, if_neg h]
theorem without_right (n : List UInt8) : ∀ m, rightM m = true → rightM (withoutM n m) = true
  | [], _ => rfl
  | p :: m, h => by
    have ih := without_right n m
    rw [rightM, Bool.and_eq_true, Bool.and_eq_true, Bool.and_eq_true] at h
    have hg := without_none n p.1 m
    unfold withoutM at ih hg ⊢
    rw [List.filter_cons]
    by_cases hp : p.1 = n
    · rw [if_neg (by simpa using hp)]
      exact ih h.2
    · rw [if_pos (by simpa using hp), rightM, hg, if_neg hp, ih h.2, h.1.1.1, h.1.1.2, h.1.2]
      rfl
mutual
/-- A value patched by another. -/
def mergeJ : JV → JV → JV
  | v, .mk k y t l m => if k = 6 then jobj (mergeM (if v.kind = 6 then v.mem else []) m) else .mk k y t l m
/-- .. members, one behind the other. -/
def mergeM : List (List UInt8 × JV) → List (List UInt8 × JV) → List (List UInt8 × JV)
  | o, [] => o
  | o, (n, u) :: m => mergeM (if u.kind = 1 then withoutM n o else withM n (mergeJ ((getM n o).getD .zero) u) o) m
end
theorem get_right : ∀ {m : List (List UInt8 × JV)} {n : List UInt8} {v : JV}, rightM m = true → getM n m = some v → rightJ v = true
  | p :: m, n, v, h, hg => by
    rw [rightM, Bool.and_eq_true, Bool.and_eq_true, Bool.and_eq_true] at h
    rw [getM] at hg
    by_cases hp : p.1 = n
    · rw [if_pos hp] at hg
      rw [← Option.some.inj hg]
      exact h.1.1.2
    · rw [if_neg hp] at hg
      exact get_right h.2 hg
mutual
theorem mergeJ_right : ∀ (u v : JV), (rightJ v = true ∨ v.kind ≠ 6) → rightJ u = true → rightJ (mergeJ v u) = true
  | .mk k y t l m, v, hv, hu => by
    have hm := mergeM_right m
    rw [mergeJ]
    by_cases h6 : k = 6
    · rw [if_pos h6]
      subst h6
      have hmr : rightM m = true := by
        rcases right_cases hu with e | ⟨_, e⟩ | ⟨_, e, _⟩ | ⟨_, e, _⟩ | ⟨_, e, _⟩ | ⟨_, e, h⟩ <;> simp [jnull, jbool, jnum, jstr, jarr, jobj] at e
        rw [e.2.2.2]
        exact h
      have ho : rightM (if v.kind = 6 then v.mem else []) = true := by
        by_cases hk : v.kind = 6
        · rw [if_pos hk]
          have hv' := hv.resolve_right (fun e => e hk)
          rcases right_cases hv' with e | ⟨_, e⟩ | ⟨_, e, _⟩ | ⟨_, e, _⟩ | ⟨_, e, _⟩ | ⟨_, e, h⟩ <;> subst e <;> simp [jnull, jbool, jnum, jstr, jarr, jobj, JV.kind] at hk
          exact h
        · rw [if_neg hk]; rfl
      have := hm _ ho hmr
      simp [jobj, rightJ, this]
    · rw [if_neg h6]
      exact hu
theorem mergeM_right : ∀ (m o : List (List UInt8 × JV)), rightM o = true → rightM m = true → rightM (mergeM o m) = true
  | [], o, ho, _ => by rw [mergeM]; exact ho
  | (n, u) :: m, o, ho, hm => by
    have hj := mergeJ_right u
    have hr := mergeM_right m
    rw [rightM, Bool.and_eq_true, Bool.and_eq_true, Bool.and_eq_true] at hm
    rw [mergeM]
    refine hr _ ?_ hm.2
    by_cases h1 : u.kind = 1
    · rw [if_pos h1]
      exact without_right n o ho
    · rw [if_neg h1]
      refine withM_right n _ hm.1.1.1 (hj _ ?_ hm.1.1.2) o ho
      cases hg : getM n o with
      | none => exact .inr (by decide)
      | some x => exact .inl (get_right ho hg)
end
end Go.Proofs.YtfcokdkbjajohaaGreatDoor
/- Texts escaped, and read back. Plain lists, no program. -/
set_option linter.unusedVariables false
namespace Go.Proofs.YtfcokdkbjajohaaGreatDoor
open Go.Lib

/-- Does a byte stand for itself? -/
def freeB (c : Nat) : Bool := hasB (65, 90) c || hasB (97, 122) c || hasB (48, 57) c || decide (c = 45) || decide (c = 46) || decide (c = 95) || decide (c = 42)
def hexU : List UInt8 := [48, 49, 50, 51, 52, 53, 54, 55, 56, 57, 65, 66, 67, 68, 69, 70]
def hexD (n : Nat) : UInt8 := hexU.getD n 0
def escB (c : UInt8) : List UInt8 := if freeB c.toNat then [c] else if c = 32 then [43] else [37, hexD (c.toNat / 16), hexD (c.toNat % 16)]
def escT (l : List UInt8) : List UInt8 := l.flatMap escB
/-- A digit's number; -1: it is none. -/
def digI (c : Nat) : Int := if hasB (48, 57) c then (c : Int) - 48 else if hasB (97, 102) c then (c : Int) - 87 else if hasB (65, 70) c then (c : Int) - 55 else -1
/-- What was escaped; none: it was not. -/
def unescL : List UInt8 → Option (List UInt8)
  | [] => some []
  | c :: r =>
    if c = 43 then (unescL r).map (32 :: ·)
    else if c = 37 then
      (match r with
        | a :: b :: q => if digI a.toNat < 0 ∨ digI b.toNat < 0 then none else (unescL q).map (UInt8.ofNat ((digI a.toNat).toNat * 16 + (digI b.toNat).toNat) :: ·)
        | _ => none)
    else if c.toNat < 33 ∨ 126 < c.toNat ∨ c = 38 ∨ c = 61 then none
    else (unescL r).map (c :: ·)
theorem unescL_nil : unescL [] = some [] := rfl
theorem unescL_plus (r : List UInt8) : unescL (43 :: r) = (unescL r).map (32 :: ·) := by
  conv => lhs; unfold unescL
  rw [if_pos rfl]
theorem unescL_hex (a b : UInt8) (q : List UInt8) : unescL (37 :: a :: b :: q) = if digI a.toNat < 0 ∨ digI b.toNat < 0 then none else (unescL q).map (UInt8.ofNat ((digI a.toNat).toNat * 16 + (digI b.toNat).toNat) :: ·) := by
  conv => lhs; unfold unescL
  rw [if_neg (by decide), if_pos rfl]
theorem unescL_short (r : List UInt8) (h : r.length < 2) : unescL (37 :: r) = none := by
  match r, h with
  | [], _ => rfl
  | [_], _ => rfl
theorem unescL_bad (c : UInt8) (r : List UInt8) (h1 : c ≠ 43) (h2 : c ≠ 37) (h : c.toNat < 33 ∨ 126 < c.toNat ∨ c = 38 ∨ c = 61) : unescL (c :: r) = none := by
  conv => lhs; unfold unescL
  rw [if_neg h1, if_neg h2, if_pos h]
theorem unescL_plain (c : UInt8) (r : List UInt8) (h1 : c ≠ 43) (h2 : c ≠ 37) (h : ¬ (c.toNat < 33 ∨ 126 < c.toNat ∨ c = 38 ∨ c = 61)) : unescL (c :: r) = (unescL r).map (c :: ·) := by
  conv => lhs; unfold unescL
  rw [if_neg h1, if_neg h2, if_neg h]
theorem free_ok : ∀ c : Fin 256, freeB c.val = true → c.val ≠ 43 ∧ c.val ≠ 37 ∧ ¬ (c.val < 33 ∨ 126 < c.val ∨ c.val = 38 ∨ c.val = 61) := by decide +kernel
theorem hex_ok : ∀ n : Fin 16, digI (hexD n.val).toNat = n.val ∧ (33 ≤ (hexD n.val).toNat ∧ (hexD n.val).toNat ≤ 126 ∧ hexD n.val ≠ 38 ∧ hexD n.val ≠ 61) := by decide +kernel
theorem free_byte {c : UInt8} (h : freeB c.toNat = true) : c ≠ 43 ∧ c ≠ 37 ∧ ¬ (c.toNat < 33 ∨ 126 < c.toNat ∨ c = 38 ∨ c = 61) := by
  obtain ⟨h1, h2, h3⟩ := free_ok ⟨c.toNat, UInt8.toNat_lt c⟩ h
  simp only at h1 h2 h3
  have ne : ∀ k : UInt8, c.toNat ≠ k.toNat → c ≠ k := fun k hk e => hk (by rw [e])
  refine ⟨ne 43 h1, ne 37 h2, fun h => h3 ?_⟩
  rcases h with h | h | h | h
  · exact .inl h
  · exact .inr (.inl h)
  · exact .inr (.inr (.inl (by rw [h]; rfl)))
  · exact .inr (.inr (.inr (by rw [h]; rfl)))
theorem unesc_escB (c : UInt8) (r : List UInt8) : unescL (escB c ++ r) = (unescL r).map (c :: ·) := by
  unfold escB
  by_cases h : freeB c.toNat = true
  · rw [if_pos h]
    obtain ⟨h1, h2, h3⟩ := free_byte h
    exact unescL_plain c r h1 h2 h3
  · rw [if_neg h]
    by_cases h2 : c = 32
    · subst h2
      rw [if_pos rfl]
      exact unescL_plus r
    · rw [if_neg h2]
      have hlt := UInt8.toNat_lt c
      obtain ⟨e1, _⟩ := hex_ok ⟨c.toNat / 16, by omega⟩
      obtain ⟨e2, _⟩ := hex_ok ⟨c.toNat % 16, by omega⟩
      simp only at e1 e2
      show unescL (37 :: hexD (c.toNat / 16) :: hexD (c.toNat % 16) :: r) = _
      have e3 : UInt8.ofNat (((c.toNat / 16 : Nat) : Int).toNat * 16 + ((c.toNat % 16 : Nat) : Int).toNat) = c := by
        apply UInt8.toNat_inj.1
        rw [UInt8.toNat_ofNat']
        omega
      rw [unescL_hex, e1, e2, if_neg (by omega), e3]
theorem unesc_escT : ∀ (l : List UInt8), unescL (escT l) = some l
  | [] => rfl
  | c :: l => by
    have ih := unesc_escT l
    show unescL (escB c ++ escT l) = _
    rw [unesc_escB, ih]
    rfl
theorem escB_len (c : UInt8) : 1 ≤ (escB c).length ∧ (escB c).length ≤ 3 := by
  unfold escB
  split
  · simp
  · split <;> simp
theorem escT_len : ∀ (l : List UInt8), (escT l).length ≤ 3 * l.length
  | [] => by simp [escT]
  | c :: l => by
    have ih := escT_len l
    have := (escB_len c).2
    show (escB c ++ escT l).length ≤ _
    rw [List.length_append, List.length_cons]
    omega
theorem escT_take (l : List UInt8) (i : Nat) (h : i < l.length) : escT (l.take (i + 1)) = escT (l.take i) ++ escB l[i] := by
  unfold escT
  rw [List.take_succ_eq_append_getElem h, List.flatMap_append]
  simp [List.flatMap_cons]
/-- Nothing in it parts a form. -/
theorem escB_ok (c : UInt8) : ∀ x ∈ escB c, 33 ≤ x.toNat ∧ x.toNat ≤ 126 ∧ x ≠ 38 ∧ x ≠ 61 := by
  intro x hx
  unfold escB at hx
  split at hx
  · rename_i h
    simp only [List.mem_singleton] at hx
    subst hx
    obtain ⟨_, _, h3⟩ := free_byte h
    exact ⟨by omega, by omega, fun e => h3 (.inr (.inr (.inl e))), fun e => h3 (.inr (.inr (.inr e)))⟩
  · split at hx
    · simp only [List.mem_singleton] at hx
      subst hx
      decide
    · have hlt := UInt8.toNat_lt c
      obtain ⟨_, e1⟩ := hex_ok ⟨c.toNat / 16, by omega⟩
      obtain ⟨_, e2⟩ := hex_ok ⟨c.toNat % 16, by omega⟩
      simp only [List.mem_cons, List.mem_nil_iff, or_false] at hx
      rcases hx with rfl | rfl | rfl
      · decide
      · exact e1
      · exact e2
theorem escT_ok (l : List UInt8) : ∀ x ∈ escT l, 33 ≤ x.toNat ∧ x.toNat ≤ 126 ∧ x ≠ 38 ∧ x ≠ 61 := by
  intro x hx
  obtain ⟨c, _, h⟩ := List.mem_flatMap.1 hx
  exact escB_ok c x h
theorem unescL_len : ∀ (n : Nat) (l m : List UInt8), l.length ≤ n → unescL l = some m → m.length ≤ l.length
  | n, [], m, _, h => by
    simp [unescL] at h
    subst h
    exact Nat.le_refl _
  | 0, _ :: _, _, hn, _ => by simp at hn
  | n + 1, c :: r, m, hn, h => by
    have hn' : r.length ≤ n := by simpa using hn
    unfold unescL at h
    split at h
    · cases hr : unescL r with
      | none => rw [hr] at h; cases h
      | some x =>
        rw [hr] at h
        simp only [Option.map_some, Option.some.injEq] at h
        subst h
        have := unescL_len n r x hn' hr
        simp; omega
    · split at h
      · split at h
        · rename_i a b q
          split at h
          · cases h
          · cases hr : unescL q with
            | none => rw [hr] at h; cases h
            | some x =>
              rw [hr] at h
              simp only [Option.map_some, Option.some.injEq] at h
              subst h
              have := unescL_len n q x (by simp at hn'; omega) hr
              simp; omega
        · cases h
      · split at h
        · cases h
        · cases hr : unescL r with
          | none => rw [hr] at h; cases h
          | some x =>
            rw [hr] at h
            simp only [Option.map_some, Option.some.injEq] at h
            subst h
            have := unescL_len n r x hn' hr
            simp; omega
end Go.Proofs.YtfcokdkbjajohaaGreatDoor
/- Forms. Plain lists, no program. -/
set_option linter.unusedVariables false
namespace Go.Proofs.YtfcokdkbjajohaaGreatDoor
open Go.Lib

/-- A text's parts, with a byte between them. -/
def partsL (c : UInt8) : List UInt8 → List (List UInt8)
  | [] => [[]]
  | b :: r => if b = c then [] :: partsL c r else match partsL c r with
    | p :: q => (b :: p) :: q
    | [] => [[b]]
theorem partsL_cons (c b : UInt8) (r : List UInt8) : partsL c (b :: r) = if b = c then [] :: partsL c r else match partsL c r with
    | p :: q => (b :: p) :: q
    | [] => [[b]] := rfl
theorem partsL_ne (c : UInt8) : ∀ (s : List UInt8), partsL c s ≠ []
  | [] => by simp [partsL]
  | b :: r => by
    rw [partsL_cons]
    split
    · simp
    · split <;> simp
theorem partsL_none (c : UInt8) : ∀ (s : List UInt8), c ∉ s → partsL c s = [s]
  | [], _ => rfl
  | b :: r, h => by
    simp only [List.mem_cons, not_or] at h
    rw [partsL_cons, if_neg (fun e => h.1 e.symm), partsL_none c r h.2]
theorem partsL_hit (c : UInt8) : ∀ (a r : List UInt8), c ∉ a → partsL c (a ++ c :: r) = a :: partsL c r
  | [], r, _ => by rw [List.nil_append, partsL_cons, if_pos rfl]
  | b :: a, r, h => by
    simp only [List.mem_cons, not_or] at h
    rw [List.cons_append, partsL_cons, if_neg (fun e => h.1 e.symm), partsL_hit c a r h.2]
theorem first_at (c : UInt8) : ∀ (s : List UInt8), c ∈ s → ∃ a r, s = a ++ c :: r ∧ c ∉ a
  | [], h => by cases h
  | b :: s, h => by
    by_cases e : b = c
    · subst e; exact ⟨[], s, rfl, by simp⟩
    · have h' : c ∈ s := by
        rcases List.mem_cons.1 h with h | h
        · exact absurd h.symm e
        · exact h
      obtain ⟨a, r, h1, h2⟩ := first_at c s h'
      exact ⟨b :: a, r, by rw [h1]; rfl, by simp only [List.mem_cons, not_or]; exact ⟨fun e' => e e'.symm, h2⟩⟩
theorem idx_none (c : UInt8) : ∀ (s : List UInt8), c ∉ s → indexByte s c = -1
  | [], _ => rfl
  | b :: s, h => by
    simp only [List.mem_cons, not_or] at h
    have ih := idx_none c s h.2
    have e : (b == c) = false := by simp only [beq_eq_false_iff_ne, ne_eq]; exact fun e => h.1 e.symm
    unfold indexByte
    rw [e, ih]
    rfl
theorem idx_hit (c : UInt8) : ∀ (a r : List UInt8), c ∉ a → indexByte (a ++ c :: r) c = a.length
  | [], r, _ => by
    show (if (c == c) = true then (0 : Int) else _) = _
    simp
  | b :: a, r, h => by
    simp only [List.mem_cons, not_or] at h
    have ih := idx_hit c a r h.2
    have e : (b == c) = false := by simp only [beq_eq_false_iff_ne, ne_eq]; exact fun e => h.1 e.symm
    show indexByte (b :: (a ++ c :: r)) c = _
    unfold indexByte
    rw [e, ih]
    have e2 : (((a.length : Nat) : Int) == -1) = false := by simp only [beq_eq_false_iff_ne, ne_eq]; omega
    rw [e2]
    simp
theorem cut_none (c : UInt8) (s : List UInt8) (h : c ∉ s) : cut s [c] = (s, [], false) := by
  unfold cut
  rw [index_one, idx_none c s h, if_neg (by decide)]
theorem cut_hit (c : UInt8) (a r : List UInt8) (h : c ∉ a) : cut (a ++ c :: r) [c] = (a, r, true) := by
  unfold cut
  rw [index_one, idx_hit c a r h, if_pos (by omega)]
  have e : ((a.length : Nat) : Int).toNat = a.length := by omega
  rw [e]
  simp
theorem splitK_parts (c : UInt8) : ∀ (n : Nat) (s : List UInt8), s.length ≤ n → splitK [c] 0 (s.count c) s = partsL c s := by
  intro n
  induction n with
  | zero =>
    intro s h
    have : s = [] := List.eq_nil_of_length_eq_zero (by omega)
    subst this
    rfl
  | succ n ih =>
    intro s h
    by_cases hm : c ∈ s
    · obtain ⟨a, r, rfl, ha⟩ := first_at c s hm
      have hcount : (a ++ c :: r).count c = r.count c + 1 := by
        rw [List.count_append, List.count_cons_self, List.count_eq_zero_of_not_mem ha]
        omega
      rw [hcount, partsL_hit c a r ha]
      unfold splitK
      rw [index_one, idx_hit c a r ha]
      have e2 : (((a.length : Nat) : Int) == -1) = false := by simp only [beq_eq_false_iff_ne, ne_eq]; omega
      rw [e2]
      have e3 : ((a.length : Nat) : Int).toNat = a.length := by omega
      simp only [Bool.false_eq_true, if_false, e3, Nat.add_zero, List.take_left, List.length_cons, List.length_nil]
      have e4 : (a ++ c :: r).drop (a.length + (0 + 1)) = r := by
        rw [Nat.zero_add, ← List.drop_drop, List.drop_left]
        rfl
      rw [e4, ih r (by simp at h; omega)]
    · rw [List.count_eq_zero_of_not_mem hm, partsL_none c s hm]
      rfl
theorem splitB_parts (c : UInt8) (s : List UInt8) : splitB ⟨#[c]⟩ 0 (countB ⟨s.toArray⟩ ⟨#[c]⟩) ⟨s.toArray⟩ = (partsL c s).map fun p => ⟨p.toArray⟩ := by
  have h1 := splitB_data ⟨#[c]⟩ 0 (countB ⟨s.toArray⟩ ⟨#[c]⟩) ⟨s.toArray⟩
  have h2 : countB ⟨s.toArray⟩ ⟨#[c]⟩ = s.count c := count_one c s
  rw [h2] at h1 ⊢
  have h3 : splitK (⟨#[c]⟩ : ByteArray).data.toList 0 (s.count c) (⟨s.toArray⟩ : ByteArray).data.toList = partsL c s := splitK_parts c s.length s (Nat.le_refl _)
  rw [h3] at h1
  rw [← h1, List.map_map]
  conv => lhs; rw [← List.map_id (splitB _ _ _ _)]
  apply List.map_congr_left
  intro x _
  cases x
  rfl
theorem countB_parts (c : UInt8) (s : List UInt8) : countB ⟨s.toArray⟩ ⟨#[c]⟩ + 1 = (partsL c s).length := by
  have h2 : countB ⟨s.toArray⟩ ⟨#[c]⟩ = s.count c := count_one c s
  rw [h2]
  have go : ∀ (n : Nat) (s : List UInt8), s.length ≤ n → s.count c + 1 = (partsL c s).length := by
    intro n
    induction n with
    | zero =>
      intro s h
      have : s = [] := List.eq_nil_of_length_eq_zero (by omega)
      subst this
      rfl
    | succ n ih =>
      intro s h
      by_cases hm : c ∈ s
      · obtain ⟨a, r, rfl, ha⟩ := first_at c s hm
        rw [partsL_hit c a r ha, List.length_cons, ← ih r (by simp at h; omega), List.count_append, List.count_cons_self, List.count_eq_zero_of_not_mem ha]
        omega
      · rw [List.count_eq_zero_of_not_mem hm, partsL_none c s hm]
        rfl
  exact go s.length s (Nat.le_refl _)
theorem partsL_len (c : UInt8) : ∀ (s p : List UInt8), p ∈ partsL c s → p.length ≤ s.length := by
  have go : ∀ (n : Nat) (s p : List UInt8), s.length ≤ n → p ∈ partsL c s → p.length ≤ s.length := by
    intro n
    induction n with
    | zero =>
      intro s p h hp
      have : s = [] := List.eq_nil_of_length_eq_zero (by omega)
      subst this
      simp [partsL] at hp
      subst hp
      exact Nat.le_refl _
    | succ n ih =>
      intro s p h hp
      by_cases hm : c ∈ s
      · obtain ⟨a, r, rfl, ha⟩ := first_at c s hm
        rw [partsL_hit c a r ha] at hp
        rcases List.mem_cons.1 hp with rfl | hp
        · simp
        · have := ih r p (by simp at h; omega) hp
          simp
          omega
      · rw [partsL_none c s hm] at hp
        simp only [List.mem_singleton] at hp
        subst hp
        exact Nat.le_refl _
  exact fun s p => go s.length s p (Nat.le_refl _)

/-- What is told of an escaped text, and the error's number. -/
def uneR (s : List UInt8) : List UInt8 × Int := match unescL s with
  | none => ([], 31)
  | some l => if toldB l then (l, 0) else ([], 30)
abbrev PairL := List UInt8 × List UInt8
/-- A form's part; an error's number. -/
def oneR (s : List UInt8) : PairL × Int := match partsL 61 s with
  | [a, b] => if (uneR a).2 ≠ 0 then (([], []), (uneR a).2) else if (uneR b).2 ≠ 0 then (([], []), (uneR b).2) else if (uneR a).1 = [] then (([], []), 10) else (((uneR a).1, (uneR b).1), 0)
  | _ => (([], []), 31)
def hasName (l : List PairL) (n : List UInt8) : Bool := l.any fun p => decide (p.1 = n)
def formN : List (List UInt8) → List PairL → List PairL × Int
  | [], acc => (acc, 0)
  | p :: ps, acc => if acc.length = 32 then ([], 14) else if (oneR p).2 ≠ 0 then ([], (oneR p).2) else if hasName acc (oneR p).1.1 then ([], 15) else formN ps (acc ++ [(oneR p).1])
/-- A form's pairs; an error's number. -/
def formR (s : List UInt8) : List PairL × Int := if s = [] then ([], 0) else formN (partsL 38 s) []
/-- The value of a name. -/
def getL (l : List PairL) (n : List UInt8) : Option (List UInt8) := match l with
  | [] => none
  | p :: r => if p.1 = n then some p.2 else getL r n
theorem getL_has : ∀ (l : List PairL) (n : List UInt8), (getL l n).isSome = hasName l n
  | [], n => rfl
  | p :: r, n => by
    have ih := getL_has r n
    unfold getL hasName
    rw [List.any_cons]
    by_cases h : p.1 = n
    · rw [if_pos h, decide_eq_true h]; rfl
    · rw [if_neg h, decide_eq_false h, Bool.false_or]; exact ih
/-- Names are unlike, and none is empty. -/
def Unlike (l : List PairL) : Prop := (l.map (·.1)).Nodup ∧ ∀ p ∈ l, p.1 ≠ []
theorem Unlike.nil : Unlike [] := ⟨List.nodup_nil, by simp⟩
theorem hasName_false {l : List PairL} {n : List UInt8} (h : hasName l n = false) : n ∉ l.map (·.1) := by
  intro hm
  obtain ⟨p, hp, e⟩ := List.mem_map.1 hm
  have : hasName l n = true := by
    unfold hasName
    rw [List.any_eq_true]
    exact ⟨p, hp, by simpa using e⟩
  rw [h] at this
  cases this
theorem Unlike.snoc {l : List PairL} {p : PairL} (h : Unlike l) (h1 : hasName l p.1 = false) (h2 : p.1 ≠ []) : Unlike (l ++ [p]) := by
  refine ⟨?_, ?_⟩
  · rw [List.map_append, List.nodup_append]
    refine ⟨h.1, by simp, fun a ha b hb e => ?_⟩
    simp only [List.map_cons, List.map_nil, List.mem_singleton] at hb
    subst hb e
    exact hasName_false h1 ha
  · intro q hq
    rcases List.mem_append.1 hq with hq | hq
    · exact h.2 q hq
    · simp only [List.mem_singleton] at hq; subst hq; exact h2
theorem oneR_name {s : List UInt8} (h : (oneR s).2 = 0) : (oneR s).1.1 ≠ [] := by
  unfold oneR at h ⊢
  split at h
  · rename_i a b hp
    split at h
    · rename_i hc; exact absurd h hc
    · split at h
      · rename_i hc; exact absurd h hc
      · split at h
        · cases h
        · rename_i h1 h2 h3
          simp only [if_neg h1, if_neg h2, if_neg h3]
          exact h3
  · cases h
theorem formN_unlike : ∀ (ps : List (List UInt8)) (acc : List PairL), Unlike acc → Unlike (formN ps acc).1
  | [], acc, h => h
  | p :: ps, acc, h => by
    unfold formN
    split
    · exact Unlike.nil
    · split
      · exact Unlike.nil
      · split
        · exact Unlike.nil
        · rename_i h1 h2 h3
          exact formN_unlike ps _ (h.snoc (by simpa using h3) (oneR_name (by simpa using h2)))
theorem formR_unlike (s : List UInt8) : Unlike (formR s).1 := by
  unfold formR
  split
  · exact Unlike.nil
  · exact formN_unlike _ _ Unlike.nil
theorem getL_own : ∀ (l : List PairL), Unlike l → ∀ (i : Nat) (h : i < l.length), getL l l[i].1 = some l[i].2
  | [], _, i, h => by simp at h
  | p :: r, hu, 0, _ => by
    show getL (p :: r) p.1 = some p.2
    unfold getL
    rw [if_pos rfl]
  | p :: r, hu, i + 1, h => by
    have hu' : Unlike r := ⟨(List.nodup_cons.1 hu.1).2, fun q hq => hu.2 q (by simp [hq])⟩
    have hi : i < r.length := by simpa using h
    have ih := getL_own r hu' i hi
    have hne : ¬ p.1 = r[i].1 := by
      intro e
      apply (List.nodup_cons.1 hu.1).1
      exact List.mem_map.2 ⟨r[i], List.getElem_mem _, e.symm⟩
    show getL (p :: r) r[i].1 = some r[i].2
    unfold getL
    rw [if_neg hne, ih]
theorem getL_empty : ∀ (l : List PairL), Unlike l → getL l [] = none
  | [], _ => rfl
  | p :: r, hu => by
    have hu' : Unlike r := ⟨(List.nodup_cons.1 hu.1).2, fun q hq => hu.2 q (by simp [hq])⟩
    unfold getL
    rw [if_neg (hu.2 p (by simp)), getL_empty r hu']
theorem formN_len : ∀ (ps : List (List UInt8)) (acc : List PairL), acc.length ≤ 32 → (formN ps acc).1.length ≤ 32
  | [], acc, h => h
  | p :: ps, acc, h => by
    unfold formN
    split
    · simp
    · split
      · simp
      · split
        · simp
        · rename_i h1 h2 h3
          exact formN_len ps _ (by simp; omega)
/-- Pairs as a form. -/
def showP (p : PairL) : List UInt8 := escT p.1 ++ 61 :: escT p.2
theorem escT_no (l : List UInt8) : (38 : UInt8) ∉ escT l ∧ (61 : UInt8) ∉ escT l :=
  ⟨fun h => (escT_ok l _ h).2.2.1 rfl, fun h => (escT_ok l _ h).2.2.2 rfl⟩
theorem uneR_esc (l : List UInt8) (h : toldB l = true) : uneR (escT l) = (l, 0) := by
  unfold uneR
  rw [unesc_escT]
  simp only [h]
  rfl
theorem oneR_show (p : PairL) (h1 : toldB p.1 = true) (h2 : toldB p.2 = true) (h3 : p.1 ≠ []) : oneR (showP p) = (p, 0) := by
  unfold oneR showP
  rw [partsL_hit 61 _ _ (escT_no p.1).2, partsL_none 61 _ (escT_no p.2).2]
  simp only [uneR_esc p.1 h1, uneR_esc p.2 h2]
  rw [if_neg (by simp), if_neg (by simp), if_neg h3]
theorem showP_no (p : PairL) : (38 : UInt8) ∉ showP p := by
  unfold showP
  intro h
  rcases List.mem_append.1 h with h | h
  · exact (escT_no p.1).1 h
  · rcases List.mem_cons.1 h with h | h
    · cases h
    · exact (escT_no p.2).1 h
theorem join_two (x y : List UInt8) (r : List (List UInt8)) (sep : List UInt8) : join (x :: y :: r) sep = x ++ (sep ++ join (y :: r) sep) := by
  rw [join_cons, join_cons]
  simp [joinTail]
theorem parts_join : ∀ (l : List (List UInt8)), l ≠ [] → (∀ p ∈ l, (38 : UInt8) ∉ p) → partsL 38 (join l [38]) = l
  | [], h, _ => absurd rfl h
  | [x], _, h => by rw [join_one]; exact partsL_none 38 x (h x (by simp))
  | x :: y :: r, _, h => by
    rw [join_two]
    show partsL 38 (x ++ 38 :: join (y :: r) [38]) = _
    rw [partsL_hit 38 x _ (h x (by simp)), parts_join (y :: r) (by simp) (fun p hp => h p (by simp [hp]))]
theorem formN_show : ∀ (l acc : List PairL), (∀ p ∈ l, toldB p.1 = true ∧ toldB p.2 = true ∧ p.1 ≠ []) → ((acc ++ l).map (·.1)).Nodup → (acc ++ l).length ≤ 32 → formN (l.map showP) acc = (acc ++ l, 0)
  | [], acc, _, _, _ => by simp [formN]
  | p :: l, acc, h, hn, hl => by
    obtain ⟨h1, h2, h3⟩ := h p (by simp)
    have ho := oneR_show p h1 h2 h3
    rw [List.map_cons]
    unfold formN
    have hlen : ¬ acc.length = 32 := by simp at hl; omega
    have hnm : hasName acc p.1 = false := by
      cases e : hasName acc p.1 with
      | false => rfl
      | true =>
        unfold hasName at e
        rw [List.any_eq_true] at e
        obtain ⟨q, hq, e⟩ := e
        rw [List.map_append, List.nodup_append] at hn
        exact absurd (by simpa using e) (hn.2.2 q.1 (List.mem_map.2 ⟨q, hq, rfl⟩) p.1 (by simp))
    rw [if_neg hlen, ho, if_neg (by simp)]
    simp only [hnm]
    have e : acc ++ p :: l = (acc ++ [p]) ++ l := by simp
    rw [if_neg (by simp), e]
    exact formN_show l (acc ++ [p]) (fun q hq => h q (by simp [hq])) (by rw [← e]; exact hn) (by rw [← e]; exact hl)
theorem formR_show (l : List PairL) (h : ∀ p ∈ l, toldB p.1 = true ∧ toldB p.2 = true ∧ p.1 ≠ []) (hn : (l.map (·.1)).Nodup) (hl : l.length ≤ 32) : formR (join (l.map showP) [38]) = (l, 0) := by
  cases l with
  | nil => rfl
  | cons p r =>
    have hne : join ((p :: r).map showP) [38] ≠ [] := by
      rw [List.map_cons, join_cons]
      unfold showP
      simp
    unfold formR
    rw [if_neg hne, parts_join _ (by simp) (fun q hq => by obtain ⟨x, _, rfl⟩ := List.mem_map.1 hq; exact showP_no x)]
    exact formN_show (p :: r) [] h (by simpa using hn) (by simpa using hl)
end Go.Proofs.YtfcokdkbjajohaaGreatDoor
/- Whom an event is about: plain data, no program. -/
set_option linter.unusedVariables false
namespace Go.Proofs.YtfcokdkbjajohaaGreatDoor
open Go.RowKit

def opaB : List UInt8 := [111, 112, 97, 113, 117, 101]
def emaB : List UInt8 := [101, 109, 97, 105, 108]
def issB : List UInt8 := [105, 115, 115, 95, 115, 117, 98]
def fmtB : List UInt8 := [102, 111, 114, 109, 97, 116]
def idB : List UInt8 := [105, 100]
def isB : List UInt8 := [105, 115, 115]
def subB : List UInt8 := [115, 117, 98]
/-- May a text stand in a subject? -/
def wordS (s : List UInt8) : Bool := !s.isEmpty && (decide (s.length ≤ 256) && toldB s)
/-- Is a text an address? -/
def addrS (s : List UInt8) : Bool := decide (0 < s.idxOf 64) && (decide (s.idxOf 64 + 1 < s.length) && decide (s.count 64 = 1))
/-- Is a subject right? (format, who, by whom) -/
def rightS (f i s : List UInt8) : Bool :=
  if f = opaB then wordS i && s.isEmpty else if f = emaB then wordS i && (addrS i && s.isEmpty) else if f = issB then wordS i && wordS s else false
/-- The document's: by the parts about the sign. -/
def refS (f i s : List UInt8) : Bool :=
  wordS i && (if f = issB then wordS s else s.isEmpty && (if f = opaB then true else decide (f = emaB) && (decide ((partsL 64 i).length = 2) && (!((partsL 64 i).getD 0 []).isEmpty && !((partsL 64 i).getD 1 []).isEmpty))))
def memsS (f i s : List UInt8) : List (List UInt8 × JV) :=
  if f = issB then [(isB, jstr s), (subB, jstr i)] else if f = emaB then [(emaB, jstr i)] else [(idB, jstr i)]
/-- A subject's value. -/
def valS (f i s : List UInt8) : JV := jobj ((fmtB, jstr f) :: memsS f i s)
/-- The members' names behind the format. -/
def namesS (f : List UInt8) : List (List UInt8) := if f = opaB then [idB] else if f = emaB then [emaB] else if f = issB then [isB, subB] else []
/-- A member's text, and whether it is a string. -/
def strM (n : List UInt8) (v : JV) : List UInt8 × Bool := match getJ n v with
  | some x => (x.text, x.kind == 4)
  | none => ([], false)
/-- The subject of a value: format, who, by whom, and an error's number. -/
def ofS (v : JV) : (List UInt8 × List UInt8 × List UInt8) × Int :=
  if (strM fmtB v).2 = false then (([], [], []), 10)
  else if namesS (strM fmtB v).1 = [] then (([], [], []), 42)
  else if rightJ v = false ∨ v.mem.length ≠ (namesS (strM fmtB v).1).length + 1 then (([], [], []), 10)
  else if (strM fmtB v).1 = issB then
    (if (strM subB v).2 && ((strM isB v).2 && rightS issB (strM subB v).1 (strM isB v).1) then ((issB, (strM subB v).1, (strM isB v).1), 0) else (([], [], []), 10))
  else if (strM (if (strM fmtB v).1 = emaB then emaB else idB) v).2 && rightS (strM fmtB v).1 (strM (if (strM fmtB v).1 = emaB then emaB else idB) v).1 [] then
    (((strM fmtB v).1, (strM (if (strM fmtB v).1 = emaB then emaB else idB) v).1, []), 0)
  else (([], [], []), 10)

theorem addr_parts (s : List UInt8) : addrS s = (decide ((partsL 64 s).length = 2) && (!((partsL 64 s).getD 0 []).isEmpty && !((partsL 64 s).getD 1 []).isEmpty)) := by
  unfold addrS
  by_cases h : 64 ∈ s
  · obtain ⟨a, r, rfl, ha⟩ := first_at 64 s h
    rw [partsL_hit 64 a r ha]
    have hi : (a ++ 64 :: r).idxOf 64 = a.length := by
      rw [List.idxOf_append, if_neg ha]
      simp
    have hc : (a ++ 64 :: r).count 64 = r.count 64 + 1 := by
      rw [List.count_append, List.count_eq_zero_of_not_mem ha, List.count_cons_self]
      omega
    rw [hi, hc]
    by_cases hr : 64 ∈ r
    · obtain ⟨b, q, rfl, hb⟩ := first_at 64 r hr
      rw [partsL_hit 64 b q hb]
      have h1 : (b ++ 64 :: q).count 64 ≠ 0 := by
        rw [List.count_append, List.count_cons_self]
        omega
      have h2 : 1 ≤ (partsL 64 q).length := List.length_pos_iff.2 (partsL_ne 64 q)
      have e1 : decide ((b ++ 64 :: q).count 64 + 1 = 1) = false := decide_eq_false (by omega)
      have e2 : decide ((a :: b :: partsL 64 q).length = 2) = false := decide_eq_false (by simp only [List.length_cons]; omega)
      rw [e1, e2]
      simp
    · rw [partsL_none 64 r hr, List.count_eq_zero_of_not_mem hr]
      cases a <;> cases r <;> simp
  · rw [partsL_none 64 s h, List.count_eq_zero_of_not_mem h]
    simp
theorem ref_right (f i s : List UInt8) : refS f i s = rightS f i s := by
  unfold refS rightS
  rw [← addr_parts]
  by_cases h1 : f = opaB
  · subst h1
    rw [if_neg (by decide), if_pos rfl, if_pos rfl]
    cases wordS i <;> cases s <;> rfl
  · by_cases h2 : f = issB
    · subst h2
      rw [if_pos rfl, if_neg (by decide), if_neg (by decide), if_pos rfl]
    · rw [if_neg h2, if_neg h1, if_neg h1, if_neg h2]
      by_cases h3 : f = emaB
      · rw [if_pos h3, decide_eq_true h3]
        cases wordS i <;> cases addrS i <;> cases s <;> rfl
      · rw [if_neg h3, decide_eq_false h3]
        cases wordS i <;> cases s <;> rfl
theorem word_told {s : List UInt8} (h : wordS s = true) : toldB s = true ∧ s ≠ [] ∧ s.length ≤ 256 := by
  unfold wordS at h
  simp only [Bool.and_eq_true, Bool.not_eq_true', decide_eq_true_eq] at h
  exact ⟨h.2.2, by intro e; subst e; simp at h, h.2.1⟩
theorem right_fmt {f i s : List UInt8} (h : rightS f i s = true) : f = opaB ∨ f = emaB ∨ f = issB := by
  unfold rightS at h
  by_cases h1 : f = opaB
  · exact .inl h1
  · rw [if_neg h1] at h
    by_cases h2 : f = emaB
    · exact .inr (.inl h2)
    · rw [if_neg h2] at h
      by_cases h3 : f = issB
      · exact .inr (.inr h3)
      · rw [if_neg h3] at h
        cases h
theorem right_id {f i s : List UInt8} (h : rightS f i s = true) : wordS i = true := by
  unfold rightS at h
  split at h
  · exact (Bool.and_eq_true_iff.1 h).1
  · split at h
    · exact (Bool.and_eq_true_iff.1 h).1
    · split at h
      · exact (Bool.and_eq_true_iff.1 h).1
      · cases h
theorem fmt_told {f : List UInt8} (h : f = opaB ∨ f = emaB ∨ f = issB) : toldB f = true := by
  rcases h with rfl | rfl | rfl <;> decide +kernel
/-- A right subject's value is right. -/
theorem val_right {f i s : List UInt8} (h : rightS f i s = true) : rightJ (valS f i s) = true := by
  have hi := right_strB i
  have hf := right_strB f
  have hs := right_strB s
  have ti := (word_told (right_id h)).1
  have tf := fmt_told (right_fmt h)
  rw [ti] at hi
  rw [tf] at hf
  unfold valS memsS
  have r6 : ∀ m, rightJ (jobj m) = rightM m := by
    intro m
    simp [jobj, rightJ]
  rw [r6]
  rcases right_fmt h with rfl | rfl | rfl
  · rw [if_neg (by decide), if_neg (by decide)]
    have e0 : toldB fmtB = true := by decide +kernel
    have e1 : toldB idB = true := by decide +kernel
    have e2 : fmtB ≠ idB := by decide
    simp [rightM, hi, hf, e0, e1, getM, e2.symm]
  · rw [if_neg (by decide), if_pos rfl]
    have e0 : toldB fmtB = true := by decide +kernel
    have e1 : toldB emaB = true := by decide +kernel
    have e2 : fmtB ≠ emaB := by decide
    simp [rightM, hi, hf, e0, e1, getM, e2.symm]
  · rw [if_pos rfl]
    have ts : toldB s = true := by
      unfold rightS at h
      rw [if_neg (by decide), if_neg (by decide), if_pos rfl, Bool.and_eq_true] at h
      exact (word_told h.2).1
    rw [ts] at hs
    have e0 : toldB fmtB = true := by decide +kernel
    have e1 : toldB isB = true := by decide +kernel
    have e2 : toldB subB = true := by decide +kernel
    have e3 : fmtB ≠ isB := by decide
    have e4 : fmtB ≠ subB := by decide
    have e5 : isB ≠ subB := by decide
    simp [rightM, hi, hf, hs, e0, e1, e2, getM, e3.symm, e4.symm, e5.symm]
end Go.Proofs.YtfcokdkbjajohaaGreatDoor
/- Whom an event is about, plain: a value's text, the subject of a value. -/
set_option linter.unusedVariables false
namespace Go.Proofs.YtfcokdkbjajohaaGreatDoor
open Go.RowKit

/-- What stands behind the format in a subject's text. -/
def restS (f i s : List UInt8) : List UInt8 :=
  if f = opaB then [44, 34, 105, 100, 34, 58] ++ quoteL i else if f = emaB then [44, 34, 101, 109, 97, 105, 108, 34, 58] ++ quoteL i
  else [44, 34, 105, 115, 115, 34, 58] ++ quoteL s ++ [44, 34, 115, 117, 98, 34, 58] ++ quoteL i
theorem plain_val {f i s : List UInt8} (h : f = opaB ∨ f = emaB ∨ f = issB) : plainJ (valS f i s) = [123, 34, 102, 111, 114, 109, 97, 116, 34, 58] ++ quoteL f ++ restS f i s ++ [125] := by
  have p6 : ∀ m, plainJ (jobj m) = 123 :: (plainM true m ++ [125]) := by
    intro m
    simp [jobj, plainJ]
  have q1 : quoteL fmtB = [34, 102, 111, 114, 109, 97, 116, 34] := by decide +kernel
  have q2 : quoteL idB = [34, 105, 100, 34] := by decide +kernel
  have q3 : quoteL emaB = [34, 101, 109, 97, 105, 108, 34] := by decide +kernel
  have q4 : quoteL isB = [34, 105, 115, 115, 34] := by decide +kernel
  have q5 : quoteL subB = [34, 115, 117, 98, 34] := by decide +kernel
  unfold valS memsS restS
  rw [p6]
  rcases h with rfl | rfl | rfl
  · rw [if_neg (by decide), if_neg (by decide), if_pos rfl]
    simp [plainM, plain_str, q1, q2]
  · rw [if_neg (by decide), if_pos rfl, if_neg (by decide), if_pos rfl]
    simp [plainM, plain_str, q1, q3]
  · rw [if_pos rfl, if_neg (by decide), if_neg (by decide)]
    simp [plainM, plain_str, q1, q4, q5]
theorem right_iss {f i s : List UInt8} (h : rightS f i s = true) (hf : f ≠ issB) : s = [] := by
  rcases right_fmt h with rfl | rfl | rfl
  · unfold rightS at h
    rw [if_pos rfl] at h
    simp at h
    exact h.2
  · unfold rightS at h
    rw [if_neg (by decide), if_pos rfl] at h
    simp at h
    exact h.2.2
  · exact absurd rfl hf
theorem of_val {f i s : List UInt8} (h : rightS f i s = true) : ofS (valS f i s) = ((f, i, s), 0) := by
  have hr := val_right h
  have hs := fun hf => right_iss h hf
  have n1 : fmtB ≠ idB := by decide
  have n2 : fmtB ≠ emaB := by decide
  have n3 : fmtB ≠ isB := by decide
  have n4 : fmtB ≠ subB := by decide
  have n5 : isB ≠ subB := by decide
  rcases right_fmt h with rfl | rfl | rfl
  · obtain rfl := hs (by decide)
    have hv : valS opaB i [] = jobj [(fmtB, jstr opaB), (idB, jstr i)] := by unfold valS memsS; rw [if_neg (by decide), if_neg (by decide)]
    rw [hv] at hr ⊢
    have s1 : strM fmtB (jobj [(fmtB, jstr opaB), (idB, jstr i)]) = (opaB, true) := by
      unfold strM getJ
      simp [jobj, JV.kind, JV.mem, getM, jstr, JV.text]
    have s2 : strM idB (jobj [(fmtB, jstr opaB), (idB, jstr i)]) = (i, true) := by
      unfold strM getJ
      simp [jobj, JV.kind, JV.mem, getM, jstr, JV.text, n1]
    have s3 : (jobj [(fmtB, jstr opaB), (idB, jstr i)]).mem.length = 2 := rfl
    have s4 : namesS opaB = [idB] := by decide
    unfold ofS
    rw [s1, hr, s3, s4, if_neg (by decide), if_neg (by decide), if_neg (by decide), if_neg (by decide), if_neg (by decide : ¬ (opaB = emaB)), s2, h]
    rfl
  · obtain rfl := hs (by decide)
    have hv : valS emaB i [] = jobj [(fmtB, jstr emaB), (emaB, jstr i)] := by unfold valS memsS; rw [if_neg (by decide), if_pos rfl]
    rw [hv] at hr ⊢
    have s1 : strM fmtB (jobj [(fmtB, jstr emaB), (emaB, jstr i)]) = (emaB, true) := by
      unfold strM getJ
      simp [jobj, JV.kind, JV.mem, getM, jstr, JV.text]
    have s2 : strM emaB (jobj [(fmtB, jstr emaB), (emaB, jstr i)]) = (i, true) := by
      unfold strM getJ
      simp [jobj, JV.kind, JV.mem, getM, jstr, JV.text, n2]
    have s3 : (jobj [(fmtB, jstr emaB), (emaB, jstr i)]).mem.length = 2 := rfl
    have s4 : namesS emaB = [emaB] := by decide
    unfold ofS
    rw [s1, hr, s3, s4, if_neg (by decide), if_neg (by decide), if_neg (by decide), if_neg (by decide), if_pos rfl, s2, h]
    rfl
  · have hv : valS issB i s = jobj [(fmtB, jstr issB), (isB, jstr s), (subB, jstr i)] := by unfold valS memsS; rw [if_pos rfl]
    rw [hv] at hr ⊢
    have s1 : strM fmtB (jobj [(fmtB, jstr issB), (isB, jstr s), (subB, jstr i)]) = (issB, true) := by
      unfold strM getJ
      simp [jobj, JV.kind, JV.mem, getM, jstr, JV.text]
    have s2 : strM isB (jobj [(fmtB, jstr issB), (isB, jstr s), (subB, jstr i)]) = (s, true) := by
      unfold strM getJ
      simp [jobj, JV.kind, JV.mem, getM, jstr, JV.text, n3]
    have s5 : strM subB (jobj [(fmtB, jstr issB), (isB, jstr s), (subB, jstr i)]) = (i, true) := by
      unfold strM getJ
      simp [jobj, JV.kind, JV.mem, getM, jstr, JV.text, n4, n5]
    have s3 : (jobj [(fmtB, jstr issB), (isB, jstr s), (subB, jstr i)]).mem.length = 3 := rfl
    have s4 : namesS issB = [isB, subB] := by decide
    unfold ofS
    rw [s1, hr, s3, s4, if_neg (by decide), if_neg (by decide), if_neg (by decide), if_pos rfl, s2, s5, h]
    rfl
theorem val_size (f i s : List UInt8) : sizeJ (valS f i s) ≤ 100 + f.length + i.length + s.length := by
  unfold valS memsS
  have h1 := size_str f
  have h2 := size_str i
  have h3 := size_str s
  have e0 : fmtB.length = 6 := rfl
  have e1 : idB.length = 2 := rfl
  have e2 : emaB.length = 5 := rfl
  have e3 : isB.length = 3 := rfl
  have e4 : subB.length = 3 := rfl
  by_cases hi : f = issB
  · rw [if_pos hi]
    simp only [jobj, sizeJ, sizeM, sizeL, h1, h2, h3, e0, e3, e4, List.length_nil]
    omega
  · rw [if_neg hi]
    by_cases he : f = emaB
    · rw [if_pos he]
      simp only [jobj, sizeJ, sizeM, sizeL, h1, h2, e0, e2, List.length_nil]
      omega
    · rw [if_neg he]
      simp only [jobj, sizeJ, sizeM, sizeL, h1, h2, e0, e1, List.length_nil]
      omega
end Go.Proofs.YtfcokdkbjajohaaGreatDoor
/- Whom an event is about, plain: what a value's subject says of the value. -/
set_option linter.unusedVariables false
namespace Go.Proofs.YtfcokdkbjajohaaGreatDoor
open Go.RowKit

theorem str_get {n t : List UInt8} {v : JV} (hr : rightJ v = true) (h : strM n v = (t, true)) : getJ n v = some (jstr t) := by
  unfold strM at h
  cases hg : getJ n v with
  | none => rw [hg] at h; cases h
  | some x =>
    rw [hg] at h
    simp only [Prod.mk.injEq, beq_iff_eq] at h
    unfold getJ at hg
    split at hg
    · rename_i h6
      rcases right_cases hr with e | ⟨_, e⟩ | ⟨_, e, _⟩ | ⟨_, e, _⟩ | ⟨_, e, _⟩ | ⟨m, e, hm⟩ <;> subst e <;> simp [jnull, jbool, jnum, jstr, jarr, jobj, JV.kind] at h6
      have hx := get_right hm hg
      rcases right_cases hx with e | ⟨_, e⟩ | ⟨_, e, _⟩ | ⟨u, e, _⟩ | ⟨_, e, _⟩ | ⟨_, e, _⟩ <;> subst e <;> simp [jnull, jbool, jnum, jstr, jarr, jobj, JV.kind, JV.text] at h
      rw [h]
    · cases hg
theorem of_cases (v : JV) :
    ((strM fmtB v).2 = false ∧ ofS v = (([], [], []), 10)) ∨ ((strM fmtB v).2 = true ∧ namesS (strM fmtB v).1 = [] ∧ ofS v = (([], [], []), 42)) ∨ ((strM fmtB v).2 = true ∧ namesS (strM fmtB v).1 ≠ [] ∧ ofS v = (([], [], []), 10)) ∨
    ((strM fmtB v).2 = true ∧ namesS (strM fmtB v).1 ≠ [] ∧ ∃ I S, ofS v = (((strM fmtB v).1, I, S), 0) ∧ rightS (strM fmtB v).1 I S = true ∧ rightJ v = true ∧ v.mem.length = (valS (strM fmtB v).1 I S).mem.length ∧ ∀ p ∈ (valS (strM fmtB v).1 I S).mem, getJ p.1 v = some p.2) := by
  obtain ⟨F, okF, hF⟩ : ∃ F okF, strM fmtB v = (F, okF) := ⟨_, _, rfl⟩
  have ho : ofS v = ofS v := rfl
  conv at ho => rhs; unfold ofS
  rw [hF] at ho ⊢
  simp only at ho ⊢
  cases okF with
  | false =>
    rw [if_pos rfl] at ho
    exact .inl ⟨rfl, ho⟩
  | true =>
    rw [if_neg (by simp)] at ho
    refine .inr ?_
    by_cases hn : namesS F = []
    · rw [if_pos hn] at ho
      exact .inl ⟨rfl, hn, ho⟩
    · rw [if_neg hn] at ho
      refine .inr ?_
      by_cases hbad : rightJ v = false ∨ v.mem.length ≠ (namesS F).length + 1
      · rw [if_pos hbad] at ho
        exact .inl ⟨rfl, hn, ho⟩
      · rw [if_neg hbad] at ho
        have hr : rightJ v = true := by
          cases h : rightJ v with
          | true => rfl
          | false => exact absurd (.inl h) hbad
        have hm : v.mem.length = (namesS F).length + 1 := Classical.byContradiction fun e => hbad (.inr e)
        have gf := str_get hr hF
        by_cases h3 : F = issB
        · rw [if_pos h3] at ho
          obtain ⟨I, okI, hI⟩ : ∃ I okI, strM subB v = (I, okI) := ⟨_, _, rfl⟩
          obtain ⟨S, okS, hS⟩ : ∃ S okS, strM isB v = (S, okS) := ⟨_, _, rfl⟩
          rw [hI, hS] at ho
          simp only at ho
          cases hc : (okI && (okS && rightS issB I S)) with
          | false =>
            rw [hc, if_neg (by simp)] at ho
            exact .inl ⟨rfl, hn, ho⟩
          | true =>
            rw [hc, if_pos rfl] at ho
            simp only [Bool.and_eq_true] at hc
            obtain ⟨rfl, rfl, hrs⟩ := hc
            subst h3
            refine .inr ⟨rfl, hn, I, S, ho, hrs, hr, ?_, ?_⟩
            · rw [hm]
              unfold valS memsS
              rw [if_pos rfl]
              rfl
            · unfold valS memsS
              rw [if_pos rfl]
              intro p hp
              simp only [jobj, JV.mem, List.mem_cons, List.mem_nil_iff, or_false] at hp
              rcases hp with rfl | rfl | rfl
              · exact gf
              · exact str_get hr hS
              · exact str_get hr hI
        · rw [if_neg h3] at ho
          obtain ⟨nm, hnm⟩ : ∃ nm, (if F = emaB then emaB else idB) = nm := ⟨_, rfl⟩
          rw [hnm] at ho
          obtain ⟨I, okI, hI⟩ : ∃ I okI, strM nm v = (I, okI) := ⟨_, _, rfl⟩
          rw [hI] at ho
          simp only at ho
          cases hc : (okI && rightS F I []) with
          | false =>
            rw [hc, if_neg (by simp)] at ho
            exact .inl ⟨rfl, hn, ho⟩
          | true =>
            rw [hc, if_pos rfl] at ho
            simp only [Bool.and_eq_true] at hc
            obtain ⟨rfl, hrs⟩ := hc
            have hv : valS F I [] = jobj [(fmtB, jstr F), (nm, jstr I)] := by
              unfold valS memsS
              rw [if_neg h3, ← hnm]
              by_cases h2 : F = emaB
              · rw [if_pos h2, if_pos h2]
              · rw [if_neg h2, if_neg h2]
            have hn1 : (namesS F).length = 1 := by
              unfold namesS at hn ⊢
              by_cases h1 : F = opaB
              · rw [if_pos h1]; rfl
              · rw [if_neg h1] at hn ⊢
                by_cases h2 : F = emaB
                · rw [if_pos h2]; rfl
                · rw [if_neg h2, if_neg h3] at hn
                  exact absurd rfl hn
            refine .inr ⟨rfl, hn, I, [], ho, hrs, hr, ?_, ?_⟩
            · rw [hm, hv, hn1]
              rfl
            · rw [hv]
              intro p hp
              simp only [jobj, JV.mem, List.mem_cons, List.mem_nil_iff, or_false] at hp
              rcases hp with rfl | rfl
              · exact gf
              · exact str_get hr hI
theorem names_iff (F : List UInt8) : namesS F = [] ↔ F ≠ opaB ∧ F ≠ emaB ∧ F ≠ issB := by
  unfold namesS
  constructor
  · intro h
    by_cases h1 : F = opaB
    · rw [if_pos h1] at h; cases h
    · rw [if_neg h1] at h
      by_cases h2 : F = emaB
      · rw [if_pos h2] at h; cases h
      · rw [if_neg h2] at h
        by_cases h3 : F = issB
        · rw [if_pos h3] at h; cases h
        · exact ⟨h1, h2, h3⟩
  · rintro ⟨h1, h2, h3⟩
    rw [if_neg h1, if_neg h2, if_neg h3]
theorem val_leaf (f i s : List UInt8) : ∀ p ∈ (valS f i s).mem, ∃ t, p.2 = jstr t ∧ (t = f ∨ t = i ∨ t = s) := by
  unfold valS memsS
  intro p hp
  simp only [jobj, JV.mem, List.mem_cons] at hp
  rcases hp with rfl | hp
  · exact ⟨f, rfl, .inl rfl⟩
  · split at hp
    · simp only [List.mem_cons, List.mem_nil_iff, or_false] at hp
      rcases hp with rfl | rfl
      · exact ⟨s, rfl, .inr (.inr rfl)⟩
      · exact ⟨i, rfl, .inr (.inl rfl)⟩
    · split at hp <;> simp only [List.mem_cons, List.mem_nil_iff, or_false] at hp <;> subst hp <;> exact ⟨i, rfl, .inr (.inl rfl)⟩
theorem val_mem_right {f i s : List UInt8} (h : rightS f i s = true) : ∀ p ∈ (valS f i s).mem, rightJ p.2 = true := by
  have hr := val_right h
  have e : valS f i s = jobj (valS f i s).mem := rfl
  rw [e] at hr
  have hm : rightM (valS f i s).mem = true := by simpa [jobj, rightJ] using hr
  intro p hp
  exact (((rightM_all _).1 hm).1 p hp).2
theorem right_len {f i s : List UInt8} (h : rightS f i s = true) : f.length ≤ 7 ∧ i.length ≤ 256 ∧ s.length ≤ 256 := by
  refine ⟨?_, (word_told (right_id h)).2.2, ?_⟩
  · rcases right_fmt h with rfl | rfl | rfl <;> decide
  · by_cases hf : f = issB
    · subst hf
      unfold rightS at h
      rw [if_neg (by decide), if_neg (by decide), if_pos rfl, Bool.and_eq_true] at h
      exact (word_told h.2).2.2
    · rw [right_iss h hf]
      exact Nat.zero_le _
end Go.Proofs.YtfcokdkbjajohaaGreatDoor
/- A subject's value by its members, in one order or with the first and the last turned: plain data, no program. -/
set_option linter.unusedVariables false
namespace Go.Proofs.YtfcokdkbjajohaaGreatDoor
open Go.RowKit

/-- The name of the one who is meant. -/
def keyT (f : List UInt8) : List UInt8 := if f = emaB then emaB else idB
def memT (f i s : List UInt8) (turn : Bool) : List (List UInt8 × JV) :=
  if f = issB then (if turn then [(subB, jstr i), (isB, jstr s), (fmtB, jstr f)] else [(fmtB, jstr f), (isB, jstr s), (subB, jstr i)])
  else (if turn then [(keyT f, jstr i), (fmtB, jstr f)] else [(fmtB, jstr f), (keyT f, jstr i)])
theorem getM_more {n : List UInt8} {m q : List (List UInt8 × JV)} {v : JV} (h : getM n m = some v) : getM n (m ++ q) = some v := by
  induction m with
  | nil => simp [getM] at h
  | cons x r ih =>
    obtain ⟨k, u⟩ := x
    simp only [getM, List.cons_append] at h ⊢
    split
    · next e => rw [if_pos e] at h; exact h
    · next e => rw [if_neg e] at h; exact ih h
theorem fmt_T (f i s : List UInt8) (turn : Bool) (hf : f = opaB ∨ f = emaB ∨ f = issB) : getM fmtB (memT f i s turn) = some (jstr f) := by
  have n1 : subB ≠ fmtB := by decide
  have n2 : isB ≠ fmtB := by decide
  have n3 : keyT f ≠ fmtB := by unfold keyT; split <;> decide
  unfold memT
  cases turn <;> split <;> simp [getM, n1, n2, n3]
theorem len_T (f i s : List UInt8) (turn : Bool) (hf : f = opaB ∨ f = emaB ∨ f = issB) : (memT f i s turn).length = (namesS f).length + 1 := by
  have n1 : opaB ≠ issB := by decide
  have n2 : emaB ≠ issB := by decide
  have n3 : emaB ≠ opaB := by decide
  have n4 : issB ≠ opaB := by decide
  have n5 : issB ≠ emaB := by decide
  unfold memT namesS
  rcases hf with rfl | rfl | rfl <;> cases turn <;> simp [n1, n2, n3, n4, n5]
theorem strM_obj {n t : List UInt8} {m : List (List UInt8 × JV)} (h : getM n m = some (jstr t)) : strM n (jobj m) = (t, true) := by
  unfold strM getJ
  rw [show (jobj m).kind = 6 from rfl, if_pos rfl, show (jobj m).mem = m from rfl, h]
  rfl
/-- With one member more it is none. -/
theorem of_T_more (f i s : List UInt8) (turn : Bool) (hf : f = opaB ∨ f = emaB ∨ f = issB) (more : List UInt8) (u : JV) : (ofS (jobj (memT f i s turn ++ [(more, u)]))).2 ≠ 0 := by
  have h1 := strM_obj (getM_more (q := [(more, u)]) (fmt_T f i s turn hf))
  have h2 := len_T f i s turn hf
  have hn : namesS f ≠ [] := by
    intro e
    have := (names_iff f).1 e
    rcases hf with h | h | h
    · exact this.1 h
    · exact this.2.1 h
    · exact this.2.2 h
  unfold ofS
  rw [h1]
  simp only
  rw [if_neg (by decide), if_neg hn, if_pos]
  · decide
  · refine .inr ?_
    rw [show (jobj (memT f i s turn ++ [(more, u)])).mem = memT f i s turn ++ [(more, u)] from rfl, List.length_append, h2]
    simp
theorem right_T {f i s : List UInt8} {turn : Bool} (hf : f = opaB ∨ f = emaB ∨ f = issB) (h : rightS f i s = true) : rightJ (jobj (memT f i s turn)) = true := by
  have hv := val_mem_right h
  have e0 : toldB fmtB = true := by decide +kernel
  have e1 : toldB isB = true := by decide +kernel
  have e2 : toldB subB = true := by decide +kernel
  have e3 : toldB (keyT f) = true := by unfold keyT; split <;> decide +kernel
  have n1 : subB ≠ fmtB := by decide
  have n2 : isB ≠ fmtB := by decide
  have n3 : keyT f ≠ fmtB := by unfold keyT; split <;> decide
  have n4 : isB ≠ subB := by decide
  have n5 : fmtB ≠ subB := by decide
  have n6 : fmtB ≠ isB := by decide
  have n7 : subB ≠ isB := by decide
  have r6 : ∀ m, rightJ (jobj m) = rightM m := by
    intro m
    simp [jobj, rightJ]
  have hr : ∀ t, (t = f ∨ t = i ∨ (f = issB ∧ t = s)) → rightJ (jstr t) = true := by
    intro t ht
    rcases ht with rfl | rfl | ⟨hi, rfl⟩
    · exact hv (fmtB, jstr t) (by show _ ∈ (fmtB, jstr t) :: memsS t i s; exact List.mem_cons_self)
    · by_cases h1 : f = issB
      · exact hv (subB, jstr t) (by show _ ∈ (fmtB, jstr f) :: memsS f t s; unfold memsS; rw [if_pos h1]; simp)
      · by_cases h2 : f = emaB
        · exact hv (emaB, jstr t) (by show _ ∈ (fmtB, jstr f) :: memsS f t s; unfold memsS; rw [if_neg h1, if_pos h2]; simp)
        · exact hv (idB, jstr t) (by show _ ∈ (fmtB, jstr f) :: memsS f t s; unfold memsS; rw [if_neg h1, if_neg h2]; simp)
    · exact hv (isB, jstr t) (by show _ ∈ (fmtB, jstr f) :: memsS f i t; unfold memsS; rw [if_pos hi]; simp)
  rw [r6]
  unfold memT
  cases turn <;> split
  · next hi => simp [rightM, getM, e0, e1, e2, n1, n2, n7, hr f (.inl rfl), hr i (.inr (.inl rfl)), hr s (.inr (.inr ⟨hi, rfl⟩))]
  · simp [rightM, getM, e0, e3, n3, hr f (.inl rfl), hr i (.inr (.inl rfl))]
  · next hi => simp [rightM, getM, e0, e1, e2, n4, n5, n6, hr f (.inl rfl), hr i (.inr (.inl rfl)), hr s (.inr (.inr ⟨hi, rfl⟩))]
  · simp [rightM, getM, e0, e3, n3.symm, hr f (.inl rfl), hr i (.inr (.inl rfl))]
/-- What the value says: the subject, just if it is right. -/
theorem of_T {f i s : List UInt8} (turn : Bool) (hf : f = opaB ∨ f = emaB ∨ f = issB) (hs : f ≠ issB → s = []) : ofS (jobj (memT f i s turn)) = if rightS f i s = true then ((f, i, s), 0) else (([], [], []), 10) := by
  have h1 := strM_obj (fmt_T f i s turn hf)
  have h2 := len_T f i s turn hf
  have hrt := right_T (f := f) (i := i) (s := s) (turn := turn) hf
  have hn : namesS f ≠ [] := by
    intro e
    have := (names_iff f).1 e
    rcases hf with h | h | h
    · exact this.1 h
    · exact this.2.1 h
    · exact this.2.2 h
  have hmem : (jobj (memT f i s turn)).mem = memT f i s turn := rfl
  have hk : f = issB → strM subB (jobj (memT f i s turn)) = (i, true) ∧ strM isB (jobj (memT f i s turn)) = (s, true) := by
    intro e
    have n5 : fmtB ≠ subB := by decide
    have n6 : fmtB ≠ isB := by decide
    have n4 : isB ≠ subB := by decide
    have n7 : subB ≠ isB := by decide
    constructor
    · apply strM_obj
      unfold memT
      rw [if_pos e]
      cases turn <;> simp [getM, n5, n4]
    · apply strM_obj
      unfold memT
      rw [if_pos e]
      cases turn <;> simp [getM, n6, n7]
  have hk2 : f ≠ issB → strM (if f = emaB then emaB else idB) (jobj (memT f i s turn)) = (i, true) := by
    intro e
    have n3 : fmtB ≠ keyT f := by unfold keyT; split <;> decide
    apply strM_obj
    show getM (keyT f) _ = _
    unfold memT
    rw [if_neg e]
    cases turn <;> simp [getM, n3]
  unfold ofS
  rw [h1]
  simp only
  rw [if_neg (by decide), if_neg hn]
  by_cases hr : rightS f i s = true
  · rw [if_pos hr, if_neg (by rw [hrt hr, hmem, h2]; simp)]
    by_cases e : f = issB
    · obtain ⟨k1, k2⟩ := hk e
      rw [if_pos e, k1, k2]
      subst e
      rw [if_pos (by simpa using hr)]
    · obtain rfl := hs e
      rw [if_neg e, hk2 e, if_pos (by simpa using hr)]
  · rw [if_neg hr]
    split
    · rfl
    · by_cases e : f = issB
      · obtain ⟨k1, k2⟩ := hk e
        rw [if_pos e, k1, k2]
        subst e
        rw [if_neg (by simpa using hr)]
      · obtain rfl := hs e
        rw [if_neg e, hk2 e, if_neg (by simpa using hr)]
end Go.Proofs.YtfcokdkbjajohaaGreatDoor
/- SubjectTexts: members of texts in cells. -/
set_option linter.unusedVariables false
namespace Go.Proofs.YtfcokdkbjajohaaGreatDoor
open Go.RowKit

/-- Members of texts. -/
def mq (q : List (List UInt8 × List UInt8)) : List (List UInt8 × JV) := q.map fun x => (x.1, jstr x.2)
def cq (q : List (List UInt8 × List UInt8)) : List (List Value) := q.map fun x => [.int .i64 4, .bool false, strV x.2, .slice none 0 0, .slice none 0 0]
def row6 (x : List UInt8 × List UInt8) : List Value := [strV x.1, .int .i64 4, .bool false, strV x.2, .slice none 0 0, .slice none 0 0]
theorem cq_reps (ok : Nat → Prop) (w : World) (q : List (List UInt8 × List UInt8)) : RepsM ok w (cq q) (mq q) := by
  refine ⟨by simp [cq, mq], fun i hi hj => ?_⟩
  simp only [cq, mq, List.getElem_map]
  exact Rep.leaf ok w 4 false _
theorem memCells_q : ∀ q : List (List UInt8 × List UInt8), memCells (mq q) (cq q) = q.flatMap row6
  | [] => rfl
  | x :: q => by
    have := memCells_q q
    show strV x.1 :: ([.int .i64 4, .bool false, strV x.2, .slice none 0 0, .slice none 0 0] ++ memCells (mq q) (cq q)) = row6 x ++ q.flatMap row6
    rw [this]
    rfl
theorem row6_len (x : List UInt8 × List UInt8) : (row6 x).length = 6 := rfl
theorem row6_one (x : List UInt8 × List UInt8) : ∀ u ∈ row6 x, u.oneCell' = true := by
  intro u hu
  simp only [row6, strV, List.mem_cons, List.mem_nil_iff, or_false] at hu
  rcases hu with rfl | rfl | rfl | rfl | rfl | rfl <;> rfl
theorem flat6_len : ∀ q : List (List UInt8 × List UInt8), (q.flatMap row6).length = q.length * 6
  | [] => rfl
  | x :: q => by
    have := flat6_len q
    rw [List.flatMap_cons, List.length_append, row6_len, List.length_cons, this]
    omega
theorem flat6_one (q : List (List UInt8 × List UInt8)) : ∀ u ∈ q.flatMap row6, u.oneCell' = true := by
  intro u hu
  obtain ⟨x, hx, h⟩ := List.mem_flatMap.1 hu
  exact row6_one x u h
/-- A subject's members, before a turn. -/
def baseQ (f i s : List UInt8) : List (List UInt8 × List UInt8) := if f = issB then [(isB, s), (subB, i)] else [(keyT f, i)]
/-- The middle and the last one. -/
def midQ (f s : List UInt8) : List (List UInt8 × List UInt8) := if f = issB then [(isB, s)] else []
def lastQ (f i : List UInt8) : List UInt8 × List UInt8 := if f = issB then (subB, i) else (keyT f, i)
def turnQ (x y : List UInt8 × List UInt8) (mid : List (List UInt8 × List UInt8)) (turn : Bool) : List (List UInt8 × List UInt8) := if turn then y :: (mid ++ [x]) else x :: (mid ++ [y])
theorem turnQ_len (x y : List UInt8 × List UInt8) (mid : List (List UInt8 × List UInt8)) (turn : Bool) : (turnQ x y mid turn).length = mid.length + 2 := by
  cases turn <;> simp [turnQ]
theorem memT_q (f i s : List UInt8) (turn : Bool) : memT f i s turn = mq (turnQ (fmtB, f) (lastQ f i) (midQ f s) turn) := by
  unfold memT turnQ lastQ midQ
  cases turn <;> split <;> rfl
/-- The row behind a turn. -/
theorem turn_cells {x y : List UInt8 × List UInt8} {mid : List (List UInt8 × List UInt8)} {cur C1 C2 : Array Value} (hc : cur.toList.take ((mid.length + 2) * 6) = (x :: (mid ++ [y])).flatMap row6) (hs : (mid.length + 2) * 6 ≤ cur.size)
    (h1 : C1 = (cur.toList.take 0 ++ row6 y ++ cur.toList.drop (0 + 6)).toArray) (h2 : C2 = (C1.toList.take ((mid.length + 1) * 6) ++ row6 x ++ C1.toList.drop ((mid.length + 1) * 6 + 6)).toArray) :
    C1.size = cur.size ∧ C2.size = cur.size ∧ ∀ (i : Nat) (u : Value), ((y :: (mid ++ [x])).flatMap row6)[i]? = some u → C2[i]? = some u := by
  have hl1 : C1.toList = row6 y ++ cur.toList.drop 6 := by rw [h1]; simp
  have hz1 : C1.size = cur.size := by
    rw [← Array.length_toList, hl1, List.length_append, row6_len, List.length_drop, Array.length_toList]
    omega
  have hl2 : C2.toList = C1.toList.take ((mid.length + 1) * 6) ++ row6 x ++ C1.toList.drop ((mid.length + 1) * 6 + 6) := by rw [h2]
  have hz2 : C2.size = cur.size := by
    have hz1' : C1.toList.length = cur.size := by rw [Array.length_toList, hz1]
    rw [← Array.length_toList, hl2]
    simp only [List.length_append, row6_len, List.length_take, List.length_drop, hz1']
    omega
  refine ⟨hz1, hz2, fun i u hu => ?_⟩
  have hmid : (cur.toList.drop 6).take (mid.length * 6) = mid.flatMap row6 := by
    have h := congrArg (fun l => (l.drop 6).take (mid.length * 6)) hc
    simp only [List.flatMap_cons, List.flatMap_append] at h
    rw [List.drop_take, List.take_take, List.drop_append_of_le_length (by rw [row6_len]; omega), show (row6 x).drop 6 = [] from rfl, List.nil_append, List.take_append_of_le_length (by rw [flat6_len]; omega)] at h
    have e1 : min (mid.length * 6) ((mid.length + 2) * 6 - 6) = mid.length * 6 := by omega
    have e2 : (mid.flatMap row6).take (mid.length * 6) = mid.flatMap row6 := List.take_of_length_le (by rw [flat6_len]; omega)
    rw [e1, e2] at h
    exact h
  have htake : C1.toList.take ((mid.length + 1) * 6) = row6 y ++ mid.flatMap row6 := by
    rw [hl1, List.take_append, row6_len, List.take_of_length_le (by rw [row6_len]; omega), show (mid.length + 1) * 6 - 6 = mid.length * 6 by omega, hmid]
  have hall : (y :: (mid ++ [x])).flatMap row6 = C2.toList.take ((mid.length + 2) * 6) := by
    rw [hl2, htake, List.flatMap_cons, List.flatMap_append, List.take_append_of_le_length, List.take_of_length_le]
    · simp
    · rw [List.length_append, List.length_append, row6_len, row6_len, flat6_len]; omega
    · rw [List.length_append, List.length_append, row6_len, row6_len, flat6_len]; omega
  rw [hall, List.getElem?_take] at hu
  split at hu
  · simpa using hu
  · cases hu
theorem first_last {x y : List UInt8 × List UInt8} {mid : List (List UInt8 × List UInt8)} {cur : Array Value} (hc : cur.toList.take ((mid.length + 2) * 6) = (x :: (mid ++ [y])).flatMap row6) :
    (∀ k, k < 6 → cur[k]? = (row6 x)[k]?) ∧ (∀ k, k < 6 → cur[(mid.length + 1) * 6 + k]? = (row6 y)[k]?) := by
  have h : ∀ i, i < (mid.length + 2) * 6 → cur[i]? = ((x :: (mid ++ [y])).flatMap row6)[i]? := fun i hi => by
    rw [← hc, List.getElem?_take, if_pos hi]
    simp
  refine ⟨fun k hk => ?_, fun k hk => ?_⟩
  · rw [h k (by omega), List.flatMap_cons, List.getElem?_append_left (by rw [row6_len]; omega)]
  · rw [h _ (by omega), List.flatMap_cons, List.getElem?_append_right (by rw [row6_len]; omega), List.flatMap_append, row6_len, List.getElem?_append_right (by rw [flat6_len]; omega), flat6_len, show (mid.length + 1) * 6 + k - 6 - mid.length * 6 = k by omega]
    simp
theorem own_one {w : World} {T : TypeId} {A : Array Value} {cs : List Value} (hA : A = cs.toArray) (hl : cs.length = 6) : (w.alloc (.cells A T)).ownsRow w.heap.size T 6 (.slice (some ⟨w.heap.size, 0, none⟩) 1 1) 1 cs := by
  subst hA
  exact ⟨by simp [hl], .inr ⟨w.heap.size, 1, cs.toArray, rfl, Nat.le_refl _, heap_alloc_new w _, Nat.le_refl _, by decide, by simp [hl], by simp only [Nat.one_mul]; exact List.take_of_length_le (by simp [hl])⟩⟩
/-- The worlds that a region with two stores goes through. -/
def stW (w0 w1 w2 : World) (b : Nat → Bool) : World := if b 17 = true then w2 else if b 15 = true then w1 else w0
theorem stW_other {w0 w1 w2 : World} {b : Nat → Bool} {i : Nat} (h1 : i ≠ 15) (h2 : i ≠ 17) : stW w0 w1 w2 (fun j => if j = i then true else b j) = stW w0 w1 w2 b := by
  unfold stW
  simp only [h1.symm, h2.symm, if_false]
theorem stW_none {w0 w1 w2 : World} {b : Nat → Bool} (h1 : b 15 = false) (h2 : b 17 = false) : stW w0 w1 w2 b = w0 := by
  unfold stW
  simp [h1, h2]
theorem stW_one {w0 w1 w2 : World} {b : Nat → Bool} (h2 : b 17 = false) : stW w0 w1 w2 (fun j => if j = 15 then true else b j) = w1 := by
  unfold stW
  simp [h2]
theorem stW_first {w0 w1 w2 : World} {b : Nat → Bool} (h1 : b 15 = true) (h2 : b 17 = false) : stW w0 w1 w2 b = w1 := by
  unfold stW
  simp [h1, h2]
theorem stW_two {w0 w1 w2 : World} {b : Nat → Bool} : stW w0 w1 w2 (fun j => if j = 17 then true else b j) = w2 := by
  unfold stW
  simp
theorem stW_all {w0 w1 w2 : World} {b : Nat → Bool} (h : b 17 = true) : stW w0 w1 w2 b = w2 := by
  unfold stW
  simp [h]
theorem midQ_opa (s : List UInt8) : midQ opaB s = [] := by unfold midQ; rw [if_neg (by decide)]
theorem midQ_ema (s : List UInt8) : midQ emaB s = [] := by unfold midQ; rw [if_neg (by decide)]
theorem midQ_iss (s : List UInt8) : midQ issB s = [(isB, s)] := by unfold midQ; rw [if_pos rfl]
theorem lastQ_opa (i : List UInt8) : lastQ opaB i = (idB, i) := by unfold lastQ keyT; rw [if_neg (by decide), if_neg (by decide)]
theorem lastQ_ema (i : List UInt8) : lastQ emaB i = (emaB, i) := by unfold lastQ keyT; rw [if_neg (by decide), if_pos rfl]
theorem lastQ_iss (i : List UInt8) : lastQ issB i = (subB, i) := by unfold lastQ; rw [if_pos rfl]
end Go.Proofs.YtfcokdkbjajohaaGreatDoor
/- subject: names, word, address. -/
set_option linter.unusedVariables false
namespace Go.Proofs.YtfcokdkbjajohaaGreatDoor
open Go.RowKit

theorem rdc_new (w : World) (xs : List Value) (T : TypeId) : RdC (w.alloc (.cells xs.toArray T)) (some ⟨w.heap.size, 0, none⟩) xs := by
  refine .inr ⟨w.heap.size, 0, rfl, fun i u hu => ?_⟩
  rw [Lib.cell_of_heap (heap_alloc_new w _)]
  simpa using hu
set_option maxRecDepth 100000 in
set_option maxHeartbeats 4000000 in
theorem names_any (f : List UInt8) (w : World) :
    Calls Tryz.prog 76 #[.string ⟨f.toArray⟩] w fun e w' => (∃ a c, e = .returned (.slice a (namesS f).length c) ∧ RdC w' a ((namesS f).map strV)) ∧ Below w.heap.size w w' := by
  by_cases h1 : f = opaB
  · subst h1
    unfold opaB
    go_enter Tryz.func76, Tryz.ntmps76
    go_wp2_with fail
    refine bodyPost_ret (results_tmp rfl _ _ _) rfl ?_
    exact ⟨⟨_, _, rfl, rdc_new w _ _⟩, (Below.refl _ _).alloc (Nat.le_refl _) _⟩
  by_cases h2 : f = emaB
  · subst h2
    unfold emaB
    go_enter Tryz.func76, Tryz.ntmps76
    go_wp2_with fail
    refine bodyPost_ret (results_tmp rfl _ _ _) rfl ?_
    exact ⟨⟨_, _, rfl, rdc_new w _ _⟩, (Below.refl _ _).alloc (Nat.le_refl _) _⟩
  by_cases h3 : f = issB
  · subst h3
    unfold issB
    go_enter Tryz.func76, Tryz.ntmps76
    go_wp2_with fail
    refine bodyPost_ret (results_tmp rfl _ _ _) rfl ?_
    exact ⟨⟨_, _, rfl, rdc_new w _ _⟩, (Below.refl _ _).alloc (Nat.le_refl _) _⟩
  have hn : namesS f = [] := by unfold namesS; rw [if_neg h1, if_neg h2, if_neg h3]
  have q1 : (f == [111, 112, 97, 113, 117, 101]) = false := beq_false_of_ne h1
  have q2 : (f == [101, 109, 97, 105, 108]) = false := beq_false_of_ne h2
  have q3 : (f == [105, 115, 115, 95, 115, 117, 98]) = false := beq_false_of_ne h3
  rw [hn]
  clear h1 h2 h3 hn
  go_enter Tryz.func76, Tryz.ntmps76
  go_wp2_with fail
  refine bodyPost_ret (results_tmp rfl _ _ _) rfl ?_
  exact ⟨⟨_, _, rfl, .inl rfl⟩, Below.refl _ _⟩
end Go.Proofs.YtfcokdkbjajohaaGreatDoor
/- The document's Parts. -/
set_option linter.unusedVariables false
namespace Go.Proofs.YtfcokdkbjajohaaGreatDoor
open Go.RowKit

def strs (l : List (List UInt8)) : List Value := l.map fun p => .string ⟨p.toArray⟩
theorem info_str : (Tryz.prog.info? 9).map (fun i => (i.zero, i.size, i.bytes)) = some (some (.string ⟨#[]⟩), 1, 16) := by kernel_rfl
/-- The parts up to i, and where the last begins. -/
def PartsAt (c : UInt8) (s : List UInt8) (done : List (List UInt8)) (q i : Nat) : Prop :=
  (i ≤ s.length ∧ q ≤ i ∧ partsL c s = done ++ partsL c (s.drop q) ∧ c ∉ (s.drop q).take (i - q)) ∨ (i = s.length + 1 ∧ partsL c s = done)
theorem PartsAt.start (c : UInt8) (s : List UInt8) : PartsAt c s [] 0 0 := .inl ⟨by omega, by omega, by simp, by simp⟩
theorem PartsAt.on {c : UInt8} {s : List UInt8} {done : List (List UInt8)} {q i : Nat} (h : PartsAt c s done q i) (hi : i < s.length) (hc : s[i] ≠ c) : PartsAt c s done q (i + 1) := by
  rcases h with ⟨h1, h2, h3, h4⟩ | ⟨h1, _⟩
  · refine .inl ⟨by omega, by omega, h3, ?_⟩
    rw [show i + 1 - q = (i - q) + 1 by omega, List.take_add_one]
    intro hm
    rcases List.mem_append.1 hm with hm | hm
    · exact h4 hm
    · rw [List.getElem?_drop, show q + (i - q) = i by omega, List.getElem?_eq_getElem hi] at hm
      simp at hm
      exact hc hm.symm
  · omega
theorem PartsAt.hit {c : UInt8} {s : List UInt8} {done : List (List UInt8)} {q i : Nat} (h : PartsAt c s done q i) (hi : i < s.length) (hc : s[i] = c) : q ≤ i ∧ PartsAt c s (done ++ [(s.drop q).take (i - q)]) (i + 1) (i + 1) := by
  rcases h with ⟨h1, h2, h3, h4⟩ | ⟨h1, _⟩
  · refine ⟨h2, .inl ⟨by omega, by omega, ?_, by simp⟩⟩
    have e : s.drop q = (s.drop q).take (i - q) ++ c :: s.drop (i + 1) := by
      conv => lhs; rw [← List.take_append_drop (i - q) (s.drop q)]
      rw [List.drop_drop, show q + (i - q) = i by omega, List.drop_eq_getElem_cons hi, hc]
    rw [h3]
    conv => lhs; rw [e]
    rw [partsL_hit c _ _ h4]
    simp
  · omega
theorem PartsAt.last {c : UInt8} {s : List UInt8} {done : List (List UInt8)} {q : Nat} (h : PartsAt c s done q s.length) : q ≤ s.length ∧ PartsAt c s (done ++ [(s.drop q).take (s.length - q)]) (s.length + 1) (s.length + 1) := by
  rcases h with ⟨h1, h2, h3, h4⟩ | ⟨h1, _⟩
  · refine ⟨h2, .inr ⟨rfl, ?_⟩⟩
    have e : (s.drop q).take (s.length - q) = s.drop q := List.take_of_length_le (by simp)
    rw [e] at h4 ⊢
    rw [h3, partsL_none c _ h4]
  · omega
theorem PartsAt.end {c : UInt8} {s : List UInt8} {done : List (List UInt8)} {q : Nat} (h : PartsAt c s done q (s.length + 1)) : partsL c s = done := by
  rcases h with ⟨h1, _⟩ | ⟨_, h⟩
  · omega
  · exact h

set_option maxRecDepth 100000 in
set_option maxHeartbeats 8000000 in
theorem parts_any (s : List UInt8) (c : UInt8) (w : World) (hs : s.length ≤ 1000000) :
    Calls Tryz.prog 78 #[.string ⟨s.toArray⟩, .int .u8 (c.toNat : Int)] w fun e w' => (∃ a cap, e = .returned (.slice a (partsL c s).length cap) ∧ RdC w' a (strs (partsL c s))) ∧ Below w.heap.size w w' := by
  obtain ⟨i0, hi, hz0, hz1, hz2⟩ := info_parts info_str
  have HI := Lib.hid hi
  have HZ0 := Lib.hid hz0
  have HZ1 := Lib.hid hz1
  have HZ2 := Lib.hid hz2
  clear hi hz0 hz1 hz2
  go_enter Tryz.func78, Tryz.ntmps78
  go_wp2_with fail
  go_loopg [5, 6, 7] (s.length + 1) (fun k out x y wr => ∃ (i q : Nat) (done : List (List UInt8)), x = .int .i64 (q : Int) ∧ y = .int .i64 (i : Int) ∧ i + k = s.length + 1 ∧ q ≤ s.length + 1 ∧ done.length ≤ i ∧ Hid (PartsAt c s done q i) ∧ Hid (wr.ownsRow w.heap.size 9 1 out done.length (strs done)) ∧ Hid (Below w.heap.size w wr))
  case atStart => exact ⟨0, 0, [], rfl, rfl, by omega, by omega, by simp, Lib.hid (PartsAt.start c s), Lib.hid (World.ownsRow_nil _ _ _ _), Lib.hid (Below.refl _ _)⟩
  case round =>
    obtain ⟨i, q, done, rfl, rfl, hi, hq, hdl, HP, HW, HB⟩ := hrel
    have hszB : w.heap.size ≤ wr.heap.size := HB.out.size
    obtain ⟨ao, co, hout, hro, _⟩ := RdC.of_own HW.out
    subst hout
    have HRO := Lib.hid hro
    clear hro
    by_cases hlt : i < s.length
    · have hltI : (i : Int) ≤ (s.length : Int) := by omega
      have hltJ : ¬ (i : Int) = (s.length : Int) := by omega
      have hix := fun w => str_at s i hlt w
      by_cases hc : s[i] = c
      · obtain ⟨hqi, hp2⟩ := HP.out.hit hlt hc
        rw [hc] at hix
        have hsl := fun w => st_mid s q i hqi (by omega) _ _ rfl rfl w
        generalize (s.drop q).take (i - q) = x at *
        have HP2 := Lib.hid hp2
        clear hp2 HP hc
        go_wp2_with (at_builtin; refine wpList_append_new rfl (.tmp 25) (.tmp 30) 51 rfl w.heap.size 9 i0 _ 1 16 Tryz.underlying51 HI.out HZ0.out HZ1.out HZ2.out rfl (by decide) _ _ _ rfl (HW.out.alloc _) wr.heap.size 1 #[.string ⟨x.toArray⟩] 9 (0, 0) ?c1 rfl rfl ?c2 ?c3 ?c4 ?c5 ?_)
        case c1 => exact heap_alloc_new _ _
        case c2 => rfl
        case c3 => omega
        case c4 => omega
        case c5 => simp; omega
        intro v' w4 hown' hgrow
        have hb4 := below_own (HB.out.alloc hszB _) (HW.out.alloc _) hgrow (by simp; omega)
        have HW4 := Lib.hid hown'
        have HB4 := Lib.hid hb4
        clear hown' hgrow hb4 HW HB
        go_wp2_with fail
        go_roundg (gk - 1)
        case measure => omega
        case rel => exact ⟨i + 1, i + 1, done ++ [x], by first | rfl | (congr 1), by first | rfl | (congr 1), by omega, by omega, by simp; omega, HP2, Lib.hid (by have := HW4.out; simpa [strs] using this), HB4⟩
      · have hcI : ¬ ((s[i].toNat : Nat) : Int) = (c.toNat : Int) := fun e => hc (UInt8.toNat_inj.1 (by omega))
        have hp2 := HP.out.on hlt hc
        have hcN : ¬ s[i].toNat = c.toNat := fun e => hc (UInt8.toNat_inj.1 e)
        have hcB : (((s[i].toNat : Nat) : Int) == (c.toNat : Int)) = false := by rw [beq_eq_false_iff_ne]; exact hcI
        generalize s[i] = d at *
        have HP2 := Lib.hid hp2
        clear hp2 HP hc
        go_wp2_with fail
        go_roundg (gk - 1)
        case measure => omega
        case rel => exact ⟨i + 1, q, done, rfl, by first | rfl | (congr 1), by omega, by omega, by omega, HP2, HW, HB⟩
    · by_cases heq : i = s.length
      · subst heq
        have hltI : (s.length : Int) ≤ (s.length : Int) := by omega
        obtain ⟨hqi, hp2⟩ := HP.out.last
        have hsl := fun w => st_mid s q s.length hqi (by omega) _ _ rfl rfl w
        generalize (s.drop q).take (s.length - q) = x at *
        have HP2 := Lib.hid hp2
        clear hp2 HP
        go_wp2_with (at_builtin; refine wpList_append_new rfl (.tmp 25) (.tmp 30) 51 rfl w.heap.size 9 i0 _ 1 16 Tryz.underlying51 HI.out HZ0.out HZ1.out HZ2.out rfl (by decide) _ _ _ rfl (HW.out.alloc _) wr.heap.size 1 #[.string ⟨x.toArray⟩] 9 (0, 0) ?c1d rfl rfl ?c2d ?c3d ?c4d ?c5d ?_)
        case c1d => exact heap_alloc_new _ _
        case c2d => rfl
        case c3d => omega
        case c4d => omega
        case c5d => simp; omega
        intro v' w4 hown' hgrow
        have hb4 := below_own (HB.out.alloc hszB _) (HW.out.alloc _) hgrow (by simp; omega)
        have HW4 := Lib.hid hown'
        have HB4 := Lib.hid hb4
        clear hown' hgrow hb4 HW HB
        go_wp2_with fail
        go_roundg (gk - 1)
        case measure => omega
        case rel => exact ⟨s.length + 1, s.length + 1, done ++ [x], by first | rfl | (congr 1), by first | rfl | (congr 1), by omega, by omega, by simp; omega, HP2, Lib.hid (by have := HW4.out; simpa [strs] using this), HB4⟩
      · have hlt2 : i = s.length + 1 := by omega
        subst hlt2
        have hltI : ¬ (((s.length + 1 : Nat)) : Int) ≤ (s.length : Int) := by omega
        have hr := HP.out.end
        have HR := Lib.hid hr
        clear hr HP
        go_wp2_with fail
        go_ret
        refine ⟨⟨ao, ⟨co, ?_⟩, ?_⟩, HB.out⟩
        · rw [HR.out]; rfl
        · rw [HR.out]; exact HRO.out
end Go.Proofs.YtfcokdkbjajohaaGreatDoor
/- subject: word; the document's word and Right. -/
set_option linter.unusedVariables false
namespace Go.Proofs.YtfcokdkbjajohaaGreatDoor
open Go.RowKit

set_option maxRecDepth 100000 in
set_option maxHeartbeats 4000000 in
theorem sword_any (s : List UInt8) (w : World) (hs : s.length ≤ 1000000) :
    Calls Tryz.prog 123 #[.string ⟨s.toArray⟩] w fun e w' => e = .returned (.bool (wordS s)) ∧ Below w.heap.size w w' := by
  have HT := Lib.hid (told_any s w (by omega))
  have HW : Hid (wordS s = (!s.isEmpty && (decide (s.length ≤ 256) && toldB s))) := Lib.hid rfl
  generalize wordS s = W at *
  generalize toldB s = T at *
  by_cases h0 : s = []
  · subst h0
    go_enter Tryz.func123, Tryz.ntmps123
    go_wp2_with fail
    refine bodyPost_ret (results_tmp rfl _ _ _) rfl ?_
    exact ⟨by rw [HW.out]; rfl, Below.refl _ _⟩
  have q0 : (s == []) = false := beq_false_of_ne h0
  have q1 : s.isEmpty = false := by cases s <;> simp_all
  by_cases h1 : s.length ≤ 256
  · have hI : ((s.length : Nat) : Int) ≤ 256 := by omega
    go_enter Tryz.func123, Tryz.ntmps123
    go_wp2_with fail
    refine HT.out.mono ?_
    rintro e w1 ⟨rfl, hb1⟩
    have HB1 := Lib.hid hb1
    clear hb1 HT
    go_wp2_with fail
    refine bodyPost_ret (results_tmp rfl _ _ _) rfl ?_
    exact ⟨by rw [HW.out, q1, decide_eq_true h1]; rfl, HB1.out⟩
  · have hI : ¬ ((s.length : Nat) : Int) ≤ 256 := by omega
    go_enter Tryz.func123, Tryz.ntmps123
    go_wp2_with fail
    refine bodyPost_ret (results_tmp rfl _ _ _) rfl ?_
    exact ⟨by rw [HW.out, q1, decide_eq_false h1]; rfl, Below.refl _ _⟩
set_option maxRecDepth 100000 in
set_option maxHeartbeats 4000000 in
theorem refword_any (s : List UInt8) (w : World) (hs : s.length ≤ 1000000) :
    Calls Tryz.prog 77 #[.string ⟨s.toArray⟩] w fun e w' => e = .returned (.bool (wordS s)) ∧ Below w.heap.size w w' := by
  have HT := Lib.hid (refwrong_any s w (by omega))
  have HN := Lib.hid (wrongI_neg s)
  have HW : Hid (wordS s = (!s.isEmpty && (decide (s.length ≤ 256) && toldB s))) := Lib.hid rfl
  generalize wordS s = W at *
  generalize toldB s = T at *
  generalize wrongI s = I at *
  by_cases h0 : s = []
  · subst h0
    go_enter Tryz.func77, Tryz.ntmps77
    go_wp2_with fail
    refine bodyPost_ret (results_tmp rfl _ _ _) rfl ?_
    exact ⟨by rw [HW.out]; rfl, Below.refl _ _⟩
  have q1 : s.isEmpty = false := by cases s <;> simp_all
  have q2 : (1 : Int) ≤ ((s.length : Nat) : Int) := by
    have : s.length ≠ 0 := fun e => h0 (List.eq_nil_of_length_eq_zero e)
    omega
  by_cases h1 : s.length ≤ 256
  · have hI : ((s.length : Nat) : Int) ≤ 256 := by omega
    go_enter Tryz.func77, Tryz.ntmps77
    go_wp2_with fail
    refine HT.out.mono ?_
    rintro e w1 ⟨rfl, hb1⟩
    have HB1 := Lib.hid hb1
    clear hb1 HT
    go_wp2_with fail
    refine bodyPost_ret (results_tmp rfl _ _ _) rfl ?_
    exact ⟨by rw [HW.out, q1, decide_eq_true h1, ← HN.out]; rfl, by rw [HB1.out]; exact Below.refl _ _⟩
  · have hI : ¬ ((s.length : Nat) : Int) ≤ 256 := by omega
    go_enter Tryz.func77, Tryz.ntmps77
    go_wp2_with fail
    refine bodyPost_ret (results_tmp rfl _ _ _) rfl ?_
    exact ⟨by rw [HW.out, q1, decide_eq_false h1]; rfl, Below.refl _ _⟩
end Go.Proofs.YtfcokdkbjajohaaGreatDoor
/- The document's subject. -/
set_option linter.unusedVariables false
namespace Go.Proofs.YtfcokdkbjajohaaGreatDoor
open Go.RowKit

theorem strs_two {w : World} {a : Option Addr} {P : List (List UInt8)} (h : RdC w a (strs P)) (hl : P.length = 2) : ∃ b off, a = some ⟨b, off, none⟩ ∧ w.cell? ⟨b, off, none⟩ = some (.string ⟨(P.getD 0 []).toArray⟩) ∧ w.cell? ⟨b, off + 1, none⟩ = some (.string ⟨(P.getD 1 []).toArray⟩) := by
  match P, hl with
  | [x, y], _ =>
    rcases h with h | ⟨b, off, e, h⟩
    · cases h
    · exact ⟨b, off, e, h 0 _ rfl, h 1 _ rfl⟩
set_option maxRecDepth 100000 in
set_option maxHeartbeats 8000000 in
theorem refright_any (f i s : List UInt8) (w : World) (hi : i.length ≤ 1000000) (hs : s.length ≤ 1000000) :
    Calls Tryz.prog 25 #[.string ⟨f.toArray⟩, .string ⟨i.toArray⟩, .string ⟨s.toArray⟩] w fun e w' => e = .returned (.bool (refS f i s)) ∧ Below w.heap.size w w' := by
  have HI := Lib.hid (refword_any i w hi)
  have HS := Lib.hid (fun w1 => refword_any s w1 hs)
  have HP := Lib.hid (fun w1 => parts_any i 64 w1 hi)
  have HW : Hid (refS f i s = (wordS i && (if f = issB then wordS s else s.isEmpty && (if f = opaB then true else decide (f = emaB) && (decide ((partsL 64 i).length = 2) && (!((partsL 64 i).getD 0 []).isEmpty && !((partsL 64 i).getD 1 []).isEmpty)))))) := Lib.hid rfl
  generalize refS f i s = W at *
  generalize hwi : wordS i = wi at *
  generalize hws : wordS s = ws at *
  generalize partsL 64 i = P at *
  clear hi hs hwi hws
  go_enter Tryz.func25, Tryz.ntmps25
  go_wp2_with fail
  refine HI.out.mono ?_
  rintro e w1 ⟨rfl, hb1⟩
  have HB1 := Lib.hid hb1
  clear hb1 HI
  cases wi with
  | false =>
    go_wp2_with fail
    refine bodyPost_ret (results_tmp rfl _ _ _) rfl ?_
    exact ⟨by rw [HW.out]; rfl, HB1.out⟩
  | true =>
  by_cases h3 : f = issB
  · subst h3
    have hw' : W = ws := by rw [HW.out, if_pos rfl]; rfl
    have HW' := Lib.hid hw'
    clear hw' HW
    unfold issB
    go_wp2_with fail
    refine (HS.out w1).mono ?_
    rintro e w2 ⟨rfl, hb2⟩
    have HB2 := Lib.hid (HB1.out.trans (hb2.mono HB1.out.size))
    clear hb2
    go_wp2_with fail
    refine bodyPost_ret (results_tmp rfl _ _ _) rfl ?_
    exact ⟨by rw [HW'.out]; rfl, HB2.out⟩
  have q3 : (f == [105, 115, 115, 95, 115, 117, 98]) = false := beq_false_of_ne h3
  have hw' : W = (s.isEmpty && (if f = opaB then true else decide (f = emaB) && (decide (P.length = 2) && (!(P.getD 0 []).isEmpty && !(P.getD 1 []).isEmpty)))) := by rw [HW.out, if_neg h3]; rfl
  have HW' := Lib.hid hw'
  clear hw' HW h3
  by_cases h0 : s = []
  case neg =>
    have q0 : (s == []) = false := beq_false_of_ne h0
    have q1 : s.isEmpty = false := by cases s <;> simp_all
    go_wp2_with fail
    refine bodyPost_ret (results_tmp rfl _ _ _) rfl ?_
    exact ⟨by rw [HW'.out, q1]; rfl, HB1.out⟩
  subst h0
  by_cases h1 : f = opaB
  · subst h1
    unfold opaB
    go_wp2_with fail
    refine bodyPost_ret (results_tmp rfl _ _ _) rfl ?_
    exact ⟨by rw [HW'.out]; simp, HB1.out⟩
  have q1 : (f == [111, 112, 97, 113, 117, 101]) = false := beq_false_of_ne h1
  have hw2 : W = (decide (f = emaB) && (decide (P.length = 2) && (!(P.getD 0 []).isEmpty && !(P.getD 1 []).isEmpty))) := by rw [HW'.out, if_neg h1]; rfl
  have HW2 := Lib.hid hw2
  clear hw2 HW' h1
  go_wp2_with fail
  refine (HP.out w1).mono ?_
  rintro e w2 ⟨⟨a, cap, rfl, hrd⟩, hb2⟩
  have HB2 := Lib.hid (HB1.out.trans (hb2.mono HB1.out.size))
  have HRD := Lib.hid hrd
  clear hb2 hrd HP
  by_cases h2 : f = emaB
  case neg =>
    have q2 : (f == [101, 109, 97, 105, 108]) = false := beq_false_of_ne h2
    go_wp2_with fail
    refine bodyPost_ret (results_tmp rfl _ _ _) rfl ?_
    exact ⟨by rw [HW2.out, decide_eq_false h2]; rfl, HB2.out⟩
  subst h2
  unfold emaB
  by_cases hl : P.length = 2
  case neg =>
    have hlI : (((P.length : Nat) : Int) == 2) = false := by rw [beq_eq_false_iff_ne]; omega
    go_wp2_with fail
    refine bodyPost_ret (results_tmp rfl _ _ _) rfl ?_
    exact ⟨by rw [HW2.out, decide_eq_false hl]; simp, HB2.out⟩
  obtain ⟨b, off, rfl, c0, c1⟩ := strs_two HRD.out hl
  have HW3 : Hid (W = (!(P.getD 0 []).isEmpty && !(P.getD 1 []).isEmpty)) := Lib.hid (by rw [HW2.out, decide_eq_true hl]; simp)
  have hlI : (((P.length : Nat) : Int) == 2) = true := by rw [beq_iff_eq]; omega
  have hl0 : (0 : Int) < ((P.length : Nat) : Int) := by omega
  have hl1 : (1 : Int) < ((P.length : Nat) : Int) := by omega
  generalize P.getD 0 [] = x at *
  generalize P.getD 1 [] = y at *
  clear HRD HW2 hl
  by_cases hx : x = []
  · subst hx
    go_wp2_with fail
    refine bodyPost_ret (results_tmp rfl _ _ _) rfl ?_
    exact ⟨by rw [HW3.out]; rfl, HB2.out⟩
  have qx : (x == []) = false := beq_false_of_ne hx
  have qx' : x.isEmpty = false := by cases x <;> simp_all
  by_cases hy : y = []
  · subst hy
    go_wp2_with fail
    refine bodyPost_ret (results_tmp rfl _ _ _) rfl ?_
    exact ⟨by rw [HW3.out, qx']; rfl, HB2.out⟩
  have qy : (y == []) = false := beq_false_of_ne hy
  have qy' : y.isEmpty = false := by cases y <;> simp_all
  go_wp2_with fail
  refine bodyPost_ret (results_tmp rfl _ _ _) rfl ?_
  exact ⟨by rw [HW3.out, qx', qy']; rfl, HB2.out⟩
end Go.Proofs.YtfcokdkbjajohaaGreatDoor
/- subject: address, Right. -/
set_option linter.unusedVariables false
namespace Go.Proofs.YtfcokdkbjajohaaGreatDoor
open Go.RowKit

theorem index_idx (c : UInt8) : ∀ l : List UInt8, Lib.indexByte l c = if l.idxOf c < l.length then ((l.idxOf c : Nat) : Int) else -1
  | [] => rfl
  | b :: l => by
    have ih := index_idx c l
    unfold Lib.indexByte
    by_cases h : b = c
    · subst h
      simp
    · have hb : (b == c) = false := beq_false_of_ne h
      have e : (b :: l).idxOf c = l.idxOf c + 1 := by simp [List.idxOf_cons, hb]
      rw [e, hb]
      simp only [Bool.false_eq_true, if_false, List.length_cons]
      by_cases hl : l.idxOf c < l.length
      · rw [if_pos hl] at ih
        have h1 : ((((l.idxOf c : Nat) : Int)) == -1) = false := by rw [beq_eq_false_iff_ne]; omega
        rw [ih, h1, if_pos (show l.idxOf c + 1 < l.length + 1 by omega)]
        simp
      · rw [if_neg hl] at ih
        rw [ih, if_neg (show ¬ l.idxOf c + 1 < l.length + 1 by omega)]
        rfl
theorem addr_index (s : List UInt8) : addrS s = (decide (0 < Lib.indexByte s 64) && (decide (Lib.indexByte s 64 < (s.length : Int) - 1) && decide (s.count 64 = 1))) := by
  rw [index_idx]
  unfold addrS
  by_cases h : s.idxOf 64 < s.length
  · rw [if_pos h]
    have e1 : decide (0 < ((s.idxOf 64 : Nat) : Int)) = decide (0 < s.idxOf 64) := by
      rw [decide_eq_decide]; omega
    have e2 : decide (((s.idxOf 64 : Nat) : Int) < (s.length : Int) - 1) = decide (s.idxOf 64 + 1 < s.length) := by
      rw [decide_eq_decide]; omega
    rw [e1, e2]
  · rw [if_neg h, decide_eq_false (show ¬ (s.idxOf 64 + 1 < s.length) by omega)]
    simp
set_option maxRecDepth 100000 in
set_option maxHeartbeats 8000000 in
theorem address_any (s : List UInt8) (w : World) (hs : s.length ≤ 1000000) :
    Calls Tryz.prog 124 #[.string ⟨s.toArray⟩] w fun e w' => e = .returned (.bool (addrS s)) ∧ Below w.heap.size w w' := by
  have HW := Lib.hid (addr_index s)
  generalize addrS s = W at *
  have hlo := Lib.indexByte_ge s 64
  have HI : Hid (Lib.indexByte (⟨s.toArray⟩ : ByteArray).data.toList ((64 : Int)).toNat.toUInt8 = Lib.indexByte s 64) := Lib.hid rfl
  have HC : Hid (Lib.countByte (⟨s.toArray⟩ : ByteArray).data.toList 64 = s.count 64) := Lib.hid rfl
  go_enter Tryz.func124, Tryz.ntmps124
  go_wp2_with fail
  refine (Tryz.strings_IndexByte ⟨s.toArray⟩ 64 w).mono ?_
  rintro e w1 ⟨rfl, rfl⟩
  rw [HI.out]
  generalize Lib.indexByte s 64 = I at *
  by_cases h1 : 0 < I
  case neg =>
    go_wp2_with fail
    refine bodyPost_ret (results_tmp rfl _ _ _) rfl ?_
    exact ⟨by rw [HW.out, decide_eq_false (show ¬ 0 < I by omega)]; rfl, Below.refl _ _⟩
  by_cases h2 : I < (s.length : Int) - 1
  case neg =>
    go_wp2_with fail
    refine bodyPost_ret (results_tmp rfl _ _ _) rfl ?_
    exact ⟨by rw [HW.out, decide_eq_true h1, decide_eq_false (show ¬ I < (s.length : Int) - 1 by omega)]; rfl, Below.refl _ _⟩
  go_wp2_with fail
  refine (Tryz.strings_Count_one ⟨s.toArray⟩ 64 _).mono ?_
  rintro e w2 ⟨rfl, rfl⟩
  rw [HC.out]
  have hW2 : W = decide (((s.count 64 : Nat) : Int) = 1) := by
    rw [HW.out, decide_eq_true h1, decide_eq_true h2]
    simp only [Bool.true_and]
    rw [decide_eq_decide]
    omega
  have HW2 := Lib.hid hW2
  clear hW2 HW
  generalize s.count 64 = C at *
  by_cases h3 : ((C : Nat) : Int) = 1
  · have q : (((C : Nat) : Int) == 1) = true := by rw [beq_iff_eq]; exact h3
    go_wp2_with fail
    refine bodyPost_ret (results_tmp rfl _ _ _) rfl ?_
    exact ⟨by rw [HW2.out, decide_eq_true h3]; rfl, Below.refl _ _⟩
  · have q : (((C : Nat) : Int) == 1) = false := by rw [beq_eq_false_iff_ne]; exact h3
    go_wp2_with fail
    refine bodyPost_ret (results_tmp rfl _ _ _) rfl ?_
    exact ⟨by rw [HW2.out, decide_eq_false h3]; rfl, Below.refl _ _⟩
set_option maxRecDepth 100000 in
set_option maxHeartbeats 8000000 in
theorem sright_any (f i s : List UInt8) (w : World) (hi : i.length ≤ 1000000) (hs : s.length ≤ 1000000) :
    Calls Tryz.prog 74 #[.agg #[.string ⟨f.toArray⟩, .string ⟨i.toArray⟩, .string ⟨s.toArray⟩]] w fun e w' => e = .returned (.bool (rightS f i s)) ∧ Below w.heap.size w w' := by
  have HI := Lib.hid (fun w1 => sword_any i w1 hi)
  have HS := Lib.hid (fun w1 => sword_any s w1 hs)
  have HA := Lib.hid (fun w1 => address_any i w1 hi)
  have HW : Hid (rightS f i s = if f = opaB then wordS i && s.isEmpty else if f = emaB then wordS i && (addrS i && s.isEmpty) else if f = issB then wordS i && wordS s else false) := Lib.hid rfl
  generalize rightS f i s = W at *
  generalize wordS i = wi at *
  generalize wordS s = ws at *
  generalize addrS i = ai at *
  clear hi hs
  have hE : ∃ se, s.isEmpty = se ∧ (s == []) = se := ⟨_, rfl, by cases s <;> rfl⟩
  obtain ⟨se, hse1, hse2⟩ := hE
  have HSE := Lib.hid hse1
  clear hse1
  have hb1 : Below w.heap.size w (w.alloc (.cells #[.string ⟨f.toArray⟩, .string ⟨i.toArray⟩, .string ⟨s.toArray⟩] 46)) := (Below.refl _ _).alloc (Nat.le_refl _) _
  have hx1 := heap_alloc_new w (.cells #[.string ⟨f.toArray⟩, .string ⟨i.toArray⟩, .string ⟨s.toArray⟩] 46)
  have hk : ∀ w', Below (w.alloc (.cells #[.string ⟨f.toArray⟩, .string ⟨i.toArray⟩, .string ⟨s.toArray⟩] 46)).heap.size (w.alloc (.cells #[.string ⟨f.toArray⟩, .string ⟨i.toArray⟩, .string ⟨s.toArray⟩] 46)) w' →
      Below w.heap.size w w' ∧ w'.cell? ⟨w.heap.size, 1, none⟩ = some (.string ⟨i.toArray⟩) ∧ w'.cell? ⟨w.heap.size, 2, none⟩ = some (.string ⟨s.toArray⟩) := by
    intro w' hb
    have hx := (hb.block w.heap.size (by simp)).trans hx1
    exact ⟨hb1.trans (hb.mono (by simp)), by rw [Lib.cell_of_heap hx]; rfl, by rw [Lib.cell_of_heap hx]; rfl⟩
  have HK := Lib.hid hk
  clear hk hb1 hx1
  by_cases h1 : f = opaB
  · subst h1
    have HW' : Hid (W = (wi && s.isEmpty)) := Lib.hid (by rw [HW.out, if_pos rfl])
    clear HW
    unfold opaB at *
    go_enter Tryz.func74, Tryz.ntmps74
    go_wp2_with fail
    generalize w.alloc _ = w0 at *
    refine (HI.out w0).mono ?_
    rintro e w1 ⟨rfl, hb1⟩
    obtain ⟨hb, c1, c2⟩ := HK.out w1 hb1
    have HB := Lib.hid hb
    clear hb hb1
    cases wi <;> cases se <;>
    · go_wp2_with fail
      refine bodyPost_ret (results_tmp rfl _ _ _) rfl ?_
      exact ⟨by rw [HW'.out, HSE.out]; rfl, HB.out⟩
  by_cases h2 : f = emaB
  · subst h2
    have HW' : Hid (W = (wi && (ai && s.isEmpty))) := Lib.hid (by rw [HW.out, if_neg h1, if_pos rfl])
    clear HW h1
    unfold emaB at *
    go_enter Tryz.func74, Tryz.ntmps74
    go_wp2_with fail
    generalize w.alloc _ = w0 at *
    refine (HI.out w0).mono ?_
    rintro e w1 ⟨rfl, hb1⟩
    obtain ⟨hb, c1, c2⟩ := HK.out w1 hb1
    have HB := Lib.hid hb
    have HB1 := Lib.hid hb1
    clear hb hb1
    cases wi with
    | false =>
      go_wp2_with fail
      refine bodyPost_ret (results_tmp rfl _ _ _) rfl ?_
      exact ⟨by rw [HW'.out]; rfl, HB.out⟩
    | true =>
      go_wp2_with fail
      refine (HA.out w1).mono ?_
      rintro e w2 ⟨rfl, hb2⟩
      obtain ⟨hb, d1, d2⟩ := HK.out w2 (HB1.out.trans (hb2.mono HB1.out.size))
      have HB2 := Lib.hid hb
      clear hb hb2 c1 c2
      cases ai <;> cases se <;>
      · go_wp2_with fail
        refine bodyPost_ret (results_tmp rfl _ _ _) rfl ?_
        exact ⟨by rw [HW'.out, HSE.out]; rfl, HB2.out⟩
  by_cases h3 : f = issB
  · subst h3
    have HW' : Hid (W = (wi && ws)) := Lib.hid (by rw [HW.out, if_neg h1, if_neg h2, if_pos rfl])
    clear HW h1 h2
    unfold issB at *
    go_enter Tryz.func74, Tryz.ntmps74
    go_wp2_with fail
    generalize w.alloc _ = w0 at *
    refine (HI.out w0).mono ?_
    rintro e w1 ⟨rfl, hb1⟩
    obtain ⟨hb, c1, c2⟩ := HK.out w1 hb1
    have HB := Lib.hid hb
    have HB1 := Lib.hid hb1
    clear hb hb1
    cases wi with
    | false =>
      go_wp2_with fail
      refine bodyPost_ret (results_tmp rfl _ _ _) rfl ?_
      exact ⟨by rw [HW'.out]; rfl, HB.out⟩
    | true =>
      go_wp2_with fail
      refine (HS.out w1).mono ?_
      rintro e w2 ⟨rfl, hb2⟩
      obtain ⟨hb, d1, d2⟩ := HK.out w2 (HB1.out.trans (hb2.mono HB1.out.size))
      have HB2 := Lib.hid hb
      clear hb hb2 c1 c2
      go_wp2_with fail
      refine bodyPost_ret (results_tmp rfl _ _ _) rfl ?_
      exact ⟨by rw [HW'.out]; rfl, HB2.out⟩
  have HW' : Hid (W = false) := Lib.hid (by rw [HW.out, if_neg h1, if_neg h2, if_neg h3])
  have q1 : (f == [111, 112, 97, 113, 117, 101]) = false := beq_false_of_ne h1
  have q2 : (f == [101, 109, 97, 105, 108]) = false := beq_false_of_ne h2
  have q3 : (f == [105, 115, 115, 95, 115, 117, 98]) = false := beq_false_of_ne h3
  clear HW h1 h2 h3
  go_enter Tryz.func74, Tryz.ntmps74
  go_wp2_with fail
  refine bodyPost_ret (results_tmp rfl _ _ _) rfl ?_
  exact ⟨by rw [HW'.out]; rfl, (HK.out _ (Below.refl _ _)).1⟩
end Go.Proofs.YtfcokdkbjajohaaGreatDoor
/- subject: member, Show. -/
set_option linter.unusedVariables false
namespace Go.Proofs.YtfcokdkbjajohaaGreatDoor
open Go.RowKit

theorem strM_eq (n : List UInt8) (v : JV) : strM n v = (((getJ n v).getD .zero).text, (getJ n v).isSome && ((getJ n v).getD .zero).kind == 4) := by
  unfold strM
  cases getJ n v <;> rfl
theorem ent_member : ∀ args w, (callFunc 75 args).run Tryz.prog w = .ok (.enter 75 args) w := run_enters Tryz.func75 (by kernel_rfl) rfl
set_option maxRecDepth 100000 in
set_option maxHeartbeats 8000000 in
theorem smember_any (n : List UInt8) (v : JV) (ok : Nat → Prop) (cs : List Value) (w : World) (h : Rep ok w cs v) (hm : v.mem.length ≤ 10000000) :
    Calls Tryz.prog 75 #[.agg cs.toArray, .string ⟨n.toArray⟩] w fun e w' => e = .returned (.tuple #[.string ⟨(strM n v).1.toArray⟩, .bool (strM n v).2]) ∧ Below w.heap.size w w' := by
  have HR := Lib.hid h.lt
  have HSM := Lib.hid (strM_eq n v)
  obtain ⟨a, c, a', c', cl, cm, rfl, -⟩ := h.parts
  unfold strV at *
  obtain ⟨k, y, t, l1, m1, hk, hy, ht, hl1, hm1⟩ : ∃ k y t l1 m1, v.kind = k ∧ v.yes = y ∧ (⟨v.text.toArray⟩ : ByteArray) = t ∧ v.list.length = l1 ∧ v.mem.length = m1 := ⟨_, _, _, _, _, rfl, rfl, rfl, rfl, rfl⟩
  rw [hk, hy, ht, hl1, hm1] at HR
  rw [hk, hy, ht, hl1, hm1]
  have HG : Hid (∀ w1, Below w.heap.size w w1 → _) := Lib.hid fun w1 (hb : Below w.heap.size w w1) => get_any _ [.int .i64 k, .bool y, .string t, .slice a l1 c, .slice a' m1 c'] v n w1 (HR.out.keep fun b hb' _ => hb.block b hb'.2) hm
  clear h hm hk hy ht hl1 hm1
  generalize strM n v = SM at *
  generalize getJ n v = G at *
  go_enter Tryz.func75, Tryz.ntmps75
  go_upto_region 1 with (fail)
  generalize hw1 : w.alloc _ = w1
  have hb1 : Below w.heap.size w w1 := by rw [← hw1]; exact (Below.refl _ _).alloc (Nat.le_refl _) _
  have hx1 : w1.heap[w.heap.size]? = some (.cells #[.int .i64 k, .bool y, .string t, .slice a l1 c, .slice a' m1 c'] 26 (0, 0)) := by rw [← hw1]; exact heap_alloc_new _ _
  have HB1 := Lib.hid hb1
  have v0 : w1.cell? ⟨w.heap.size, 0, none⟩ = some (.int .i64 k) := by rw [Lib.cell_of_heap hx1]; rfl
  have v1 : w1.cell? ⟨w.heap.size, 1, none⟩ = some (.bool y) := by rw [Lib.cell_of_heap hx1]; rfl
  have v2 : w1.cell? ⟨w.heap.size, 2, none⟩ = some (.string t) := by rw [Lib.cell_of_heap hx1]; rfl
  have v3 : w1.cell? ⟨w.heap.size, 3, none⟩ = some (.slice a l1 c) := by rw [Lib.cell_of_heap hx1]; rfl
  have v4 : w1.cell? ⟨w.heap.size, 4, none⟩ = some (.slice a' m1 c') := by rw [Lib.cell_of_heap hx1]; rfl
  clear hw1 hb1 hx1
  go_wp2_with fail
  refine (HG.out w1 HB1.out).mono ?_
  rintro e w2 ⟨hb2, cs2, rfl, hrep⟩
  have HB2 := Lib.hid (HB1.out.trans (hb2.mono HB1.out.size))
  obtain ⟨b, d, b', d', _, _, rfl, -⟩ := hrep.parts
  unfold strV at *
  generalize G.getD .zero = X at *
  obtain ⟨k2, y2, t2, l2, m2, hk, hy, ht, hl1, hm1⟩ : ∃ k y t l1 m1, X.kind = k ∧ X.yes = y ∧ X.text = t ∧ X.list.length = l1 ∧ X.mem.length = m1 := ⟨_, _, _, _, _, rfl, rfl, rfl, rfl, rfl⟩
  rw [hk, ht] at HSM
  rw [hk, hy, ht, hl1, hm1]
  clear hk hy ht hl1 hm1 hrep hb2 v0 v1 v2 v3 v4 HG HR HB1
  generalize G.isSome = S at *
  go_upto_region 2 with (fail)
  generalize hw3 : w2.alloc _ = w3
  have hb3 : Below w2.heap.size w2 w3 := by rw [← hw3]; exact (Below.refl _ _).alloc (Nat.le_refl _) _
  have hx3 : w3.heap[w2.heap.size]? = some (.cells #[.int .i64 k2, .bool y2, .string ⟨t2.toArray⟩, .slice b l2 d, .slice b' m2 d'] 26 (0, 0)) := by rw [← hw3]; exact heap_alloc_new _ _
  have HB3 := Lib.hid (HB2.out.trans (hb3.mono HB2.out.size))
  have v0 : w3.cell? ⟨w2.heap.size, 0, none⟩ = some (.int .i64 k2) := by rw [Lib.cell_of_heap hx3]; rfl
  have v2 : w3.cell? ⟨w2.heap.size, 2, none⟩ = some (.string ⟨t2.toArray⟩) := by rw [Lib.cell_of_heap hx3]; rfl
  clear hw3 hb3 hx3
  cases S <;>
  · go_quiet (fail)
    go_wp2_with fail
    refine bodyPost_ret (v := .tuple #[.string ⟨SM.1.toArray⟩, .bool SM.2]) (by rw [HSM.out]; simp [results, Tryz.results75, go_sem]) rfl ?_
    exact ⟨rfl, below_drewN HB3.out _⟩
/-- A subject's text. -/
def showS (f i s : List UInt8) : List UInt8 := if f = issB then f ++ (58 :: (s ++ (32 :: i))) else f ++ (58 :: i)
set_option maxRecDepth 100000 in
set_option maxHeartbeats 8000000 in
theorem show_any (f i s : List UInt8) (w : World) (hf : f.length ≤ 1000000) (hi : i.length ≤ 1000000) (hs : s.length ≤ 1000000) :
    Calls Tryz.prog 73 #[.agg #[.string ⟨f.toArray⟩, .string ⟨i.toArray⟩, .string ⟨s.toArray⟩]] w fun e w' => e = .returned (.string ⟨(showS f i s).toArray⟩) ∧ Below w.heap.size w w' := by
  have hb1 : Below w.heap.size w (w.alloc (.cells #[.string ⟨f.toArray⟩, .string ⟨i.toArray⟩, .string ⟨s.toArray⟩] 46)) := (Below.refl _ _).alloc (Nat.le_refl _) _
  have HB1 := Lib.hid hb1
  clear hb1
  by_cases h3 : f = issB
  · subst h3
    unfold issB at *
    go_enter Tryz.func73, Tryz.ntmps73
    go_wp2_with fail
    refine bodyPost_ret (results_tmp rfl _ _ _) rfl ?_
    have hcat : (⟨#[105, 115, 115, 95, 115, 117, 98]⟩ : ByteArray) ++ ⟨#[58]⟩ ++ ⟨s.toArray⟩ ++ ⟨#[32]⟩ ++ ⟨i.toArray⟩ = ⟨(showS [105, 115, 115, 95, 115, 117, 98] i s).toArray⟩ := by
      have e1 := st_cat [105, 115, 115, 95, 115, 117, 98] [58]
      have e2 := st_cat [105, 115, 115, 95, 115, 117, 98, 58] s
      have e3 := st_cat ([105, 115, 115, 95, 115, 117, 98, 58] ++ s) [32]
      have e4 := st_cat ([105, 115, 115, 95, 115, 117, 98, 58] ++ s ++ [32]) i
      refine ((congrArg (fun x => x ++ ⟨s.toArray⟩ ++ ⟨#[32]⟩ ++ ⟨i.toArray⟩) e1).trans ((congrArg (fun x => x ++ ⟨#[32]⟩ ++ ⟨i.toArray⟩) e2).trans ((congrArg (fun x => x ++ ⟨i.toArray⟩) e3).trans e4))).trans ?_
      congr 1
      simp [showS, issB]
    exact ⟨congrArg (fun x => Ending.returned (Value.string x)) hcat, HB1.out⟩
  · have q3 : (f == [105, 115, 115, 95, 115, 117, 98]) = false := beq_false_of_ne h3
    have HS : Hid (showS f i s = f ++ (58 :: i)) := Lib.hid (by unfold showS; rw [if_neg h3])
    clear h3
    go_enter Tryz.func73, Tryz.ntmps73
    go_wp2_with fail
    refine bodyPost_ret (results_tmp rfl _ _ _) rfl ?_
    have hcat : (⟨f.toArray⟩ : ByteArray) ++ ⟨#[58]⟩ ++ ⟨i.toArray⟩ = ⟨(f ++ (58 :: i)).toArray⟩ := by
      have e1 := st_cat f [58]
      have e2 := st_cat (f ++ [58]) i
      refine ((congrArg (fun x => x ++ ⟨i.toArray⟩) e1).trans e2).trans ?_
      simp
    exact ⟨by rw [HS.out]; exact congrArg (fun x => Ending.returned (Value.string x)) hcat, HB1.out⟩
end Go.Proofs.YtfcokdkbjajohaaGreatDoor
/- subject: Of. -/
set_option linter.unusedVariables false
namespace Go.Proofs.YtfcokdkbjajohaaGreatDoor
open Go.RowKit

theorem getM_size {n : List UInt8} {x : JV} : ∀ {m : List (List UInt8 × JV)}, getM n m = some x → sizeJ x ≤ sizeM m
  | (a, v) :: m, h => by
    simp only [getM] at h
    rw [sizeM]
    by_cases hp : a = n
    · rw [if_pos hp] at h
      have := Option.some.inj h
      subst this
      omega
    · rw [if_neg hp] at h
      have := getM_size h
      omega
theorem strM_len (n : List UInt8) (v : JV) : (strM n v).1.length ≤ sizeJ v := by
  unfold strM
  cases h : getJ n v with
  | none => exact Nat.zero_le _
  | some x =>
    unfold getJ at h
    split at h
    · have h1 := getM_size h
      obtain ⟨k, y, t, l, m⟩ := v
      obtain ⟨k', y', t', l', m'⟩ := x
      simp only [JV.mem, JV.text, sizeJ] at *
      omega
    · cases h
theorem mem_size (v : JV) : v.mem.length ≤ sizeJ v := by
  have h1 := lenM_size v.mem
  obtain ⟨k, y, t, l, m⟩ := v
  simp only [JV.mem, sizeJ] at *
  omega
def OfIs (x : (List UInt8 × List UInt8 × List UInt8) × Int) : Value := .tuple #[.agg #[.string ⟨x.1.1.toArray⟩, .string ⟨x.1.2.1.toArray⟩, .string ⟨x.1.2.2.toArray⟩], .int .i64 x.2]
set_option maxRecDepth 100000 in
set_option maxHeartbeats 64000000 in
theorem of_any (v : JV) (hv : sizeJ v ≤ 1000000) (ok : Nat → Prop) (cs : List Value) (w : World) (h : Rep ok w cs v) :
    Calls Tryz.prog 24 #[.agg cs.toArray] w fun e w' => e = .returned (OfIs (ofS v)) ∧ Below w.heap.size w w' := by
  have hml : v.mem.length ≤ 10000000 := by have := mem_size v; omega
  have HR := Lib.hid h.lt
  have hsm := fun n => Nat.le_trans (strM_len n v) hv
  obtain ⟨a, c, ma, mc, cl, cm, rfl, -⟩ := h.parts
  unfold strV at *
  have HOF : Hid (ofS v = _) := Lib.hid (by unfold ofS; rfl)
  obtain ⟨k, y, t, l1, m1, hk, hy, ht, hl1, hm1⟩ : ∃ k y t l1 m1, v.kind = k ∧ v.yes = y ∧ (⟨v.text.toArray⟩ : ByteArray) = t ∧ v.list.length = l1 ∧ v.mem.length = m1 := ⟨_, _, _, _, _, rfl, rfl, rfl, rfl, rfl⟩
  rw [hk, hy, ht, hl1, hm1] at HR
  rw [hm1] at HOF
  rw [hk, hy, ht, hl1, hm1]
  have HMB : Hid (∀ (n : List UInt8) w1, Below w.heap.size w w1 → _) := Lib.hid fun (n : List UInt8) w1 (hb : Below w.heap.size w w1) => smember_any n v _ [.int .i64 k, .bool y, .string t, .slice a l1 c, .slice ma m1 mc] w1 (HR.out.keep fun b hb' _ => hb.block b hb'.2) hml
  have HRT : Hid (∀ w1, Below w.heap.size w w1 → _) := Lib.hid fun w1 (hb : Below w.heap.size w w1) => jright v (by omega) _ [.int .i64 k, .bool y, .string t, .slice a l1 c, .slice ma m1 mc] w1 (HR.out.keep fun b hb' _ => hb.block b hb'.2)
  clear h hml hk hy ht hl1 hm1 hv HR
  have HSZ := Lib.hid hsm
  clear hsm
  generalize rightJ v = R at *
  generalize ofS v = O at *
  have HF := Lib.hid (HMB.out fmtB)
  have hfl := HSZ.out fmtB
  obtain ⟨F, okF, hP⟩ : ∃ F okF, strM fmtB v = (F, okF) := ⟨_, _, rfl⟩
  rw [hP] at HF HOF hfl
  simp only at HF HOF hfl
  clear hP
  go_enter Tryz.func24, Tryz.ntmps24
  go_upto_region 1 with (fail)
  generalize hw1 : (w.alloc _).alloc _ = w1
  have hb1 : Below w.heap.size w w1 := by rw [← hw1]; exact ((Below.refl _ _).alloc (Nat.le_refl _) _).alloc (by simp) _
  have hx1 : w1.heap[w.heap.size]? = some (.cells #[.int .i64 k, .bool y, .string t, .slice a l1 c, .slice ma m1 mc] 26 (0, 0)) := by rw [← hw1]; exact block_alloc (heap_alloc_new w _) _
  have hz1 : w1.heap[w.heap.size + 1]? = some (.cells #[.string ⟨#[]⟩, .string ⟨#[]⟩, .string ⟨#[]⟩] 46 (0, 0)) := by
    rw [← hw1]
    have e : w.heap.size + 1 = (w.alloc (.cells #[.int .i64 k, .bool y, .string t, .slice a l1 c, .slice ma m1 mc] 26)).heap.size := by simp
    rw [e]
    exact heap_alloc_new _ _
  have HB1 := Lib.hid hb1
  have HX1 := Lib.hid hx1
  have HZ1 := Lib.hid hz1
  have hs1 : w.heap.size + 1 < w1.heap.size := (Array.getElem?_eq_some_iff.1 hz1).1
  obtain ⟨v0, v1, v2, v3, v4⟩ := five_at hx1 (Below.refl w1.heap.size w1) (by omega)
  clear hw1 hb1 hx1 hz1
  -- the end with an error
  have hend : ∀ w', Below w1.heap.size w1 w' → Below w.heap.size w w' ∧ w'.heap[w.heap.size]? = some (.cells #[.int .i64 k, .bool y, .string t, .slice a l1 c, .slice ma m1 mc] 26 (0, 0)) ∧ w'.heap[w.heap.size + 1]? = some (.cells #[.string ⟨#[]⟩, .string ⟨#[]⟩, .string ⟨#[]⟩] 46 (0, 0)) := fun w' hb =>
    ⟨HB1.out.trans (hb.mono HB1.out.size), (hb.block _ (by omega)).trans HX1.out, (hb.block _ (by omega)).trans HZ1.out⟩
  have HE := Lib.hid hend
  clear hend
  go_wp2_with fail
  refine (HF.out w1 HB1.out).mono ?_
  rintro e w2 ⟨rfl, hb2⟩
  have HB2 := Lib.hid hb2
  clear hb2 HF v0 v1 v2 v3 v4
  go_wp2_with fail
  refine (names_any F w2).mono ?_
  rintro e w3 ⟨⟨ad, c6, rfl, hrd⟩, hb3⟩
  have HB3 := Lib.hid (HB2.out.trans (hb3.mono HB2.out.size))
  have HRD := Lib.hid hrd
  clear hb3 hrd
  obtain ⟨hbw3, hx3, hz3⟩ := HE.out w3 HB3.out
  have hs3 : w1.heap.size ≤ w3.heap.size := HB3.out.size
  cases okF with
  | false =>
    have d0 : w3.cell? ⟨w.heap.size + 1, 0, none⟩ = some (.string ⟨#[]⟩) := by rw [Lib.cell_of_heap hz3]; rfl
    have d1 : w3.cell? ⟨w.heap.size + 1, 1, none⟩ = some (.string ⟨#[]⟩) := by rw [Lib.cell_of_heap hz3]; rfl
    have d2 : w3.cell? ⟨w.heap.size + 1, 2, none⟩ = some (.string ⟨#[]⟩) := by rw [Lib.cell_of_heap hz3]; rfl
    have f0 := Lib.frozen_of_heap hz3 0
    have f1 := Lib.frozen_of_heap hz3 1
    have f2 := Lib.frozen_of_heap hz3 2
    have HO : Hid (O = (([], [], []), 10)) := Lib.hid (by rw [HOF.out]; rfl)
    have HBW := Lib.hid hbw3
    have HZ3 := Lib.hid hz3
    clear hbw3 hx3 hz3 HOF
    go_wp2_with fail
    have hst := three_stored HZ3.out (.string ⟨#[]⟩) (.string ⟨#[]⟩) (.string ⟨#[]⟩)
    have hbe := below_three HBW.out (Nat.le_succ _) (.string ⟨#[]⟩) (.string ⟨#[]⟩) (.string ⟨#[]⟩)
    have e0 := Lib.cell_of_heap hst 0
    have e1 := Lib.cell_of_heap hst 1
    have e2 := Lib.cell_of_heap hst 2
    simp only [List.getElem?_toArray] at e0 e1 e2
    refine bodyPost_ret (v := .tuple #[.agg #[.string ⟨#[]⟩, .string ⟨#[]⟩, .string ⟨#[]⟩], .int .i64 10]) (by simp [results, Tryz.results24, go_sem, e0, e1, e2]) rfl ?_
    exact ⟨by rw [HO.out]; rfl, hbe⟩
  | true =>
  by_cases hn : namesS F = []
  · have d0 : w3.cell? ⟨w.heap.size + 1, 0, none⟩ = some (.string ⟨#[]⟩) := by rw [Lib.cell_of_heap hz3]; rfl
    have d1 : w3.cell? ⟨w.heap.size + 1, 1, none⟩ = some (.string ⟨#[]⟩) := by rw [Lib.cell_of_heap hz3]; rfl
    have d2 : w3.cell? ⟨w.heap.size + 1, 2, none⟩ = some (.string ⟨#[]⟩) := by rw [Lib.cell_of_heap hz3]; rfl
    have f0 := Lib.frozen_of_heap hz3 0
    have f1 := Lib.frozen_of_heap hz3 1
    have f2 := Lib.frozen_of_heap hz3 2
    have HO : Hid (O = (([], [], []), 42)) := Lib.hid (by rw [HOF.out, if_neg (by simp), if_pos hn])
    have HBW := Lib.hid hbw3
    have HZ3 := Lib.hid hz3
    clear hbw3 hx3 hz3 HOF
    rw [hn]
    go_wp2_with fail
    have hst := three_stored HZ3.out (.string ⟨#[]⟩) (.string ⟨#[]⟩) (.string ⟨#[]⟩)
    have hbe := below_three HBW.out (Nat.le_succ _) (.string ⟨#[]⟩) (.string ⟨#[]⟩) (.string ⟨#[]⟩)
    have e0 := Lib.cell_of_heap hst 0
    have e1 := Lib.cell_of_heap hst 1
    have e2 := Lib.cell_of_heap hst 2
    simp only [List.getElem?_toArray] at e0 e1 e2
    refine bodyPost_ret (v := .tuple #[.agg #[.string ⟨#[]⟩, .string ⟨#[]⟩, .string ⟨#[]⟩], .int .i64 42]) (by simp [results, Tryz.results24, go_sem, e0, e1, e2]) rfl ?_
    exact ⟨by rw [HO.out]; rfl, hbe⟩
  -- the names, one or two
  obtain ⟨L, hL, hL1, hL2⟩ : ∃ L : Nat, (namesS F).length = L ∧ 1 ≤ L ∧ L ≤ 2 := ⟨_, rfl, List.length_pos_iff.2 hn, by
    unfold namesS
    split
    · decide
    split
    · decide
    split <;> decide⟩
  have hLI : (((L : Nat) : Int) == 0) = false := by rw [beq_eq_false_iff_ne]; omega
  have hof2 := HOF.out
  rw [if_neg (by simp), if_neg hn, hL] at hof2
  have HOF2 := Lib.hid hof2
  clear hof2
  rw [hL]
  obtain ⟨v0, v1, v2, v3, v4⟩ := five_at hx3 (Below.refl w3.heap.size w3) (by omega)
  have HBW3 := Lib.hid hbw3
  clear hbw3 hx3 hz3 HOF
  go_wp2_with fail
  refine (HRT.out w3 HBW3.out).mono ?_
  rintro e w4 ⟨rfl, hb4⟩
  have HB4 := Lib.hid (HB3.out.trans (hb4.mono HB3.out.size))
  have HRD4 := Lib.hid (HRD.out.below hb4)
  clear hb4 v0 v1 v2 v3 v4 HRT
  obtain ⟨hbw4, hx4, hz4⟩ := HE.out w4 HB4.out
  have hs4 : w1.heap.size ≤ w4.heap.size := HB4.out.size
  have HBW4 := Lib.hid hbw4
  have HX4 := Lib.hid hx4
  have HZ4 := Lib.hid hz4
  by_cases hbad : R = false ∨ m1 ≠ L + 1
  · have d0 : w4.cell? ⟨w.heap.size + 1, 0, none⟩ = some (.string ⟨#[]⟩) := by rw [Lib.cell_of_heap hz4]; rfl
    have d1 : w4.cell? ⟨w.heap.size + 1, 1, none⟩ = some (.string ⟨#[]⟩) := by rw [Lib.cell_of_heap hz4]; rfl
    have d2 : w4.cell? ⟨w.heap.size + 1, 2, none⟩ = some (.string ⟨#[]⟩) := by rw [Lib.cell_of_heap hz4]; rfl
    have v4 : w4.cell? ⟨w.heap.size, 4, none⟩ = some (.slice ma m1 mc) := by rw [Lib.cell_of_heap hx4]; rfl
    have f0 := Lib.frozen_of_heap hz4 0
    have f1 := Lib.frozen_of_heap hz4 1
    have f2 := Lib.frozen_of_heap hz4 2
    have HO : Hid (O = (([], [], []), 10)) := Lib.hid (by rw [HOF2.out, if_pos hbad])
    clear hbw4 hx4 hz4 HOF2
    cases R with
    | false =>
      clear hbad
      go_wp2_with fail
      have hst := three_stored HZ4.out (.string ⟨#[]⟩) (.string ⟨#[]⟩) (.string ⟨#[]⟩)
      have hbe := below_three HBW4.out (Nat.le_succ _) (.string ⟨#[]⟩) (.string ⟨#[]⟩) (.string ⟨#[]⟩)
      have e0 := Lib.cell_of_heap hst 0
      have e1 := Lib.cell_of_heap hst 1
      have e2 := Lib.cell_of_heap hst 2
      simp only [List.getElem?_toArray] at e0 e1 e2
      refine bodyPost_ret (v := .tuple #[.agg #[.string ⟨#[]⟩, .string ⟨#[]⟩, .string ⟨#[]⟩], .int .i64 10]) (by simp [results, Tryz.results24, go_sem, e0, e1, e2]) rfl ?_
      exact ⟨by rw [HO.out]; rfl, hbe⟩
    | true =>
      have hmI : (((m1 : Nat) : Int) != ((L : Nat) : Int) + 1) = true := by
        have := hbad.resolve_left (by simp)
        rw [bne_iff_ne]
        omega
      clear hbad
      go_wp2_with fail
      have hst := three_stored HZ4.out (.string ⟨#[]⟩) (.string ⟨#[]⟩) (.string ⟨#[]⟩)
      have hbe := below_three HBW4.out (Nat.le_succ _) (.string ⟨#[]⟩) (.string ⟨#[]⟩) (.string ⟨#[]⟩)
      have e0 := Lib.cell_of_heap hst 0
      have e1 := Lib.cell_of_heap hst 1
      have e2 := Lib.cell_of_heap hst 2
      simp only [List.getElem?_toArray] at e0 e1 e2
      refine bodyPost_ret (v := .tuple #[.agg #[.string ⟨#[]⟩, .string ⟨#[]⟩, .string ⟨#[]⟩], .int .i64 10]) (by simp [results, Tryz.results24, go_sem, e0, e1, e2]) rfl ?_
      exact ⟨by rw [HO.out]; rfl, hbe⟩
  obtain ⟨rfl, hmm⟩ : R = true ∧ m1 = L + 1 := by
    constructor
    · cases R
      · exact absurd (.inl rfl) hbad
      · rfl
    · exact Classical.byContradiction fun e => hbad (.inr e)
  have hof3 := HOF2.out
  rw [if_neg hbad] at hof3
  have HOF3 := Lib.hid hof3
  clear hof3
  have v4 : w4.cell? ⟨w.heap.size, 4, none⟩ = some (.slice ma m1 mc) := by rw [Lib.cell_of_heap hx4]; rfl
  have hmI : (((m1 : Nat) : Int) != ((L : Nat) : Int) + 1) = false := by
    rw [bne_eq_false_iff_eq]
    omega
  clear hbad hmm HOF2 hbw4 hx4 hz4
  go_upto_region 10 with (fail)
  generalize hw5 : w4.alloc _ = w5
  have hb5 : Below w4.heap.size w4 w5 := by rw [← hw5]; exact (Below.refl _ _).alloc (Nat.le_refl _) _
  have hg5 : w5.heap[w4.heap.size]? = some (.cells #[.string ⟨F.toArray⟩, .string ⟨#[]⟩, .string ⟨#[]⟩] 46 (0, 0)) := by rw [← hw5]; exact heap_alloc_new _ _
  have HX := Lib.hid ((hb5.block _ (by omega)).trans HX4.out)
  have HZ := Lib.hid ((hb5.block _ (by omega)).trans HZ4.out)
  have hxg : w.heap.size < w4.heap.size := by omega
  have hzg : w.heap.size + 1 < w4.heap.size := by omega
  have HBW := Lib.hid (HBW4.out.trans (hb5.mono HBW4.out.size))
  have HMN : Hid (∀ (n : List UInt8) (w' : World), Below w4.heap.size w5 w' → _) := Lib.hid fun (n : List UInt8) (w' : World) (hb : Below w4.heap.size w5 w') => HMB.out n w' (HBW.out.trans (hb.mono HBW4.out.size))
  have hgs : w4.heap.size < w5.heap.size := (Array.getElem?_eq_some_iff.1 hg5).1
  have HCN : Hid (∀ (b i : Nat) (u : Value), w4.cell? ⟨b, i, none⟩ = some u → b < w4.heap.size ∧ w5.cell? ⟨b, i, none⟩ = some u) := Lib.hid fun b i u hu => ⟨World.block_lt_of_cell? _ _ hu, (hb5.cell (World.block_lt_of_cell? _ _ hu)).trans hu⟩
  have hgw : w.heap.size ≤ w4.heap.size := by omega
  have HS := Lib.hid hg5
  clear hw5 hb5 hg5 v4 HX4 HZ4 HB4 HBW4 HBW3 HB3 HB2 HB1 HX1 HZ1 HE HMB
  generalize w4.heap.size = g at *
  by_cases h3 : F = issB
  rotate_left
  have q3 : (F == [105, 115, 115, 95, 115, 117, 98]) = false := beq_false_of_ne h3
  obtain ⟨nm, hnm⟩ : ∃ nm, (if F = emaB then emaB else idB) = nm := ⟨_, rfl⟩
  have hof4 := HOF3.out
  rw [if_neg h3, hnm] at hof4
  have hns : namesS F = [nm] := by
    unfold namesS at hn ⊢
    by_cases h1 : F = opaB
    · rw [if_pos h1, ← hnm, if_neg (by rw [h1]; decide)]
    · rw [if_neg h1] at hn ⊢
      by_cases h2 : F = emaB
      · rw [if_pos h2, ← hnm, if_pos h2]
      · rw [if_neg h2, if_neg h3] at hn
        exact absurd rfl hn
  rw [hns] at hL
  obtain rfl : 1 = L := hL
  have hrd := HRD4.out
  rw [hns] at hrd
  obtain ⟨b, off, rfl, hcell⟩ := hrd.at (by simp)
  obtain ⟨hbg, hcn⟩ := HCN.out _ _ _ (hcell 0 _ rfl)
  have HN : Hid (w5.cell? ⟨b, off, none⟩ = some (.string ⟨nm.toArray⟩)) := Lib.hid hcn
  have HM := Lib.hid (HMN.out nm)
  have hil := HSZ.out nm
  obtain ⟨I, okI, hI⟩ : ∃ I okI, strM nm v = (I, okI) := ⟨_, _, rfl⟩
  rw [hI] at HM hof4 hil
  simp only at HM hof4 hil
  have HOF4 := Lib.hid hof4
  have HSR := Lib.hid (fun w' => sright_any F I [] w' hil (by simp))
  clear hof4 hcn hcell hrd HRD4 HCN hns hnm h3 hL1 hL2 hI HOF3 HMN HSZ
  refine wp_region_putK (by kernel_rfl) (by kernel_rfl) [some 41, some 42, some 43, some 44, some 45, some 46, some 47, some 48, some 40, some 49, some 50, some 51, none, some 5] rfl (by decide) (by kernel_rfl) (g) 46 (#[Value.string ⟨F.toArray⟩, Value.string ⟨I.toArray⟩, Value.string ⟨#[]⟩]) _ (HS.out) (fun old => 1 < old.size ∧ old.setIfInBounds 1 (.string ⟨I.toArray⟩) = #[Value.string ⟨F.toArray⟩, Value.string ⟨I.toArray⟩, Value.string ⟨#[]⟩]) ?_ ?_ (g) ?_ (fun iX => [VIs (.agg #[.int .i64 k, .bool y, .string t, .slice a l1 c, .slice ma m1 mc]), VIs (.slice (some ⟨b, off, none⟩) 1 c6), VIs (.slice (some ⟨b, off, none⟩) 1 c6), VIs (.int .i64 1), VIs (.int .i64 0), VIs (.pointer (some ⟨b, off, none⟩)), VIs (.string ⟨nm.toArray⟩), VIs ((.tuple #[.string ⟨I.toArray⟩, .bool okI])), VIs ((.tuple #[.string ⟨I.toArray⟩, .bool okI])), VIs (.string ⟨I.toArray⟩), VIs (.bool okI), VIs (.pointer (some ⟨g, 1, none⟩)), VRowIs (g) 46 (#[Value.string ⟨F.toArray⟩, Value.string ⟨I.toArray⟩, Value.string ⟨#[]⟩]), VIs (.bool okI)].getD iX fun _ _ => True) ?_ ?_ ?_ ?_
  · exact ⟨by simp, rfl⟩
  · exact ⟨by simp, rfl⟩
  · first | omega | simp
  · refine stab_list _ ?_
    intro V hV
    simp only [List.mem_cons, List.mem_nil_iff, or_false] at hV
    rcases hV with rfl | rfl | rfl | rfl | rfl | rfl | rfl | rfl | rfl | rfl | rfl | rfl | rfl | rfl <;> first | exact VIs.stab _ | exact VBytes.stab _ | exact VStr.stab _ | exact VParts.stab _ | exact VRow.stab _ | exact VRow8.stab _ _ | exact VRowIs.stab _ _ _
  · refine stab2_list _ ?_
    intro V hV
    simp only [List.mem_cons, List.mem_nil_iff, or_false] at hV
    rcases hV with rfl | rfl | rfl | rfl | rfl | rfl | rfl | rfl | rfl | rfl | rfl | rfl | rfl | rfl <;> first | exact VIs.stab2 _ _ _ | exact VRowIs.stab2 _ _ _ | exact VStr.stab2 _ _ _
  · intro iX o ho a' w' hf hb hgo hd
    rcases iX with _ | _ | _ | _ | _ | _ | _ | _ | _ | _ | _ | _ | _ | _ | iX
    · cases ho
      refine put_op rfl rfl rfl ?_
      have f1 : a'.tmps.getD 1 undef = .pointer (some ⟨w.heap.size, 0, none⟩) := (hf.same 1 (by decide)).trans rfl
      obtain ⟨x0, x1, x2, x3, x4⟩ := five_at HX.out hb hxg
      refine grow_value (v := .agg #[.int .i64 k, .bool y, .string t, .slice a l1 c, .slice ma m1 mc]) (w' := w') ?_ rfl (Below.refl _ _)
      simp only [execOp, Act.eval]
      go_simp
    · cases ho
      refine put_op rfl rfl rfl (grow_move rfl ?_)
      exact (hf.same 6 (by decide)).trans rfl
    · cases ho
      refine put_op rfl rfl rfl (grow_move rfl ?_)
      exact (hf.same 6 (by decide)).trans rfl
    · cases ho
      refine put_op rfl rfl rfl ?_
      have e2 : a'.tmps.getD 43 undef = .slice (some ⟨b, off, none⟩) 1 c6 := hd 2 (by kernel_rfl)
      refine grow_value (v := .int .i64 1) (w' := w') ?_ rfl (Below.refl _ _)
      simp only [execOp]
      go_simp
    · cases ho
      refine put_op rfl rfl rfl ?_
      have e3 : a'.tmps.getD 44 undef = .int .i64 1 := hd 3 (by kernel_rfl)
      refine grow_value (v := .int .i64 0) (w' := w') ?_ rfl (Below.refl _ _)
      simp only [execOp, Act.eval, e3]
      go_simp
      all_goals rfl
    · cases ho
      refine put_op rfl rfl rfl ?_
      have e1 : a'.tmps.getD 42 undef = .slice (some ⟨b, off, none⟩) 1 c6 := hd 1 (by kernel_rfl)
      have e4 : a'.tmps.getD 45 undef = .int .i64 0 := hd 4 (by kernel_rfl)
      refine grow_value (v := .pointer (some ⟨b, off, none⟩)) (w' := w') ?_ rfl (Below.refl _ _)
      simp only [execOp, Act.eval, e1, e4]
      go_simp
    · cases ho
      refine put_op rfl rfl rfl ?_
      have e5 : a'.tmps.getD 46 undef = .pointer (some ⟨b, off, none⟩) := hd 5 (by kernel_rfl)
      have cn := (hb.cell hbg).trans HN.out
      refine grow_value (v := .string ⟨nm.toArray⟩) (w' := w') ?_ rfl (Below.refl _ _)
      simp only [execOp, Act.eval, e5]
      go_simp
    · cases ho
      refine put_op rfl rfl rfl ?_
      have e0 : a'.tmps.getD 41 undef = .agg #[.int .i64 k, .bool y, .string t, .slice a l1 c, .slice ma m1 mc] := hd 0 (by kernel_rfl)
      have e6 : a'.tmps.getD 47 undef = .string ⟨nm.toArray⟩ := hd 6 (by kernel_rfl)
      refine grow_call ent_member rfl ?_
      simp only [List.map_toArray, List.map_cons, List.map_nil, Act.eval, e0, e6]
      exact ((HM.out w' hb).mono (fun e w'' ⟨h1, h2⟩ => ⟨_, h1, rfl, h2⟩))
    · cases ho
      refine put_op rfl rfl rfl (grow_move rfl ?_)
      exact hd 7 (by kernel_rfl)
    · cases ho
      refine put_op rfl rfl rfl ?_
      have e8 : a'.tmps.getD 40 undef = (.tuple #[.string ⟨I.toArray⟩, .bool okI]) := hd 8 (by kernel_rfl)
      refine grow_value (v := .string ⟨I.toArray⟩) (w' := w') ?_ rfl (Below.refl _ _)
      simp only [execOp, Act.eval, e8]
      go_simp
    · cases ho
      refine put_op rfl rfl rfl ?_
      have e8 : a'.tmps.getD 40 undef = (.tuple #[.string ⟨I.toArray⟩, .bool okI]) := hd 8 (by kernel_rfl)
      refine grow_value (v := .bool okI) (w' := w') ?_ rfl (Below.refl _ _)
      simp only [execOp, Act.eval, e8]
      go_simp
    · cases ho
      refine put_op rfl rfl rfl ?_
      have f7 : a'.tmps.getD 7 undef = .pointer (some ⟨g, 0, none⟩) := (hf.same 7 (by decide)).trans rfl
      refine grow_value (v := .pointer (some ⟨g, 1, none⟩)) (w' := w') ?_ rfl (Below.refl _ _)
      simp only [execOp, Act.eval]
      go_simp
    · cases ho
      obtain ⟨old, ho1, ho2, ho3⟩ := hgo
      have e11 : a'.tmps.getD 51 undef = .pointer (some ⟨g, 1, none⟩) := hd 11 (by kernel_rfl)
      have e9 : a'.tmps.getD 49 undef = .string ⟨I.toArray⟩ := hd 9 (by kernel_rfl)
      obtain ⟨u, hu⟩ : ∃ u, w'.cell? ⟨g, 1, none⟩ = some u := by rw [Lib.cell_of_heap ho1]; exact ⟨_, Array.getElem?_eq_getElem (by omega)⟩
      have hfz := Lib.frozen_of_heap ho1 1
      refine put_field rfl rfl rfl (g) 1 (.string ⟨I.toArray⟩) (#[Value.string ⟨F.toArray⟩, Value.string ⟨I.toArray⟩, Value.string ⟨#[]⟩]) 46 ⟨old, ho1, ho3⟩ ?_ (setRow_at ho1)
      simp only [execOp, Act.eval, e11, e9]
      go_simp
    · cases ho
      refine put_op rfl rfl rfl (grow_assign rfl ?_)
      exact hd 10 (by kernel_rfl)
    · simp at ho
  · intro a' w' hf hb hd
    obtain rfl := hf.eq [Value.agg #[.int IntKind.i64 k, .bool y, .string t, .slice a l1 c, .slice ma m1 mc], Value.slice (some ⟨b, off, none⟩) 1 c6, Value.slice (some ⟨b, off, none⟩) 1 c6, Value.int IntKind.i64 1, Value.int IntKind.i64 0, Value.pointer (some ⟨b, off, none⟩), Value.string ⟨nm.toArray⟩, (.tuple #[.string ⟨I.toArray⟩, .bool okI]), (.tuple #[.string ⟨I.toArray⟩, .bool okI]), Value.string ⟨I.toArray⟩, Value.bool okI, Value.pointer (some ⟨g, 1, none⟩), Value.bool okI] (fun j hj => match j, hj with
      | 0, _ => hd 0 (by decide)
      | 1, _ => hd 1 (by decide)
      | 2, _ => hd 2 (by decide)
      | 3, _ => hd 3 (by decide)
      | 4, _ => hd 4 (by decide)
      | 5, _ => hd 5 (by decide)
      | 6, _ => hd 6 (by decide)
      | 7, _ => hd 7 (by decide)
      | 8, _ => hd 8 (by decide)
      | 9, _ => hd 9 (by decide)
      | 10, _ => hd 10 (by decide)
      | 11, _ => hd 11 (by decide)
      | 12, _ => hd 13 (by decide)
      | k + 13, h => absurd h (by simp)) (by decide) (by kernel_rfl) rfl
    simp only [Act.put]
    have HS6 : Hid (w'.heap[g]? = _) := Lib.hid (hd 12 (by decide))
    have HBW6 := Lib.hid (HBW.out.trans (hb.mono hgw))
    have HX6 := Lib.hid ((hb.block _ hxg).trans HX.out)
    have HZ6 := Lib.hid ((hb.block _ hzg).trans HZ.out)
    have hg6 : g < w'.heap.size := (Array.getElem?_eq_some_iff.1 HS6.out).1
    clear hd hf hb HX HZ HS HN HM HBW
    obtain ⟨w6, rfl⟩ : ∃ x : World, x = w' := ⟨_, rfl⟩
    cases okI with
    | false =>
      have HO : Hid (O = (([], [], []), 10)) := Lib.hid (by rw [HOF4.out]; first | rfl | simp)
      have hz6 := HZ6.out
      clear HOF4
      have d0 : w6.cell? ⟨w.heap.size + 1, 0, none⟩ = some (.string ⟨#[]⟩) := by rw [Lib.cell_of_heap hz6]; rfl
      have d1 : w6.cell? ⟨w.heap.size + 1, 1, none⟩ = some (.string ⟨#[]⟩) := by rw [Lib.cell_of_heap hz6]; rfl
      have d2 : w6.cell? ⟨w.heap.size + 1, 2, none⟩ = some (.string ⟨#[]⟩) := by rw [Lib.cell_of_heap hz6]; rfl
      have f0 := Lib.frozen_of_heap hz6 0
      have f1 := Lib.frozen_of_heap hz6 1
      have f2 := Lib.frozen_of_heap hz6 2
      go_wp2_with fail
      have hst := three_stored HZ6.out (.string ⟨#[]⟩) (.string ⟨#[]⟩) (.string ⟨#[]⟩)
      have hbe := below_three HBW6.out (Nat.le_succ _) (.string ⟨#[]⟩) (.string ⟨#[]⟩) (.string ⟨#[]⟩)
      have e0 := Lib.cell_of_heap hst 0
      have e1 := Lib.cell_of_heap hst 1
      have e2 := Lib.cell_of_heap hst 2
      simp only [List.getElem?_toArray] at e0 e1 e2
      refine bodyPost_ret (v := .tuple #[.agg #[.string ⟨#[]⟩, .string ⟨#[]⟩, .string ⟨#[]⟩], .int .i64 10]) (by simp [results, Tryz.results24, go_sem, e0, e1, e2]) rfl ?_
      exact ⟨by rw [HO.out]; rfl, hbe⟩
    | true =>
    obtain ⟨s0, s1, s2⟩ := three_at HS6.out (Below.refl w6.heap.size w6) hg6
    go_wp2_with fail
    refine (HSR.out w6).mono ?_
    rintro e w7 ⟨rfl, hb7⟩
    have HBW7 := Lib.hid (HBW6.out.trans (hb7.mono HBW6.out.size))
    have hz7 := (hb7.block _ (by omega)).trans HZ6.out
    have HZ7 := Lib.hid hz7
    have hs7 := (hb7.block _ hg6).trans HS6.out
    obtain ⟨R, hR⟩ : ∃ R, rightS F I [] = R := ⟨_, rfl⟩
    have hof5 := HOF4.out
    simp only [Bool.true_and] at hof5
    rw [hR] at hof5 ⊢
    have HOF5 := Lib.hid hof5
    clear s0 s1 s2 hb7 hR hof5 HOF4
    cases R with
    | false =>
      have HO : Hid (O = (([], [], []), 10)) := Lib.hid (by rw [HOF5.out]; first | rfl | simp)
      clear HOF5
      have d0 : w7.cell? ⟨w.heap.size + 1, 0, none⟩ = some (.string ⟨#[]⟩) := by rw [Lib.cell_of_heap hz7]; rfl
      have d1 : w7.cell? ⟨w.heap.size + 1, 1, none⟩ = some (.string ⟨#[]⟩) := by rw [Lib.cell_of_heap hz7]; rfl
      have d2 : w7.cell? ⟨w.heap.size + 1, 2, none⟩ = some (.string ⟨#[]⟩) := by rw [Lib.cell_of_heap hz7]; rfl
      have f0 := Lib.frozen_of_heap hz7 0
      have f1 := Lib.frozen_of_heap hz7 1
      have f2 := Lib.frozen_of_heap hz7 2
      go_wp2_with fail
      have hst := three_stored HZ7.out (.string ⟨#[]⟩) (.string ⟨#[]⟩) (.string ⟨#[]⟩)
      have hbe := below_three HBW7.out (Nat.le_succ _) (.string ⟨#[]⟩) (.string ⟨#[]⟩) (.string ⟨#[]⟩)
      have e0 := Lib.cell_of_heap hst 0
      have e1 := Lib.cell_of_heap hst 1
      have e2 := Lib.cell_of_heap hst 2
      simp only [List.getElem?_toArray] at e0 e1 e2
      refine bodyPost_ret (v := .tuple #[.agg #[.string ⟨#[]⟩, .string ⟨#[]⟩, .string ⟨#[]⟩], .int .i64 10]) (by simp [results, Tryz.results24, go_sem, e0, e1, e2]) rfl ?_
      exact ⟨by rw [HO.out]; rfl, hbe⟩
    | true =>
      have HO : Hid (O = ((F, I, []), 0)) := Lib.hid (by rw [HOF5.out]; first | rfl | simp)
      clear HOF5
      obtain ⟨s0, s1, s2⟩ := three_at hs7 (Below.refl w7.heap.size w7) (Array.getElem?_eq_some_iff.1 hs7).1
      have d0 : w7.cell? ⟨w.heap.size + 1, 0, none⟩ = some (.string ⟨#[]⟩) := by rw [Lib.cell_of_heap hz7]; rfl
      have d1 : w7.cell? ⟨w.heap.size + 1, 1, none⟩ = some (.string ⟨#[]⟩) := by rw [Lib.cell_of_heap hz7]; rfl
      have d2 : w7.cell? ⟨w.heap.size + 1, 2, none⟩ = some (.string ⟨#[]⟩) := by rw [Lib.cell_of_heap hz7]; rfl
      have f0 := Lib.frozen_of_heap hz7 0
      have f1 := Lib.frozen_of_heap hz7 1
      have f2 := Lib.frozen_of_heap hz7 2
      go_wp2_with fail
      have hst := three_stored HZ7.out (.string ⟨F.toArray⟩) (.string ⟨I.toArray⟩) (.string ⟨#[]⟩)
      have hbe := below_three HBW7.out (Nat.le_succ _) (.string ⟨F.toArray⟩) (.string ⟨I.toArray⟩) (.string ⟨#[]⟩)
      have e0 := Lib.cell_of_heap hst 0
      have e1 := Lib.cell_of_heap hst 1
      have e2 := Lib.cell_of_heap hst 2
      simp only [List.getElem?_toArray] at e0 e1 e2
      refine bodyPost_ret (v := .tuple #[.agg #[.string ⟨F.toArray⟩, .string ⟨I.toArray⟩, .string ⟨#[]⟩], .int .i64 0]) (by simp [results, Tryz.results24, go_sem, e0, e1, e2]) rfl ?_
      exact ⟨by rw [HO.out]; rfl, hbe⟩
  subst h3
  have hof4 := HOF3.out
  rw [if_pos rfl] at hof4
  have hns : namesS issB = [isB, subB] := by decide
  rw [hns] at hL
  obtain rfl : 2 = L := hL
  have hrd := HRD4.out
  rw [hns] at hrd
  obtain ⟨b, off, rfl, hcell⟩ := hrd.at (by simp)
  obtain ⟨hbg, hcn⟩ := HCN.out _ _ _ (hcell 1 _ rfl)
  obtain ⟨_, hcn2⟩ := HCN.out _ _ _ (hcell 0 _ rfl)
  have HN : Hid (w5.cell? ⟨b, off + 1, none⟩ = some (.string ⟨#[115, 117, 98]⟩)) := Lib.hid hcn
  have HN2 : Hid (w5.cell? ⟨b, off, none⟩ = some (.string ⟨#[105, 115, 115]⟩)) := Lib.hid hcn2
  have HM := Lib.hid (HMN.out subB)
  have HMJ := Lib.hid (HMN.out isB)
  have hil := HSZ.out subB
  have hjl := HSZ.out isB
  obtain ⟨I, okI, hI⟩ : ∃ I okI, strM subB v = (I, okI) := ⟨_, _, rfl⟩
  obtain ⟨J, okJ, hJ⟩ : ∃ J okJ, strM isB v = (J, okJ) := ⟨_, _, rfl⟩
  rw [hI] at HM hof4 hil
  rw [hJ] at HMJ hof4 hjl
  simp only at HM HMJ hof4 hil hjl
  have HOF4 := Lib.hid hof4
  have HSR := Lib.hid (fun w' => sright_any issB I J w' hil hjl)
  have HF0 : Hid (∀ w' : World, w'.heap[g]? = some (.cells #[.string ⟨I.toArray⟩] 0 (0, 0)) → True) := Lib.hid fun _ _ => trivial
  clear hof4 hcn hcn2 hcell hrd HRD4 HCN hns hL1 hL2 hI hJ HOF3 HMN HSZ HF0
  unfold issB isB subB at *
  refine wp_region_putK (by kernel_rfl) (by kernel_rfl) [some 41, some 42, some 43, some 44, some 45, some 46, some 47, some 48, some 40, some 49, some 50, some 51, none, some 5] rfl (by decide) (by kernel_rfl) (g) 46 (#[Value.string ⟨#[105, 115, 115, 95, 115, 117, 98]⟩, Value.string ⟨I.toArray⟩, Value.string ⟨#[]⟩]) _ (HS.out) (fun old => 1 < old.size ∧ old.setIfInBounds 1 (.string ⟨I.toArray⟩) = #[Value.string ⟨#[105, 115, 115, 95, 115, 117, 98]⟩, Value.string ⟨I.toArray⟩, Value.string ⟨#[]⟩]) ?_ ?_ (g) ?_ (fun iX => [VIs (.agg #[.int .i64 k, .bool y, .string t, .slice a l1 c, .slice ma m1 mc]), VIs (.slice (some ⟨b, off, none⟩) 2 c6), VIs (.slice (some ⟨b, off, none⟩) 2 c6), VIs (.int .i64 2), VIs (.int .i64 1), VIs (.pointer (some ⟨b, off + 1, none⟩)), VIs (.string ⟨#[115, 117, 98]⟩), VIs ((.tuple #[.string ⟨I.toArray⟩, .bool okI])), VIs ((.tuple #[.string ⟨I.toArray⟩, .bool okI])), VIs (.string ⟨I.toArray⟩), VIs (.bool okI), VIs (.pointer (some ⟨g, 1, none⟩)), VRowIs (g) 46 (#[Value.string ⟨#[105, 115, 115, 95, 115, 117, 98]⟩, Value.string ⟨I.toArray⟩, Value.string ⟨#[]⟩]), VIs (.bool okI)].getD iX fun _ _ => True) ?_ ?_ ?_ ?_
  · exact ⟨by simp, rfl⟩
  · exact ⟨by simp, rfl⟩
  · first | omega | simp
  · refine stab_list _ ?_
    intro V hV
    simp only [List.mem_cons, List.mem_nil_iff, or_false] at hV
    rcases hV with rfl | rfl | rfl | rfl | rfl | rfl | rfl | rfl | rfl | rfl | rfl | rfl | rfl | rfl <;> first | exact VIs.stab _ | exact VBytes.stab _ | exact VStr.stab _ | exact VParts.stab _ | exact VRow.stab _ | exact VRow8.stab _ _ | exact VRowIs.stab _ _ _
  · refine stab2_list _ ?_
    intro V hV
    simp only [List.mem_cons, List.mem_nil_iff, or_false] at hV
    rcases hV with rfl | rfl | rfl | rfl | rfl | rfl | rfl | rfl | rfl | rfl | rfl | rfl | rfl | rfl <;> first | exact VIs.stab2 _ _ _ | exact VRowIs.stab2 _ _ _ | exact VStr.stab2 _ _ _
  · intro iX o ho a' w' hf hb hgo hd
    rcases iX with _ | _ | _ | _ | _ | _ | _ | _ | _ | _ | _ | _ | _ | _ | iX
    · cases ho
      refine put_op rfl rfl rfl ?_
      have f1 : a'.tmps.getD 1 undef = .pointer (some ⟨w.heap.size, 0, none⟩) := (hf.same 1 (by decide)).trans rfl
      obtain ⟨x0, x1, x2, x3, x4⟩ := five_at HX.out hb hxg
      refine grow_value (v := .agg #[.int .i64 k, .bool y, .string t, .slice a l1 c, .slice ma m1 mc]) (w' := w') ?_ rfl (Below.refl _ _)
      simp only [execOp, Act.eval]
      go_simp
    · cases ho
      refine put_op rfl rfl rfl (grow_move rfl ?_)
      exact (hf.same 6 (by decide)).trans rfl
    · cases ho
      refine put_op rfl rfl rfl (grow_move rfl ?_)
      exact (hf.same 6 (by decide)).trans rfl
    · cases ho
      refine put_op rfl rfl rfl ?_
      have e2 : a'.tmps.getD 43 undef = .slice (some ⟨b, off, none⟩) 2 c6 := hd 2 (by kernel_rfl)
      refine grow_value (v := .int .i64 2) (w' := w') ?_ rfl (Below.refl _ _)
      simp only [execOp]
      go_simp
    · cases ho
      refine put_op rfl rfl rfl ?_
      have e3 : a'.tmps.getD 44 undef = .int .i64 2 := hd 3 (by kernel_rfl)
      refine grow_value (v := .int .i64 1) (w' := w') ?_ rfl (Below.refl _ _)
      simp only [execOp, Act.eval, e3]
      go_simp
      all_goals rfl
    · cases ho
      refine put_op rfl rfl rfl ?_
      have e1 : a'.tmps.getD 42 undef = .slice (some ⟨b, off, none⟩) 2 c6 := hd 1 (by kernel_rfl)
      have e4 : a'.tmps.getD 45 undef = .int .i64 1 := hd 4 (by kernel_rfl)
      refine grow_value (v := .pointer (some ⟨b, off + 1, none⟩)) (w' := w') ?_ rfl (Below.refl _ _)
      simp only [execOp, Act.eval, e1, e4]
      go_simp
    · cases ho
      refine put_op rfl rfl rfl ?_
      have e5 : a'.tmps.getD 46 undef = .pointer (some ⟨b, off + 1, none⟩) := hd 5 (by kernel_rfl)
      have cn := (hb.cell hbg).trans HN.out
      refine grow_value (v := .string ⟨#[115, 117, 98]⟩) (w' := w') ?_ rfl (Below.refl _ _)
      simp only [execOp, Act.eval, e5]
      go_simp
    · cases ho
      refine put_op rfl rfl rfl ?_
      have e0 : a'.tmps.getD 41 undef = .agg #[.int .i64 k, .bool y, .string t, .slice a l1 c, .slice ma m1 mc] := hd 0 (by kernel_rfl)
      have e6 : a'.tmps.getD 47 undef = .string ⟨#[115, 117, 98]⟩ := hd 6 (by kernel_rfl)
      refine grow_call ent_member rfl ?_
      simp only [List.map_toArray, List.map_cons, List.map_nil, Act.eval, e0, e6]
      exact ((HM.out w' hb).mono (fun e w'' ⟨h1, h2⟩ => ⟨_, h1, rfl, h2⟩))
    · cases ho
      refine put_op rfl rfl rfl (grow_move rfl ?_)
      exact hd 7 (by kernel_rfl)
    · cases ho
      refine put_op rfl rfl rfl ?_
      have e8 : a'.tmps.getD 40 undef = (.tuple #[.string ⟨I.toArray⟩, .bool okI]) := hd 8 (by kernel_rfl)
      refine grow_value (v := .string ⟨I.toArray⟩) (w' := w') ?_ rfl (Below.refl _ _)
      simp only [execOp, Act.eval, e8]
      go_simp
    · cases ho
      refine put_op rfl rfl rfl ?_
      have e8 : a'.tmps.getD 40 undef = (.tuple #[.string ⟨I.toArray⟩, .bool okI]) := hd 8 (by kernel_rfl)
      refine grow_value (v := .bool okI) (w' := w') ?_ rfl (Below.refl _ _)
      simp only [execOp, Act.eval, e8]
      go_simp
    · cases ho
      refine put_op rfl rfl rfl ?_
      have f7 : a'.tmps.getD 7 undef = .pointer (some ⟨g, 0, none⟩) := (hf.same 7 (by decide)).trans rfl
      refine grow_value (v := .pointer (some ⟨g, 1, none⟩)) (w' := w') ?_ rfl (Below.refl _ _)
      simp only [execOp, Act.eval]
      go_simp
    · cases ho
      obtain ⟨old, ho1, ho2, ho3⟩ := hgo
      have e11 : a'.tmps.getD 51 undef = .pointer (some ⟨g, 1, none⟩) := hd 11 (by kernel_rfl)
      have e9 : a'.tmps.getD 49 undef = .string ⟨I.toArray⟩ := hd 9 (by kernel_rfl)
      obtain ⟨u, hu⟩ : ∃ u, w'.cell? ⟨g, 1, none⟩ = some u := by rw [Lib.cell_of_heap ho1]; exact ⟨_, Array.getElem?_eq_getElem (by omega)⟩
      have hfz := Lib.frozen_of_heap ho1 1
      refine put_field rfl rfl rfl (g) 1 (.string ⟨I.toArray⟩) (#[Value.string ⟨#[105, 115, 115, 95, 115, 117, 98]⟩, Value.string ⟨I.toArray⟩, Value.string ⟨#[]⟩]) 46 ⟨old, ho1, ho3⟩ ?_ (setRow_at ho1)
      simp only [execOp, Act.eval, e11, e9]
      go_simp
    · cases ho
      refine put_op rfl rfl rfl (grow_assign rfl ?_)
      exact hd 10 (by kernel_rfl)
    · simp at ho
  · intro a' w' hf hb hd
    obtain rfl := hf.eq [Value.agg #[.int IntKind.i64 k, .bool y, .string t, .slice a l1 c, .slice ma m1 mc], Value.slice (some ⟨b, off, none⟩) 2 c6, Value.slice (some ⟨b, off, none⟩) 2 c6, Value.int IntKind.i64 2, Value.int IntKind.i64 1, Value.pointer (some ⟨b, off + 1, none⟩), Value.string ⟨#[115, 117, 98]⟩, (.tuple #[.string ⟨I.toArray⟩, .bool okI]), (.tuple #[.string ⟨I.toArray⟩, .bool okI]), Value.string ⟨I.toArray⟩, Value.bool okI, Value.pointer (some ⟨g, 1, none⟩), Value.bool okI] (fun j hj => match j, hj with
      | 0, _ => hd 0 (by decide)
      | 1, _ => hd 1 (by decide)
      | 2, _ => hd 2 (by decide)
      | 3, _ => hd 3 (by decide)
      | 4, _ => hd 4 (by decide)
      | 5, _ => hd 5 (by decide)
      | 6, _ => hd 6 (by decide)
      | 7, _ => hd 7 (by decide)
      | 8, _ => hd 8 (by decide)
      | 9, _ => hd 9 (by decide)
      | 10, _ => hd 10 (by decide)
      | 11, _ => hd 11 (by decide)
      | 12, _ => hd 13 (by decide)
      | k + 13, h => absurd h (by simp)) (by decide) (by kernel_rfl) rfl
    simp only [Act.put]
    have HS6 : Hid (w'.heap[g]? = _) := Lib.hid (hd 12 (by decide))
    have HBW6 := Lib.hid (HBW.out.trans (hb.mono hgw))
    have HX6 := Lib.hid ((hb.block _ hxg).trans HX.out)
    have HZ6 := Lib.hid ((hb.block _ hzg).trans HZ.out)
    have hg6 : g < w'.heap.size := (Array.getElem?_eq_some_iff.1 HS6.out).1
    have HN6 : Hid (w'.cell? ⟨b, off, none⟩ = some (.string ⟨#[105, 115, 115]⟩)) := Lib.hid ((hb.cell hbg).trans HN2.out)
    have HM2 : Hid (∀ w'' : World, Below g w' w'' → _) := Lib.hid fun (w'' : World) (hb2 : Below g w' w'') => HMJ.out w'' (hb.trans hb2)
    clear hd hf hb HX HZ HS HN HM HBW HMJ HN2
    obtain ⟨w6, rfl⟩ : ∃ x : World, x = w' := ⟨_, rfl⟩
    cases okI with
    | false =>
      have HO : Hid (O = (([], [], []), 10)) := Lib.hid (by rw [HOF4.out]; first | rfl | simp)
      have hz6 := HZ6.out
      clear HOF4
      have d0 : w6.cell? ⟨w.heap.size + 1, 0, none⟩ = some (.string ⟨#[]⟩) := by rw [Lib.cell_of_heap hz6]; rfl
      have d1 : w6.cell? ⟨w.heap.size + 1, 1, none⟩ = some (.string ⟨#[]⟩) := by rw [Lib.cell_of_heap hz6]; rfl
      have d2 : w6.cell? ⟨w.heap.size + 1, 2, none⟩ = some (.string ⟨#[]⟩) := by rw [Lib.cell_of_heap hz6]; rfl
      have f0 := Lib.frozen_of_heap hz6 0
      have f1 := Lib.frozen_of_heap hz6 1
      have f2 := Lib.frozen_of_heap hz6 2
      go_wp2_with fail
      have hst := three_stored HZ6.out (.string ⟨#[]⟩) (.string ⟨#[]⟩) (.string ⟨#[]⟩)
      have hbe := below_three HBW6.out (Nat.le_succ _) (.string ⟨#[]⟩) (.string ⟨#[]⟩) (.string ⟨#[]⟩)
      have e0 := Lib.cell_of_heap hst 0
      have e1 := Lib.cell_of_heap hst 1
      have e2 := Lib.cell_of_heap hst 2
      simp only [List.getElem?_toArray] at e0 e1 e2
      refine bodyPost_ret (v := .tuple #[.agg #[.string ⟨#[]⟩, .string ⟨#[]⟩, .string ⟨#[]⟩], .int .i64 10]) (by simp [results, Tryz.results24, go_sem, e0, e1, e2]) rfl ?_
      exact ⟨by rw [HO.out]; rfl, hbe⟩
    | true =>
      go_upto_region 12 with (fail)
      have HX := HX6
      have HZ := HZ6
      have HS := HS6
      have HN := HN6
      have HBW := HBW6
      clear HX6 HZ6 HS6 HN6 HBW6 hg6
      refine wp_region_putK (by kernel_rfl) (by kernel_rfl) [some 58, some 59, some 60, some 61, some 62, some 57, some 63, some 64, some 65, none, some 5] rfl (by decide) (by kernel_rfl) (g) 46 (#[Value.string ⟨#[105, 115, 115, 95, 115, 117, 98]⟩, Value.string ⟨I.toArray⟩, Value.string ⟨J.toArray⟩]) _ (HS.out) (fun old => 2 < old.size ∧ old.setIfInBounds 2 (.string ⟨J.toArray⟩) = #[Value.string ⟨#[105, 115, 115, 95, 115, 117, 98]⟩, Value.string ⟨I.toArray⟩, Value.string ⟨J.toArray⟩]) ?_ ?_ (g) ?_ (fun iX => [VIs (.agg #[.int .i64 k, .bool y, .string t, .slice a l1 c, .slice ma m1 mc]), VIs (.slice (some ⟨b, off, none⟩) 2 c6), VIs (.pointer (some ⟨b, off, none⟩)), VIs (.string ⟨#[105, 115, 115]⟩), VIs ((.tuple #[.string ⟨J.toArray⟩, .bool okJ])), VIs ((.tuple #[.string ⟨J.toArray⟩, .bool okJ])), VIs (.string ⟨J.toArray⟩), VIs (.bool okJ), VIs (.pointer (some ⟨g, 2, none⟩)), VRowIs (g) 46 (#[Value.string ⟨#[105, 115, 115, 95, 115, 117, 98]⟩, Value.string ⟨I.toArray⟩, Value.string ⟨J.toArray⟩]), VIs (.bool okJ)].getD iX fun _ _ => True) ?_ ?_ ?_ ?_
      · exact ⟨by simp, rfl⟩
      · exact ⟨by simp, rfl⟩
      · first | omega | simp
      · refine stab_list _ ?_
        intro V hV
        simp only [List.mem_cons, List.mem_nil_iff, or_false] at hV
        rcases hV with rfl | rfl | rfl | rfl | rfl | rfl | rfl | rfl | rfl | rfl | rfl <;> first | exact VIs.stab _ | exact VBytes.stab _ | exact VStr.stab _ | exact VParts.stab _ | exact VRow.stab _ | exact VRow8.stab _ _ | exact VRowIs.stab _ _ _
      · refine stab2_list _ ?_
        intro V hV
        simp only [List.mem_cons, List.mem_nil_iff, or_false] at hV
        rcases hV with rfl | rfl | rfl | rfl | rfl | rfl | rfl | rfl | rfl | rfl | rfl <;> first | exact VIs.stab2 _ _ _ | exact VRowIs.stab2 _ _ _ | exact VStr.stab2 _ _ _
      · intro iX o ho a' w' hf hb hgo hd
        rcases iX with _ | _ | _ | _ | _ | _ | _ | _ | _ | _ | _ | iX
        · cases ho
          refine put_op rfl rfl rfl ?_
          have f1 : a'.tmps.getD 1 undef = .pointer (some ⟨w.heap.size, 0, none⟩) := (hf.same 1 (by decide)).trans rfl
          obtain ⟨x0, x1, x2, x3, x4⟩ := five_at HX.out hb hxg
          refine grow_value (v := .agg #[.int .i64 k, .bool y, .string t, .slice a l1 c, .slice ma m1 mc]) (w' := w') ?_ rfl (Below.refl _ _)
          simp only [execOp, Act.eval]
          go_simp
        · cases ho
          refine put_op rfl rfl rfl (grow_move rfl ?_)
          exact (hf.same 6 (by decide)).trans rfl
        · cases ho
          refine put_op rfl rfl rfl ?_
          have e1 : a'.tmps.getD 59 undef = .slice (some ⟨b, off, none⟩) 2 c6 := hd 1 (by kernel_rfl)
          refine grow_value (v := .pointer (some ⟨b, off, none⟩)) (w' := w') ?_ rfl (Below.refl _ _)
          simp only [execOp, Act.eval, e1]
          go_simp
        · cases ho
          refine put_op rfl rfl rfl ?_
          have e2 : a'.tmps.getD 60 undef = .pointer (some ⟨b, off, none⟩) := hd 2 (by kernel_rfl)
          have cn := (hb.cell hbg).trans HN.out
          refine grow_value (v := .string ⟨#[105, 115, 115]⟩) (w' := w') ?_ rfl (Below.refl _ _)
          simp only [execOp, Act.eval, e2]
          go_simp
        · cases ho
          refine put_op rfl rfl rfl ?_
          have e0 : a'.tmps.getD 58 undef = .agg #[.int .i64 k, .bool y, .string t, .slice a l1 c, .slice ma m1 mc] := hd 0 (by kernel_rfl)
          have e3 : a'.tmps.getD 61 undef = .string ⟨#[105, 115, 115]⟩ := hd 3 (by kernel_rfl)
          refine grow_call ent_member rfl ?_
          simp only [List.map_toArray, List.map_cons, List.map_nil, Act.eval, e0, e3]
          exact ((HM2.out w' hb).mono (fun e w'' ⟨h1, h2⟩ => ⟨_, h1, rfl, h2⟩))
        · cases ho
          refine put_op rfl rfl rfl (grow_move rfl ?_)
          exact hd 4 (by kernel_rfl)
        · cases ho
          refine put_op rfl rfl rfl ?_
          have e5 : a'.tmps.getD 57 undef = (.tuple #[.string ⟨J.toArray⟩, .bool okJ]) := hd 5 (by kernel_rfl)
          refine grow_value (v := .string ⟨J.toArray⟩) (w' := w') ?_ rfl (Below.refl _ _)
          simp only [execOp, Act.eval, e5]
          go_simp
        · cases ho
          refine put_op rfl rfl rfl ?_
          have e5 : a'.tmps.getD 57 undef = (.tuple #[.string ⟨J.toArray⟩, .bool okJ]) := hd 5 (by kernel_rfl)
          refine grow_value (v := .bool okJ) (w' := w') ?_ rfl (Below.refl _ _)
          simp only [execOp, Act.eval, e5]
          go_simp
        · cases ho
          refine put_op rfl rfl rfl ?_
          have f7 : a'.tmps.getD 7 undef = .pointer (some ⟨g, 0, none⟩) := (hf.same 7 (by decide)).trans rfl
          refine grow_value (v := .pointer (some ⟨g, 2, none⟩)) (w' := w') ?_ rfl (Below.refl _ _)
          simp only [execOp, Act.eval]
          go_simp
        · cases ho
          obtain ⟨old, ho1, ho2, ho3⟩ := hgo
          have e8 : a'.tmps.getD 65 undef = .pointer (some ⟨g, 2, none⟩) := hd 8 (by kernel_rfl)
          have e6 : a'.tmps.getD 63 undef = .string ⟨J.toArray⟩ := hd 6 (by kernel_rfl)
          obtain ⟨u, hu⟩ : ∃ u, w'.cell? ⟨g, 2, none⟩ = some u := by rw [Lib.cell_of_heap ho1]; exact ⟨_, Array.getElem?_eq_getElem (by omega)⟩
          have hfz := Lib.frozen_of_heap ho1 2
          refine put_field rfl rfl rfl (g) 2 (.string ⟨J.toArray⟩) (#[Value.string ⟨#[105, 115, 115, 95, 115, 117, 98]⟩, Value.string ⟨I.toArray⟩, Value.string ⟨J.toArray⟩]) 46 ⟨old, ho1, ho3⟩ ?_ (setRow_at ho1)
          simp only [execOp, Act.eval, e8, e6]
          go_simp
        · cases ho
          refine put_op rfl rfl rfl (grow_assign rfl ?_)
          exact hd 7 (by kernel_rfl)
        · simp at ho
      · intro a' w' hf hb hd
        obtain rfl := hf.eq [Value.agg #[.int IntKind.i64 k, .bool y, .string t, .slice a l1 c, .slice ma m1 mc], Value.slice (some ⟨b, off, none⟩) 2 c6, Value.pointer (some ⟨b, off, none⟩), Value.string ⟨#[105, 115, 115]⟩, (.tuple #[.string ⟨J.toArray⟩, .bool okJ]), (.tuple #[.string ⟨J.toArray⟩, .bool okJ]), Value.string ⟨J.toArray⟩, Value.bool okJ, Value.pointer (some ⟨g, 2, none⟩), Value.bool okJ] (fun j hj => match j, hj with
          | 0, _ => hd 0 (by decide)
          | 1, _ => hd 1 (by decide)
          | 2, _ => hd 2 (by decide)
          | 3, _ => hd 3 (by decide)
          | 4, _ => hd 4 (by decide)
          | 5, _ => hd 5 (by decide)
          | 6, _ => hd 6 (by decide)
          | 7, _ => hd 7 (by decide)
          | 8, _ => hd 8 (by decide)
          | 9, _ => hd 10 (by decide)
          | k + 10, h => absurd h (by simp)) (by decide) (by kernel_rfl) rfl
        simp only [Act.put]
        have HS6 : Hid (w'.heap[g]? = _) := Lib.hid (hd 9 (by decide))
        have HBW6 := Lib.hid (HBW.out.trans (hb.mono hgw))
        have HX6 := Lib.hid ((hb.block _ hxg).trans HX.out)
        have HZ6 := Lib.hid ((hb.block _ hzg).trans HZ.out)
        have hg6 : g < w'.heap.size := (Array.getElem?_eq_some_iff.1 HS6.out).1
        clear hd hf hb HX HZ HS HN HM2 HBW
        obtain ⟨w6, rfl⟩ : ∃ x : World, x = w' := ⟨_, rfl⟩
        cases okJ with
        | false =>
          have HO : Hid (O = (([], [], []), 10)) := Lib.hid (by rw [HOF4.out]; first | rfl | simp)
          have hz6 := HZ6.out
          clear HOF4
          have d0 : w6.cell? ⟨w.heap.size + 1, 0, none⟩ = some (.string ⟨#[]⟩) := by rw [Lib.cell_of_heap hz6]; rfl
          have d1 : w6.cell? ⟨w.heap.size + 1, 1, none⟩ = some (.string ⟨#[]⟩) := by rw [Lib.cell_of_heap hz6]; rfl
          have d2 : w6.cell? ⟨w.heap.size + 1, 2, none⟩ = some (.string ⟨#[]⟩) := by rw [Lib.cell_of_heap hz6]; rfl
          have f0 := Lib.frozen_of_heap hz6 0
          have f1 := Lib.frozen_of_heap hz6 1
          have f2 := Lib.frozen_of_heap hz6 2
          go_wp2_with fail
          have hst := three_stored HZ6.out (.string ⟨#[]⟩) (.string ⟨#[]⟩) (.string ⟨#[]⟩)
          have hbe := below_three HBW6.out (Nat.le_succ _) (.string ⟨#[]⟩) (.string ⟨#[]⟩) (.string ⟨#[]⟩)
          have e0 := Lib.cell_of_heap hst 0
          have e1 := Lib.cell_of_heap hst 1
          have e2 := Lib.cell_of_heap hst 2
          simp only [List.getElem?_toArray] at e0 e1 e2
          refine bodyPost_ret (v := .tuple #[.agg #[.string ⟨#[]⟩, .string ⟨#[]⟩, .string ⟨#[]⟩], .int .i64 10]) (by simp [results, Tryz.results24, go_sem, e0, e1, e2]) rfl ?_
          exact ⟨by rw [HO.out]; rfl, hbe⟩
        | true =>
        obtain ⟨s0, s1, s2⟩ := three_at HS6.out (Below.refl w6.heap.size w6) hg6
        go_wp2_with fail
        refine (HSR.out w6).mono ?_
        rintro e w7 ⟨rfl, hb7⟩
        have HBW7 := Lib.hid (HBW6.out.trans (hb7.mono HBW6.out.size))
        have hz7 := (hb7.block _ (by omega)).trans HZ6.out
        have HZ7 := Lib.hid hz7
        have hs7 := (hb7.block _ hg6).trans HS6.out
        obtain ⟨R, hR⟩ : ∃ R, rightS [105, 115, 115, 95, 115, 117, 98] I J = R := ⟨_, rfl⟩
        have hof5 := HOF4.out
        simp only [Bool.true_and] at hof5
        rw [hR] at hof5 ⊢
        have HOF5 := Lib.hid hof5
        clear s0 s1 s2 hb7 hR hof5 HOF4
        cases R with
        | false =>
          have HO : Hid (O = (([], [], []), 10)) := Lib.hid (by rw [HOF5.out]; first | rfl | simp)
          clear HOF5
          have d0 : w7.cell? ⟨w.heap.size + 1, 0, none⟩ = some (.string ⟨#[]⟩) := by rw [Lib.cell_of_heap hz7]; rfl
          have d1 : w7.cell? ⟨w.heap.size + 1, 1, none⟩ = some (.string ⟨#[]⟩) := by rw [Lib.cell_of_heap hz7]; rfl
          have d2 : w7.cell? ⟨w.heap.size + 1, 2, none⟩ = some (.string ⟨#[]⟩) := by rw [Lib.cell_of_heap hz7]; rfl
          have f0 := Lib.frozen_of_heap hz7 0
          have f1 := Lib.frozen_of_heap hz7 1
          have f2 := Lib.frozen_of_heap hz7 2
          go_wp2_with fail
          have hst := three_stored HZ7.out (.string ⟨#[]⟩) (.string ⟨#[]⟩) (.string ⟨#[]⟩)
          have hbe := below_three HBW7.out (Nat.le_succ _) (.string ⟨#[]⟩) (.string ⟨#[]⟩) (.string ⟨#[]⟩)
          have e0 := Lib.cell_of_heap hst 0
          have e1 := Lib.cell_of_heap hst 1
          have e2 := Lib.cell_of_heap hst 2
          simp only [List.getElem?_toArray] at e0 e1 e2
          refine bodyPost_ret (v := .tuple #[.agg #[.string ⟨#[]⟩, .string ⟨#[]⟩, .string ⟨#[]⟩], .int .i64 10]) (by simp [results, Tryz.results24, go_sem, e0, e1, e2]) rfl ?_
          exact ⟨by rw [HO.out]; rfl, hbe⟩
        | true =>
          have HO : Hid (O = (([105, 115, 115, 95, 115, 117, 98], I, J), 0)) := Lib.hid (by rw [HOF5.out]; first | rfl | simp)
          clear HOF5
          obtain ⟨s0, s1, s2⟩ := three_at hs7 (Below.refl w7.heap.size w7) (Array.getElem?_eq_some_iff.1 hs7).1
          have d0 : w7.cell? ⟨w.heap.size + 1, 0, none⟩ = some (.string ⟨#[]⟩) := by rw [Lib.cell_of_heap hz7]; rfl
          have d1 : w7.cell? ⟨w.heap.size + 1, 1, none⟩ = some (.string ⟨#[]⟩) := by rw [Lib.cell_of_heap hz7]; rfl
          have d2 : w7.cell? ⟨w.heap.size + 1, 2, none⟩ = some (.string ⟨#[]⟩) := by rw [Lib.cell_of_heap hz7]; rfl
          have f0 := Lib.frozen_of_heap hz7 0
          have f1 := Lib.frozen_of_heap hz7 1
          have f2 := Lib.frozen_of_heap hz7 2
          go_wp2_with fail
          have hst := three_stored HZ7.out (.string ⟨#[105, 115, 115, 95, 115, 117, 98]⟩) (.string ⟨I.toArray⟩) (.string ⟨J.toArray⟩)
          have hbe := below_three HBW7.out (Nat.le_succ _) (.string ⟨#[105, 115, 115, 95, 115, 117, 98]⟩) (.string ⟨I.toArray⟩) (.string ⟨J.toArray⟩)
          have e0 := Lib.cell_of_heap hst 0
          have e1 := Lib.cell_of_heap hst 1
          have e2 := Lib.cell_of_heap hst 2
          simp only [List.getElem?_toArray] at e0 e1 e2
          refine bodyPost_ret (v := .tuple #[.agg #[.string ⟨#[105, 115, 115, 95, 115, 117, 98]⟩, .string ⟨I.toArray⟩, .string ⟨J.toArray⟩], .int .i64 0]) (by simp [results, Tryz.results24, go_sem, e0, e1, e2]) rfl ?_
          exact ⟨by rw [HO.out]; rfl, hbe⟩
end Go.Proofs.YtfcokdkbjajohaaGreatDoor
/- The anchor of klaxonlaw12. -/
set_option linter.unusedVariables false
namespace Go.Proofs.YtfcokdkbjajohaaGreatDoor
open Go.RowKit

def an12 : List UInt8 := [123, 34, 102, 111, 114, 109, 97, 116, 34, 58, 34, 105, 115, 115, 95, 115, 117, 98, 34, 44, 34, 105, 115, 115, 34, 58, 34, 97, 34, 44, 34, 115, 117, 98, 34, 58, 34, 98, 34, 125]
def an12V : JV := jobj [(fmtB, jstr issB), (isB, jstr [97]), (subB, jstr [98])]
set_option maxRecDepth 100000 in
theorem an12_parse : parseL an12 4 = (an12V, 0) := by kernel_rfl
theorem an12_of : ofS an12V = ((issB, [98], [97]), 0) := by decide +kernel
theorem an12_size : sizeJ an12V ≤ 1000 := by decide +kernel
set_option maxRecDepth 100000 in
set_option maxHeartbeats 8000000 in
theorem parsed_const (w : World) : Calls Tryz.prog 72 #[.string ⟨an12.toArray⟩] w fun e w' => e = .returned (OfIs ((issB, [98], [97]), 0)) ∧ Below w.heap.size w w' := by
  go_enter Tryz.func72, Tryz.ntmps72
  have hb0 : Below w.heap.size w (w.alloc (.cells #[.string ⟨#[]⟩, .string ⟨#[]⟩, .string ⟨#[]⟩] 46)) := (Below.refl _ _).alloc (Nat.le_refl _) _
  have hz0 := heap_alloc_new w (.cells #[.string ⟨#[]⟩, .string ⟨#[]⟩, .string ⟨#[]⟩] 46)
  have hl : an12.length ≤ 100 := by decide
  obtain ⟨S, hS⟩ : ∃ S, an12 = S := ⟨_, rfl⟩
  have hpa := an12_parse
  rw [hS] at hl hpa ⊢
  clear hS
  go_upto_region 1 with (fail)
  generalize w.alloc _ = w1 at *
  have hs1 : w.heap.size < w1.heap.size := (Array.getElem?_eq_some_iff.1 hz0).1
  obtain ⟨cc, w2, hcv, hb2, hrd2, -⟩ := bytes_of_str S w1
  have hp2 := parse_any S (some ⟨w1.heap.size, 0, none⟩) cc 4 w2 hrd2 (by omega)
  rw [hpa] at hp2
  have HP2 := Lib.hid hp2
  have HB2 := Lib.hid (hb0.trans (hb2.mono hb0.size))
  have HZ2 := Lib.hid ((hb2.block _ hs1).trans hz0)
  have hs2 : w.heap.size < w2.heap.size := Nat.lt_of_lt_of_le hs1 hb2.size
  clear hp2 hrd2 hb2 hz0 hb0 hpa
  go_wp2_with fail
  refine HP2.out.mono ?_
  rintro e w3 ⟨hb3, cs, A, rfl, hrep⟩
  have HB3 := Lib.hid (HB2.out.trans (hb3.mono HB2.out.size))
  have HZ3 := Lib.hid ((hb3.block _ hs2).trans HZ2.out)
  have hs3 : w.heap.size < w3.heap.size := Nat.lt_of_lt_of_le hs2 hb3.size
  obtain ⟨a, c, ma, mc, _, _, rfl, -⟩ := hrep.parts
  unfold strV at *
  have HR3 := Lib.hid hrep
  clear hb3 hrep hcv HP2 HZ2 HB2
  obtain ⟨k, y, t, l1, m1, hk, hy, ht, hl1, hm1⟩ : ∃ k y t l1 m1, an12V.kind = k ∧ an12V.yes = y ∧ (⟨an12V.text.toArray⟩ : ByteArray) = t ∧ an12V.list.length = l1 ∧ an12V.mem.length = m1 := ⟨_, _, _, _, _, rfl, rfl, rfl, rfl, rfl⟩
  rw [hk, hy, ht, hl1, hm1] at HR3
  rw [hk, hy, ht, hl1, hm1]
  clear hk hy ht hl1 hm1
  go_upto_region 4 with (fail)
  generalize hw4 : w3.alloc _ = w4
  have hb4 : Below w3.heap.size w3 w4 := by rw [← hw4]; exact (Below.refl _ _).alloc (Nat.le_refl _) _
  have hx4 : w4.heap[w3.heap.size]? = some (.cells #[.int .i64 k, .bool y, .string t, .slice a l1 c, .slice ma m1 mc] 26 (0, 0)) := by rw [← hw4]; exact heap_alloc_new _ _
  obtain ⟨v0, v1, v2, v3, v4⟩ := five_at hx4 (Below.refl w4.heap.size w4) (Array.getElem?_eq_some_iff.1 hx4).1
  have HB4 := Lib.hid (HB3.out.trans (hb4.mono HB3.out.size))
  have HZ4 := Lib.hid ((hb4.block _ hs3).trans HZ3.out)
  have hs4 : w.heap.size < w4.heap.size := Nat.lt_of_lt_of_le hs3 hb4.size
  have HR4 := Lib.hid (HR3.out.under hb4)
  clear hw4 hb4 hx4 HR3 HZ3 HB3
  go_wp2_with fail
  refine (of_any an12V (Nat.le_trans an12_size (by decide)) _ [.int .i64 k, .bool y, .string t, .slice a l1 c, .slice ma m1 mc] w4 HR4.out).mono ?_
  rw [an12_of]
  rintro e w5 ⟨rfl, hb5⟩
  have HB5 := Lib.hid (HB4.out.trans (hb5.mono HB4.out.size))
  have hz5 := (hb5.block _ hs4).trans HZ4.out
  have HZ5 := Lib.hid hz5
  have d0 : w5.cell? ⟨w.heap.size, 0, none⟩ = some (.string ⟨#[]⟩) := by rw [Lib.cell_of_heap hz5]; rfl
  have d1 : w5.cell? ⟨w.heap.size, 1, none⟩ = some (.string ⟨#[]⟩) := by rw [Lib.cell_of_heap hz5]; rfl
  have d2 : w5.cell? ⟨w.heap.size, 2, none⟩ = some (.string ⟨#[]⟩) := by rw [Lib.cell_of_heap hz5]; rfl
  have f0 := Lib.frozen_of_heap hz5 0
  have f1 := Lib.frozen_of_heap hz5 1
  have f2 := Lib.frozen_of_heap hz5 2
  unfold OfIs
  clear hb5 hz5 v0 v1 v2 v3 v4 HZ4 HR4
  go_wp2_with fail
  have hst := three_stored HZ5.out (.string ⟨issB.toArray⟩) (.string ⟨#[98]⟩) (.string ⟨#[97]⟩)
  have hbe := below_three HB5.out (Nat.le_refl _) (.string ⟨issB.toArray⟩) (.string ⟨#[98]⟩) (.string ⟨#[97]⟩)
  have e0 := Lib.cell_of_heap hst 0
  have e1 := Lib.cell_of_heap hst 1
  have e2 := Lib.cell_of_heap hst 2
  simp only [List.getElem?_toArray] at e0 e1 e2
  refine bodyPost_ret (v := .tuple #[.agg #[.string ⟨issB.toArray⟩, .string ⟨#[98]⟩, .string ⟨#[97]⟩], .int .i64 0]) (by simp [results, Tryz.results72, go_sem, e0, e1, e2]) rfl ?_
  exact ⟨rfl, hbe⟩
theorem an12_right : rightS issB [98] [97] = true := by decide +kernel
theorem an12_show : showS issB [98] [97] = [105, 115, 115, 95, 115, 117, 98, 58, 97, 32, 98] := by decide +kernel
set_option maxRecDepth 100000 in
set_option maxHeartbeats 8000000 in
theorem anchor12_any (w : World) : Calls Tryz.prog 23 #[] w fun e w' => e = .returned (.bool true) ∧ Below w.heap.size w w' := by
  have HSH := Lib.hid (fun w1 => show_any issB [98] [97] w1 (by decide) (by decide) (by decide))
  have HRI := Lib.hid (fun w1 => sright_any issB [98] [97] w1 (by decide) (by decide))
  rw [an12_show] at HSH
  rw [an12_right] at HRI
  have HPC := Lib.hid (fun w1 => parsed_const w1)
  unfold an12 at HPC
  unfold issB at HSH HRI HPC
  unfold OfIs at HPC
  go_enter Tryz.func23, Tryz.ntmps23
  go_wp2_with fail
  refine (HPC.out w).mono ?_
  rintro e w1 ⟨rfl, hb1⟩
  have HB1 := Lib.hid hb1
  clear hb1
  go_upto_region 2 with (fail)
  generalize hw2 : w1.alloc _ = w2
  have hb2 : Below w1.heap.size w1 w2 := by rw [← hw2]; exact (Below.refl _ _).alloc (Nat.le_refl _) _
  have hx2 : w2.heap[w1.heap.size]? = some (.cells #[.string ⟨#[105, 115, 115, 95, 115, 117, 98]⟩, .string ⟨#[98]⟩, .string ⟨#[97]⟩] 46 (0, 0)) := by rw [← hw2]; exact heap_alloc_new _ _
  have HB2 := Lib.hid (HB1.out.trans (hb2.mono HB1.out.size))
  have HX2 := Lib.hid hx2
  have hs2 : w1.heap.size < w2.heap.size := (Array.getElem?_eq_some_iff.1 hx2).1
  obtain ⟨s0, s1, s2⟩ := three_at hx2 (Below.refl w2.heap.size w2) hs2
  clear hw2 hb2 hx2
  go_wp2_with fail
  refine (HSH.out w2).mono ?_
  rintro e w3 ⟨rfl, hb3⟩
  have HB3 := Lib.hid (HB2.out.trans (hb3.mono HB2.out.size))
  have HX3 := Lib.hid ((hb3.block _ hs2).trans HX2.out)
  have hs3 : w1.heap.size < w3.heap.size := (Array.getElem?_eq_some_iff.1 HX3.out).1
  clear hb3 s0 s1 s2 HSH
  obtain ⟨s0, s1, s2⟩ := three_at HX3.out (Below.refl w3.heap.size w3) hs3
  go_wp2_with fail
  refine (HRI.out w3).mono ?_
  rintro e w4 ⟨rfl, hb4⟩
  have HB4 := Lib.hid (HB3.out.trans (hb4.mono HB3.out.size))
  clear hb4 s0 s1 s2 HRI
  go_wp2_with fail
  refine bodyPost_ret (results_tmp rfl _ _ _) rfl ?_
  exact ⟨rfl, HB4.out⟩
end Go.Proofs.YtfcokdkbjajohaaGreatDoor
/- A drawn region whose values and whose worlds are known, whatever has been done of it. -/
set_option linter.unusedVariables false
namespace Go.Proofs.YtfcokdkbjajohaaGreatDoor
open Go.RowKit

theorem wp_region_fix {P : Program} {id : Nat} {l : List Oper} {Q : Exit → Act → World → Prop} {a : Act} {w : World} (hm : P.follows .mixedOrders = true)
    (hac : ((List.range l.length).all fun i => ((l[i]?).map fun o => o.after.all fun e => !Region.binds .any e || decide (e.on < i)).getD true) = true)
    (ds : List (Option Nat)) (hds : l.map (·.dst) = ds) (fs : List Nat) (hfs : (ds.all fun o => match o with | none => true | some d => fs.contains d && decide (d < a.tmps.size)) = true)
    (hinj : ((List.range ds.length).all fun i => (List.range ds.length).all fun j => decide (i = j) || ds[i]? == some none || !(ds[i]? == ds[j]?)) = true)
    (val : Nat → Value) (W : (Nat → Bool) → World) (h0 : W (fun _ => false) = w.drew)
    (step : ∀ b a' i o, l[i]? = some o → b i = false → (∀ j, b j = true → ∀ x ∈ depsAt l j, b x = true) → (∀ x ∈ depsAt l i, b x = true) → Fr fs a a' → (∀ j d, b j = true → ds[j]? = some (some d) → a'.tmps.getD d undef = val j) →
      wpOp P l.toArray Q i (fun a'' w'' => a'' = a'.put o.dst (val i) ∧ w'' = W (fun j => if j = i then true else b j)) a' (W b))
    (done : ∀ b a', (∀ i, i < l.length → b i = true) → Fr fs a a' → (∀ j d, ds[j]? = some (some d) → a'.tmps.getD d undef = val j) → Q .normal a' (W b)) :
    (Code.region id l.toArray true).wp P Q a w := by
  have hdep : ∀ (b : Nat → Bool) i o, l[i]? = some o → (o.after.all fun e => !Region.binds .any e || b e.on) = true → ∀ x ∈ depsAt l i, b x = true := by
    intro b i o ho hpre x hx
    rw [depsAt_mem ho] at hx
    obtain ⟨k, hk, hj⟩ := Array.any_eq_true.1 hx
    simp only [Bool.and_eq_true, beq_iff_eq] at hj
    have := (Array.all_eq_true.1 hpre) k hk
    rw [hj.1, hj.2] at this
    simpa using this
  have hat : ∀ (i : Nat) (o : Oper), l[i]? = some o → ds[i]? = some o.dst := by
    intro i o ho
    rw [← hds, List.getElem?_map, ho]
    rfl
  have hin : ∀ (i d : Nat), ds[i]? = some (some d) → d ∈ fs ∧ d < a.tmps.size := by
    intro i d h
    have := (List.all_eq_true.1 hfs) (some d) (List.mem_of_getElem? h)
    simpa using this
  refine wp_region_inv hm hac (fun b a' w' => (∀ j, b j = true → ∀ x ∈ depsAt l j, b x = true) ∧ Fr fs a a' ∧ (∀ j d, b j = true → ds[j]? = some (some d) → a'.tmps.getD d undef = val j) ∧ w' = W b) ?_ ?_ ?_
  · exact ⟨fun _ h => (by cases h), Fr.refl _ _, fun _ _ h => (by cases h), h0.symm⟩
  · rintro b a' w' ⟨hcl, hf, hv, rfl⟩ i o ho hbi hpre
    have hdi := hdep b i o ho hpre
    refine wpOp_mono ?_ (step b a' i o ho hbi hcl hdi hf hv)
    rintro a'' w'' ⟨rfl, rfl⟩
    refine ⟨fun j hj x hx => ?_, ?_, fun j d hj hd => ?_, rfl⟩
    · by_cases ex : x = i
      · simp [ex]
      · simp only [ex, if_false]
        by_cases ej : j = i
        · subst ej; exact hdi x hx
        · simp only [ej, if_false] at hj; exact hcl j hj x hx
    · have hi := hat i o ho
      cases hd : o.dst with
      | none => exact hf
      | some d =>
        rw [hd] at hi
        exact hf.put (hin i d hi).1 _
    · have hi := hat i o ho
      by_cases ej : j = i
      · subst ej
        rw [hd] at hi
        injection hi with hi
        rw [← hi]
        exact put_at _ _ _ (by rw [hf.size]; exact (hin j d hd).2)
      · simp only [ej, if_false] at hj
        cases hdo : o.dst with
        | none => exact hv j d hj hd
        | some e =>
          rw [hdo] at hi
          have hne : d ≠ e := by
            intro hde
            subst hde
            have hil := (List.getElem?_eq_some_iff.1 hi).1
            have hjl := (List.getElem?_eq_some_iff.1 hd).1
            have h1 := (List.all_eq_true.1 ((List.all_eq_true.1 hinj) i (List.mem_range.2 hil))) j (List.mem_range.2 hjl)
            simp only [hi, hd, Bool.or_eq_true, decide_eq_true_eq, beq_iff_eq, Option.some.injEq, Bool.not_eq_true', beq_self_eq_true] at h1
            rcases h1 with (h1 | h1) | h1
            · exact ej h1.symm
            · cases h1
            · cases h1
          rw [put_other _ _ _ _ hne]
          exact hv j d hj hd
  · rintro b a' w' ⟨hcl, hf, hv, rfl⟩ hdone
    refine done b a' hdone hf fun j d hd => hv j d ?_ hd
    have := (List.getElem?_eq_some_iff.1 hd).1
    rw [← hds] at this
    exact hdone j (by simpa using this)
end Go.Proofs.YtfcokdkbjajohaaGreatDoor
