/- Forms. Plain lists, no program. -/
import Derived.Test.YtgmieceebchmfaaDoorTxtE
import Derived.Lib.Split
import Derived.Lib.SplitLaws
import Derived.Lib.IndexBytes
import Derived.Lib.IndexLaws
import Derived.Lib.Join
set_option linter.unusedVariables false
namespace Go.Proofs.YtgmieceebchmfaaDoor
open Go.Lib

/-- A text's parts, with a byte between them. -/
def partsL (c : UInt8) : List UInt8 → List (List UInt8)
  | [] => [[]]
  | b :: r => if b = c then [] :: partsL c r else match partsL c r with
    | p :: q => (b :: p) :: q
    | [] => [[b]]
theorem partsL_cons (c b : UInt8) (r : List UInt8) : partsL c (b :: r) = if b = c then [] :: partsL c r else match partsL c r with
    | p :: q => (b :: p) :: q
    | [] => [[b]] := rfl
theorem partsL_ne (c : UInt8) : ∀ (s : List UInt8), partsL c s ≠ []
  | [] => by simp [partsL]
  | b :: r => by
    rw [partsL_cons]
    split
    · simp
    · split <;> simp
theorem partsL_none (c : UInt8) : ∀ (s : List UInt8), c ∉ s → partsL c s = [s]
  | [], _ => rfl
  | b :: r, h => by
    simp only [List.mem_cons, not_or] at h
    rw [partsL_cons, if_neg (fun e => h.1 e.symm), partsL_none c r h.2]
theorem partsL_hit (c : UInt8) : ∀ (a r : List UInt8), c ∉ a → partsL c (a ++ c :: r) = a :: partsL c r
  | [], r, _ => by rw [List.nil_append, partsL_cons, if_pos rfl]
  | b :: a, r, h => by
    simp only [List.mem_cons, not_or] at h
    rw [List.cons_append, partsL_cons, if_neg (fun e => h.1 e.symm), partsL_hit c a r h.2]
theorem first_at (c : UInt8) : ∀ (s : List UInt8), c ∈ s → ∃ a r, s = a ++ c :: r ∧ c ∉ a
  | [], h => by cases h
  | b :: s, h => by
    by_cases e : b = c
    · subst e; exact ⟨[], s, rfl, by simp⟩
    · have h' : c ∈ s := by
        rcases List.mem_cons.1 h with h | h
        · exact absurd h.symm e
        · exact h
      obtain ⟨a, r, h1, h2⟩ := first_at c s h'
      exact ⟨b :: a, r, by rw [h1]; rfl, by simp only [List.mem_cons, not_or]; exact ⟨fun e' => e e'.symm, h2⟩⟩
theorem idx_none (c : UInt8) : ∀ (s : List UInt8), c ∉ s → indexByte s c = -1
  | [], _ => rfl
  | b :: s, h => by
    simp only [List.mem_cons, not_or] at h
    have ih := idx_none c s h.2
    have e : (b == c) = false := by simp only [beq_eq_false_iff_ne, ne_eq]; exact fun e => h.1 e.symm
    unfold indexByte
    rw [e, ih]
    rfl
theorem idx_hit (c : UInt8) : ∀ (a r : List UInt8), c ∉ a → indexByte (a ++ c :: r) c = a.length
  | [], r, _ => by
    show (if (c == c) = true then (0 : Int) else _) = _
    simp
  | b :: a, r, h => by
    simp only [List.mem_cons, not_or] at h
    have ih := idx_hit c a r h.2
    have e : (b == c) = false := by simp only [beq_eq_false_iff_ne, ne_eq]; exact fun e => h.1 e.symm
    show indexByte (b :: (a ++ c :: r)) c = _
    unfold indexByte
    rw [e, ih]
    have e2 : (((a.length : Nat) : Int) == -1) = false := by simp only [beq_eq_false_iff_ne, ne_eq]; omega
    rw [e2]
    simp
theorem cut_none (c : UInt8) (s : List UInt8) (h : c ∉ s) : cut s [c] = (s, [], false) := by
  unfold cut
  rw [index_one, idx_none c s h, if_neg (by decide)]
theorem cut_hit (c : UInt8) (a r : List UInt8) (h : c ∉ a) : cut (a ++ c :: r) [c] = (a, r, true) := by
  unfold cut
  rw [index_one, idx_hit c a r h, if_pos (by omega)]
  have e : ((a.length : Nat) : Int).toNat = a.length := by omega
  rw [e]
  simp
theorem splitK_parts (c : UInt8) : ∀ (n : Nat) (s : List UInt8), s.length ≤ n → splitK [c] 0 (s.count c) s = partsL c s := by
  intro n
  induction n with
  | zero =>
    intro s h
    have : s = [] := List.eq_nil_of_length_eq_zero (by omega)
    subst this
    rfl
  | succ n ih =>
    intro s h
    by_cases hm : c ∈ s
    · obtain ⟨a, r, rfl, ha⟩ := first_at c s hm
      have hcount : (a ++ c :: r).count c = r.count c + 1 := by
        rw [List.count_append, List.count_cons_self, List.count_eq_zero_of_not_mem ha]
        omega
      rw [hcount, partsL_hit c a r ha]
      unfold splitK
      rw [index_one, idx_hit c a r ha]
      have e2 : (((a.length : Nat) : Int) == -1) = false := by simp only [beq_eq_false_iff_ne, ne_eq]; omega
      rw [e2]
      have e3 : ((a.length : Nat) : Int).toNat = a.length := by omega
      simp only [Bool.false_eq_true, if_false, e3, Nat.add_zero, List.take_left, List.length_cons, List.length_nil]
      have e4 : (a ++ c :: r).drop (a.length + (0 + 1)) = r := by
        rw [Nat.zero_add, ← List.drop_drop, List.drop_left]
        rfl
      rw [e4, ih r (by simp at h; omega)]
    · rw [List.count_eq_zero_of_not_mem hm, partsL_none c s hm]
      rfl
theorem splitB_parts (c : UInt8) (s : List UInt8) : splitB ⟨#[c]⟩ 0 (countB ⟨s.toArray⟩ ⟨#[c]⟩) ⟨s.toArray⟩ = (partsL c s).map fun p => ⟨p.toArray⟩ := by
  have h1 := splitB_data ⟨#[c]⟩ 0 (countB ⟨s.toArray⟩ ⟨#[c]⟩) ⟨s.toArray⟩
  have h2 : countB ⟨s.toArray⟩ ⟨#[c]⟩ = s.count c := count_one c s
  rw [h2] at h1 ⊢
  have h3 : splitK (⟨#[c]⟩ : ByteArray).data.toList 0 (s.count c) (⟨s.toArray⟩ : ByteArray).data.toList = partsL c s := splitK_parts c s.length s (Nat.le_refl _)
  rw [h3] at h1
  rw [← h1, List.map_map]
  conv => lhs; rw [← List.map_id (splitB _ _ _ _)]
  apply List.map_congr_left
  intro x _
  cases x
  rfl
theorem countB_parts (c : UInt8) (s : List UInt8) : countB ⟨s.toArray⟩ ⟨#[c]⟩ + 1 = (partsL c s).length := by
  have h2 : countB ⟨s.toArray⟩ ⟨#[c]⟩ = s.count c := count_one c s
  rw [h2]
  have go : ∀ (n : Nat) (s : List UInt8), s.length ≤ n → s.count c + 1 = (partsL c s).length := by
    intro n
    induction n with
    | zero =>
      intro s h
      have : s = [] := List.eq_nil_of_length_eq_zero (by omega)
      subst this
      rfl
    | succ n ih =>
      intro s h
      by_cases hm : c ∈ s
      · obtain ⟨a, r, rfl, ha⟩ := first_at c s hm
        rw [partsL_hit c a r ha, List.length_cons, ← ih r (by simp at h; omega), List.count_append, List.count_cons_self, List.count_eq_zero_of_not_mem ha]
        omega
      · rw [List.count_eq_zero_of_not_mem hm, partsL_none c s hm]
        rfl
  exact go s.length s (Nat.le_refl _)
theorem partsL_len (c : UInt8) : ∀ (s p : List UInt8), p ∈ partsL c s → p.length ≤ s.length := by
  have go : ∀ (n : Nat) (s p : List UInt8), s.length ≤ n → p ∈ partsL c s → p.length ≤ s.length := by
    intro n
    induction n with
    | zero =>
      intro s p h hp
      have : s = [] := List.eq_nil_of_length_eq_zero (by omega)
      subst this
      simp [partsL] at hp
      subst hp
      exact Nat.le_refl _
    | succ n ih =>
      intro s p h hp
      by_cases hm : c ∈ s
      · obtain ⟨a, r, rfl, ha⟩ := first_at c s hm
        rw [partsL_hit c a r ha] at hp
        rcases List.mem_cons.1 hp with rfl | hp
        · simp
        · have := ih r p (by simp at h; omega) hp
          simp
          omega
      · rw [partsL_none c s hm] at hp
        simp only [List.mem_singleton] at hp
        subst hp
        exact Nat.le_refl _
  exact fun s p => go s.length s p (Nat.le_refl _)

/-- What is told of an escaped text, and the error's number. -/
def uneR (s : List UInt8) : List UInt8 × Int := match unescL s with
  | none => ([], 31)
  | some l => if toldB l then (l, 0) else ([], 30)
abbrev PairL := List UInt8 × List UInt8
/-- A form's part; an error's number. -/
def oneR (s : List UInt8) : PairL × Int := match partsL 61 s with
  | [a, b] => if (uneR a).2 ≠ 0 then (([], []), (uneR a).2) else if (uneR b).2 ≠ 0 then (([], []), (uneR b).2) else if (uneR a).1 = [] then (([], []), 10) else (((uneR a).1, (uneR b).1), 0)
  | _ => (([], []), 31)
def hasName (l : List PairL) (n : List UInt8) : Bool := l.any fun p => decide (p.1 = n)
def formN : List (List UInt8) → List PairL → List PairL × Int
  | [], acc => (acc, 0)
  | p :: ps, acc => if acc.length = 32 then ([], 14) else if (oneR p).2 ≠ 0 then ([], (oneR p).2) else if hasName acc (oneR p).1.1 then ([], 15) else formN ps (acc ++ [(oneR p).1])
/-- A form's pairs; an error's number. -/
def formR (s : List UInt8) : List PairL × Int := if s = [] then ([], 0) else formN (partsL 38 s) []
/-- The value of a name. -/
def getL (l : List PairL) (n : List UInt8) : Option (List UInt8) := match l with
  | [] => none
  | p :: r => if p.1 = n then some p.2 else getL r n
theorem getL_has : ∀ (l : List PairL) (n : List UInt8), (getL l n).isSome = hasName l n
  | [], n => rfl
  | p :: r, n => by
    have ih := getL_has r n
    unfold getL hasName
    rw [List.any_cons]
    by_cases h : p.1 = n
    · rw [if_pos h, decide_eq_true h]; rfl
    · rw [if_neg h, decide_eq_false h, Bool.false_or]; exact ih
/-- Names are unlike, and none is empty. -/
def Unlike (l : List PairL) : Prop := (l.map (·.1)).Nodup ∧ ∀ p ∈ l, p.1 ≠ []
theorem Unlike.nil : Unlike [] := ⟨List.nodup_nil, by simp⟩
theorem hasName_false {l : List PairL} {n : List UInt8} (h : hasName l n = false) : n ∉ l.map (·.1) := by
  intro hm
  obtain ⟨p, hp, e⟩ := List.mem_map.1 hm
  have : hasName l n = true := by
    unfold hasName
    rw [List.any_eq_true]
    exact ⟨p, hp, by simpa using e⟩
  rw [h] at this
  cases this
theorem Unlike.snoc {l : List PairL} {p : PairL} (h : Unlike l) (h1 : hasName l p.1 = false) (h2 : p.1 ≠ []) : Unlike (l ++ [p]) := by
  refine ⟨?_, ?_⟩
  · rw [List.map_append, List.nodup_append]
    refine ⟨h.1, by simp, fun a ha b hb e => ?_⟩
    simp only [List.map_cons, List.map_nil, List.mem_singleton] at hb
    subst hb e
    exact hasName_false h1 ha
  · intro q hq
    rcases List.mem_append.1 hq with hq | hq
    · exact h.2 q hq
    · simp only [List.mem_singleton] at hq; subst hq; exact h2
theorem oneR_name {s : List UInt8} (h : (oneR s).2 = 0) : (oneR s).1.1 ≠ [] := by
  unfold oneR at h ⊢
  split at h
  · rename_i a b hp
    split at h
    · rename_i hc; exact absurd h hc
    · split at h
      · rename_i hc; exact absurd h hc
      · split at h
        · cases h
        · rename_i h1 h2 h3
          simp only [if_neg h1, if_neg h2, if_neg h3]
          exact h3
  · cases h
theorem formN_unlike : ∀ (ps : List (List UInt8)) (acc : List PairL), Unlike acc → Unlike (formN ps acc).1
  | [], acc, h => h
  | p :: ps, acc, h => by
    unfold formN
    split
    · exact Unlike.nil
    · split
      · exact Unlike.nil
      · split
        · exact Unlike.nil
        · rename_i h1 h2 h3
          exact formN_unlike ps _ (h.snoc (by simpa using h3) (oneR_name (by simpa using h2)))
theorem formR_unlike (s : List UInt8) : Unlike (formR s).1 := by
  unfold formR
  split
  · exact Unlike.nil
  · exact formN_unlike _ _ Unlike.nil
theorem getL_own : ∀ (l : List PairL), Unlike l → ∀ (i : Nat) (h : i < l.length), getL l l[i].1 = some l[i].2
  | [], _, i, h => by simp at h
  | p :: r, hu, 0, _ => by
    show getL (p :: r) p.1 = some p.2
    unfold getL
    rw [if_pos rfl]
  | p :: r, hu, i + 1, h => by
    have hu' : Unlike r := ⟨(List.nodup_cons.1 hu.1).2, fun q hq => hu.2 q (by simp [hq])⟩
    have hi : i < r.length := by simpa using h
    have ih := getL_own r hu' i hi
    have hne : ¬ p.1 = r[i].1 := by
      intro e
      apply (List.nodup_cons.1 hu.1).1
      exact List.mem_map.2 ⟨r[i], List.getElem_mem _, e.symm⟩
    show getL (p :: r) r[i].1 = some r[i].2
    unfold getL
    rw [if_neg hne, ih]
theorem getL_empty : ∀ (l : List PairL), Unlike l → getL l [] = none
  | [], _ => rfl
  | p :: r, hu => by
    have hu' : Unlike r := ⟨(List.nodup_cons.1 hu.1).2, fun q hq => hu.2 q (by simp [hq])⟩
    unfold getL
    rw [if_neg (hu.2 p (by simp)), getL_empty r hu']
theorem formN_len : ∀ (ps : List (List UInt8)) (acc : List PairL), acc.length ≤ 32 → (formN ps acc).1.length ≤ 32
  | [], acc, h => h
  | p :: ps, acc, h => by
    unfold formN
    split
    · simp
    · split
      · simp
      · split
        · simp
        · rename_i h1 h2 h3
          exact formN_len ps _ (by simp; omega)
/-- Pairs as a form. -/
def showP (p : PairL) : List UInt8 := escT p.1 ++ 61 :: escT p.2
theorem escT_no (l : List UInt8) : (38 : UInt8) ∉ escT l ∧ (61 : UInt8) ∉ escT l :=
  ⟨fun h => (escT_ok l _ h).2.2.1 rfl, fun h => (escT_ok l _ h).2.2.2 rfl⟩
theorem uneR_esc (l : List UInt8) (h : toldB l = true) : uneR (escT l) = (l, 0) := by
  unfold uneR
  rw [unesc_escT]
  simp only [h]
  rfl
theorem oneR_show (p : PairL) (h1 : toldB p.1 = true) (h2 : toldB p.2 = true) (h3 : p.1 ≠ []) : oneR (showP p) = (p, 0) := by
  unfold oneR showP
  rw [partsL_hit 61 _ _ (escT_no p.1).2, partsL_none 61 _ (escT_no p.2).2]
  simp only [uneR_esc p.1 h1, uneR_esc p.2 h2]
  rw [if_neg (by simp), if_neg (by simp), if_neg h3]
theorem showP_no (p : PairL) : (38 : UInt8) ∉ showP p := by
  unfold showP
  intro h
  rcases List.mem_append.1 h with h | h
  · exact (escT_no p.1).1 h
  · rcases List.mem_cons.1 h with h | h
    · cases h
    · exact (escT_no p.2).1 h
theorem join_two (x y : List UInt8) (r : List (List UInt8)) (sep : List UInt8) : join (x :: y :: r) sep = x ++ (sep ++ join (y :: r) sep) := by
  rw [join_cons, join_cons]
  simp [joinTail]
theorem parts_join : ∀ (l : List (List UInt8)), l ≠ [] → (∀ p ∈ l, (38 : UInt8) ∉ p) → partsL 38 (join l [38]) = l
  | [], h, _ => absurd rfl h
  | [x], _, h => by rw [join_one]; exact partsL_none 38 x (h x (by simp))
  | x :: y :: r, _, h => by
    rw [join_two]
    show partsL 38 (x ++ 38 :: join (y :: r) [38]) = _
    rw [partsL_hit 38 x _ (h x (by simp)), parts_join (y :: r) (by simp) (fun p hp => h p (by simp [hp]))]
theorem formN_show : ∀ (l acc : List PairL), (∀ p ∈ l, toldB p.1 = true ∧ toldB p.2 = true ∧ p.1 ≠ []) → ((acc ++ l).map (·.1)).Nodup → (acc ++ l).length ≤ 32 → formN (l.map showP) acc = (acc ++ l, 0)
  | [], acc, _, _, _ => by simp [formN]
  | p :: l, acc, h, hn, hl => by
    obtain ⟨h1, h2, h3⟩ := h p (by simp)
    have ho := oneR_show p h1 h2 h3
    rw [List.map_cons]
    unfold formN
    have hlen : ¬ acc.length = 32 := by simp at hl; omega
    have hnm : hasName acc p.1 = false := by
      cases e : hasName acc p.1 with
      | false => rfl
      | true =>
        unfold hasName at e
        rw [List.any_eq_true] at e
        obtain ⟨q, hq, e⟩ := e
        rw [List.map_append, List.nodup_append] at hn
        exact absurd (by simpa using e) (hn.2.2 q.1 (List.mem_map.2 ⟨q, hq, rfl⟩) p.1 (by simp))
    rw [if_neg hlen, ho, if_neg (by simp)]
    simp only [hnm]
    have e : acc ++ p :: l = (acc ++ [p]) ++ l := by simp
    rw [if_neg (by simp), e]
    exact formN_show l (acc ++ [p]) (fun q hq => h q (by simp [hq])) (by rw [← e]; exact hn) (by rw [← e]; exact hl)
theorem formR_show (l : List PairL) (h : ∀ p ∈ l, toldB p.1 = true ∧ toldB p.2 = true ∧ p.1 ≠ []) (hn : (l.map (·.1)).Nodup) (hl : l.length ≤ 32) : formR (join (l.map showP) [38]) = (l, 0) := by
  cases l with
  | nil => rfl
  | cons p r =>
    have hne : join ((p :: r).map showP) [38] ≠ [] := by
      rw [List.map_cons, join_cons]
      unfold showP
      simp
    unfold formR
    rw [if_neg hne, parts_join _ (by simp) (fun q hq => by obtain ⟨x, _, rfl⟩ := List.mem_map.1 hq; exact showP_no x)]
    exact formN_show (p :: r) [] h (by simpa using hn) (by simpa using hl)
end Go.Proofs.YtgmieceebchmfaaDoor
