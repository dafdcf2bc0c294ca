/- The common alphabet. Plain. -/
import Derived.Test.YtgmieceebchmfaaDoorB64r
import Derived.Lib.TrimByte
set_option linter.unusedVariables false
namespace Go.Proofs.YtgmieceebchmfaaDoor
open Go.Lib

/-- A text with two letters as others, up to a place. -/
def swF (a0 a1 b0 b1 c : UInt8) : UInt8 := if c = a0 then b0 else if c = a1 then b1 else c
def swAt (f : UInt8 → UInt8) (s : List UInt8) (k : Nat) : List UInt8 := (s.take k).map f ++ s.drop k
theorem swAt_zero (f : UInt8 → UInt8) (s : List UInt8) : swAt f s 0 = s := by simp [swAt]
theorem swAt_end (f : UInt8 → UInt8) (s : List UInt8) : swAt f s s.length = s.map f := by simp [swAt]
theorem swAt_len (f : UInt8 → UInt8) (s : List UInt8) (k : Nat) : (swAt f s k).length = s.length := by simp [swAt]; omega
theorem swAt_get (f : UInt8 → UInt8) (s : List UInt8) (k : Nat) (h : k < s.length) : (swAt f s k)[k]'(by rw [swAt_len]; exact h) = s[k] := by
  unfold swAt
  rw [List.getElem_append_right (by simp; omega)]
  simp [Nat.min_eq_left (Nat.le_of_lt h)]
theorem swAt_next (f : UInt8 → UInt8) (s : List UInt8) (k : Nat) (h : k < s.length) : swAt f s (k + 1) = (s.take k).map f ++ f s[k] :: s.drop (k + 1) := by
  unfold swAt
  rw [List.take_succ_eq_append_getElem h, List.map_append, List.append_assoc]
  rfl
theorem swAt_set (f : UInt8 → UInt8) (s : List UInt8) (k : Nat) (h : k < s.length) : (swAt f s k).set k (f s[k]) = swAt f s (k + 1) := by
  rw [swAt_next f s k h]
  unfold swAt
  rw [List.set_append_right _ _ (by simp; omega)]
  have e : k - ((s.take k).map f).length = 0 := by simp; omega
  rw [e, List.drop_eq_getElem_cons h]
  rfl
theorem swAt_same (f : UInt8 → UInt8) (s : List UInt8) (k : Nat) (h : k < s.length) (e : f s[k] = s[k]) : swAt f s k = swAt f s (k + 1) := by
  rw [swAt_next f s k h, e]
  unfold swAt
  rw [← List.drop_eq_getElem_cons h]
def stdC : UInt8 → UInt8 := swF 45 95 43 47
def unC : UInt8 → UInt8 := swF 43 47 45 95
def padN (n : Nat) : Nat := (4 - n % 4) % 4
def padded (x : List UInt8) : List UInt8 := x ++ List.replicate (padN x.length) 61
def stdL (l : List UInt8) : List UInt8 := padded ((enc l).map stdC)
def fromL (s : List UInt8) : Option (List UInt8) :=
  if (trimRightB s 61).map stdC ≠ trimRightB s 61 ∨ padded (trimRightB s 61) ≠ s then none else dec ((trimRightB s 61).map unC)
theorem drop61 : ∀ (y : List UInt8), (61 : UInt8) ∉ y → y.dropWhile (· == 61) = y
  | [], _ => rfl
  | c :: y, h => by
    have : ¬ c = 61 := fun e => h (by simp [e])
    rw [List.dropWhile_cons_of_neg (by simpa using this)]
theorem dropRep : ∀ (k : Nat) (y : List UInt8), (61 : UInt8) ∉ y → (List.replicate k 61 ++ y).dropWhile (· == 61) = y
  | 0, y, h => by simpa using drop61 y h
  | k + 1, y, h => by
    rw [List.replicate_succ, List.cons_append, List.dropWhile_cons_of_pos (by simp), dropRep k y h]
theorem trim_rep (x : List UInt8) (k : Nat) (h : (61 : UInt8) ∉ x) : trimRightB (x ++ List.replicate k 61) 61 = x := by
  unfold trimRightB
  rw [List.reverse_append, List.reverse_replicate, dropRep k _ (by simpa using h), List.reverse_reverse]
theorem trim_none (x : List UInt8) (h : (61 : UInt8) ∉ x) : trimRightB x 61 = x := by simpa using trim_rep x 0 h
theorem lt64_std : ∀ n, n < 64 → stdC (lt64 n) ≠ 61 ∧ stdC (stdC (lt64 n)) = stdC (lt64 n) ∧ unC (stdC (lt64 n)) = lt64 n := by decide +kernel
theorem std_un : ∀ n : Fin 256, stdC (UInt8.ofNat n.1) = UInt8.ofNat n.1 → stdC (unC (UInt8.ofNat n.1)) = UInt8.ofNat n.1 := by decide +kernel
theorem std_un_c (c : UInt8) (h : stdC c = c) : stdC (unC c) = c := by
  have := std_un ⟨c.toNat, UInt8.toNat_lt c⟩
  simp only [UInt8.ofNat_toNat] at this
  exact this h
theorem enc_lt64 (l : List UInt8) : ∃ ns : List Nat, (∀ n ∈ ns, n < 64) ∧ enc l = ns.map lt64 := ⟨nums3 l, nums3_lt l, by rw [enc_eq, enc3_nums]⟩
theorem fromL_std (l : List UInt8) : fromL (stdL l) = some l := by
  obtain ⟨ns, hn, he⟩ := enc_lt64 l
  have h61 : (61 : UInt8) ∉ (enc l).map stdC := by
    rw [he, List.map_map]
    intro hm
    obtain ⟨n, h1, h2⟩ := List.mem_map.1 hm
    exact (lt64_std n (hn n h1)).1 h2
  have ht : trimRightB (stdL l) 61 = (enc l).map stdC := trim_rep _ _ h61
  unfold fromL
  rw [ht]
  have e1 : ((enc l).map stdC).map stdC = (enc l).map stdC := by
    simp only [he, List.map_map]
    refine List.map_congr_left fun n h => ?_
    exact (lt64_std n (hn n h)).2.1
  have e2 : ((enc l).map stdC).map unC = enc l := by
    simp only [he, List.map_map]
    refine List.map_congr_left fun n h => ?_
    exact (lt64_std n (hn n h)).2.2
  rw [if_neg, e2, dec_enc]
  rintro (h | h)
  · exact h e1
  · exact h rfl
theorem map_fix {f : UInt8 → UInt8} : ∀ {l : List UInt8}, l.map f = l → ∀ c ∈ l, f c = c
  | [], _, c, h => by simp at h
  | a :: l, h, c, hc => by
    simp only [List.map_cons, List.cons.injEq] at h
    rcases List.mem_cons.1 hc with rfl | hc
    · exact h.1
    · exact map_fix h.2 c hc
theorem std_from (s b : List UInt8) (h : fromL s = some b) : stdL b = s := by
  unfold fromL at h
  split at h
  · cases h
  · rename_i hc
    simp only [not_or, ne_eq, Decidable.not_not] at hc
    obtain ⟨h1, h2⟩ := hc
    have he := enc_dec _ _ h
    unfold stdL
    rw [he, List.map_map]
    have e : (trimRightB s 61).map (stdC ∘ unC) = trimRightB s 61 := by
      conv => rhs; rw [← List.map_id (trimRightB s 61)]
      refine List.map_congr_left fun c hm => ?_
      exact std_un_c c (map_fix h1 c hm)
    rw [e, h2]
def plainC (c : Nat) : Bool := (decide (97 ≤ c) && decide (c ≤ 122)) || (decide (65 ≤ c) && decide (c ≤ 90)) || (decide (48 ≤ c) && decide (c ≤ 57)) || decide (c = 43) || decide (c = 47)
theorem plain_all : ∀ n : Fin 256, plainC n.1 = true → UInt8.ofNat n.1 ≠ 61 ∧ stdC (UInt8.ofNat n.1) = UInt8.ofNat n.1 ∧ (num64 (unC (UInt8.ofNat n.1))).isSome = true := by decide +kernel
theorem plain_c (c : UInt8) (h : plainC c.toNat = true) : c ≠ 61 ∧ stdC c = c ∧ (num64 (unC c)).isSome = true := by
  have := plain_all ⟨c.toNat, UInt8.toNat_lt c⟩ h
  simpa only [UInt8.ofNat_toNat] using this
theorem nums_all : ∀ (l : List UInt8), (∀ c ∈ l, (num64 c).isSome = true) → ∃ ns, nums l = some ns
  | [], _ => ⟨[], rfl⟩
  | c :: l, h => by
    obtain ⟨ns, hns⟩ := nums_all l (fun x hx => h x (by simp [hx]))
    obtain ⟨k, hk⟩ := Option.isSome_iff_exists.1 (h c (by simp))
    refine ⟨k :: ns, ?_⟩
    unfold nums at hns ⊢
    rw [List.mapM_cons, hk, hns]
    rfl
theorem dec4_four : ∀ (ns : List Nat), ns.length % 4 = 0 → ∃ b, dec4 ns = some b
  | [], _ => ⟨[], rfl⟩
  | [_], h => by simp at h
  | [_, _], h => by simp at h
  | [_, _, _], h => by simp at h
  | a :: b :: c :: d :: r, h => by
    obtain ⟨x, hx⟩ := dec4_four r (by simp at h; omega)
    unfold dec4
    rw [hx]
    exact ⟨_, rfl⟩
theorem from_plain (s : List UInt8) (h4 : s.length % 4 = 0) (h : ∀ c ∈ s, plainC c.toNat = true) : ∃ b, fromL s = some b := by
  have h61 : (61 : UInt8) ∉ s := fun hm => (plain_c _ (h _ hm)).1 rfl
  unfold fromL
  rw [trim_none s h61]
  have e1 : s.map stdC = s := by
    conv => rhs; rw [← List.map_id s]
    exact List.map_congr_left fun c hm => (plain_c c (h c hm)).2.1
  have e2 : padded s = s := by
    unfold padded padN
    rw [h4]
    simp
  rw [if_neg (by rw [e1, e2]; simp)]
  obtain ⟨ns, hns⟩ := nums_all (s.map unC) (fun c hc => by
    obtain ⟨x, hx, rfl⟩ := List.mem_map.1 hc
    exact (plain_c x (h x hx)).2.2)
  rw [dec_eq, hns]
  have hl := nums_len _ _ hns
  rw [List.length_map] at hl
  exact dec4_four ns (by rw [hl]; exact h4)
end Go.Proofs.YtgmieceebchmfaaDoor
