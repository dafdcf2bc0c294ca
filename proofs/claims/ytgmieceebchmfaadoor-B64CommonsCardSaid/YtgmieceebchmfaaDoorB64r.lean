/- The plain law of package b64, the other way: letters as bytes. -/
import Derived.Test.YtgmieceebchmfaaDoorB64q
import Derived.Lib.Bytealg
set_option linter.unusedVariables false
namespace Go.Proofs.YtgmieceebchmfaaDoor

/-- A letter's number. -/
def num64 (x : UInt8) : Option Nat := if Lib.indexByte alpha x < 0 then none else some (Lib.indexByte alpha x).toNat

theorem num64_lt : ∀ n, n < 64 → num64 (lt64 n) = some n := by decide +kernel
theorem num64_all : ∀ n, n < 256 → (num64 (UInt8.ofNat n) = none ∨ ∃ k, k < 64 ∧ num64 (UInt8.ofNat n) = some k ∧ lt64 k = UInt8.ofNat n) := by
  have h : ∀ n, n < 256 → (num64 (UInt8.ofNat n) = none ∨ ((num64 (UInt8.ofNat n)).getD 64 < 64 ∧ num64 (UInt8.ofNat n) = some ((num64 (UInt8.ofNat n)).getD 64) ∧ lt64 ((num64 (UInt8.ofNat n)).getD 64) = UInt8.ofNat n)) := by decide +kernel
  intro n hn
  rcases h n hn with h | ⟨h1, h2, h3⟩
  · exact .inl h
  · exact .inr ⟨_, h1, h2, h3⟩
theorem num64_some (x : UInt8) (k : Nat) (h : num64 x = some k) : k < 64 ∧ lt64 k = x := by
  have hx : UInt8.ofNat x.toNat = x := by simp
  rcases num64_all x.toNat x.toNat_lt with e | ⟨j, h1, h2, h3⟩
  · rw [hx] at e; rw [e] at h; cases h
  · rw [hx] at h2 h3
    rw [h2] at h
    cases h
    exact ⟨h1, h3⟩

/-- A number as a byte. -/
def byt (n : Nat) : UInt8 := UInt8.ofNat n
/-- One letter more. -/
def decStep (s : List UInt8 × Nat × Nat) (n : Nat) : List UInt8 × Nat × Nat :=
  if s.2.2 + 6 < 8 then (s.1, s.2.1 * 2 ^ 6 + n, s.2.2 + 6)
  else (s.1 ++ [byt ((s.2.1 * 2 ^ 6 + n) / 2 ^ (s.2.2 + 6 - 8))], (s.2.1 * 2 ^ 6 + n) % 2 ^ (s.2.2 + 6 - 8), s.2.2 + 6 - 8)
def decEnd (s : List UInt8 × Nat × Nat) : Option (List UInt8) := if 6 ≤ s.2.2 ∨ s.2.1 ≠ 0 then none else some s.1
def nums (l : List UInt8) : Option (List Nat) := l.mapM num64
def dec (l : List UInt8) : Option (List UInt8) := match nums l with | none => none | some ns => decEnd (ns.foldl decStep ([], 0, 0))

def DAcc (s : List UInt8 × Nat × Nat) : Prop := s.2.2 < 8 ∧ s.2.1 < 2 ^ s.2.2
theorem decStep_acc (s : List UInt8 × Nat × Nat) (n : Nat) (hn : n < 64) (h : DAcc s) : DAcc (decStep s n) ∧ s.2.1 * 2 ^ 6 + n < 2 ^ (s.2.2 + 6) := by
  obtain ⟨h1, h2⟩ := h
  have hb : s.2.1 * 2 ^ 6 + n < 2 ^ (s.2.2 + 6) := by
    have : s.2.1 + 1 ≤ 2 ^ s.2.2 := h2
    have := Nat.mul_le_mul_right (2 ^ 6) this
    rw [Nat.pow_add]
    omega
  refine ⟨?_, hb⟩
  unfold decStep
  split
  · exact ⟨by assumption, hb⟩
  · exact ⟨by simp only; omega, Nat.mod_lt _ (Nat.two_pow_pos _)⟩
theorem dec_foldl_acc (ns : List Nat) : ∀ s, (∀ n ∈ ns, n < 64) → DAcc s → DAcc (ns.foldl decStep s) := by
  induction ns with
  | nil => intro s _ h; exact h
  | cons x l ih =>
    intro s hx h
    exact ih _ (fun n hn => hx n (by simp [hn])) (decStep_acc s x (hx x (by simp)) h).1
theorem decStep_len (s : List UInt8 × Nat × Nat) (n : Nat) : (decStep s n).1.length ≤ s.1.length + 1 := by
  unfold decStep
  split <;> simp
theorem dec_foldl_len (ns : List Nat) : ∀ s, (ns.foldl decStep s).1.length ≤ s.1.length + ns.length := by
  induction ns with
  | nil => intro s; simp
  | cons x l ih =>
    intro s
    have h1 := ih (decStep s x)
    have h2 := decStep_len s x
    simp only [List.foldl_cons, List.length_cons]
    omega

/-- Four at a time. -/
def dec4 : List Nat → Option (List UInt8)
  | a :: b :: c :: d :: t => (dec4 t).map fun r => byt (a * 4 + b / 16) :: byt (b % 16 * 16 + c / 4) :: byt (c % 4 * 64 + d) :: r
  | [a, b, c] => if c % 4 = 0 then some [byt (a * 4 + b / 16), byt (b % 16 * 16 + c / 4)] else none
  | [a, b] => if b % 16 = 0 then some [byt (a * 4 + b / 16)] else none
  | [_] => none
  | [] => some []

theorem dstep_a (o : List UInt8) (a : Nat) : decStep (o, 0, 0) a = (o, a, 6) := by simp [decStep]
theorem dstep_b (o : List UInt8) (a b : Nat) (hb : b < 64) : decStep (o, a, 6) b = (o ++ [byt (a * 4 + b / 16)], b % 16, 4) := by
  have e1 : (a * 64 + b) / 16 = a * 4 + b / 16 := by omega
  have e2 : (a * 64 + b) % 16 = b % 16 := by omega
  simp [decStep, e1, e2]
theorem dstep_c (o : List UInt8) (b c : Nat) (hb : b < 16) (hc : c < 64) : decStep (o, b, 4) c = (o ++ [byt (b * 16 + c / 4)], c % 4, 2) := by
  have e1 : (b * 64 + c) / 4 = b * 16 + c / 4 := by omega
  have e2 : (b * 64 + c) % 4 = c % 4 := by omega
  simp [decStep, e1, e2]
theorem dstep_d (o : List UInt8) (c d : Nat) (hd : d < 64) : decStep (o, c, 2) d = (o ++ [byt (c * 64 + d)], 0, 0) := by
  simp [decStep, Nat.mod_one]

theorem foldl_dec4 : ∀ (ns : List Nat) (o : List UInt8), (∀ n ∈ ns, n < 64) → decEnd (ns.foldl decStep (o, 0, 0)) = (dec4 ns).map (o ++ ·)
  | [], o, _ => by simp [decEnd, dec4]
  | [a], o, _ => by simp [dstep_a, decEnd, dec4]
  | [a, b], o, h => by
    have hb : b < 64 := h b (by simp)
    simp only [List.foldl_cons, List.foldl_nil, dstep_a, dstep_b o a b hb, decEnd, dec4]
    by_cases e : b % 16 = 0 <;> simp [e]
  | [a, b, c], o, h => by
    have hb : b < 64 := h b (by simp)
    have hc : c < 64 := h c (by simp)
    simp only [List.foldl_cons, List.foldl_nil, dstep_a, dstep_b o a b hb, dstep_c _ (b % 16) c (by omega) hc, decEnd, dec4]
    by_cases e : c % 4 = 0 <;> simp [e]
  | a :: b :: c :: d :: t, o, h => by
    have hb : b < 64 := h b (by simp)
    have hc : c < 64 := h c (by simp)
    have hd : d < 64 := h d (by simp)
    simp only [List.foldl_cons, dstep_a, dstep_b o a b hb, dstep_c _ (b % 16) c (by omega) hc, dstep_d _ (c % 4) d hd]
    rw [foldl_dec4 t _ (fun n hn => h n (by simp [hn]))]
    cases h4 : dec4 t <;> simp [dec4, h4]

/-- The numbers of bytes. -/
def nums3 : List UInt8 → List Nat
  | x :: y :: z :: t => x.toNat / 4 :: (x.toNat % 4 * 16 + y.toNat / 16) :: (y.toNat % 16 * 4 + z.toNat / 64) :: (z.toNat % 64) :: nums3 t
  | [x, y] => [x.toNat / 4, x.toNat % 4 * 16 + y.toNat / 16, y.toNat % 16 * 4]
  | [x] => [x.toNat / 4, x.toNat % 4 * 16]
  | [] => []
theorem enc3_nums : ∀ l, enc3 l = (nums3 l).map lt64
  | [] => rfl
  | [x] => rfl
  | [x, y] => rfl
  | x :: y :: z :: t => by simp [enc3, nums3, enc3_nums t]
theorem nums3_lt : ∀ l, ∀ n ∈ nums3 l, n < 64
  | [] => by simp [nums3]
  | [x] => by
    have := x.toNat_lt
    intro n hn
    simp only [nums3, List.mem_cons, List.mem_nil_iff, or_false] at hn
    rcases hn with rfl | rfl <;> omega
  | [x, y] => by
    have := x.toNat_lt; have := y.toNat_lt
    intro n hn
    simp only [nums3, List.mem_cons, List.mem_nil_iff, or_false] at hn
    rcases hn with rfl | rfl | rfl <;> omega
  | x :: y :: z :: t => by
    have := x.toNat_lt; have := y.toNat_lt; have := z.toNat_lt
    intro n hn
    simp only [nums3, List.mem_cons] at hn
    rcases hn with rfl | rfl | rfl | rfl | hn
    · omega
    · omega
    · omega
    · omega
    · exact nums3_lt t n hn

theorem of_nat_toNat (x : UInt8) (n : Nat) (h : n = x.toNat) : byt n = x := by subst h; simp [byt]

theorem dec4_nums : ∀ l, dec4 (nums3 l) = some l
  | [] => rfl
  | [x] => by
    have := x.toNat_lt
    have e : byt (x.toNat / 4 * 4 + x.toNat % 4 * 16 / 16) = x := of_nat_toNat x _ (by omega)
    simp only [nums3, dec4]
    rw [if_pos (by omega), e]
  | [x, y] => by
    have := x.toNat_lt; have := y.toNat_lt
    have e1 : byt (x.toNat / 4 * 4 + (x.toNat % 4 * 16 + y.toNat / 16) / 16) = x := of_nat_toNat x _ (by omega)
    have e2 : byt ((x.toNat % 4 * 16 + y.toNat / 16) % 16 * 16 + y.toNat % 16 * 4 / 4) = y := of_nat_toNat y _ (by omega)
    simp only [nums3, dec4]
    rw [if_pos (by omega), e1, e2]
  | x :: y :: z :: t => by
    have := x.toNat_lt; have := y.toNat_lt; have := z.toNat_lt
    have e1 : byt (x.toNat / 4 * 4 + (x.toNat % 4 * 16 + y.toNat / 16) / 16) = x := of_nat_toNat x _ (by omega)
    have e2 : byt ((x.toNat % 4 * 16 + y.toNat / 16) % 16 * 16 + (y.toNat % 16 * 4 + z.toNat / 64) / 4) = y := of_nat_toNat y _ (by omega)
    have e3 : byt ((y.toNat % 16 * 4 + z.toNat / 64) % 4 * 64 + z.toNat % 64) = z := of_nat_toNat z _ (by omega)
    simp only [nums3, dec4, dec4_nums t, Option.map_some, e1, e2, e3]

theorem toNat_of (n : Nat) (h : n < 256) : (byt n).toNat = n := by unfold byt; rw [UInt8.toNat_ofNat']; omega

theorem nums_dec4 : ∀ (ns : List Nat) (b : List UInt8), (∀ n ∈ ns, n < 64) → dec4 ns = some b → nums3 b = ns
  | [], b, _, h => by simp [dec4] at h; subst h; rfl
  | [a], b, _, h => by simp [dec4] at h
  | [p, q], b, hl, h => by
    have hp : p < 64 := hl p (by simp)
    have hq : q < 64 := hl q (by simp)
    simp only [dec4] at h
    split at h
    · cases h
      simp only [nums3]
      rw [toNat_of _ (by omega)]
      congr 1
      · omega
      · congr 1; omega
    · cases h
  | [p, q, r], b, hl, h => by
    have hp : p < 64 := hl p (by simp)
    have hq : q < 64 := hl q (by simp)
    have hr : r < 64 := hl r (by simp)
    simp only [dec4] at h
    split at h
    · cases h
      simp only [nums3]
      rw [toNat_of (p * 4 + q / 16) (by omega), toNat_of (q % 16 * 16 + r / 4) (by omega)]
      congr 1
      · omega
      · congr 1
        · omega
        · congr 1; omega
    · cases h
  | p :: q :: r :: s :: t, b, hl, h => by
    have hp : p < 64 := hl p (by simp)
    have hq : q < 64 := hl q (by simp)
    have hr : r < 64 := hl r (by simp)
    have hs : s < 64 := hl s (by simp)
    simp only [dec4] at h
    cases ht : dec4 t with
    | none => rw [ht] at h; simp at h
    | some b' =>
      rw [ht] at h
      simp only [Option.map_some, Option.some.injEq] at h
      subst h
      simp only [nums3, nums_dec4 t b' (fun n hn => hl n (by simp [hn])) ht]
      rw [toNat_of (p * 4 + q / 16) (by omega), toNat_of (q % 16 * 16 + r / 4) (by omega), toNat_of (r % 4 * 64 + s) (by omega)]
      congr 1
      · omega
      · congr 1
        · omega
        · congr 1
          · omega
          · congr 1; omega

theorem nums_some (l : List UInt8) : ∀ ns, nums l = some ns → (∀ n ∈ ns, n < 64) ∧ ns.map lt64 = l := by
  induction l with
  | nil => intro ns h; simp [nums] at h; subst h; simp
  | cons x l ih =>
    intro ns h
    simp only [nums, List.mapM_cons, Option.pure_def, Option.bind_eq_bind, Option.bind_eq_some_iff] at h
    obtain ⟨k, hk, ms, hms, he⟩ := h
    cases he
    obtain ⟨h1, h2⟩ := num64_some x k hk
    obtain ⟨h3, h4⟩ := ih ms hms
    refine ⟨?_, by simp [h2, h4]⟩
    intro n hn
    rcases List.mem_cons.1 hn with rfl | hn
    · exact h1
    · exact h3 n hn

theorem nums_map (ns : List Nat) (h : ∀ n ∈ ns, n < 64) : nums (ns.map lt64) = some ns := by
  induction ns with
  | nil => rfl
  | cons x l ih =>
    have := ih (fun n hn => h n (by simp [hn]))
    simp only [nums] at this
    simp [nums, List.mapM_cons, num64_lt x (h x (by simp)), this]

theorem dec_eq (l : List UInt8) : dec l = match nums l with | none => none | some ns => dec4 ns := by
  unfold dec
  cases h : nums l with
  | none => rfl
  | some ns =>
    have := foldl_dec4 ns [] (nums_some l ns h).1
    simp only [this]
    cases dec4 ns <;> simp

theorem dec_enc (l : List UInt8) : dec (enc l) = some l := by
  rw [dec_eq, enc_eq, enc3_nums, nums_map _ (nums3_lt l)]
  exact dec4_nums l

theorem enc_dec (l b : List UInt8) (h : dec l = some b) : enc b = l := by
  rw [dec_eq] at h
  cases hn : nums l with
  | none => rw [hn] at h; cases h
  | some ns =>
    rw [hn] at h
    obtain ⟨h1, h2⟩ := nums_some l ns hn
    rw [enc_eq, enc3_nums, nums_dec4 ns b h1 h, h2]

theorem nums_snoc (l : List UInt8) (x : UInt8) (ns : List Nat) (k : Nat) (h : nums l = some ns) (hk : num64 x = some k) : nums (l ++ [x]) = some (ns ++ [k]) := by
  simp only [nums] at h
  simp [nums, List.mapM_append, h, List.mapM_cons, hk]
theorem nums_none (l : List UInt8) (j : Nat) (hj : j < l.length) (h : num64 l[j] = none) : nums l = none := by
  induction l generalizing j with
  | nil => simp at hj
  | cons x l ih =>
    cases j with
    | zero => simp only [List.getElem_cons_zero] at h; simp [nums, List.mapM_cons, h]
    | succ j =>
      have := ih j (by simpa using hj) (by simpa using h)
      simp only [nums] at this
      cases hx : num64 x <;> simp [nums, List.mapM_cons, hx, this]
theorem dec_none (l : List UInt8) (j : Nat) (hj : j < l.length) (h : num64 l[j] = none) : dec l = none := by
  unfold dec; rw [nums_none l j hj h]
theorem dec_some (l : List UInt8) (ns : List Nat) (h : nums l = some ns) : dec l = decEnd (ns.foldl decStep ([], 0, 0)) := by
  unfold dec; rw [h]
theorem nums_len (l : List UInt8) (ns : List Nat) (h : nums l = some ns) : ns.length = l.length := by
  have := (nums_some l ns h).2
  rw [← this, List.length_map]
end Go.Proofs.YtgmieceebchmfaaDoor
