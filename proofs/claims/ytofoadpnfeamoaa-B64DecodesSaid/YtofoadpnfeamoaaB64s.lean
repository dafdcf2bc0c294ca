/- The plain law of package b64: the reference's way of decoding, four letters at a time. -/
import Derived.Test.YtofoadpnfeamoaaB64r
set_option linter.unusedVariables false
namespace Go.Proofs.Ytofoadpnfeamoaa

/-- What the reference's number answers. -/
def numI (x : UInt8) : Int := match num64 x with | none => -1 | some k => k
def numC (c : Nat) : Int := if 65 ≤ c ∧ c ≤ 90 then c - 65 else if 97 ≤ c ∧ c ≤ 122 then c - 71 else if 48 ≤ c ∧ c ≤ 57 then c + 4 else if c = 45 then 62 else if c = 95 then 63 else -1
theorem numI_all : ∀ n, n < 256 → numI (UInt8.ofNat n) = numC n := by decide +kernel
theorem numI_eq (x : UInt8) : numI x = numC x.toNat := by
  have := numI_all x.toNat x.toNat_lt
  simpa using this
theorem numI_cases (x : UInt8) : (num64 x = none ∧ numI x = -1) ∨ ∃ k : Nat, num64 x = some k ∧ numI x = k ∧ k < 64 := by
  unfold numI
  cases h : num64 x with
  | none => exact .inl ⟨rfl, rfl⟩
  | some k => exact .inr ⟨k, rfl, rfl, (num64_some x k h).1⟩

/-- The number of up to four letters, after t rounds. -/
def gv (t : Nat) (ms : List Nat) : Nat := ms.foldl (fun a x => a * 64 + x) 0 * 64 ^ (t - ms.length)
theorem gv_more (t : Nat) (ms : List Nat) (x : Nat) (h : ms.length = t) : gv (t + 1) (ms ++ [x]) = gv t ms * 64 + x := by
  simp [gv, h]
theorem gv_skip (t : Nat) (ms : List Nat) (h : ms.length ≤ t) : gv (t + 1) ms = gv t ms * 64 := by
  unfold gv
  rw [show t + 1 - ms.length = (t - ms.length) + 1 by omega, Nat.pow_succ, Nat.mul_assoc]
theorem fold64_lt (ms : List Nat) : ∀ a, (∀ x ∈ ms, x < 64) → ms.foldl (fun a x => a * 64 + x) a < (a + 1) * 64 ^ ms.length := by
  induction ms with
  | nil => intro a _; simp
  | cons x l ih =>
    intro a h
    have h1 := ih (a * 64 + x) (fun y hy => h y (by simp [hy]))
    have hx := h x (by simp)
    simp only [List.foldl_cons, List.length_cons]
    calc _ < (a * 64 + x + 1) * 64 ^ l.length := h1
      _ ≤ ((a + 1) * 64) * 64 ^ l.length := Nat.mul_le_mul_right _ (by omega)
      _ = (a + 1) * 64 ^ (l.length + 1) := by rw [Nat.pow_succ, Nat.mul_assoc, Nat.mul_comm 64]
theorem gv_lt (t : Nat) (ms : List Nat) (h : ms.length ≤ t) (hm : ∀ x ∈ ms, x < 64) : gv t ms < 64 ^ t := by
  unfold gv
  have h1 := fold64_lt ms 0 hm
  calc _ < (0 + 1) * 64 ^ ms.length * 64 ^ (t - ms.length) := Nat.mul_lt_mul_of_pos_right h1 (Nat.pow_pos (by decide))
    _ = 64 ^ t := by rw [Nat.zero_add, Nat.one_mul, ← Nat.pow_add]; congr 1; omega

/-- The three bytes of a number of 24 bits. -/
def three (n : Nat) : List Nat := [n / 65536, n / 256 % 256, n % 256]
theorem dec4_grp (ms : List Nat) (h64 : ∀ x ∈ ms, x < 64) (h2 : 2 ≤ ms.length) (h4 : ms.length ≤ 4) :
    dec4 ms = if (∀ x ∈ (three (gv 4 ms)).drop (ms.length - 1), x = 0) then some (((three (gv 4 ms)).take (ms.length - 1)).map byt) else none := by
  match ms, h2, h4 with
  | [a, b], _, _ =>
    have ha : a < 64 := h64 a (by simp)
    have hb : b < 64 := h64 b (by simp)
    have e0 : gv 4 [a, b] = (a * 64 + b) * 4096 := by simp [gv]
    have e1 : (a * 64 + b) * 4096 / 65536 = a * 4 + b / 16 := by omega
    have e2 : (a * 64 + b) * 4096 / 256 % 256 = b % 16 * 16 := by omega
    have e3 : (a * 64 + b) * 4096 % 256 = 0 := by omega
    rw [e0]
    simp only [dec4, three, e1, e2, e3, List.length_cons, List.length_nil]
    by_cases h : b % 16 = 0
    · simp [h]
    · simp [h]; omega
  | [a, b, c], _, _ =>
    have ha : a < 64 := h64 a (by simp)
    have hb : b < 64 := h64 b (by simp)
    have hc : c < 64 := h64 c (by simp)
    have e0 : gv 4 [a, b, c] = ((a * 64 + b) * 64 + c) * 64 := by simp [gv]
    have e1 : ((a * 64 + b) * 64 + c) * 64 / 65536 = a * 4 + b / 16 := by omega
    have e2 : ((a * 64 + b) * 64 + c) * 64 / 256 % 256 = b % 16 * 16 + c / 4 := by omega
    have e3 : ((a * 64 + b) * 64 + c) * 64 % 256 = c % 4 * 64 := by omega
    rw [e0]
    simp only [dec4, three, e1, e2, e3, List.length_cons, List.length_nil]
    by_cases h : c % 4 = 0
    · simp [h]
    · simp [h]; omega
  | [a, b, c, d], _, _ =>
    have ha : a < 64 := h64 a (by simp)
    have hb : b < 64 := h64 b (by simp)
    have hc : c < 64 := h64 c (by simp)
    have hd : d < 64 := h64 d (by simp)
    have e0 : gv 4 [a, b, c, d] = ((a * 64 + b) * 64 + c) * 64 + d := by simp [gv]
    have e1 : (((a * 64 + b) * 64 + c) * 64 + d) / 65536 = a * 4 + b / 16 := by omega
    have e2 : (((a * 64 + b) * 64 + c) * 64 + d) / 256 % 256 = b % 16 * 16 + c / 4 := by omega
    have e3 : (((a * 64 + b) * 64 + c) * 64 + d) % 256 = c % 4 * 64 + d := by omega
    rw [e0]
    simp [dec4, three, e1, e2, e3]

theorem dec4_app : ∀ (ns rest : List Nat), ns.length % 4 = 0 → dec4 (ns ++ rest) = (dec4 ns).bind fun a => (dec4 rest).map (a ++ ·)
  | [], rest, _ => by cases h : dec4 rest <;> simp [dec4, h]
  | [a], rest, h => by simp at h
  | [a, b], rest, h => by simp at h
  | [a, b, c], rest, h => by simp at h
  | a :: b :: c :: d :: t, rest, h => by
    have := dec4_app t rest (by simp only [List.length_cons] at h; omega)
    simp only [List.cons_append, dec4, this]
    cases dec4 t <;> cases dec4 rest <;> simp

theorem dec_odd (l : List UInt8) (h : l.length % 4 = 1) : dec l = none := by
  rw [dec_eq]
  cases hn : nums l with
  | none => rfl
  | some ns =>
    have hl := nums_len l ns hn
    have : ∀ (ms : List Nat), ms.length % 4 = 1 → dec4 ms = none := by
      intro ms
      fun_induction dec4 ms with
      | case1 a b c d t ih => intro h; simp only [List.length_cons] at h; rw [ih (by omega)]; rfl
      | case2 => intro h; simp at h
      | case3 => intro h; simp at h
      | case4 => intro h; simp at h
      | case5 => intro h; simp at h
      | case6 => intro h; rfl
      | case7 => intro h; simp at h
    exact this ns (by omega)

theorem three_lt (G : Nat) (h : G < 16777216) (q : Nat) (hq : q < 3) : (three G)[q]'hq < 256 := by
  match q, hq with
  | 0, _ => show G / 65536 < 256; omega
  | 1, _ => show G / 256 % 256 < 256; omega
  | 2, _ => show G % 256 < 256; omega
/-- All that stand behind the first ones are noughts, up to the q-th. -/
def Zer (G m q : Nat) : Prop := ∀ i (h : i < 3), i < q → m - 1 ≤ i → (three G)[i]'h = 0
theorem Zer.end {G m : Nat} (h : Zer G m 3) : ∀ x ∈ (three G).drop (m - 1), x = 0 := by
  intro x hx
  obtain ⟨i, hi, rfl⟩ := List.mem_iff_getElem.1 hx
  have h3 : (three G).length = 3 := rfl
  have hi' : m - 1 + i < 3 := by simp only [List.length_drop, h3] at hi; omega
  rw [List.getElem_drop]
  exact h (m - 1 + i) hi' hi' (by omega)
theorem Zer.not {G m q : Nat} (hq : q < 3) (hm : m - 1 ≤ q) (hx : (three G)[q]'hq ≠ 0) : ¬ ∀ x ∈ (three G).drop (m - 1), x = 0 := by
  intro h
  refine hx (h _ (List.mem_iff_getElem.2 ⟨q - (m - 1), ?_, ?_⟩))
  · have h3 : (three G).length = 3 := rfl
    simp only [List.length_drop, h3]; omega
  · rw [List.getElem_drop]; congr 1; omega
end Go.Proofs.Ytofoadpnfeamoaa
