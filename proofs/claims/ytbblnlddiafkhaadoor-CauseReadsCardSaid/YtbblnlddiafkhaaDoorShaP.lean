/- The plain side of package sha: SHA-256, as the program reckons it. -/
import Derived.Test.YtbblnlddiafkhaaDoorShaK
set_option linter.unusedVariables false
namespace Go.Proofs.YtbblnlddiafkhaaDoor

/-- Numbers of 32 bits, as cells. -/
def u32s (ws : List Nat) : List Value := ws.map fun n : Nat => Value.int .u32 (n : Int)
theorem u32s_set (ws : List Nat) (t x : Nat) : (u32s ws).toArray.setIfInBounds t (.int .u32 x) = (u32s (ws.set t x)).toArray := by
  simp [u32s, List.map_set]
theorem cell_u32s {w : World} {g : Nat} {ns : List Nat} {T : TypeId} {fr : Nat × Nat} (h : w.heap[g]? = some (.cells (u32s ns).toArray T fr)) {j : Nat} (hj : j < ns.length) : w.cell? ⟨g, j, none⟩ = some (.int .u32 (ns[j] : Nat)) := by
  have : w.cell? ⟨g, j, none⟩ = (u32s ns).toArray[j]? := by simp [World.cell?, h]
  rw [this]
  simp [u32s, hj]

/-- The word at 4t. -/
def word (b : List UInt8) (t : Nat) : Nat := (b.getD (4 * t) 0).toNat * 16777216 + (b.getD (4 * t + 1) 0).toNat * 65536 + (b.getD (4 * t + 2) 0).toNat * 256 + (b.getD (4 * t + 3) 0).toNat
/-- To the right. -/
def rot (x n : Nat) : Nat := x / 2 ^ n + x % 2 ^ n * 2 ^ (32 - n)
def sg0 (x : Nat) : Nat := (rot x 7 ^^^ rot x 18) ^^^ (x / 8)
def sg1 (x : Nat) : Nat := (rot x 17 ^^^ rot x 19) ^^^ (x / 1024)
/-- The next number of a block. -/
def nextW (b : List UInt8) (ws : List Nat) : Nat :=
  if ws.length < 16 then word b ws.length
  else (sg1 (ws.getD (ws.length - 2) 0) + ws.getD (ws.length - 7) 0 + sg0 (ws.getD (ws.length - 15) 0) + ws.getD (ws.length - 16) 0) % 4294967296
def schedU (b : List UInt8) : Nat → List Nat
  | 0 => []
  | t + 1 => schedU b t ++ [nextW b (schedU b t)]
theorem schedU_len (b : List UInt8) (t : Nat) : (schedU b t).length = t := by
  induction t with
  | zero => rfl
  | succ t ih => simp [schedU, ih]

theorem word_lt (b : List UInt8) (t : Nat) : word b t < 4294967296 := by
  have h0 := (b.getD (4 * t) 0).toNat_lt
  have h1 := (b.getD (4 * t + 1) 0).toNat_lt
  have h2 := (b.getD (4 * t + 2) 0).toNat_lt
  have h3 := (b.getD (4 * t + 3) 0).toNat_lt
  unfold word; omega
theorem nextW_lt (b : List UInt8) (ws : List Nat) : nextW b ws < 4294967296 := by
  unfold nextW; split
  · exact word_lt _ _
  · omega
theorem schedU_lt (b : List UInt8) (t : Nat) : ∀ x ∈ schedU b t, x < 4294967296 := by
  induction t with
  | zero => simp [schedU]
  | succ t ih =>
    intro x hx
    simp only [schedU, List.mem_append, List.mem_singleton] at hx
    rcases hx with hx | rfl
    · exact ih x hx
    · exact nextW_lt _ _
theorem rot_lt (x n : Nat) (hx : x < 4294967296) (hn : n ≤ 32) : rot x n < 4294967296 := by
  unfold rot
  have h1 : x % 2 ^ n < 2 ^ n := Nat.mod_lt _ (Nat.two_pow_pos _)
  have h2 : 2 ^ n * 2 ^ (32 - n) = 4294967296 := by rw [← Nat.pow_add, show n + (32 - n) = 32 by omega]
  have h3 : x / 2 ^ n < 2 ^ (32 - n) := by
    rw [Nat.div_lt_iff_lt_mul (Nat.two_pow_pos _), Nat.mul_comm, h2]; exact hx
  have h4 : (x % 2 ^ n + 1) * 2 ^ (32 - n) ≤ 4294967296 := by rw [← h2]; exact Nat.mul_le_mul_right _ h1
  rw [Nat.add_mul] at h4
  omega
theorem xor_lt (a b : Nat) (ha : a < 4294967296) (hb : b < 4294967296) : a ^^^ b < 4294967296 := Nat.xor_lt_two_pow (n := 32) ha hb
theorem and_lt (a b : Nat) (ha : a < 4294967296) : a &&& b < 4294967296 := Nat.lt_of_le_of_lt Nat.and_le_left ha
theorem sg0_lt (x : Nat) (hx : x < 4294967296) : sg0 x < 4294967296 := xor_lt _ _ (xor_lt _ _ (rot_lt _ _ hx (by decide)) (rot_lt _ _ hx (by decide))) (by omega)
theorem sg1_lt (x : Nat) (hx : x < 4294967296) : sg1 x < 4294967296 := xor_lt _ _ (xor_lt _ _ (rot_lt _ _ hx (by decide)) (rot_lt _ _ hx (by decide))) (by omega)
/-- A block's numbers so far, and noughts behind them: one more. -/
theorem sched_set (b : List UInt8) (t : Nat) (h : t < 64) : (schedU b t ++ List.replicate (64 - t) 0).set t (nextW b (schedU b t)) = schedU b (t + 1) ++ List.replicate (64 - (t + 1)) 0 := by
  have hl := schedU_len b t
  rw [show 64 - t = (64 - (t + 1)) + 1 by omega, List.replicate_succ, List.set_append_right _ _ (by omega), hl, Nat.sub_self]
  simp [schedU]
theorem sched_at (b : List UInt8) (t j : Nat) (h : j < t) (ht : t ≤ 64) (hj : j < (schedU b t ++ List.replicate (64 - t) 0).length) : (schedU b t ++ List.replicate (64 - t) 0)[j] = (schedU b t).getD j 0 := by
  have hl := schedU_len b t
  rw [List.getElem_append_left (by omega), List.getD_eq_getElem?_getD, List.getElem?_eq_getElem (by omega)]
  rfl
theorem getD_lt (b : List UInt8) (t j : Nat) : (schedU b t).getD j 0 < 4294967296 := by
  rw [List.getD_eq_getElem?_getD]
  cases h : (schedU b t)[j]? with
  | none => simp
  | some x => exact schedU_lt b t x (List.mem_of_getElem? h)

def M32 : Nat := 4294967296
def bs0 (x : Nat) : Nat := (rot x 2 ^^^ rot x 13) ^^^ rot x 22
def bs1 (x : Nat) : Nat := (rot x 6 ^^^ rot x 11) ^^^ rot x 25
def chF (e f g : Nat) : Nat := (e &&& f) ^^^ ((4294967295 - e) &&& g)
def majF (a b c : Nat) : Nat := ((a &&& b) ^^^ (a &&& c)) ^^^ (b &&& c)
def t1F (e f g h k w : Nat) : Nat := (h + bs1 e + chF e f g + k + w) % 4294967296
def t2F (a b c : Nat) : Nat := (bs0 a + majF a b c) % 4294967296
/-- One round. -/
def rnd (k w : Nat) : List Nat → List Nat
  | [a, b, c, d, e, f, g, h] => [(t1F e f g h k w + t2F a b c) % 4294967296, a, b, c, (d + t1F e f g h k w) % 4294967296, e, f, g]
  | s => s
def rnds (ws st : List Nat) : Nat → List Nat
  | 0 => st
  | t + 1 => rnd (kAt t) (ws.getD t 0) (rnds ws st t)
/-- One block more. -/
def comp (st : List Nat) (b : List UInt8) : List Nat := List.zipWith (fun x y => (x + y) % 4294967296) (rnds (schedU b 64) st 64) st
/-- Eight numbers of 32 bits. -/
def St8 (s : List Nat) : Prop := s.length = 8 ∧ ∀ x ∈ s, x < 4294967296
theorem St8.shape {s : List Nat} (h : St8 s) : ∃ a b c d e f g i, s = [a, b, c, d, e, f, g, i] ∧ a < 4294967296 ∧ b < 4294967296 ∧ c < 4294967296 ∧ d < 4294967296 ∧ e < 4294967296 ∧ f < 4294967296 ∧ g < 4294967296 ∧ i < 4294967296 := by
  obtain ⟨h1, h2⟩ := h
  match s, h1, h2 with
  | [a, b, c, d, e, f, g, i], _, h2 => exact ⟨a, b, c, d, e, f, g, i, rfl, h2 _ (by simp), h2 _ (by simp), h2 _ (by simp), h2 _ (by simp), h2 _ (by simp), h2 _ (by simp), h2 _ (by simp), h2 _ (by simp)⟩
theorem rnd_st8 (k w : Nat) {s : List Nat} (h : St8 s) : St8 (rnd k w s) := by
  obtain ⟨a, b, c, d, e, f, g, i, rfl, h1, h2, h3, h4, h5, h6, h7, h8⟩ := h.shape
  refine ⟨rfl, ?_⟩
  intro x hx
  simp only [rnd, List.mem_cons, List.mem_nil_iff, or_false] at hx
  rcases hx with rfl | rfl | rfl | rfl | rfl | rfl | rfl | rfl <;> first | assumption | omega
theorem rnds_st8 (ws : List Nat) {s : List Nat} (h : St8 s) (t : Nat) : St8 (rnds ws s t) := by
  induction t with
  | zero => exact h
  | succ t ih => exact rnd_st8 _ _ ih
theorem comp_st8 {s : List Nat} (h : St8 s) (b : List UInt8) : St8 (comp s b) := by
  obtain ⟨a, b', c, d, e, f, g, i, hs, _⟩ := (rnds_st8 (schedU b 64) h 64).shape
  obtain ⟨a1, b1, c1, d1, e1, f1, g1, i1, rfl, _⟩ := h.shape
  unfold comp
  rw [hs]
  refine ⟨rfl, ?_⟩
  intro x hx
  simp only [List.zipWith_cons_cons, List.zipWith_nil_left, List.mem_cons, List.mem_nil_iff, or_false] at hx
  rcases hx with rfl | rfl | rfl | rfl | rfl | rfl | rfl | rfl <;> omega
end Go.Proofs.YtbblnlddiafkhaaDoor
