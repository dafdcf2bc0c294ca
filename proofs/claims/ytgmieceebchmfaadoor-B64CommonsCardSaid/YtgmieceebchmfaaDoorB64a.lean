/- The accumulator of bits of package b64: what push and pop do to it. -/
import Derived.Test.YtgmieceebchmfaaDoorProg
import Derived.Test.YtgmieceebchmfaaDoorNum
import Derived.WalkKit
import Derived.WalkSpells
import Derived.WalkLawsBesides
import Derived.KernelRfl
import Derived.Lib.Hide
import Derived.Deep.QuietTactic
import Derived.BigQuiet
import Derived.StillTailTactics
import Derived.RegionTactic
import Derived.ChangeAlike
import Derived.Lib.Builder
namespace Go.Proofs.YtgmieceebchmfaaDoor
open Go.RowKit

/-- The bits' block: 'rest' and 'count'. -/
def Bts (g : Nat) (r c : Nat) (w : World) : Prop := w.heap[g]? = some (.cells #[.int .i64 r, .int .i64 c] 88 (0, 0))

/-- What was there is as it was, but for block g. -/
structure But (g : Nat) (w w' : World) : Prop where
  os : w'.os = w.os
  tape : w'.tape = w.tape
  output : w'.output = w.output
  size : w.heap.size ≤ w'.heap.size
  block : ∀ k, k < w.heap.size → k ≠ g → w'.heap[k]? = w.heap[k]?

theorem setCell_block {w : World} {g o : Nat} {cs : Array Value} {T : TypeId} {fr : Nat × Nat} (h : w.heap[g]? = some (.cells cs T fr)) (v : Value) :
    (w.setCell ⟨g, o, none⟩ v).heap[g]? = some (.cells (cs.setIfInBounds o v) T fr) := by
  simp [World.setCell, Array.getElem?_modify, h]

theorem drewN_at {w : World} {g : Nat} {o : Obj} (h : w.heap[g]? = some o) (n : Nat) : (w.drewN n).heap[g]? = some o := h

theorem But.setCell (w : World) (g o : Nat) (v : Value) : But g w (w.setCell ⟨g, o, none⟩ v) :=
  ⟨rfl, rfl, rfl, by simp [World.setCell], fun k _ hk => Below.heap_setCell _ _ _ _ hk⟩
theorem But.trans {g : Nat} {a b c : World} (h : But g a b) (k : But g b c) : But g a c :=
  ⟨k.os.trans h.os, k.tape.trans h.tape, k.output.trans h.output, Nat.le_trans h.size k.size, fun i hi hg => (k.block i (Nat.lt_of_lt_of_le hi h.size) hg).trans (h.block i hi hg)⟩
theorem But.refl (g : Nat) (w : World) : But g w w := ⟨rfl, rfl, rfl, Nat.le_refl _, fun _ _ _ => rfl⟩
theorem But.drewN {g : Nat} {a b : World} (h : But g a b) (n : Nat) : But g a (b.drewN n) := ⟨h.os, h.tape, h.output, h.size, h.block⟩

set_option maxHeartbeats 400000 in
theorem push_any (g : Nat) (r c n wd : Nat) (w : World) (h : Bts g r c w) (hw1 : wd ≤ 8) (hc1 : c ≤ 100) (hr : r ≤ 1000000) (hn : n < 2 ^ wd) :
    Calls Tryd.prog 56 #[.pointer (some ⟨g, 0, none⟩), .int .i64 n, .int .i64 wd] w fun e w' => e = .returned (.tuple #[]) ∧ Bts g (r * 2 ^ wd + n) (c + wd) w' ∧ But g w w' := by
  have h0 : w.cell? ⟨g, 0, none⟩ = some (.int .i64 r) := by rw [Lib.cell_of_heap h]; rfl
  have h1 : w.cell? ⟨g, 1, none⟩ = some (.int .i64 c) := by rw [Lib.cell_of_heap h]; rfl
  have f0 : w.frozen? ⟨g, 0, none⟩ = false := Lib.frozen_of_heap h 0
  have f1 : w.frozen? ⟨g, 1, none⟩ = false := Lib.frozen_of_heap h 1
  have H := Lib.hid h
  clear h
  have hwd0 : (0 : Int) ≤ wd := by omega
  have hwd1 : (wd : Int) ≤ 8 := by omega
  go_enter Tryd.func56, Tryd.ntmps56
  go_wp2
  go_end0
  have e : ((r * 2 ^ wd + n : Nat) : Int) = bits BinOp.or IntKind.i64 (wrap64 (↑r * 2 ^ wd)) ↑n := by
    have hp : 2 ^ wd ≤ 2 ^ 8 := Nat.pow_le_pow_right (by decide) hw1
    have hm : r * 2 ^ wd ≤ 1000000 * 2 ^ 8 := Nat.mul_le_mul hr hp
    have e0 : ((r * 2 ^ wd : Nat) : Int) = (r : Int) * 2 ^ wd := by simp
    have e1 : wrap64 ((r : Int) * 2 ^ wd) = ((r * 2 ^ wd : Nat) : Int) := by
      rw [← e0]; exact wrap64_in _ (by omega) (by omega)
    rw [e1, i64_or _ _ (by omega) (by omega), or_add _ _ _ hn]
  refine ⟨rfl, ?_, (But.setCell _ _ _ _).trans (But.setCell _ _ _ _)⟩
  have := setCell_block (setCell_block (o := 0) H.out (.int .i64 (bits BinOp.or IntKind.i64 (wrap64 (↑r * 2 ^ wd)) ↑n))) (o := 1) (.int .i64 (↑c + ↑wd))
  unfold Bts
  rw [this, e]
  simp

set_option maxHeartbeats 400000 in
theorem pop_any (g : Nat) (r c wd : Nat) (w : World) (h : Bts g r c w) (hw1 : wd ≤ 8) (hc1 : c ≤ 20) (hr : r < 2 ^ c) (hlt : wd ≤ c) :
    Calls Tryd.prog 57 #[.pointer (some ⟨g, 0, none⟩), .int .i64 wd] w fun e w' => e = .returned (.tuple #[.int .i64 ↑(r / 2 ^ (c - wd)), .bool true]) ∧ Bts g (r % 2 ^ (c - wd)) (c - wd) w' ∧ But g w w' := by
  have h0 : w.cell? ⟨g, 0, none⟩ = some (.int .i64 r) := by rw [Lib.cell_of_heap h]; rfl
  have h1 : w.cell? ⟨g, 1, none⟩ = some (.int .i64 c) := by rw [Lib.cell_of_heap h]; rfl
  have f0 : w.frozen? ⟨g, 0, none⟩ = false := Lib.frozen_of_heap h 0
  have f1 : w.frozen? ⟨g, 1, none⟩ = false := Lib.frozen_of_heap h 1
  have H := Lib.hid h
  clear h
  have hwd0 : (0 : Int) ≤ wd := by omega
  have hwd1 : (wd : Int) ≤ 8 := by omega
  go_enter Tryd.func57, Tryd.ntmps57
  go_wp2
  go_quiet (fail)
  go_wp2
  go_region
  go_wp2
  go_ret2
  have hq : c - wd ≤ 20 := by omega
  have hp : 2 ^ (c - wd) ≤ 2 ^ 20 := Nat.pow_le_pow_right (by decide) hq
  have hp1 : 1 ≤ 2 ^ (c - wd) := Nat.one_le_two_pow
  have hr2 : 2 ^ c ≤ 2 ^ 20 := Nat.pow_le_pow_right (by decide) hc1
  have e : bits BinOp.and IntKind.i64 (↑r) (wrap64 (wrap64 (2 ^ (c - wd)) - 1)) = ((r % 2 ^ (c - wd) : Nat) : Int) := by
    have e0 : ((2 ^ (c - wd) : Nat) : Int) = (2 : Int) ^ (c - wd) := by simp
    have e1 : wrap64 ((2 : Int) ^ (c - wd)) = ((2 ^ (c - wd) : Nat) : Int) := by
      rw [← e0]; exact wrap64_in _ (by omega) (by omega)
    have e2 : wrap64 (((2 ^ (c - wd) : Nat) : Int) - 1) = ((2 ^ (c - wd) - 1 : Nat) : Int) := by
      rw [wrap64_in _ (by omega) (by omega)]; omega
    rw [e1, e2, i64_and _ _ (by omega) (by omega), Nat.and_two_pow_sub_one_eq_mod]
  rw [e]
  refine ⟨by simp, ?_, ?_⟩
  · have e3 : ((c - wd : Nat) : Int) = (c : Int) - wd := by omega
    have h3 := setCell_block (o := 1) H.out (.int .i64 ((c : Int) - (wd : Int)))
    have := setCell_block (drewN_at h3 (nq + 1)) (o := 0) (.int .i64 ((r % 2 ^ (c - wd) : Nat) : Int))
    unfold Bts
    rw [this, e3]
    simp
  · exact ((But.setCell w g 1 _).drewN _).trans (But.setCell _ _ _ _)

set_option maxHeartbeats 400000 in
theorem pop_none (g : Nat) (r c wd : Nat) (w : World) (h : Bts g r c w) (hlt : c < wd) :
    Calls Tryd.prog 57 #[.pointer (some ⟨g, 0, none⟩), .int .i64 wd] w fun e w' => e = .returned (.tuple #[.int .i64 0, .bool false]) ∧ w' = w := by
  have h1 : w.cell? ⟨g, 1, none⟩ = some (.int .i64 c) := by rw [Lib.cell_of_heap h]; rfl
  clear h
  go_enter Tryd.func57, Tryd.ntmps57
  go_wp2
  go_ret2
  exact ⟨rfl, rfl⟩
end Go.Proofs.YtgmieceebchmfaaDoor
