/- A strings.Builder whose bytes lie from block B on, B behind the builder's own block: what lies between stands. -/
import Derived.Test.YtgmieceebchmfaaDoorBuildS
import Derived.Test.YtgmieceebchmfaaDoorRd
set_option linter.unusedVariables false
namespace Go.Proofs.YtgmieceebchmfaaDoor
open Go.RowKit

/-- A builder in block b that holds the bytes l in a row from block B on. -/
def BldX (b B : Nat) (l : List UInt8) (w : World) : Prop :=
  b < B ∧ B ≤ w.heap.size ∧ ∃ p v, (p = Value.pointer none ∨ p = Value.pointer (some ⟨b, 0, none⟩)) ∧ w.heap[b]? = some (.cells #[p, v] 52 (0, 0)) ∧ w.ownsRowF B 5 1 v l.length (Lib.byteCells l)
/-- What a write leaves: every block ahead of B, but b. -/
structure FrX (b B : Nat) (w w' : World) : Prop where
  os : w'.os = w.os
  tape : w'.tape = w.tape
  output : w'.output = w.output
  size : w.heap.size ≤ w'.heap.size
  block : ∀ k, k < B → k ≠ b → w'.heap[k]? = w.heap[k]?
theorem FrX.refl (b B : Nat) (w : World) : FrX b B w w := ⟨rfl, rfl, rfl, Nat.le_refl _, fun _ _ _ => rfl⟩
theorem FrX.trans {b B : Nat} {w w' w'' : World} (h : FrX b B w w') (k : FrX b B w' w'') : FrX b B w w'' :=
  ⟨k.os.trans h.os, k.tape.trans h.tape, k.output.trans h.output, Nat.le_trans h.size k.size, fun i hi hb => (k.block i hi hb).trans (h.block i hi hb)⟩
theorem FrX.below {b B B' : Nat} {w w' : World} (h : FrX b B w w') (hB : B' ≤ b) (hb : b < B) : Below B' w w' :=
  ⟨h.os, h.tape, h.output, h.size, fun k hk => h.block k (by omega) (by omega)⟩
theorem FrX.of_below {b B : Nat} {w w' : World} (h : Below B w w') : FrX b B w w' := ⟨h.os, h.tape, h.output, h.size, fun k hk _ => h.block k hk⟩
theorem FrX.rd {b B : Nat} {w w' : World} (h : FrX b B w w') {g off : Nat} {l : List UInt8} (hr : Rd w (some ⟨g, off, none⟩) l) (hg : g < B) (hne : g ≠ b) : Rd w' (some ⟨g, off, none⟩) l := by
  rcases hr with rfl | ⟨b', off', e, hc⟩
  · exact .inl rfl
  · simp only [Option.some.injEq, Addr.mk.injEq, and_true] at e
    obtain ⟨rfl, rfl⟩ := e
    refine .inr ⟨_, _, rfl, fun i hi => ?_⟩
    rw [World.cell?_of_block (h.block _ hg hne)]
    exact hc i hi
theorem BldX.fresh {w : World} {b B : Nat} (h : w.heap[b]? = some (.cells #[.pointer none, .slice none 0 0] 52 (0, 0))) (hb : b < B) (hB : B ≤ w.heap.size) : BldX b B [] w :=
  ⟨hb, hB, _, _, .inl rfl, h, World.ownsRowF_nil _ _ _ _⟩
theorem BldX.below {b B : Nat} {l : List UInt8} {w w' : World} (h : BldX b B l w) (hb : Below w.heap.size w w') : BldX b B l w' := by
  obtain ⟨h1, h2, p, v, hp, hbk, hown⟩ := h
  exact ⟨h1, Nat.le_trans h2 hb.size, p, v, hp, (hb.block b (Array.getElem?_eq_some_iff.1 hbk).1).trans hbk, hown.kept (row := none) ⟨hb.os, hb.tape, hb.output, hb.size, fun k hk _ => hb.block k hk⟩ (by cases v.ownBlock <;> simp)⟩
theorem BldX.bld {b B : Nat} {l : List UInt8} {w : World} (h : BldX b B l w) : Bld b l w := by
  obtain ⟨h1, h2, p, v, hp, hbk, hown⟩ := h
  have hne : v.ownBlock ≠ some b := fun e => by have := (hown.lt b e).1; omega
  have hown' : w.ownsRowF b 5 1 v (Lib.byteCells l).length (Lib.byteCells l) := by
    have hl : (Lib.byteCells l).length = l.length := by simp [Lib.byteCells]
    rw [hl]
    exact ⟨hown.1, hown.2.imp id fun ⟨g, cap, cur, fz, e, hg, r⟩ => ⟨g, cap, cur, fz, e, by omega, r⟩⟩
  rcases hp with rfl | rfl
  · exact .inl ⟨Nat.le_refl _, v, hbk, hown', hne⟩
  · exact .inr ⟨Nat.le_refl _, v, hbk, hown', hne⟩
theorem copyCheck_x (b B : Nat) (l : List UInt8) (w : World) (h : BldX b B l w) :
    Calls Tryd.prog 51 #[.pointer (some ⟨b, 0, none⟩)] w fun e w' => e = .returned (.tuple #[]) ∧ (∃ v, w'.heap[b]? = some (.cells #[.pointer (some ⟨b, 0, none⟩), v] 52 (0, 0)) ∧ w'.ownsRowF B 5 1 v l.length (Lib.byteCells l)) ∧ FrX b B w w' := by
  obtain ⟨h1, h2, p, v, hp, hbk, hown⟩ := h
  have c0 : w.cell? ⟨b, 0, none⟩ = some p := by rw [Lib.cell_of_heap hbk]; rfl
  rcases hp with rfl | rfl
  · refine (copyCheck_fresh b w c0 (by simp [World.shape?, hbk]) (Lib.frozen_of_heap hbk 0)).mono ?_
    rintro e w' ⟨rfl, rfl⟩
    have hne : v.ownBlock ≠ some b := fun e => by have := (hown.lt b e).1; omega
    refine ⟨rfl, ⟨v, by simp [World.setCell, Array.getElem?_modify, hbk], ?_⟩, rfl, rfl, rfl, by simp [World.setCell], fun k _ hk => Below.heap_setCell _ _ _ _ (fun e => hk e)⟩
    exact hown.kept (row := some b) ⟨rfl, rfl, rfl, by simp [World.setCell], fun k _ hk => Below.heap_setCell _ _ _ _ (fun e => hk (by simp [e]))⟩ (Or.inr hne)
  · refine (copyCheck_used b w c0).mono ?_
    rintro e w' ⟨rfl, rfl⟩
    exact ⟨rfl, ⟨v, hbk, hown⟩, FrX.refl _ _ _⟩
theorem FrX.grown {b B : Nat} {a w w' : World} {row : Option Nat} (h : FrX b B a w) (hg : w.grownBy w' row) (hB : B ≤ w.heap.size) (hrow : ∀ k, row = some k → B ≤ k) : FrX b B a w' :=
  ⟨hg.os.trans h.os, hg.tape.trans h.tape, hg.output.trans h.output, Nat.le_trans h.size hg.size, fun k hk hb => (hg.block k (by omega) (fun e => by have := hrow k e.symm; omega)).trans (h.block k hk hb)⟩
theorem FrX.alloc {b B : Nat} {a w : World} (h : FrX b B a w) (hB : B ≤ w.heap.size) (o : Obj) : FrX b B a (w.alloc o) :=
  ⟨h.os, h.tape, h.output, by have := h.size; simp; omega, fun k hk hb => (Below.heap_alloc _ _ _ (by omega)).trans (h.block k hk hb)⟩
theorem FrX.setCell {b B : Nat} {a w : World} (h : FrX b B a w) (j : Nat) (v : Value) : FrX b B a (w.setCell ⟨b, j, none⟩ v) :=
  ⟨h.os, h.tape, h.output, by have := h.size; simp [World.setCell]; omega, fun k hk hb => (Below.heap_setCell _ _ _ _ (fun e => hb e)).trans (h.block k hk hb)⟩

set_option maxHeartbeats 2000000 in
set_option maxRecDepth 100000 in
theorem WriteByte_x (b B : Nat) (l : List UInt8) (c : Int) (x : UInt8) (hx : c = x.toNat) (w : World) (h : BldX b B l w) (hlen : l.length + 1 ≤ 140737488355328) :
    Calls Tryd.prog 30 #[.pointer (some ⟨b, 0, none⟩), .int .u8 c] w fun e w' => e = .returned .nilIface ∧ BldX b B (l ++ [x]) w' ∧ FrX b B w w' := by
  obtain ⟨i0, hi, hz0, hz1, hz2⟩ := info_parts infoByte
  have hbB := h.1
  have hBw := h.2.1
  have e2 : Lib.byteCells (l ++ [x]) = Lib.byteCells l ++ [.int .u8 c] := by simp [Lib.byteCells, hx]
  have E2 := Lib.hid e2
  have HX := Lib.hid hx
  clear e2 hx
  go_enter Tryd.func30, Tryd.ntmps30
  go_wp2_with (go_at_call 51; refine (copyCheck_x b B l _ h).mono ?_)
  rintro e w1 ⟨rfl, ⟨v, hbk, hown⟩, hf1⟩
  have c0 : w1.cell? ⟨b, 0, none⟩ = some (.pointer (some ⟨b, 0, none⟩)) := by rw [Lib.cell_of_heap hbk]; rfl
  have c1 : w1.cell? ⟨b, 1, none⟩ = some v := by rw [Lib.cell_of_heap hbk]; rfl
  have hne : v.ownBlock ≠ some b := fun e => by have := (hown.lt b e).1; omega
  go_wp2_with (at_builtin; refine wpList_append_ownF _ rfl _ _ 42 rfl B 5 i0 (.int .u8 0) 1 1 Tryd.underlying42 hi hz0 hz1 hz2 rfl (by decide) _ _ _ rfl (hown.alloc _) ⟨w1.heap.size, 0, none⟩ 1 1 [.int .u8 c] rfl rfl ?c1 ?c2 ?c3 ?c4 ?c5 ?_)
  case c1 =>
    intro j u hj
    match j, hj with
    | 0, hj => simp at hj; subst hj; simp [Addr.add]
  case c2 => intro u hu; simp at hu; subst hu; rfl
  case c3 => unfold maxLen; omega
  case c4 => omega
  case c5 => have := hf1.size; simp; omega
  intro v' w2 hown' hgrow _
  have hlt : b < w1.heap.size := (Array.getElem?_eq_some_iff.1 hbk).1
  have hb2 : w2.heap[b]? = some (.cells #[.pointer (some ⟨b, 0, none⟩), v] 52 (0, 0)) := by
    rw [hgrow.block b (by simp; omega) (fun e => hne e.symm), Lib.alloc_old w1 _ b hlt]
    exact hbk
  have d0 : w2.cell? ⟨b, 0, none⟩ = some (.pointer (some ⟨b, 0, none⟩)) := by rw [Lib.cell_of_heap hb2]; rfl
  have d1 : w2.cell? ⟨b, 1, none⟩ = some v := by rw [Lib.cell_of_heap hb2]; rfl
  have f1 : w2.frozen? ⟨b, 1, none⟩ = false := Lib.frozen_of_heap hb2 1
  obtain ⟨g, cap, rfl⟩ : ∃ g cap, v' = .slice (some ⟨g, 0, none⟩) (l.length + 1) cap := by
    rcases hown'.2 with ⟨_, h0⟩ | ⟨g, cap, cur, fz, hv, _⟩
    · omega
    · exact ⟨g, cap, hv⟩
  have hne' : Value.ownBlock (.slice (some ⟨g, 0, none⟩) (l.length + 1) cap) ≠ some b := fun e => by have := (hown'.lt b e).1; omega
  have hf2 : FrX b B w w2 := (hf1.alloc (by have := hf1.size; omega) _).grown hgrow (by have := hf1.size; simp; omega) (fun k hk => (hown.lt k hk).1)
  go_wp2
  go_ret
  refine ⟨rfl, ⟨hbB, by have := hf2.size; simp [World.setCell]; omega, _, .slice (some ⟨g, 0, none⟩) (l.length + 1) cap, .inr rfl, ?_, ?_⟩, hf2.setCell 1 _⟩
  · simp [World.setCell, Array.getElem?_modify, hb2]
  · rw [E2.out, List.length_append]
    exact (show w2.ownsRowF B 5 1 (.slice (some ⟨g, 0, none⟩) (l.length + 1) cap) (l.length + 1) (Lib.byteCells l ++ [.int .u8 c]) from hown').kept (row := some b) ⟨rfl, rfl, rfl, by simp [World.setCell], fun k _ hk => Below.heap_setCell _ _ _ _ (fun e => hk (by simp [e]))⟩ (Or.inr hne')

set_option maxHeartbeats 2000000 in
set_option maxRecDepth 100000 in
theorem WriteString_x (b B : Nat) (l m : List UInt8) (w : World) (h : BldX b B l w) (hlen : l.length + m.length ≤ 140737488355328) :
    Calls Tryd.prog 31 #[.pointer (some ⟨b, 0, none⟩), .string ⟨m.toArray⟩] w fun e w' => e = .returned (.tuple #[.int .i64 (m.length : Nat), .nilIface]) ∧ BldX b B (l ++ m) w' ∧ FrX b B w w' := by
  obtain ⟨i0, hi, hz0, hz1, hz2⟩ := info_parts infoByte
  have hbB := h.1
  have hBw := h.2.1
  have e2 : Lib.byteCells (l ++ m) = Lib.byteCells l ++ Lib.strCells ⟨m.toArray⟩ := by simp [Lib.byteCells, Lib.strCells]
  have E2 := Lib.hid e2
  clear e2
  go_enter Tryd.func31, Tryd.ntmps31
  go_wp2_with (go_at_call 51; refine (copyCheck_x b B l _ h).mono ?_)
  rintro e w1 ⟨rfl, ⟨v, hbk, hown⟩, hf1⟩
  have c0 : w1.cell? ⟨b, 0, none⟩ = some (.pointer (some ⟨b, 0, none⟩)) := by rw [Lib.cell_of_heap hbk]; rfl
  have c1 : w1.cell? ⟨b, 1, none⟩ = some v := by rw [Lib.cell_of_heap hbk]; rfl
  have hne : v.ownBlock ≠ some b := fun e => by have := (hown.lt b e).1; omega
  go_wp2_with (at_builtin; refine Lib.wpList_append_own_stringF _ rfl _ _ 42 9 rfl B 5 i0 Tryd.underlying42 Tryd.underlying9 hi hz0 hz1 hz2 _ _ _ rfl hown ⟨m.toArray⟩ rfl ?c3 ?c4 ?c5 ?_)
  case c3 => unfold maxLen; simp only [ByteArray.size, List.size_toArray]; omega
  case c4 => simp only [ByteArray.size, List.size_toArray]; omega
  case c5 => have := hf1.size; omega
  intro v' w2 hown' hgrow _
  have hlt : b < w1.heap.size := (Array.getElem?_eq_some_iff.1 hbk).1
  have hb2 : w2.heap[b]? = some (.cells #[.pointer (some ⟨b, 0, none⟩), v] 52 (0, 0)) := by
    rw [hgrow.block b hlt (fun e => hne e.symm)]
    exact hbk
  have d0 : w2.cell? ⟨b, 0, none⟩ = some (.pointer (some ⟨b, 0, none⟩)) := by rw [Lib.cell_of_heap hb2]; rfl
  have d1 : w2.cell? ⟨b, 1, none⟩ = some v := by rw [Lib.cell_of_heap hb2]; rfl
  have f1 : w2.frozen? ⟨b, 1, none⟩ = false := Lib.frozen_of_heap hb2 1
  have hf2 : FrX b B w w2 := hf1.grown hgrow (by have := hf1.size; omega) (fun k hk => (hown.lt k hk).1)
  have hsz : (⟨m.toArray⟩ : ByteArray).size = m.length := by simp [ByteArray.size]
  obtain ⟨ao, n', cap, rfl⟩ : ∃ ao n' cap, v' = .slice ao n' cap := by
    rcases hown'.2 with ⟨hv, _⟩ | ⟨g, cap, cur, fz, hv, _⟩
    · exact ⟨_, _, _, hv⟩
    · exact ⟨_, _, _, hv⟩
  have hne' : Value.ownBlock (.slice ao n' cap) ≠ some b := fun e => by have := (hown'.lt b e).1; omega
  try rw [hsz] at hown'
  have HOW := Lib.hid hown'
  have HNE := Lib.hid hne'
  clear hown' hne' hgrow
  go_wp2
  go_ret2
  refine ⟨rfl, ⟨hbB, by have := hf2.size; simp [World.setCell]; omega, _, .slice ao n' cap, .inr rfl, ?_, ?_⟩, hf2.setCell 1 _⟩
  · simp [World.setCell, Array.getElem?_modify, hb2]
  · rw [E2.out, List.length_append]
    exact HOW.out.kept (row := some b) ⟨rfl, rfl, rfl, by simp [World.setCell], fun k _ hk => Below.heap_setCell _ _ _ _ (fun e => hk (by simp [e]))⟩ (Or.inr HNE.out)
end Go.Proofs.YtgmieceebchmfaaDoor
