/- What the walks are told of bytes that lie in memory. -/
import Derived.Test.YtbblnlddiafkhaaDoorProg
import Derived.WalkKit
import Derived.WalkSpells
import Derived.Lib.Builder
import Derived.Lib.Hide
import Derived.KernelRfl
import Derived.Lib.UnsafeStr
import Derived.Lib.ConvBytes
namespace Go.Proofs.YtbblnlddiafkhaaDoor
open Go.RowKit

/-- The bytes l lie at the address a. -/
def Rd (w : World) (a : Option Addr) (l : List UInt8) : Prop :=
  l = [] ∨ ∃ b off, a = some ⟨b, off, none⟩ ∧ ∀ i (h : i < l.length), w.cell? ⟨b, off + i, none⟩ = some (.int .u8 (l[i]).toNat)

theorem Rd.at {w : World} {a : Option Addr} {l : List UInt8} (h : Rd w a l) {k : Nat} (hk : k < l.length) :
    ∃ b off, a = some ⟨b, off, none⟩ ∧ ∀ i (h : i < l.length), w.cell? ⟨b, off + i, none⟩ = some (.int .u8 (l[i]).toNat) := by
  rcases h with rfl | h
  · simp at hk
  · exact h

/-- What a row of the call's own reads as. -/
theorem Rd.of_cells {w : World} {g : Nat} {cs : Array Value} {T : TypeId} {fr : Nat × Nat} (h : w.heap[g]? = some (.cells cs T fr)) (l : List UInt8) (hl : ∀ i (h : i < l.length), cs[i]? = some (.int .u8 (l[i]).toNat)) :
    Rd w (some ⟨g, 0, none⟩) l := by
  refine .inr ⟨g, 0, rfl, fun i hi => ?_⟩
  rw [Nat.zero_add, Lib.cell_of_heap h]
  exact hl i hi

theorem Rd.of_lit {w : World} {g : Nat} {T : TypeId} {fr : Nat × Nat} (l : List UInt8) (h : w.heap[g]? = some (.cells (Lib.byteCells l).toArray T fr)) : Rd w (some ⟨g, 0, none⟩) l :=
  Rd.of_cells h l fun i hi => by simp [Lib.byteCells, hi]


/-- The cells of a row that came in, as bytes. -/
theorem rd_of_cells {w : World} {a : Option Addr} {len cap : Nat} {zs : List Int}
    (h : (a = none ∧ len = 0 ∧ cap = 0 ∧ zs = []) ∨ ∃ x, a = some x ∧ len ≤ cap ∧ cap ≤ maxLen ∧ zs.length = cap ∧ (∀ i, i < zs.length → w.cell? (x.add i) = some (.int .u8 (zs.getD i 0))) ∧ ∀ n ∈ zs, (Lit.int .u8 n).wf = true) :
    ∃ l : List UInt8, len = l.length ∧ Rd w a l := by
  rcases h with ⟨rfl, rfl, rfl, rfl⟩ | ⟨x, rfl, hl, hm, hz, hc, hwf⟩
  · exact ⟨[], rfl, .inl rfl⟩
  · cases len with
    | zero => exact ⟨[], rfl, .inl rfl⟩
    | succ len =>
      obtain ⟨b, off, spot⟩ := x
      have h0 := hc 0 (by omega)
      have hsp : spot = none := by
        cases spot with
        | none => rfl
        | some k =>
          have e0 : (⟨b, off, some k⟩ : Addr).add 0 = ⟨b, off, some k⟩ := by simp [Addr.add]
          rw [e0] at h0
          unfold World.cell? at h0
          split at h0 <;> simp at h0
      subst hsp
      refine ⟨(zs.take (len + 1)).map fun z => UInt8.ofNat z.toNat, by simp; omega, .inr ⟨b, off, rfl, fun i hi => ?_⟩⟩
      simp only [List.length_map, List.length_take] at hi
      have hi' : i < zs.length := by omega
      have h1 := hc i hi'
      rw [Addr.add_lit] at h1
      rw [h1]
      have hw := hwf zs[i] (List.getElem_mem hi')
      have hd : zs.getD i 0 = zs[i] := by rw [List.getD_eq_getElem?_getD, List.getElem?_eq_getElem hi']; rfl
      simp [Lit.wf, IntKind.min, IntKind.max, IntKind.signed, IntKind.bits] at hw
      rw [hd]
      simp only [List.getElem_map, List.getElem_take, Option.some.injEq, Value.int.injEq, true_and]
      rw [UInt8.toNat_ofNat']
      omega

/-- Bytes that lay there before are there still. -/
theorem Rd.below {w w' : World} {a : Option Addr} {l : List UInt8} (h : Rd w a l) (hb : Below w.heap.size w w') : Rd w' a l := by
  rcases h with rfl | ⟨b, off, rfl, hc⟩
  · exact .inl rfl
  · refine .inr ⟨b, off, rfl, fun i hi => ?_⟩
    rw [hb.cell (World.block_lt_of_cell? w _ (hc i hi))]
    exact hc i hi

theorem Rd.alloc {w : World} {a : Option Addr} {l : List UInt8} (h : Rd w a l) (o : Obj) : Rd (w.alloc o) a l := h.below ((Below.refl _ _).alloc (Nat.le_refl _) o)

theorem cell_now {w wr : World} {b o : Nat} {v : Value} (hb : Below w.heap.size w wr) (h : w.cell? ⟨b, o, none⟩ = some v) : wr.cell? ⟨b, o, none⟩ = some v := by
  rw [hb.cell (World.block_lt_of_cell? w _ h)]
  exact h
/-- A row of bytes of the call's own (from block B on). -/
def Own (B : Nat) (w : World) (v : Value) (l : List UInt8) : Prop := w.ownsRow B 5 1 v l.length (Lib.byteCells l)

theorem byteCells_len (l : List UInt8) : (Lib.byteCells l).length = l.length := by simp [Lib.byteCells]
theorem byteCells_app (l m : List UInt8) : Lib.byteCells (l ++ m) = Lib.byteCells l ++ Lib.byteCells m := by simp [Lib.byteCells]
theorem byteCells_one (l : List UInt8) : ∀ u ∈ Lib.byteCells l, u.oneCell' = true := by
  intro u hu; obtain ⟨_, _, rfl⟩ := List.mem_map.1 hu; rfl

theorem Own.nil (B : Nat) (w : World) : Own B w (.slice none 0 0) [] := World.ownsRow_nil _ _ _ _

/-- '[]byte' of no elements, just made. -/
theorem Own.empty (w : World) : Own w.heap.size (w.alloc (.cells #[] 5)) (.slice (some ⟨w.heap.size, 0, none⟩) 0 0) [] := World.ownsRow_made w #[] 0 (Nat.le_refl _) (by decide) rfl

theorem Own.shape {B : Nat} {w : World} {v : Value} {l : List UInt8} (h : Own B w v l) : ∃ a c, v = .slice a l.length c ∧ Rd w a l := by
  rcases h.2 with ⟨rfl, h0⟩ | ⟨g, cap, cur, rfl, _, hg, _, _, _, htake⟩
  · have : l = [] := List.eq_nil_of_length_eq_zero h0
    subst this
    exact ⟨none, 0, rfl, .inl rfl⟩
  · refine ⟨some ⟨g, 0, none⟩, cap, rfl, .inr ⟨g, 0, rfl, fun i hi => ?_⟩⟩
    have := World.ownsRow.cells (show w.ownsRow B 5 1 (.slice (some ⟨g, 0, none⟩) l.length cap) l.length (Lib.byteCells l) from h) (g := g) rfl i (.int .u8 (l[i]).toNat) (by simp [Lib.byteCells, hi])
    rw [Addr.add_lit, Nat.zero_add] at this
    rw [Nat.zero_add]
    exact this

theorem Own.block {B : Nat} {w : World} {v : Value} {l : List UInt8} (h : Own B w v l) : ∀ k, v.ownBlock = some k → B ≤ k ∧ k < w.heap.size := h.lt

theorem Own.alloc {B : Nat} {w : World} {v : Value} {l : List UInt8} (h : Own B w v l) (o : Obj) : Own B (w.alloc o) v l := World.ownsRow.alloc h o

/-- What a call leaves alone: a world that is as it was below its size. -/
theorem Own.below {B : Nat} {w w' : World} {v : Value} {l : List UInt8} (h : Own B w v l) (hb : Below w.heap.size w w') : Own B w' v l :=
  World.ownsRow.kept (row := none) h ⟨hb.os, hb.tape, hb.output, hb.size, fun k hk _ => hb.block k hk⟩ (by cases v.ownBlock <;> simp)

theorem info_u8 : (Tryd.prog.info? 5).map (fun i => (i.zero, i.size, i.bytes)) = some (some (.int .u8 0), 1, 1) := by kernel_rfl

/-- append(own, bytes...): the bytes go behind what is owned. -/
theorem wpList_append_rd {ops : Array Oper} {rest : List Oper} {o : Oper} {a : Act} {w : World} {Q : Exit → Act → World → Prop} (hgd : o.guard = none) (s x : Operand)
    (ho : o.op = .call { callee := .builtin .append, args := #[s, x], argTypes := #[28, 28] })
    (B : Nat) (v : Value) (l : List UInt8) (hs : a.eval s = v) (hown : Own B w v l) (ad : Option Addr) (m : List UInt8) (n c : Nat) (hx : a.eval x = .slice ad n c) (hn : n = m.length) (hrd : Rd w ad m)
    (hlen : l.length + m.length ≤ 140737488355328) (hB : B ≤ w.heap.size)
    (h : ∀ v' w', Own B w' v' (l ++ m) → w.grownBy w' v.ownBlock → wpList Tryd.prog ops Q rest (a.put o.dst v') w') : wpList Tryd.prog ops Q (o :: rest) a w := by
  subst hn
  obtain ⟨i0, hi, hz0, hz1, hz2⟩ := info_parts info_u8
  have key : ∀ ad' : Addr, (∀ j u, (Lib.byteCells m)[j]? = some u → w.cell? (ad'.add j) = some u) → a.eval x = .slice (some ad') m.length c → wpList Tryd.prog ops Q (o :: rest) a w := by
    intro ad' hc hx'
    refine wpList_append_own w hgd s x 28 ho B 5 i0 (.int .u8 0) 1 1 Tryd.underlying28 hi hz0 hz1 hz2 rfl (by decide) v l.length (Lib.byteCells l) hs hown ad' m.length c (Lib.byteCells m) hx' (by simp [byteCells_len]) hc (byteCells_one m)
      (by unfold maxLen; omega) (by omega) hB ?_
    intro v' w' h1 h2 _
    refine h v' w' ?_ h2
    unfold Own
    rw [byteCells_app, List.length_append]
    exact h1
  rcases hrd with rfl | ⟨b, off, rfl, hc⟩
  · cases ad with
    | some ad' => exact key ad' (fun j u hu => by simp [Lib.byteCells] at hu) hx
    | none =>
      refine wpList_plain hgd fun K hK' => ?_
      have hsz : i0.size = 1 := hz1
      have e0 : (Builtin.append_ #[28, 28] o.type #[v, .slice none 0 c]).run Tryd.prog w = .ok v w := by
        rcases hown.2 with ⟨rfl, h0⟩ | ⟨g, cap, cur, rfl, _, hg, hle, _, _, _⟩
        · simp [Builtin.append_, run_underlying Tryd.underlying28, sizeOf, typeInfo, hi, Builtin.lenOf, Builtin.firstCells]
        · simp [Builtin.append_, run_underlying Tryd.underlying28, sizeOf, typeInfo, hi, Builtin.lenOf, Builtin.firstCells, hle, storeCells]
      unfold Oper.wp
      simp only [List.length_nil] at hx
      simp [execOp, ho, resolve, invoke, builtin, hs, hx, e0, Result.andThen]
      exact hK' _ _ (h v w (by simpa using hown) ⟨rfl, rfl, rfl, Nat.le_refl _, fun _ _ _ => rfl⟩)
  · refine key ⟨b, off, none⟩ (fun j u hu => ?_) hx
    have hj : j < m.length := by have := (List.getElem?_eq_some_iff.1 hu).1; simpa [Lib.byteCells] using this
    have e1 : u = .int .u8 (m[j]).toNat := by
      simp [Lib.byteCells, hj] at hu
      exact hu.symm
    rw [e1, ← hc j hj, Addr.add_lit]

/-- A world in which one row of the call's own has grown. -/
theorem below_grow {B : Nat} {a w w' : World} {v : Value} {l : List UInt8} (h : Below B a w) (hown : Own B w v l) (hg : w.grownBy w' v.ownBlock) (hB : B ≤ w.heap.size) : Below B a w' :=
  h.grown hg hB (fun k hk => (hown.lt k hk).1)

theorem Rd.grown {w w' : World} {row : Option Nat} {a : Option Addr} {l : List UInt8} (h : Rd w a l) (hg : w.grownBy w' row) (hne : ∀ b off s, a = some ⟨b, off, s⟩ → some b ≠ row) : Rd w' a l := by
  rcases h with rfl | ⟨b, off, rfl, hc⟩
  · exact .inl rfl
  · exact .inr ⟨b, off, rfl, fun i hi => hg.cell (hc i hi) (hne b off none rfl)⟩

/-- A block of another kind stands as it stood while a row of bytes grows. -/
theorem Own.other {B g : Nat} {w w' : World} {v : Value} {l : List UInt8} {cs : Array Value} {T : TypeId} {fr : Nat × Nat} (h : Own B w v l) (hg : w.grownBy w' v.ownBlock) (hb : w.heap[g]? = some (.cells cs T fr)) (hT : T ≠ 5) :
    w'.heap[g]? = some (.cells cs T fr) := by
  rw [hg.block g (Array.getElem?_eq_some_iff.1 hb).1 ?_]
  · exact hb
  · intro e
    rcases h.2 with ⟨rfl, _⟩ | ⟨g', cap, cur, rfl, _, hgg, _⟩
    · simp [Value.ownBlock] at e
    · simp [Value.ownBlock] at e
      subst e
      rw [hb] at hgg
      simp at hgg
      exact hT hgg.2.1

theorem block_alloc {w : World} {g : Nat} {x : Obj} (h : w.heap[g]? = some x) (o : Obj) : (w.alloc o).heap[g]? = some x := by
  rw [Below.heap_alloc _ _ _ (Array.getElem?_eq_some_iff.1 h).1]
  exact h
theorem block_below {w w' : World} {g : Nat} {x : Obj} (h : w.heap[g]? = some x) (hb : Below w.heap.size w w') : w'.heap[g]? = some x := by
  rw [hb.block g (Array.getElem?_eq_some_iff.1 h).1]
  exact h

/-- The cells of numbers. -/
def ints (ns : List Nat) : List Value := ns.map fun n : Nat => Value.int .i64 (n : Int)
theorem cell_ints {w : World} {g : Nat} {ns : List Nat} {T : TypeId} {fr : Nat × Nat} (h : w.heap[g]? = some (.cells (ints ns).toArray T fr)) {j : Nat} (hj : j < ns.length) : w.cell? ⟨g, j, none⟩ = some (.int .i64 (ns[j] : Nat)) := by
  rw [Lib.cell_of_heap h]
  simp [ints, hj]

/-- string(b). -/
theorem str_of_rd {w : World} {a : Option Addr} {l : List UInt8} (h : Rd w a l) (n c : Nat) (hn : n = l.length) :
    (convert 28 9 (.slice a n c)).run Tryd.prog w = .ok (.string ⟨l.toArray⟩) w := by
  subst hn
  rcases h with rfl | ⟨b, off, rfl, hc⟩
  · cases a with
    | none =>
      rw [run_convert_bytes_string w 28 9 5 none _ c Tryd.underlying28 Tryd.underlying5 Tryd.underlying9]
      simp [Conv.bytesToString]
      rfl
    | some x => exact run_convert_bytes_back w 28 9 5 x c [] Tryd.underlying28 Tryd.underlying5 Tryd.underlying9 (by simp)
  · exact run_convert_bytes_back w 28 9 5 _ c l Tryd.underlying28 Tryd.underlying5 Tryd.underlying9 (fun j hj => by rw [Addr.add_lit]; exact hc j hj)

/-- The cells of bytes that are numbers. -/
def ints8 (ns : List Nat) : List Value := ns.map fun n : Nat => Value.int .u8 (n : Int)
theorem cell_ints8 {w : World} {g : Nat} {ns : List Nat} {T : TypeId} {fr : Nat × Nat} (h : w.heap[g]? = some (.cells (ints8 ns).toArray T fr)) {j : Nat} (hj : j < ns.length) : w.cell? ⟨g, j, none⟩ = some (.int .u8 (ns[j] : Nat)) := by
  rw [Lib.cell_of_heap h]
  simp [ints8, hj]
end Go.Proofs.YtbblnlddiafkhaaDoor
