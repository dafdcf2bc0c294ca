/- append(own, literal bytes..): what becomes of the rest. -/
import Derived.Test.YtbblnlddiafkhaaDoorRd
set_option linter.unusedVariables false
namespace Go.Proofs.YtbblnlddiafkhaaDoor
open Go.RowKit

/-- What append(own, m...) leaves, m just written out. -/
structure Apped (B : Nat) (w0 w' : World) (v' : Value) (l : List UInt8) : Prop where
  own : Own B w' v' l
  below : ∀ a0, Below B a0 w0 → Below B a0 w'
  block : ∀ (g : Nat) (cs : Array Value) (T : TypeId) (fr : Nat × Nat), w0.heap[g]? = some (.cells cs T fr) → T ≠ 5 → w'.heap[g]? = some (.cells cs T fr)

theorem wpList_append_lit {ops : Array Oper} {rest : List Oper} {o : Oper} {a : Act} {w : World} {Q : Exit → Act → World → Prop} (hgd : o.guard = none) (s x : Operand)
    (ho : o.op = .call { callee := .builtin .append, args := #[s, x], argTypes := #[28, 28] })
    (B : Nat) (v : Value) (l : List UInt8) (hs : a.eval s = v) (w0 : World) (hown : Own B w0 v l) (m : List UInt8) (cs : Array Value) (hcs : cs.toList = Lib.byteCells m) (n c : Nat)
    (hw : w = w0.alloc (.cells cs 5)) (g : Nat) (hx : a.eval x = .slice (some ⟨g, 0, none⟩) n c) (hg : w0.heap.size = g) (hn : n = m.length)
    (hlen : l.length + m.length ≤ 140737488355328) (hB : B ≤ w0.heap.size)
    (h : ∀ v' w', Apped B w0 w' v' (l ++ m) → wpList Tryd.prog ops Q rest (a.put o.dst v') w') : wpList Tryd.prog ops Q (o :: rest) a w := by
  subst hw hg
  refine wpList_append_rd hgd s x ho B v l hs (hown.alloc _) _ m n c hx hn (Rd.of_cells (heap_alloc_new w0 _) m fun i hi => ?_) hlen (by simp; omega) fun v' w' h1 h2 => h v' w' ⟨h1, fun a0 ha => ?_, fun g cs' T fr hg hT => ?_⟩
  · rw [← Array.getElem?_toList, hcs]
    simp [Lib.byteCells, hi]
  · exact below_grow (ha.alloc hB _) (hown.alloc _) h2 (by simp; omega)
  · exact Own.other (hown.alloc _) h2 (block_alloc hg _) hT
/-- l[i] of a string. -/
theorem str_at (l : List UInt8) (i : Nat) (h : i < l.length) (w : World) : (Instr.index 9 (.string ⟨l.toArray⟩) (.int .i64 (i : Int))).run Tryd.prog w = .ok (.int .u8 (l[i].toNat : Nat)) w := by
  rw [run_index_string w 9 ⟨l.toArray⟩ .i64 _ Tryd.underlying9, dif_pos (by simpa [ByteArray.size] using h)]
  rfl
theorem str_head (l : List UInt8) (j : Nat) (h : j ≤ l.length) (J : Int) (hJ : J = (j : Int)) (w : World) : (Instr.slice 9 (.string ⟨l.toArray⟩) none (some (.int .i64 J)) none).run Tryd.prog w = .ok (.string ⟨(l.take j).toArray⟩) w := by
  subst hJ
  rw [run_slice_string_h w 9 ⟨l.toArray⟩ Tryd.underlying9 .i64 (j : Int) (by omega) (by simp [ByteArray.size]; omega)]
  congr 2
  apply ByteArray.ext
  apply Array.ext'
  simp [ByteArray.data_extract]
theorem str_tail (l : List UInt8) (i : Nat) (h : i ≤ l.length) (I : Int) (hI : I = (i : Int)) (w : World) : (Instr.slice 9 (.string ⟨l.toArray⟩) (some (.int .i64 I)) none none).run Tryd.prog w = .ok (.string ⟨(l.drop i).toArray⟩) w := by
  subst hI
  rw [run_slice_string_l w 9 ⟨l.toArray⟩ Tryd.underlying9 .i64 (i : Int) (by omega) (by simp [ByteArray.size]; omega)]
  congr 2
  apply ByteArray.ext
  apply Array.ext'
  simp [ByteArray.data_extract, ByteArray.size, List.take_of_length_le]
/-- []byte(l). -/
theorem bytes_of_str (l : List UInt8) (w : World) : ∃ c w', (convert 9 28 (.string ⟨l.toArray⟩)).run Tryd.prog w = .ok (.slice (some ⟨w.heap.size, 0, none⟩) l.length c) w' ∧ Below w.heap.size w w' ∧ Rd w' (some ⟨w.heap.size, 0, none⟩) l ∧ w'.heap.size = w.heap.size + 1 := by
  have h := Lib.run_convert_string_bytes (P := Tryd.prog) w 9 28 5 ⟨l.toArray⟩ Tryd.underlying9 Tryd.underlying28 Tryd.underlying5
  refine ⟨_, _, h, ?_, ?_, Lib.bytesWorld_size _ _ _⟩
  · exact ⟨rfl, rfl, rfl, by rw [Lib.bytesWorld_size]; omega, fun k hk => Lib.bytesWorld_at_old _ _ _ _ hk⟩
  · refine .inr ⟨w.heap.size, 0, rfl, fun i hi => ?_⟩
    rw [Nat.zero_add, Lib.bytesWorld_cell w 5 ⟨l.toArray⟩ i (by simpa [ByteArray.size] using hi)]
    simp [List.getD_eq_getElem?_getD, hi]
end Go.Proofs.YtbblnlddiafkhaaDoor
