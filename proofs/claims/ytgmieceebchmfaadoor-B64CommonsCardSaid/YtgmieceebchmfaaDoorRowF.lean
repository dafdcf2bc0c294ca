/- A row of bytes made of a string: written in place, appended to. -/
import Derived.Test.YtgmieceebchmfaaDoorTl
import Derived.Test.YtgmieceebchmfaaDoorApp
set_option linter.unusedVariables false
namespace Go.Proofs.YtgmieceebchmfaaDoor
open Go.RowKit

/-- The bytes l in a block g from block B on, none of them frozen. -/
def Tf (B : Nat) (w : World) (v : Value) (l : List UInt8) : Prop :=
  ∃ g cap cur fr, v = .slice (some ⟨g, 0, none⟩) l.length cap ∧ B ≤ g ∧ w.heap[g]? = some (.cells cur 5 fr) ∧ (fr.1 = fr.2 ∨ cap ≤ fr.1) ∧ l.length ≤ cap ∧ cap ≤ cur.size ∧ cap ≤ maxLen ∧ ∀ j (h : j < l.length), cur[j]? = some (.int .u8 (l[j]).toNat)
theorem frozen_no {w : World} {g cap : Nat} {cur : Array Value} {T : TypeId} {fr : Nat × Nat} (hg : w.heap[g]? = some (.cells cur T fr)) (hf : fr.1 = fr.2 ∨ cap ≤ fr.1) (o : Nat) (ho : o < cap) : w.frozen? ⟨g, o, none⟩ = false := by
  unfold World.frozen?
  simp only [hg]
  rcases hf with h | h
  · simp; omega
  · simp; omega
theorem Tf.shape {B : Nat} {w : World} {v : Value} {l : List UInt8} (h : Tf B w v l) : ∃ g c, v = .slice (some ⟨g, 0, none⟩) l.length c ∧ B ≤ g ∧ g < w.heap.size ∧ Rd w (some ⟨g, 0, none⟩) l ∧ (∀ j (hj : j < l.length), w.cell? ⟨g, j, none⟩ = some (.int .u8 (l[j]).toNat)) ∧ (∀ j, j < l.length → w.frozen? ⟨g, j, none⟩ = false) := by
  obtain ⟨g, cap, cur, fr, rfl, hB, hg, hf, hc, _, _, hl⟩ := h
  exact ⟨g, cap, rfl, hB, (Array.getElem?_eq_some_iff.1 hg).1, .inr ⟨g, 0, rfl, fun i hi => by rw [Lib.cell_of_heap hg, Nat.zero_add]; exact hl i hi⟩, fun j hj => by rw [Lib.cell_of_heap hg]; exact hl j hj, fun j hj => frozen_no hg hf j (by omega)⟩
theorem Tf.keep {B : Nat} {w w' : World} {v : Value} {l : List UInt8} (h : Tf B w v l) (hb : Below w.heap.size w w') : Tf B w' v l := by
  obtain ⟨g, cap, cur, fr, rfl, hB, hg, h⟩ := h
  exact ⟨g, cap, cur, fr, rfl, hB, (hb.block _ (Array.getElem?_eq_some_iff.1 hg).1).trans hg, h⟩
theorem Tf.of_own {B : Nat} {w : World} {v : Value} {l : List UInt8} (h : Own B w v l) (hl : l ≠ []) : Tf B w v l := by
  rcases h.2 with ⟨rfl, h0⟩ | ⟨g, cap, cur, rfl, hB, hg, hlc, hm, hsz, htake⟩
  · exact absurd (List.eq_nil_of_length_eq_zero h0) hl
  · refine ⟨g, cap, cur, (0, 0), rfl, hB, hg, .inl rfl, hlc, by omega, hm, fun j hj => ?_⟩
    have h1 : (cur.toList.take (l.length * 1))[j]? = (Lib.byteCells l)[j]? := by rw [htake]
    rw [List.getElem?_take, if_pos (by omega)] at h1
    rw [← Array.getElem?_toList, h1]
    simp [Lib.byteCells, hj]
theorem Tf.set {B : Nat} {w : World} {g n c : Nat} {l : List UInt8} (h : Tf B w (.slice (some ⟨g, 0, none⟩) n c) l) (j : Nat) (x : UInt8) (hj : j < l.length) : Tf B (w.setCell ⟨g, j, none⟩ (.int .u8 x.toNat)) (.slice (some ⟨g, 0, none⟩) n c) (l.set j x) := by
  obtain ⟨g', cap, cur, fr, he, hB, hg, hf, hc, hs, hm, hl⟩ := h
  simp at he
  obtain ⟨rfl, rfl, rfl⟩ := he
  refine ⟨g, c, cur.setIfInBounds j (.int .u8 x.toNat), fr, by simp, hB, by simp [World.setCell, Array.getElem?_modify, hg], hf, by simpa using hc, by simpa using hs, hm, fun i hi => ?_⟩
  simp only [List.length_set] at hi
  by_cases e : i = j
  · subst e
    have hi2 : i < cur.size := by omega
    simp [hi2]
  · rw [Array.getElem?_setIfInBounds_ne (fun h => e h.symm), hl i hi, List.getElem_set_ne (fun h => e h.symm)]
/-- []byte(s) -/
theorem tf_of_str (l : List UInt8) (w : World) (hl : l.length ≤ 1000000) : ∃ g c w', (convert 9 42 (.string ⟨l.toArray⟩)).run Tryd.prog w = .ok (.slice (some ⟨g, 0, none⟩) l.length c) w' ∧ Below w.heap.size w w' ∧ Tf w.heap.size w' (.slice (some ⟨g, 0, none⟩) l.length c) l := by
  have h := Lib.run_convert_string_bytes (P := Tryd.prog) w 9 42 5 ⟨l.toArray⟩ Tryd.underlying9 Tryd.underlying42 Tryd.underlying5
  have hs : (⟨l.toArray⟩ : ByteArray).size = l.length := by simp [ByteArray.size]
  rw [hs] at h
  have hge := grownCap_ge w l.length 0 5
  have hle := grownCap_le_maxLen w l.length 0 5 (by unfold maxLen; omega)
  have hcs : (Lib.bytesCells w 5 ⟨l.toArray⟩).size = grownCap w l.length 0 5 := by
    unfold Lib.bytesCells
    rw [hs]
    simp
    omega
  refine ⟨_, _, _, h, ⟨rfl, rfl, rfl, by rw [Lib.bytesWorld_size]; omega, fun k hk => Lib.bytesWorld_at_old _ _ _ _ hk⟩, ?_⟩
  refine ⟨w.heap.size, grownCap w l.length 0 5, _, _, rfl, Nat.le_refl _, Lib.bytesWorld_at_new w 5 ⟨l.toArray⟩, .inr ?_, hge, by omega, hle, fun j hj => ?_⟩
  · rw [hcs]; exact Nat.le_refl _
  · simp [Lib.bytesCells, Array.getElem?_append, hj]
/-- append(l, m...) -/
theorem run_append_tf (ty : TypeId) {B : Nat} {w : World} {v : Value} {l : List UInt8} (h : Tf B w v l) {x : Addr} {m : List UInt8} {n c : Nat} (hn : n = m.length) (hm : m ≠ []) (hrd : Rd w (some x) m) (hlen : l.length + m.length ≤ 140737488355328) (hB : B ≤ w.heap.size) :
    ∃ v' w', (Builtin.append_ #[42, 42] ty #[v, .slice (some x) n c]).run Tryd.prog w = .ok v' w' ∧ Tf B w' v' (l ++ m) ∧ w.grownBy w' v.ownBlock := by
  subst hn
  obtain ⟨i0, hi, hz0, hz1, hz2⟩ := info_u8'
  have hc : ∀ j u, (Lib.byteCells m)[j]? = some u → w.cell? (x.add j) = some u := by
    intro j u hu
    have hj : j < m.length := by have := (List.getElem?_eq_some_iff.1 hu).1; simpa [Lib.byteCells] using this
    rcases hrd with rfl | ⟨b, off, e, hc⟩
    · simp at hj
    · simp at e
      subst e
      have e1 : u = .int .u8 (m[j]).toNat := by
        simp [Lib.byteCells, hj] at hu
        exact hu.symm
      rw [e1, ← hc j hj, Addr.add_lit]
  obtain ⟨g, cap, cur, fr, rfl, hBg, hg, hf, hlc, hsz, hmx, hl⟩ := h
  by_cases hroom : l.length + m.length ≤ cap
  · have hcur : ∀ j, j < (Lib.byteCells m).length → w.cell? ⟨g, 0 + l.length * i0.size + j, none⟩ = cur[l.length + j]? := by
      intro j hj
      rw [hz1, Nat.mul_one, Nat.zero_add, Lib.cell_of_heap hg]
    have h1 := run_append_room_cells (P := Tryd.prog) w 42 ty 5 i0 Tryd.underlying42 hi g 0 l.length cap x m.length c (Lib.byteCells m) (by simp [byteCells_len, hz1]) hc (byteCells_one m) hroom
      (fun j hj => by
        rw [hcur j hj]
        rw [byteCells_len] at hj
        rw [Array.getElem?_eq_getElem (by omega)]
        rfl) (fun j hj => frozen_no hg hf _ (by rw [byteCells_len] at hj; rw [hz1]; omega))
    rw [hz1, Nat.mul_one, Nat.zero_add] at h1
    obtain ⟨cs', f1, f2, f3, f4, f5⟩ := setCells_block (Lib.byteCells m) l.length w cur hg
    refine ⟨_, _, h1, ⟨g, cap, cs', fr, by rw [List.length_append], hBg, f1, hf, by rw [List.length_append]; omega, by omega, hmx, ?_⟩, ⟨setCells_os _ _ _ _, setCells_tape _ _ _ _, setCells_output _ _ _ _, Nat.le_of_eq (setCells_size _ _ _ _).symm, ?_⟩⟩
    · intro j hj
      rw [List.length_append] at hj
      by_cases hjl : j < l.length
      · rw [f3 _ hjl, hl j hjl, List.getElem_append_left hjl]
      · have := f4 (j - l.length) (by rw [byteCells_len]; omega) (by omega)
        rw [show l.length + (j - l.length) = j by omega] at this
        rw [this, List.getElem_append_right (by omega)]
        simp [Lib.byteCells]
    · intro k hk hne
      exact World.heap_setCells_other w g _ _ hk (fun e => hne (by subst e; rfl))
  · obtain ⟨v', w', e1, e2, e3⟩ := run_append_arg_grows (P := Tryd.prog) w 42 ty 5 i0 (.int .u8 0) 1 1 Tryd.underlying42 hi hz0 hz1 hz2 rfl (by decide) ⟨g, 0, none⟩ l.length cap (Lib.byteCells l) (by simp [byteCells_len])
      (fun j u hu => by
        have hj : j < l.length := by have := (List.getElem?_eq_some_iff.1 hu).1; simpa [Lib.byteCells] using this
        have e1 : u = .int .u8 (l[j]).toNat := by
          simp [Lib.byteCells, hj] at hu
          exact hu.symm
        rw [Addr.add_lit, Nat.zero_add, Lib.cell_of_heap hg, hl j hj, e1])
      x m.length c (Lib.byteCells m) (by simp [byteCells_len]) hc (by omega) (by unfold maxLen; omega) (by omega)
    have hown : Own w.heap.size w' v' (l ++ m) := by
      unfold Own
      rw [byteCells_app, List.length_append]
      exact e2
    obtain ⟨g', cap', cur', fr', h1, h2, h3⟩ := Tf.of_own hown (by simp [hm])
    exact ⟨v', w', e1, ⟨g', cap', cur', fr', h1, Nat.le_trans hB h2, h3⟩, ⟨e3.os, e3.tape, e3.output, e3.size, fun k hk _ => e3.block k hk (by simp)⟩⟩
/-- .. for the walk: one byte. -/
theorem wpList_append_tf {ops : Array Oper} {rest : List Oper} {o : Oper} {a : Act} {w : World} {Q : Exit → Act → World → Prop} (hgd : o.guard = none) (s x : Operand)
    (ho : o.op = .call { callee := .builtin .append, args := #[s, x], argTypes := #[42, 42] })
    (B : Nat) (v : Value) (l : List UInt8) (hs : a.eval s = v) (h : Tf B w v l) (ad : Addr) (m : List UInt8) (n c : Nat) (hx : a.eval x = .slice (some ad) n c) (hn : n = m.length) (hm : m ≠ []) (hrd : Rd w (some ad) m)
    (hlen : l.length + m.length ≤ 140737488355328) (hB : B ≤ w.heap.size)
    (hk : ∀ v' w', Tf B w' v' (l ++ m) → w.grownBy w' v.ownBlock → wpList Tryd.prog ops Q rest (a.put o.dst v') w') : wpList Tryd.prog ops Q (o :: rest) a w := by
  refine wpList_plain hgd fun K hK' => ?_
  obtain ⟨v', w', h1, h2, h3⟩ := run_append_tf o.type h hn hm hrd hlen hB
  unfold Oper.wp execOp
  simp only [ho, resolve, invoke, builtin, Sem.run_bind, Sem.run_pure, Result.andThen_ok, List.map_toArray, List.map_cons, List.map_nil, hs, hx]
  erw [h1]
  exact hK' _ _ (hk v' w' h2 h3)
theorem below_tf {B : Nat} {a w w' : World} {v : Value} {l : List UInt8} (h : Below B a w) (ht : Tf B w v l) (hg : w.grownBy w' v.ownBlock) (hB : B ≤ w.heap.size) : Below B a w' := by
  refine h.grown hg hB fun k hk => ?_
  obtain ⟨g, c, rfl, hB, _⟩ := ht.shape
  simp [Value.ownBlock] at hk
  omega
end Go.Proofs.YtgmieceebchmfaaDoor
