/- Rows of bytes of the call's own that may begin amid their block; what a call leaves as it was. -/
import Derived.Test.YtbblnlddiafkhaaDoorRd
import Derived.Maps.AppendAt
import Derived.ArgAppend
import Derived.Deep.Upon
set_option linter.unusedVariables false
namespace Go.Proofs.YtbblnlddiafkhaaDoor
open Go.RowKit

/-- The bytes l: nothing at all, or in a block g (from block B on), from some place on. -/
def Tl (B : Nat) (w : World) (v : Value) (l : List UInt8) : Prop :=
  (v = .slice none 0 0 ∧ l = []) ∨ ∃ g off cap cur, v = .slice (some ⟨g, off, none⟩) l.length cap ∧ B ≤ g ∧ w.heap[g]? = some (.cells cur 5 (0, 0)) ∧ l.length ≤ cap ∧ off + cap ≤ cur.size ∧ cap ≤ maxLen ∧
    ∀ j (h : j < l.length), cur[off + j]? = some (.int .u8 (l[j]).toNat)

theorem Tl.shape {B : Nat} {w : World} {v : Value} {l : List UInt8} (h : Tl B w v l) : ∃ a c, v = .slice a l.length c ∧ Rd w a l ∧ l.length ≤ c ∧ c ≤ maxLen ∧ Value.ownBlock v = a.map (·.block) := by
  rcases h with ⟨rfl, rfl⟩ | ⟨g, off, cap, cur, rfl, _, hg, hc, _, hm, hl⟩
  · exact ⟨none, 0, rfl, .inl rfl, Nat.le_refl _, by decide, rfl⟩
  · exact ⟨_, cap, rfl, .inr ⟨g, off, rfl, fun i hi => by rw [Lib.cell_of_heap hg]; exact hl i hi⟩, hc, hm, rfl⟩
theorem Tl.nil (B : Nat) (w : World) : Tl B w (.slice none 0 0) [] := .inl ⟨rfl, rfl⟩
theorem Tl.of_own {B : Nat} {w : World} {v : Value} {l : List UInt8} (h : Own B w v l) : Tl B w v l := by
  rcases h.2 with ⟨rfl, h0⟩ | ⟨g, cap, cur, rfl, hB, hg, hlc, hm, hsz, htake⟩
  · exact .inl ⟨rfl, List.eq_nil_of_length_eq_zero h0⟩
  · refine .inr ⟨g, 0, cap, cur, rfl, hB, hg, hlc, by omega, hm, fun j hj => ?_⟩
    rw [Nat.zero_add]
    have h1 : (cur.toList.take (l.length * 1))[j]? = (Lib.byteCells l)[j]? := by rw [htake]
    rw [List.getElem?_take, if_pos (by omega)] at h1
    rw [← Array.getElem?_toList, h1]
    simp [Lib.byteCells, hj]
theorem Tl.lt {B : Nat} {w : World} {v : Value} {l : List UInt8} (h : Tl B w v l) : ∀ k, v.ownBlock = some k → B ≤ k ∧ k < w.heap.size := by
  intro k hk
  rcases h with ⟨rfl, rfl⟩ | ⟨g, off, cap, cur, rfl, hB, hg, _⟩
  · cases hk
  · simp [Value.ownBlock] at hk
    subst hk
    exact ⟨hB, (Array.getElem?_eq_some_iff.1 hg).1⟩
theorem Tl.mono {B B' : Nat} {w : World} {v : Value} {l : List UInt8} (h : Tl B w v l) (hB : B' ≤ B) : Tl B' w v l :=
  h.imp id fun ⟨g, off, cap, cur, h1, h2, h3⟩ => ⟨g, off, cap, cur, h1, Nat.le_trans hB h2, h3⟩
/-- The relation looks at its own block alone. -/
theorem Tl.keep {B : Nat} {w w' : World} {v : Value} {l : List UInt8} (h : Tl B w v l) (hk : ∀ k, v.ownBlock = some k → w'.heap[k]? = w.heap[k]?) : Tl B w' v l := by
  rcases h with h | ⟨g, off, cap, cur, rfl, hB, hg, h⟩
  · exact .inl h
  · exact .inr ⟨g, off, cap, cur, rfl, hB, by rw [hk g rfl]; exact hg, h⟩
theorem Tl.kind {B : Nat} {w : World} {v : Value} {l : List UInt8} (h : Tl B w v l) : ∀ k, v.ownBlock = some k → ∃ cur, w.heap[k]? = some (.cells cur 5 (0, 0)) := by
  intro k hk
  rcases h with ⟨rfl, rfl⟩ | ⟨g, off, cap, cur, rfl, hB, hg, _⟩
  · cases hk
  · simp [Value.ownBlock] at hk
    subst hk
    exact ⟨cur, hg⟩
/-- l[n:] -/
theorem Tl.drop {B : Nat} {w : World} {a : Option Addr} {len c : Nat} {l : List UInt8} (h : Tl B w (.slice a len c) l) (n : Nat) (hn : n ≤ l.length) : Tl B w (sliced a n len c 1) (l.drop n) := by
  unfold sliced
  rcases h with ⟨he, rfl⟩ | ⟨g, off, cap, cur, he, hB, hg, hlc, hsz, hm, hl⟩
  · simp at he hn
    obtain ⟨rfl, rfl, rfl⟩ := he
    subst hn
    exact .inl ⟨rfl, rfl⟩
  · simp at he
    obtain ⟨rfl, rfl, rfl⟩ := he
    by_cases e : c = n
    · refine .inr ⟨g, off, 0, cur, ?_, hB, hg, ?_, by omega, by omega, ?_⟩
      · simp [e]
      · rw [List.length_drop]; omega
      · intro j hj
        rw [List.length_drop] at hj
        omega
    · refine .inr ⟨g, off + n, c - n, cur, ?_, hB, hg, ?_, by omega, by omega, ?_⟩
      · simp [e, Addr.add_lit]
      · rw [List.length_drop]; omega
      · intro j hj
        rw [List.length_drop] at hj
        have := hl (n + j) (by omega)
        rw [show off + n + j = off + (n + j) by omega, this]
        simp
theorem setCells_block {g : Nat} {T : TypeId} {fr : Nat × Nat} : ∀ (vs : List Value) (o : Nat) (w : World) (cs : Array Value), w.heap[g]? = some (.cells cs T fr) →
    ∃ cs', (w.setCells g o vs).heap[g]? = some (.cells cs' T fr) ∧ cs'.size = cs.size ∧ (∀ j, j < o → cs'[j]? = cs[j]?) ∧ (∀ j (h : j < vs.length), o + j < cs.size → cs'[o + j]? = some vs[j]) ∧ ∀ j, o + vs.length ≤ j → cs'[j]? = cs[j]?
  | [], o, w, cs, h => ⟨cs, h, rfl, fun _ _ => rfl, fun j h => by simp at h, fun _ _ => rfl⟩
  | v :: r, o, w, cs, h => by
    have h2 : (w.setCell ⟨g, o, none⟩ v).heap[g]? = some (.cells (cs.setIfInBounds o v) T fr) := by simp [World.setCell, Array.getElem?_modify, h]
    obtain ⟨cs', e1, e2, e3, e4, e5⟩ := setCells_block r (o + 1) _ _ h2
    refine ⟨cs', e1, by simpa using e2, fun j hj => ?_, fun j hj hlt => ?_, fun j hj => ?_⟩
    · rw [e3 j (by omega), Array.getElem?_setIfInBounds_ne (by omega)]
    · cases j with
      | zero =>
        rw [Nat.add_zero] at hlt ⊢
        rw [e3 o (by omega)]
        simp [hlt]
      | succ j =>
        have := e4 j (by simpa using hj) (by simp; omega)
        rw [show o + (j + 1) = o + 1 + j by omega, this]
        rfl
    · simp at hj
      rw [e5 j (by omega), Array.getElem?_setIfInBounds_ne (by omega)]
theorem setCells_size (g : Nat) : ∀ (vs : List Value) (o : Nat) (w : World), (w.setCells g o vs).heap.size = w.heap.size
  | [], _, _ => rfl
  | v :: r, o, w => by rw [World.setCells, setCells_size g r]; simp [World.setCell]
theorem setCells_tape (g : Nat) : ∀ (vs : List Value) (o : Nat) (w : World), (w.setCells g o vs).tape = w.tape
  | [], _, _ => rfl
  | v :: r, o, w => by rw [World.setCells, setCells_tape g r]; rfl
theorem setCells_output (g : Nat) : ∀ (vs : List Value) (o : Nat) (w : World), (w.setCells g o vs).output = w.output
  | [], _, _ => rfl
  | v :: r, o, w => by rw [World.setCells, setCells_output g r]; rfl
theorem setCells_os (g : Nat) : ∀ (vs : List Value) (o : Nat) (w : World), (w.setCells g o vs).os = w.os
  | [], _, _ => rfl
  | v :: r, o, w => by rw [World.setCells, setCells_os g r]; rfl

theorem info_u8' : ∃ i, Tryd.prog.info? 5 = some i ∧ i.zero = some (.int .u8 0) ∧ i.size = 1 ∧ i.bytes = 1 := info_parts info_u8

/-- append(l, m...) -/
theorem run_append_tl (ty : TypeId) {B : Nat} {w : World} {v : Value} {l : List UInt8} (h : Tl B w v l) {ad : Option Addr} {m : List UInt8} {n c : Nat} (hn : n = m.length) (hrd : Rd w ad m) (hlen : l.length + m.length ≤ 140737488355328) (hB : B ≤ w.heap.size) :
    ∃ v' w', (Builtin.append_ #[28, 28] ty #[v, .slice ad n c]).run Tryd.prog w = .ok v' w' ∧ Tl B w' v' (l ++ m) ∧ w.grownBy w' v.ownBlock ∧ (v'.ownBlock = v.ownBlock ∨ ∃ k, v'.ownBlock = some k ∧ w.heap.size ≤ k) := by
  subst hn
  obtain ⟨i0, hi, hz0, hz1, hz2⟩ := info_u8'
  cases ad with
  | none =>
    have hm : m = [] := by
      rcases hrd with h | ⟨_, _, h, _⟩
      · exact h
      · cases h
    subst hm
    refine ⟨v, w, ?_, by simpa using h, ⟨rfl, rfl, rfl, Nat.le_refl _, fun _ _ _ => rfl⟩, .inl rfl⟩
    obtain ⟨a, cp, rfl, _, hle, _⟩ := h.shape
    exact run_append_nothing w 28 28 ty 5 i0 Tryd.underlying28 hi a _ cp hle _ (Src.ofNil w Tryd.underlying28 c)
  | some x =>
    have hc : ∀ j u, (Lib.byteCells m)[j]? = some u → w.cell? (x.add j) = some u := by
      intro j u hu
      have hj : j < m.length := by have := (List.getElem?_eq_some_iff.1 hu).1; simpa [Lib.byteCells] using this
      rcases hrd with rfl | ⟨b, off, e, hc⟩
      · simp at hj
      · simp at e
        subst e
        have e1 : u = .int .u8 (m[j]).toNat := by
          simp [Lib.byteCells, hj] at hu
          exact hu.symm
        rw [e1, ← hc j hj, Addr.add_lit]
    rcases h with ⟨rfl, rfl⟩ | ⟨g, off, cap, cur, rfl, hBg, hg, hlc, hsz, hmx, hl⟩
    · obtain ⟨v', w', e1, e2, e3, _, e5⟩ := run_append_own_at (P := Tryd.prog) w B 28 ty 5 i0 (.int .u8 0) 1 1 Tryd.underlying28 hi hz0 hz1 hz2 rfl (by decide) (.slice none 0 0) 0 [] (World.ownsRow_nil _ _ _ _) x m.length c (Lib.byteCells m) (by simp [byteCells_len]) hc (byteCells_one m) (by simp at hlen; unfold maxLen; omega) (by simp at hlen; omega) hB
      refine ⟨v', w', e1, Tl.of_own ?_, e3, e5.imp id fun h => ⟨_, h, Nat.le_refl _⟩⟩
      unfold Own
      simpa using e2
    · by_cases hroom : l.length + m.length ≤ cap
      · have hcur : ∀ j, j < (Lib.byteCells m).length → w.cell? ⟨g, off + l.length * i0.size + j, none⟩ = cur[off + l.length + j]? := by
          intro j hj
          rw [hz1, Nat.mul_one, Lib.cell_of_heap hg]
        have h1 := run_append_room_cells (P := Tryd.prog) w 28 ty 5 i0 Tryd.underlying28 hi g off l.length cap x m.length c (Lib.byteCells m) (by simp [byteCells_len, hz1]) hc (byteCells_one m) hroom
          (fun j hj => by
            rw [hcur j hj]
            rw [byteCells_len] at hj
            rw [Array.getElem?_eq_getElem (by omega)]
            rfl) (fun j hj => Lib.frozen_of_heap hg _)
        rw [hz1, Nat.mul_one] at h1
        obtain ⟨cs', f1, f2, f3, f4, f5⟩ := setCells_block (Lib.byteCells m) (off + l.length) w cur hg
        refine ⟨_, _, h1, .inr ⟨g, off, cap, cs', by rw [List.length_append], hBg, f1, by rw [List.length_append]; omega, by omega, hmx, ?_⟩, ⟨setCells_os _ _ _ _, setCells_tape _ _ _ _, setCells_output _ _ _ _, Nat.le_of_eq (setCells_size _ _ _ _).symm, ?_⟩, .inl rfl⟩
        · intro j hj
          rw [List.length_append] at hj
          by_cases hjl : j < l.length
          · rw [f3 _ (by omega), hl j hjl, List.getElem_append_left hjl]
          · have := f4 (j - l.length) (by rw [byteCells_len]; omega) (by omega)
            rw [show off + l.length + (j - l.length) = off + j by omega] at this
            rw [this, List.getElem_append_right (by omega)]
            simp [Lib.byteCells]
        · intro k hk hne
          exact World.heap_setCells_other w g _ _ hk (fun e => hne (by subst e; rfl))
      · obtain ⟨v', w', e1, e2, e3⟩ := run_append_arg_grows (P := Tryd.prog) w 28 ty 5 i0 (.int .u8 0) 1 1 Tryd.underlying28 hi hz0 hz1 hz2 rfl (by decide) ⟨g, off, none⟩ l.length cap (Lib.byteCells l) (by simp [byteCells_len])
          (fun j u hu => by
            have hj : j < l.length := by have := (List.getElem?_eq_some_iff.1 hu).1; simpa [Lib.byteCells] using this
            have e1 : u = .int .u8 (l[j]).toNat := by
              simp [Lib.byteCells, hj] at hu
              exact hu.symm
            rw [Addr.add_lit, Lib.cell_of_heap hg, hl j hj, e1])
          x m.length c (Lib.byteCells m) (by simp [byteCells_len]) hc (by omega) (by unfold maxLen; omega) (by omega)
        have hown : Own w.heap.size w' v' (l ++ m) := by
          unfold Own
          rw [byteCells_app, List.length_append]
          exact e2
        refine ⟨v', w', e1, (Tl.of_own hown).mono hB, ⟨e3.os, e3.tape, e3.output, e3.size, fun k hk _ => e3.block k hk (by simp)⟩, ?_⟩
        · rcases hown.2 with ⟨rfl, h0⟩ | ⟨g', cap', cur', rfl, hB', hg', _⟩
          · exfalso
            rw [List.length_append] at h0
            omega
          · exact .inr ⟨g', rfl, hB'⟩
/-- .. for the walk. -/
theorem wpList_append_tl {ops : Array Oper} {rest : List Oper} {o : Oper} {a : Act} {w : World} {Q : Exit → Act → World → Prop} (hgd : o.guard = none) (s x : Operand)
    (ho : o.op = .call { callee := .builtin .append, args := #[s, x], argTypes := #[28, 28] })
    (B : Nat) (v : Value) (l : List UInt8) (hs : a.eval s = v) (h : Tl B w v l) (ad : Option Addr) (m : List UInt8) (n c : Nat) (hx : a.eval x = .slice ad n c) (hn : n = m.length) (hrd : Rd w ad m)
    (hlen : l.length + m.length ≤ 140737488355328) (hB : B ≤ w.heap.size)
    (hk : ∀ a' n' c' w', Hid (n' = (l ++ m).length) → Tl B w' (.slice a' n' c') (l ++ m) → w.grownBy w' v.ownBlock → (Value.ownBlock (.slice a' n' c') = v.ownBlock ∨ ∃ k, Value.ownBlock (.slice a' n' c') = some k ∧ w.heap.size ≤ k) →
      wpList Tryd.prog ops Q rest (a.put o.dst (.slice a' n' c')) w') : wpList Tryd.prog ops Q (o :: rest) a w := by
  refine wpList_plain hgd fun K hK' => ?_
  obtain ⟨v', w', h1, h2, h3, h4⟩ := run_append_tl o.type h hn hrd hlen hB
  obtain ⟨a', c', rfl, _⟩ := h2.shape
  unfold Oper.wp execOp
  simp only [ho, resolve, invoke, builtin, Sem.run_bind, Sem.run_pure, Result.andThen_ok, List.map_toArray, List.map_cons, List.map_nil, hs, hx]
  erw [h1]
  exact hK' _ _ (hk a' _ c' w' (Lib.hid rfl) h2 h3 h4)

/-- What was there is as it was, but for the blocks f. -/
structure Keeps (f : Nat → Prop) (w w' : World) : Prop where
  os : w'.os = w.os
  tape : w'.tape = w.tape
  output : w'.output = w.output
  size : w.heap.size ≤ w'.heap.size
  block : ∀ k, k < w.heap.size → ¬ f k → w'.heap[k]? = w.heap[k]?
theorem Keeps.refl (f : Nat → Prop) (w : World) : Keeps f w w := ⟨rfl, rfl, rfl, Nat.le_refl _, fun _ _ _ => rfl⟩
theorem Keeps.trans {f f' : Nat → Prop} {a b c : World} (h : Keeps f a b) (k : Keeps f' b c) (hf : ∀ k, k < a.heap.size → f' k → f k) : Keeps f a c :=
  ⟨k.os.trans h.os, k.tape.trans h.tape, k.output.trans h.output, Nat.le_trans h.size k.size, fun i hi hn => (k.block i (Nat.lt_of_lt_of_le hi h.size) (fun e => hn (hf i hi e))).trans (h.block i hi hn)⟩
theorem Keeps.mono {f f' : Nat → Prop} {a b : World} (h : Keeps f a b) (hf : ∀ k, k < a.heap.size → f k → f' k) : Keeps f' a b := ⟨h.os, h.tape, h.output, h.size, fun i hi hn => h.block i hi (fun e => hn (hf i hi e))⟩
theorem Keeps.of_below {B : Nat} {a b : World} (h : Below B a b) (hB : a.heap.size ≤ B) (f : Nat → Prop) : Keeps f a b := ⟨h.os, h.tape, h.output, h.size, fun k hk _ => h.block k (by omega)⟩
theorem Keeps.below {f : Nat → Prop} {a b : World} (h : Keeps f a b) (B : Nat) (hB : B ≤ a.heap.size) (hf : ∀ k, k < B → ¬ f k) : Below B a b := ⟨h.os, h.tape, h.output, h.size, fun k hk => h.block k (by omega) (hf k hk)⟩
theorem Keeps.drew {f : Nat → Prop} {a b : World} (h : Keeps f a b) : Keeps f a b.drew := ⟨h.os, h.tape, h.output, h.size, h.block⟩
theorem Keeps.of_grown {f : Nat → Prop} {a b : World} {row : Option Nat} (h : a.grownBy b row) (hf : ∀ k, row = some k → f k) : Keeps f a b := ⟨h.os, h.tape, h.output, h.size, fun k hk hn => h.block k hk (fun e => hn (hf k e.symm))⟩
theorem Keeps.setCell {f : Nat → Prop} (w : World) (p : Addr) (v : Value) (hf : f p.block) : Keeps f w (w.setCell p v) := ⟨rfl, rfl, rfl, by simp [World.setCell], fun k _ hn => Below.heap_setCell _ _ _ _ (fun e => hn (by rw [e]; exact hf))⟩
theorem Keeps.setCells {f : Nat → Prop} (w : World) (g o : Nat) (vs : List Value) (hf : f g) : Keeps f w (w.setCells g o vs) :=
  ⟨setCells_os _ _ _ _, setCells_tape _ _ _ _, setCells_output _ _ _ _, Nat.le_of_eq (setCells_size _ _ _ _).symm, fun k hk hn => World.heap_setCells_other w g _ _ hk (fun e => hn (by subst e; exact hf))⟩
theorem Rd.keeps {f : Nat → Prop} {w w' : World} {a : Option Addr} {l : List UInt8} (h : Rd w a l) (hk : Keeps f w w') (hf : ∀ b off s, a = some ⟨b, off, s⟩ → ¬ f b) : Rd w' a l := by
  rcases h with rfl | ⟨b, off, rfl, hc⟩
  · exact .inl rfl
  · refine .inr ⟨b, off, rfl, fun i hi => ?_⟩
    have hlt := World.block_lt_of_cell? w _ (hc i hi)
    rw [World.cell?_of_block (a := ⟨b, off + i, none⟩) (hk.block b hlt (hf b off none rfl))]
    exact hc i hi
end Go.Proofs.YtbblnlddiafkhaaDoor
