/- Merged: Tl, GrowB, Num, ShaK, ShaP, ShaA, ShaB, ShaD, ShaC, ShaQ, ShaE, ShaF, ShaG, GrowS, ShaH. -/
import Derived.Maps.AppendAt
import Derived.ArgAppend
import Derived.Deep.Upon
import Derived.Test.YtfdijcdpmgkdkaaGreatDoorProg
import Derived.WalkSpells
import Derived.WalkKit
import Derived.Lib.Hide
import Derived.KernelRfl
import Derived.WalkLawsBesides
import Derived.Deep.QuietTactic
import Derived.BigQuiet
import Derived.Deep.LoopGhost
import Derived.Deep.DeepCutAuto
import Derived.StillTailTactics
import Derived.Great.BuildSlice
import Derived.ScopeJumps
import Derived.Deep.MidRow
import Derived.Lib.SlBytesConst
import Derived.Test.YtfdijcdpmgkdkaaGreatDoorJm1
set_option linter.unusedVariables false
namespace Go.Proofs.YtfdijcdpmgkdkaaGreatDoor
open Go.RowKit

/-- The bytes l: nothing at all, or in a block g (from block B on), from some place on. -/
def Tl (B : Nat) (w : World) (v : Value) (l : List UInt8) : Prop :=
  (v = .slice none 0 0 ∧ l = []) ∨ ∃ g off cap cur, v = .slice (some ⟨g, off, none⟩) l.length cap ∧ B ≤ g ∧ w.heap[g]? = some (.cells cur 5 (0, 0)) ∧ l.length ≤ cap ∧ off + cap ≤ cur.size ∧ cap ≤ maxLen ∧
    ∀ j (h : j < l.length), cur[off + j]? = some (.int .u8 (l[j]).toNat)

theorem Tl.shape {B : Nat} {w : World} {v : Value} {l : List UInt8} (h : Tl B w v l) : ∃ a c, v = .slice a l.length c ∧ Rd w a l ∧ l.length ≤ c ∧ c ≤ maxLen ∧ Value.ownBlock v = a.map (·.block) := by
  rcases h with ⟨rfl, rfl⟩ | ⟨g, off, cap, cur, rfl, _, hg, hc, _, hm, hl⟩
  · exact ⟨none, 0, rfl, .inl rfl, Nat.le_refl _, by decide, rfl⟩
  · exact ⟨_, cap, rfl, .inr ⟨g, off, rfl, fun i hi => by rw [Lib.cell_of_heap hg]; exact hl i hi⟩, hc, hm, rfl⟩
theorem Tl.nil (B : Nat) (w : World) : Tl B w (.slice none 0 0) [] := .inl ⟨rfl, rfl⟩
theorem Tl.of_own {B : Nat} {w : World} {v : Value} {l : List UInt8} (h : Own B w v l) : Tl B w v l := by
  rcases h.2 with ⟨rfl, h0⟩ | ⟨g, cap, cur, rfl, hB, hg, hlc, hm, hsz, htake⟩
  · exact .inl ⟨rfl, List.eq_nil_of_length_eq_zero h0⟩
  · refine .inr ⟨g, 0, cap, cur, rfl, hB, hg, hlc, by omega, hm, fun j hj => ?_⟩
    rw [Nat.zero_add]
    have h1 : (cur.toList.take (l.length * 1))[j]? = (Lib.byteCells l)[j]? := by rw [htake]
    rw [List.getElem?_take, if_pos (by omega)] at h1
    rw [← Array.getElem?_toList, h1]
    simp [Lib.byteCells, hj]
theorem Tl.lt {B : Nat} {w : World} {v : Value} {l : List UInt8} (h : Tl B w v l) : ∀ k, v.ownBlock = some k → B ≤ k ∧ k < w.heap.size := by
  intro k hk
  rcases h with ⟨rfl, rfl⟩ | ⟨g, off, cap, cur, rfl, hB, hg, _⟩
  · cases hk
  · simp [Value.ownBlock] at hk
    subst hk
    exact ⟨hB, (Array.getElem?_eq_some_iff.1 hg).1⟩
theorem Tl.mono {B B' : Nat} {w : World} {v : Value} {l : List UInt8} (h : Tl B w v l) (hB : B' ≤ B) : Tl B' w v l :=
  h.imp id fun ⟨g, off, cap, cur, h1, h2, h3⟩ => ⟨g, off, cap, cur, h1, Nat.le_trans hB h2, h3⟩
/-- The relation looks at its own block alone. -/
theorem Tl.keep {B : Nat} {w w' : World} {v : Value} {l : List UInt8} (h : Tl B w v l) (hk : ∀ k, v.ownBlock = some k → w'.heap[k]? = w.heap[k]?) : Tl B w' v l := by
  rcases h with h | ⟨g, off, cap, cur, rfl, hB, hg, h⟩
  · exact .inl h
  · exact .inr ⟨g, off, cap, cur, rfl, hB, by rw [hk g rfl]; exact hg, h⟩
theorem Tl.kind {B : Nat} {w : World} {v : Value} {l : List UInt8} (h : Tl B w v l) : ∀ k, v.ownBlock = some k → ∃ cur, w.heap[k]? = some (.cells cur 5 (0, 0)) := by
  intro k hk
  rcases h with ⟨rfl, rfl⟩ | ⟨g, off, cap, cur, rfl, hB, hg, _⟩
  · cases hk
  · simp [Value.ownBlock] at hk
    subst hk
    exact ⟨cur, hg⟩
/-- l[n:] -/
theorem Tl.drop {B : Nat} {w : World} {a : Option Addr} {len c : Nat} {l : List UInt8} (h : Tl B w (.slice a len c) l) (n : Nat) (hn : n ≤ l.length) : Tl B w (sliced a n len c 1) (l.drop n) := by
  unfold sliced
  rcases h with ⟨he, rfl⟩ | ⟨g, off, cap, cur, he, hB, hg, hlc, hsz, hm, hl⟩
  · simp at he hn
    obtain ⟨rfl, rfl, rfl⟩ := he
    subst hn
    exact .inl ⟨rfl, rfl⟩
  · simp at he
    obtain ⟨rfl, rfl, rfl⟩ := he
    by_cases e : c = n
    · refine .inr ⟨g, off, 0, cur, ?_, hB, hg, ?_, by omega, by omega, ?_⟩
      · simp [e]
      · rw [List.length_drop]; omega
      · intro j hj
        rw [List.length_drop] at hj
        omega
    · refine .inr ⟨g, off + n, c - n, cur, ?_, hB, hg, ?_, by omega, by omega, ?_⟩
      · simp [e, Addr.add_lit]
      · rw [List.length_drop]; omega
      · intro j hj
        rw [List.length_drop] at hj
        have := hl (n + j) (by omega)
        rw [show off + n + j = off + (n + j) by omega, this]
        simp
theorem setCells_block {g : Nat} {T : TypeId} {fr : Nat × Nat} : ∀ (vs : List Value) (o : Nat) (w : World) (cs : Array Value), w.heap[g]? = some (.cells cs T fr) →
    ∃ cs', (w.setCells g o vs).heap[g]? = some (.cells cs' T fr) ∧ cs'.size = cs.size ∧ (∀ j, j < o → cs'[j]? = cs[j]?) ∧ (∀ j (h : j < vs.length), o + j < cs.size → cs'[o + j]? = some vs[j]) ∧ ∀ j, o + vs.length ≤ j → cs'[j]? = cs[j]?
  | [], o, w, cs, h => ⟨cs, h, rfl, fun _ _ => rfl, fun j h => by simp at h, fun _ _ => rfl⟩
  | v :: r, o, w, cs, h => by
    have h2 : (w.setCell ⟨g, o, none⟩ v).heap[g]? = some (.cells (cs.setIfInBounds o v) T fr) := by simp [World.setCell, Array.getElem?_modify, h]
    obtain ⟨cs', e1, e2, e3, e4, e5⟩ := setCells_block r (o + 1) _ _ h2
    refine ⟨cs', e1, by simpa using e2, fun j hj => ?_, fun j hj hlt => ?_, fun j hj => ?_⟩
    · rw [e3 j (by omega), Array.getElem?_setIfInBounds_ne (by omega)]
    · cases j with
      | zero =>
        rw [Nat.add_zero] at hlt ⊢
        rw [e3 o (by omega)]
        simp [hlt]
      | succ j =>
        have := e4 j (by simpa using hj) (by simp; omega)
        rw [show o + (j + 1) = o + 1 + j by omega, this]
        rfl
    · simp at hj
      rw [e5 j (by omega), Array.getElem?_setIfInBounds_ne (by omega)]
theorem setCells_size (g : Nat) : ∀ (vs : List Value) (o : Nat) (w : World), (w.setCells g o vs).heap.size = w.heap.size
  | [], _, _ => rfl
  | v :: r, o, w => by rw [World.setCells, setCells_size g r]; simp [World.setCell]
theorem setCells_tape (g : Nat) : ∀ (vs : List Value) (o : Nat) (w : World), (w.setCells g o vs).tape = w.tape
  | [], _, _ => rfl
  | v :: r, o, w => by rw [World.setCells, setCells_tape g r]; rfl
theorem setCells_output (g : Nat) : ∀ (vs : List Value) (o : Nat) (w : World), (w.setCells g o vs).output = w.output
  | [], _, _ => rfl
  | v :: r, o, w => by rw [World.setCells, setCells_output g r]; rfl
theorem setCells_os (g : Nat) : ∀ (vs : List Value) (o : Nat) (w : World), (w.setCells g o vs).os = w.os
  | [], _, _ => rfl
  | v :: r, o, w => by rw [World.setCells, setCells_os g r]; rfl

theorem info_u8' : ∃ i, Tryz.prog.info? 5 = some i ∧ i.zero = some (.int .u8 0) ∧ i.size = 1 ∧ i.bytes = 1 := info_parts info_u8

/-- append(l, m...) -/
theorem run_append_tl (ty : TypeId) {B : Nat} {w : World} {v : Value} {l : List UInt8} (h : Tl B w v l) {ad : Option Addr} {m : List UInt8} {n c : Nat} (hn : n = m.length) (hrd : Rd w ad m) (hlen : l.length + m.length ≤ 140737488355328) (hB : B ≤ w.heap.size) :
    ∃ v' w', (Builtin.append_ #[41, 41] ty #[v, .slice ad n c]).run Tryz.prog w = .ok v' w' ∧ Tl B w' v' (l ++ m) ∧ w.grownBy w' v.ownBlock ∧ (v'.ownBlock = v.ownBlock ∨ ∃ k, v'.ownBlock = some k ∧ w.heap.size ≤ k) := by
  subst hn
  obtain ⟨i0, hi, hz0, hz1, hz2⟩ := info_u8'
  cases ad with
  | none =>
    have hm : m = [] := by
      rcases hrd with h | ⟨_, _, h, _⟩
      · exact h
      · cases h
    subst hm
    refine ⟨v, w, ?_, by simpa using h, ⟨rfl, rfl, rfl, Nat.le_refl _, fun _ _ _ => rfl⟩, .inl rfl⟩
    obtain ⟨a, cp, rfl, _, hle, _⟩ := h.shape
    exact run_append_nothing w 41 41 ty 5 i0 Tryz.underlying41 hi a _ cp hle _ (Src.ofNil w Tryz.underlying41 c)
  | some x =>
    have hc : ∀ j u, (Lib.byteCells m)[j]? = some u → w.cell? (x.add j) = some u := by
      intro j u hu
      have hj : j < m.length := by have := (List.getElem?_eq_some_iff.1 hu).1; simpa [Lib.byteCells] using this
      rcases hrd with rfl | ⟨b, off, e, hc⟩
      · simp at hj
      · simp at e
        subst e
        have e1 : u = .int .u8 (m[j]).toNat := by
          simp [Lib.byteCells, hj] at hu
          exact hu.symm
        rw [e1, ← hc j hj, Addr.add_lit]
    rcases h with ⟨rfl, rfl⟩ | ⟨g, off, cap, cur, rfl, hBg, hg, hlc, hsz, hmx, hl⟩
    · obtain ⟨v', w', e1, e2, e3, _, e5⟩ := run_append_own_at (P := Tryz.prog) w B 41 ty 5 i0 (.int .u8 0) 1 1 Tryz.underlying41 hi hz0 hz1 hz2 rfl (by decide) (.slice none 0 0) 0 [] (World.ownsRow_nil _ _ _ _) x m.length c (Lib.byteCells m) (by simp [byteCells_len]) hc (byteCells_one m) (by simp at hlen; unfold maxLen; omega) (by simp at hlen; omega) hB
      refine ⟨v', w', e1, Tl.of_own ?_, e3, e5.imp id fun h => ⟨_, h, Nat.le_refl _⟩⟩
      unfold Own
      simpa using e2
    · by_cases hroom : l.length + m.length ≤ cap
      · have hcur : ∀ j, j < (Lib.byteCells m).length → w.cell? ⟨g, off + l.length * i0.size + j, none⟩ = cur[off + l.length + j]? := by
          intro j hj
          rw [hz1, Nat.mul_one, Lib.cell_of_heap hg]
        have h1 := run_append_room_cells (P := Tryz.prog) w 41 ty 5 i0 Tryz.underlying41 hi g off l.length cap x m.length c (Lib.byteCells m) (by simp [byteCells_len, hz1]) hc (byteCells_one m) hroom
          (fun j hj => by
            rw [hcur j hj]
            rw [byteCells_len] at hj
            rw [Array.getElem?_eq_getElem (by omega)]
            rfl) (fun j hj => Lib.frozen_of_heap hg _)
        rw [hz1, Nat.mul_one] at h1
        obtain ⟨cs', f1, f2, f3, f4, f5⟩ := setCells_block (Lib.byteCells m) (off + l.length) w cur hg
        refine ⟨_, _, h1, .inr ⟨g, off, cap, cs', by rw [List.length_append], hBg, f1, by rw [List.length_append]; omega, by omega, hmx, ?_⟩, ⟨setCells_os _ _ _ _, setCells_tape _ _ _ _, setCells_output _ _ _ _, Nat.le_of_eq (setCells_size _ _ _ _).symm, ?_⟩, .inl rfl⟩
        · intro j hj
          rw [List.length_append] at hj
          by_cases hjl : j < l.length
          · rw [f3 _ (by omega), hl j hjl, List.getElem_append_left hjl]
          · have := f4 (j - l.length) (by rw [byteCells_len]; omega) (by omega)
            rw [show off + l.length + (j - l.length) = off + j by omega] at this
            rw [this, List.getElem_append_right (by omega)]
            simp [Lib.byteCells]
        · intro k hk hne
          exact World.heap_setCells_other w g _ _ hk (fun e => hne (by subst e; rfl))
      · obtain ⟨v', w', e1, e2, e3⟩ := run_append_arg_grows (P := Tryz.prog) w 41 ty 5 i0 (.int .u8 0) 1 1 Tryz.underlying41 hi hz0 hz1 hz2 rfl (by decide) ⟨g, off, none⟩ l.length cap (Lib.byteCells l) (by simp [byteCells_len])
          (fun j u hu => by
            have hj : j < l.length := by have := (List.getElem?_eq_some_iff.1 hu).1; simpa [Lib.byteCells] using this
            have e1 : u = .int .u8 (l[j]).toNat := by
              simp [Lib.byteCells, hj] at hu
              exact hu.symm
            rw [Addr.add_lit, Lib.cell_of_heap hg, hl j hj, e1])
          x m.length c (Lib.byteCells m) (by simp [byteCells_len]) hc (by omega) (by unfold maxLen; omega) (by omega)
        have hown : Own w.heap.size w' v' (l ++ m) := by
          unfold Own
          rw [byteCells_app, List.length_append]
          exact e2
        refine ⟨v', w', e1, (Tl.of_own hown).mono hB, ⟨e3.os, e3.tape, e3.output, e3.size, fun k hk _ => e3.block k hk (by simp)⟩, ?_⟩
        · rcases hown.2 with ⟨rfl, h0⟩ | ⟨g', cap', cur', rfl, hB', hg', _⟩
          · exfalso
            rw [List.length_append] at h0
            omega
          · exact .inr ⟨g', rfl, hB'⟩
/-- .. for the walk. -/
theorem wpList_append_tl {ops : Array Oper} {rest : List Oper} {o : Oper} {a : Act} {w : World} {Q : Exit → Act → World → Prop} (hgd : o.guard = none) (s x : Operand)
    (ho : o.op = .call { callee := .builtin .append, args := #[s, x], argTypes := #[41, 41] })
    (B : Nat) (v : Value) (l : List UInt8) (hs : a.eval s = v) (h : Tl B w v l) (ad : Option Addr) (m : List UInt8) (n c : Nat) (hx : a.eval x = .slice ad n c) (hn : n = m.length) (hrd : Rd w ad m)
    (hlen : l.length + m.length ≤ 140737488355328) (hB : B ≤ w.heap.size)
    (hk : ∀ a' n' c' w', Hid (n' = (l ++ m).length) → Tl B w' (.slice a' n' c') (l ++ m) → w.grownBy w' v.ownBlock → (Value.ownBlock (.slice a' n' c') = v.ownBlock ∨ ∃ k, Value.ownBlock (.slice a' n' c') = some k ∧ w.heap.size ≤ k) →
      wpList Tryz.prog ops Q rest (a.put o.dst (.slice a' n' c')) w') : wpList Tryz.prog ops Q (o :: rest) a w := by
  refine wpList_plain hgd fun K hK' => ?_
  obtain ⟨v', w', h1, h2, h3, h4⟩ := run_append_tl o.type h hn hrd hlen hB
  obtain ⟨a', c', rfl, _⟩ := h2.shape
  unfold Oper.wp execOp
  simp only [ho, resolve, invoke, builtin, Sem.run_bind, Sem.run_pure, Result.andThen_ok, List.map_toArray, List.map_cons, List.map_nil, hs, hx]
  erw [h1]
  exact hK' _ _ (hk a' _ c' w' (Lib.hid rfl) h2 h3 h4)

/-- What was there is as it was, but for the blocks f. -/
structure Keeps (f : Nat → Prop) (w w' : World) : Prop where
  os : w'.os = w.os
  tape : w'.tape = w.tape
  output : w'.output = w.output
  size : w.heap.size ≤ w'.heap.size
  block : ∀ k, k < w.heap.size → ¬ f k → w'.heap[k]? = w.heap[k]?
theorem Keeps.refl (f : Nat → Prop) (w : World) : Keeps f w w := ⟨rfl, rfl, rfl, Nat.le_refl _, fun _ _ _ => rfl⟩
theorem Keeps.trans {f f' : Nat → Prop} {a b c : World} (h : Keeps f a b) (k : Keeps f' b c) (hf : ∀ k, k < a.heap.size → f' k → f k) : Keeps f a c :=
  ⟨k.os.trans h.os, k.tape.trans h.tape, k.output.trans h.output, Nat.le_trans h.size k.size, fun i hi hn => (k.block i (Nat.lt_of_lt_of_le hi h.size) (fun e => hn (hf i hi e))).trans (h.block i hi hn)⟩
theorem Keeps.mono {f f' : Nat → Prop} {a b : World} (h : Keeps f a b) (hf : ∀ k, k < a.heap.size → f k → f' k) : Keeps f' a b := ⟨h.os, h.tape, h.output, h.size, fun i hi hn => h.block i hi (fun e => hn (hf i hi e))⟩
theorem Keeps.of_below {B : Nat} {a b : World} (h : Below B a b) (hB : a.heap.size ≤ B) (f : Nat → Prop) : Keeps f a b := ⟨h.os, h.tape, h.output, h.size, fun k hk _ => h.block k (by omega)⟩
theorem Keeps.below {f : Nat → Prop} {a b : World} (h : Keeps f a b) (B : Nat) (hB : B ≤ a.heap.size) (hf : ∀ k, k < B → ¬ f k) : Below B a b := ⟨h.os, h.tape, h.output, h.size, fun k hk => h.block k (by omega) (hf k hk)⟩
theorem Keeps.drew {f : Nat → Prop} {a b : World} (h : Keeps f a b) : Keeps f a b.drew := ⟨h.os, h.tape, h.output, h.size, h.block⟩
theorem Keeps.of_grown {f : Nat → Prop} {a b : World} {row : Option Nat} (h : a.grownBy b row) (hf : ∀ k, row = some k → f k) : Keeps f a b := ⟨h.os, h.tape, h.output, h.size, fun k hk hn => h.block k hk (fun e => hn (hf k e.symm))⟩
theorem Keeps.setCell {f : Nat → Prop} (w : World) (p : Addr) (v : Value) (hf : f p.block) : Keeps f w (w.setCell p v) := ⟨rfl, rfl, rfl, by simp [World.setCell], fun k _ hn => Below.heap_setCell _ _ _ _ (fun e => hn (by rw [e]; exact hf))⟩
theorem Keeps.setCells {f : Nat → Prop} (w : World) (g o : Nat) (vs : List Value) (hf : f g) : Keeps f w (w.setCells g o vs) :=
  ⟨setCells_os _ _ _ _, setCells_tape _ _ _ _, setCells_output _ _ _ _, Nat.le_of_eq (setCells_size _ _ _ _).symm, fun k hk hn => World.heap_setCells_other w g _ _ hk (fun e => hn (by subst e; exact hf))⟩
theorem Rd.keeps {f : Nat → Prop} {w w' : World} {a : Option Addr} {l : List UInt8} (h : Rd w a l) (hk : Keeps f w w') (hf : ∀ b off s, a = some ⟨b, off, s⟩ → ¬ f b) : Rd w' a l := by
  rcases h with rfl | ⟨b, off, rfl, hc⟩
  · exact .inl rfl
  · refine .inr ⟨b, off, rfl, fun i hi => ?_⟩
    have hlt := World.block_lt_of_cell? w _ (hc i hi)
    rw [World.cell?_of_block (a := ⟨b, off + i, none⟩) (hk.block b hlt (hf b off none rfl))]
    exact hc i hi
end Go.Proofs.YtfdijcdpmgkdkaaGreatDoor
set_option linter.unusedVariables false
namespace Go.Proofs.YtfdijcdpmgkdkaaGreatDoor
open Go.RowKit

def VBytes (m : List UInt8) : Value → World → Prop := fun v w => ∃ a c, v = .slice a m.length c ∧ Rd w a m
def VStr (m : List UInt8) : Value → World → Prop := fun v _ => v = .string ⟨m.toArray⟩
theorem VBytes.stab (m : List UInt8) : Stab (VBytes m) := fun v w1 w2 ⟨a, c, e, h⟩ hb => ⟨a, c, e, h.below hb⟩
theorem VStr.stab (m : List UInt8) : Stab (VStr m) := fun v w1 w2 h hb => h
section
variable {Q : Exit → Act → World → Prop} {o : Oper} {a : Act} {w : World} {V : Value → World → Prop}
theorem grow_str {x : Operand} {m : List UInt8} (ho : o.op = .convert 41 9 x) (hx : VBytes m (a.eval x) w) : o.wp Tryz.prog a w (Grew o.dst (VStr m) a w) Q := by
  obtain ⟨ad, c, e, h⟩ := hx
  refine grow_convert (v := .string ⟨m.toArray⟩) ho ?_ rfl
  rw [e]
  exact str_of_rd h _ c rfl
end
end Go.Proofs.YtfdijcdpmgkdkaaGreatDoor
namespace Go.Proofs.YtfdijcdpmgkdkaaGreatDoor
open Go.RowKit

theorem wraps_i64 (n : Int) (h0 : 0 ≤ n) (h1 : n < 2 ^ 63) : IntKind.i64.wrap n = n := by rw [IntKind.wrap_i64]; omega
theorem i64_or (a b : Nat) (ha : a < 2 ^ 63) (hb : b < 2 ^ 63) : bits .or .i64 (a : Int) (b : Int) = ((a ||| b : Nat) : Int) := (bits_nat .i64 63 (by decide) wraps_i64 a b ha hb).2
theorem i64_and (a b : Nat) (ha : a < 2 ^ 63) (hb : b < 2 ^ 63) : bits .and .i64 (a : Int) (b : Int) = ((a &&& b : Nat) : Int) := (bits_nat .i64 63 (by decide) wraps_i64 a b ha hb).1
theorem wrap64_in (n : Int) (h0 : -9223372036854775808 ≤ n) (h1 : n < 9223372036854775808) : wrap64 n = n := by unfold wrap64; omega
theorem or_add (r n k : Nat) (hn : n < 2 ^ k) : (r * 2 ^ k) ||| n = r * 2 ^ k + n := by
  have := Nat.two_pow_add_eq_or_of_lt hn r
  rw [Nat.mul_comm] at this
  exact this.symm
end Go.Proofs.YtfdijcdpmgkdkaaGreatDoor
set_option linter.unusedVariables false
namespace Go.Proofs.YtfdijcdpmgkdkaaGreatDoor
open Go.RowKit

/-- The rounds' numbers. -/
def kTab : List Nat := [0x428a2f98, 0x71374491, 0xb5c0fbcf, 0xe9b5dba5, 0x3956c25b, 0x59f111f1, 0x923f82a4, 0xab1c5ed5, 0xd807aa98, 0x12835b01, 0x243185be, 0x550c7dc3, 0x72be5d74, 0x80deb1fe, 0x9bdc06a7, 0xc19bf174, 0xe49b69c1, 0xefbe4786, 0x0fc19dc6, 0x240ca1cc, 0x2de92c6f, 0x4a7484aa, 0x5cb0a9dc, 0x76f988da, 0x983e5152, 0xa831c66d, 0xb00327c8, 0xbf597fc7, 0xc6e00bf3, 0xd5a79147, 0x06ca6351, 0x14292967, 0x27b70a85, 0x2e1b2138, 0x4d2c6dfc, 0x53380d13, 0x650a7354, 0x766a0abb, 0x81c2c92e, 0x92722c85, 0xa2bfe8a1, 0xa81a664b, 0xc24b8b70, 0xc76c51a3, 0xd192e819, 0xd6990624, 0xf40e3585, 0x106aa070, 0x19a4c116, 0x1e376c08, 0x2748774c, 0x34b0bcb5, 0x391c0cb3, 0x4ed8aa4a, 0x5b9cca4f, 0x682e6ff3, 0x748f82ee, 0x78a5636f, 0x84c87814, 0x8cc70208, 0x90befffa, 0xa4506ceb, 0xbef9a3f7, 0xc67178f2]
def kAt (t : Nat) : Nat := kTab.getD t 0

theorem run_index_agg {P : Program} {w : World} (t e : TypeId) (n : Nat) (cs : Array Value) (i : Nat) (v : Value) (h : P.underlying t = some (.array n e)) (hs : ∀ w, (sizeOf e).run P w = .ok 1 w) (ha : ∀ w, (isAgg e).run P w = .ok false w) (hi : i < n) (hv : cs[i]? = some v) :
    (Instr.index t (.agg cs) (.int .i64 i)).run P w = .ok v w := by
  simp [Instr.index, run_underlying h, asIntOf, hi, go_sem, hs, ha, hv]

def kVals : Array Value := (kTab.map fun n : Nat => Value.int .u32 (n : Int)).toArray
theorem kVals_at (t : Nat) (h : t < 64) : kVals[t]? = some (.int .u32 (kAt t)) := by
  have h2 : t < kTab.length := h
  simp [kVals, kAt, List.getD, h2]

theorem kVals_run (t : Nat) (h : t < 64) (w : World) : (Instr.index 221 (.agg kVals) (.int .i64 t)).run Tryz.prog w = .ok (.int .u32 (kAt t)) w :=
  run_index_agg 221 181 64 kVals t _ Tryz.underlying221 Tryz.sizeOf181 Tryz.isAgg181 h (kVals_at t h)

set_option maxRecDepth 100000 in
set_option maxHeartbeats 1000000 in
theorem k_any (t : Nat) (w : World) (h1 : t < 64) :
    Calls Tryz.prog 187 #[.int .i64 t] w fun e w' => e = .returned (.int .u32 (kAt t)) ∧ w' = w := by
  have hix2 : ∀ w : World, (Instr.index 221 (.agg #[.int .u32 0x428a2f98, .int .u32 0x71374491, .int .u32 0xb5c0fbcf, .int .u32 0xe9b5dba5, .int .u32 0x3956c25b, .int .u32 0x59f111f1, .int .u32 0x923f82a4, .int .u32 0xab1c5ed5, .int .u32 0xd807aa98, .int .u32 0x12835b01, .int .u32 0x243185be, .int .u32 0x550c7dc3, .int .u32 0x72be5d74, .int .u32 0x80deb1fe, .int .u32 0x9bdc06a7, .int .u32 0xc19bf174, .int .u32 0xe49b69c1, .int .u32 0xefbe4786, .int .u32 0x0fc19dc6, .int .u32 0x240ca1cc, .int .u32 0x2de92c6f, .int .u32 0x4a7484aa, .int .u32 0x5cb0a9dc, .int .u32 0x76f988da, .int .u32 0x983e5152, .int .u32 0xa831c66d, .int .u32 0xb00327c8, .int .u32 0xbf597fc7, .int .u32 0xc6e00bf3, .int .u32 0xd5a79147, .int .u32 0x06ca6351, .int .u32 0x14292967, .int .u32 0x27b70a85, .int .u32 0x2e1b2138, .int .u32 0x4d2c6dfc, .int .u32 0x53380d13, .int .u32 0x650a7354, .int .u32 0x766a0abb, .int .u32 0x81c2c92e, .int .u32 0x92722c85, .int .u32 0xa2bfe8a1, .int .u32 0xa81a664b, .int .u32 0xc24b8b70, .int .u32 0xc76c51a3, .int .u32 0xd192e819, .int .u32 0xd6990624, .int .u32 0xf40e3585, .int .u32 0x106aa070, .int .u32 0x19a4c116, .int .u32 0x1e376c08, .int .u32 0x2748774c, .int .u32 0x34b0bcb5, .int .u32 0x391c0cb3, .int .u32 0x4ed8aa4a, .int .u32 0x5b9cca4f, .int .u32 0x682e6ff3, .int .u32 0x748f82ee, .int .u32 0x78a5636f, .int .u32 0x84c87814, .int .u32 0x8cc70208, .int .u32 0x90befffa, .int .u32 0xa4506ceb, .int .u32 0xbef9a3f7, .int .u32 0xc67178f2]) (.int .i64 t)).run Tryz.prog w = .ok (.int .u32 (kAt t)) w := kVals_run t h1
  go_enter Tryz.func187, Tryz.ntmps187
  go_wp2_with fail
  go_ret
  exact ⟨rfl, rfl⟩
end Go.Proofs.YtfdijcdpmgkdkaaGreatDoor
set_option linter.unusedVariables false
namespace Go.Proofs.YtfdijcdpmgkdkaaGreatDoor

/-- Numbers of 32 bits, as cells. -/
def u32s (ws : List Nat) : List Value := ws.map fun n : Nat => Value.int .u32 (n : Int)
theorem u32s_set (ws : List Nat) (t x : Nat) : (u32s ws).toArray.setIfInBounds t (.int .u32 x) = (u32s (ws.set t x)).toArray := by
  simp [u32s, List.map_set]
theorem cell_u32s {w : World} {g : Nat} {ns : List Nat} {T : TypeId} {fr : Nat × Nat} (h : w.heap[g]? = some (.cells (u32s ns).toArray T fr)) {j : Nat} (hj : j < ns.length) : w.cell? ⟨g, j, none⟩ = some (.int .u32 (ns[j] : Nat)) := by
  have : w.cell? ⟨g, j, none⟩ = (u32s ns).toArray[j]? := by simp [World.cell?, h]
  rw [this]
  simp [u32s, hj]

/-- The word at 4t. -/
def word (b : List UInt8) (t : Nat) : Nat := (b.getD (4 * t) 0).toNat * 16777216 + (b.getD (4 * t + 1) 0).toNat * 65536 + (b.getD (4 * t + 2) 0).toNat * 256 + (b.getD (4 * t + 3) 0).toNat
/-- To the right. -/
def rot (x n : Nat) : Nat := x / 2 ^ n + x % 2 ^ n * 2 ^ (32 - n)
def sg0 (x : Nat) : Nat := (rot x 7 ^^^ rot x 18) ^^^ (x / 8)
def sg1 (x : Nat) : Nat := (rot x 17 ^^^ rot x 19) ^^^ (x / 1024)
/-- The next number of a block. -/
def nextW (b : List UInt8) (ws : List Nat) : Nat :=
  if ws.length < 16 then word b ws.length
  else (sg1 (ws.getD (ws.length - 2) 0) + ws.getD (ws.length - 7) 0 + sg0 (ws.getD (ws.length - 15) 0) + ws.getD (ws.length - 16) 0) % 4294967296
def schedU (b : List UInt8) : Nat → List Nat
  | 0 => []
  | t + 1 => schedU b t ++ [nextW b (schedU b t)]
theorem schedU_len (b : List UInt8) (t : Nat) : (schedU b t).length = t := by
  induction t with
  | zero => rfl
  | succ t ih => simp [schedU, ih]

theorem word_lt (b : List UInt8) (t : Nat) : word b t < 4294967296 := by
  have h0 := (b.getD (4 * t) 0).toNat_lt
  have h1 := (b.getD (4 * t + 1) 0).toNat_lt
  have h2 := (b.getD (4 * t + 2) 0).toNat_lt
  have h3 := (b.getD (4 * t + 3) 0).toNat_lt
  unfold word; omega
theorem nextW_lt (b : List UInt8) (ws : List Nat) : nextW b ws < 4294967296 := by
  unfold nextW; split
  · exact word_lt _ _
  · omega
theorem schedU_lt (b : List UInt8) (t : Nat) : ∀ x ∈ schedU b t, x < 4294967296 := by
  induction t with
  | zero => simp [schedU]
  | succ t ih =>
    intro x hx
    simp only [schedU, List.mem_append, List.mem_singleton] at hx
    rcases hx with hx | rfl
    · exact ih x hx
    · exact nextW_lt _ _
theorem rot_lt (x n : Nat) (hx : x < 4294967296) (hn : n ≤ 32) : rot x n < 4294967296 := by
  unfold rot
  have h1 : x % 2 ^ n < 2 ^ n := Nat.mod_lt _ (Nat.two_pow_pos _)
  have h2 : 2 ^ n * 2 ^ (32 - n) = 4294967296 := by rw [← Nat.pow_add, show n + (32 - n) = 32 by omega]
  have h3 : x / 2 ^ n < 2 ^ (32 - n) := by
    rw [Nat.div_lt_iff_lt_mul (Nat.two_pow_pos _), Nat.mul_comm, h2]; exact hx
  have h4 : (x % 2 ^ n + 1) * 2 ^ (32 - n) ≤ 4294967296 := by rw [← h2]; exact Nat.mul_le_mul_right _ h1
  rw [Nat.add_mul] at h4
  omega
theorem xor_lt (a b : Nat) (ha : a < 4294967296) (hb : b < 4294967296) : a ^^^ b < 4294967296 := Nat.xor_lt_two_pow (n := 32) ha hb
theorem and_lt (a b : Nat) (ha : a < 4294967296) : a &&& b < 4294967296 := Nat.lt_of_le_of_lt Nat.and_le_left ha
theorem sg0_lt (x : Nat) (hx : x < 4294967296) : sg0 x < 4294967296 := xor_lt _ _ (xor_lt _ _ (rot_lt _ _ hx (by decide)) (rot_lt _ _ hx (by decide))) (by omega)
theorem sg1_lt (x : Nat) (hx : x < 4294967296) : sg1 x < 4294967296 := xor_lt _ _ (xor_lt _ _ (rot_lt _ _ hx (by decide)) (rot_lt _ _ hx (by decide))) (by omega)
/-- A block's numbers so far, and noughts behind them: one more. -/
theorem sched_set (b : List UInt8) (t : Nat) (h : t < 64) : (schedU b t ++ List.replicate (64 - t) 0).set t (nextW b (schedU b t)) = schedU b (t + 1) ++ List.replicate (64 - (t + 1)) 0 := by
  have hl := schedU_len b t
  rw [show 64 - t = (64 - (t + 1)) + 1 by omega, List.replicate_succ, List.set_append_right _ _ (by omega), hl, Nat.sub_self]
  simp [schedU]
theorem sched_at (b : List UInt8) (t j : Nat) (h : j < t) (ht : t ≤ 64) (hj : j < (schedU b t ++ List.replicate (64 - t) 0).length) : (schedU b t ++ List.replicate (64 - t) 0)[j] = (schedU b t).getD j 0 := by
  have hl := schedU_len b t
  rw [List.getElem_append_left (by omega), List.getD_eq_getElem?_getD, List.getElem?_eq_getElem (by omega)]
  rfl
theorem getD_lt (b : List UInt8) (t j : Nat) : (schedU b t).getD j 0 < 4294967296 := by
  rw [List.getD_eq_getElem?_getD]
  cases h : (schedU b t)[j]? with
  | none => simp
  | some x => exact schedU_lt b t x (List.mem_of_getElem? h)

def bs0 (x : Nat) : Nat := (rot x 2 ^^^ rot x 13) ^^^ rot x 22
def bs1 (x : Nat) : Nat := (rot x 6 ^^^ rot x 11) ^^^ rot x 25
def chF (e f g : Nat) : Nat := (e &&& f) ^^^ ((4294967295 - e) &&& g)
def majF (a b c : Nat) : Nat := ((a &&& b) ^^^ (a &&& c)) ^^^ (b &&& c)
def t1F (e f g h k w : Nat) : Nat := (h + bs1 e + chF e f g + k + w) % 4294967296
def t2F (a b c : Nat) : Nat := (bs0 a + majF a b c) % 4294967296
/-- One round. -/
def rnd (k w : Nat) : List Nat → List Nat
  | [a, b, c, d, e, f, g, h] => [(t1F e f g h k w + t2F a b c) % 4294967296, a, b, c, (d + t1F e f g h k w) % 4294967296, e, f, g]
  | s => s
def rnds (ws st : List Nat) : Nat → List Nat
  | 0 => st
  | t + 1 => rnd (kAt t) (ws.getD t 0) (rnds ws st t)
/-- One block more. -/
def comp (st : List Nat) (b : List UInt8) : List Nat := List.zipWith (fun x y => (x + y) % 4294967296) (rnds (schedU b 64) st 64) st
/-- Eight numbers of 32 bits. -/
def St8 (s : List Nat) : Prop := s.length = 8 ∧ ∀ x ∈ s, x < 4294967296
theorem St8.shape {s : List Nat} (h : St8 s) : ∃ a b c d e f g i, s = [a, b, c, d, e, f, g, i] ∧ a < 4294967296 ∧ b < 4294967296 ∧ c < 4294967296 ∧ d < 4294967296 ∧ e < 4294967296 ∧ f < 4294967296 ∧ g < 4294967296 ∧ i < 4294967296 := by
  obtain ⟨h1, h2⟩ := h
  match s, h1, h2 with
  | [a, b, c, d, e, f, g, i], _, h2 => exact ⟨a, b, c, d, e, f, g, i, rfl, h2 _ (by simp), h2 _ (by simp), h2 _ (by simp), h2 _ (by simp), h2 _ (by simp), h2 _ (by simp), h2 _ (by simp), h2 _ (by simp)⟩
theorem rnd_st8 (k w : Nat) {s : List Nat} (h : St8 s) : St8 (rnd k w s) := by
  obtain ⟨a, b, c, d, e, f, g, i, rfl, h1, h2, h3, h4, h5, h6, h7, h8⟩ := h.shape
  refine ⟨rfl, ?_⟩
  intro x hx
  simp only [rnd, List.mem_cons, List.mem_nil_iff, or_false] at hx
  rcases hx with rfl | rfl | rfl | rfl | rfl | rfl | rfl | rfl <;> first | assumption | omega
theorem rnds_st8 (ws : List Nat) {s : List Nat} (h : St8 s) (t : Nat) : St8 (rnds ws s t) := by
  induction t with
  | zero => exact h
  | succ t ih => exact rnd_st8 _ _ ih
theorem comp_st8 {s : List Nat} (h : St8 s) (b : List UInt8) : St8 (comp s b) := by
  obtain ⟨a, b', c, d, e, f, g, i, hs, _⟩ := (rnds_st8 (schedU b 64) h 64).shape
  obtain ⟨a1, b1, c1, d1, e1, f1, g1, i1, rfl, _⟩ := h.shape
  unfold comp
  rw [hs]
  refine ⟨rfl, ?_⟩
  intro x hx
  simp only [List.zipWith_cons_cons, List.zipWith_nil_left, List.mem_cons, List.mem_nil_iff, or_false] at hx
  rcases hx with rfl | rfl | rfl | rfl | rfl | rfl | rfl | rfl <;> omega
end Go.Proofs.YtfdijcdpmgkdkaaGreatDoor
set_option linter.unusedVariables false
namespace Go.Proofs.YtfdijcdpmgkdkaaGreatDoor
open Go.RowKit

/-- To the right by n: as the program reckons it. -/
def rotI (x : Int) (n : Nat) : Int := bits .or .u32 (IntKind.u32.wrap (x * 2 ^ (32 - n))) (x / 2 ^ n)

set_option maxHeartbeats 1000000 in
theorem right_2 (x : Int) (w : World) (h0 : 0 ≤ x) (h1 : x < 4294967296) :
    Calls Tryz.prog 186 #[.int .u32 x, .int .i64 2] w fun e w' => e = .returned (.int .u32 (rotI x 2)) ∧ w' = w := by
  have hs : bits .and .u64 (IntKind.u64.wrap (-2)) 31 = 30 := by kernel_rfl
  go_enter Tryz.func186, Tryz.ntmps186
  go_wp2
  go_ret
  exact ⟨rfl, rfl⟩

set_option maxHeartbeats 1000000 in
theorem right_6 (x : Int) (w : World) (h0 : 0 ≤ x) (h1 : x < 4294967296) :
    Calls Tryz.prog 186 #[.int .u32 x, .int .i64 6] w fun e w' => e = .returned (.int .u32 (rotI x 6)) ∧ w' = w := by
  have hs : bits .and .u64 (IntKind.u64.wrap (-6)) 31 = 26 := by kernel_rfl
  go_enter Tryz.func186, Tryz.ntmps186
  go_wp2
  go_ret
  exact ⟨rfl, rfl⟩

set_option maxHeartbeats 1000000 in
theorem right_7 (x : Int) (w : World) (h0 : 0 ≤ x) (h1 : x < 4294967296) :
    Calls Tryz.prog 186 #[.int .u32 x, .int .i64 7] w fun e w' => e = .returned (.int .u32 (rotI x 7)) ∧ w' = w := by
  have hs : bits .and .u64 (IntKind.u64.wrap (-7)) 31 = 25 := by kernel_rfl
  go_enter Tryz.func186, Tryz.ntmps186
  go_wp2
  go_ret
  exact ⟨rfl, rfl⟩

set_option maxHeartbeats 1000000 in
theorem right_11 (x : Int) (w : World) (h0 : 0 ≤ x) (h1 : x < 4294967296) :
    Calls Tryz.prog 186 #[.int .u32 x, .int .i64 11] w fun e w' => e = .returned (.int .u32 (rotI x 11)) ∧ w' = w := by
  have hs : bits .and .u64 (IntKind.u64.wrap (-11)) 31 = 21 := by kernel_rfl
  go_enter Tryz.func186, Tryz.ntmps186
  go_wp2
  go_ret
  exact ⟨rfl, rfl⟩

set_option maxHeartbeats 1000000 in
theorem right_13 (x : Int) (w : World) (h0 : 0 ≤ x) (h1 : x < 4294967296) :
    Calls Tryz.prog 186 #[.int .u32 x, .int .i64 13] w fun e w' => e = .returned (.int .u32 (rotI x 13)) ∧ w' = w := by
  have hs : bits .and .u64 (IntKind.u64.wrap (-13)) 31 = 19 := by kernel_rfl
  go_enter Tryz.func186, Tryz.ntmps186
  go_wp2
  go_ret
  exact ⟨rfl, rfl⟩

set_option maxHeartbeats 1000000 in
theorem right_17 (x : Int) (w : World) (h0 : 0 ≤ x) (h1 : x < 4294967296) :
    Calls Tryz.prog 186 #[.int .u32 x, .int .i64 17] w fun e w' => e = .returned (.int .u32 (rotI x 17)) ∧ w' = w := by
  have hs : bits .and .u64 (IntKind.u64.wrap (-17)) 31 = 15 := by kernel_rfl
  go_enter Tryz.func186, Tryz.ntmps186
  go_wp2
  go_ret
  exact ⟨rfl, rfl⟩

set_option maxHeartbeats 1000000 in
theorem right_18 (x : Int) (w : World) (h0 : 0 ≤ x) (h1 : x < 4294967296) :
    Calls Tryz.prog 186 #[.int .u32 x, .int .i64 18] w fun e w' => e = .returned (.int .u32 (rotI x 18)) ∧ w' = w := by
  have hs : bits .and .u64 (IntKind.u64.wrap (-18)) 31 = 14 := by kernel_rfl
  go_enter Tryz.func186, Tryz.ntmps186
  go_wp2
  go_ret
  exact ⟨rfl, rfl⟩

set_option maxHeartbeats 1000000 in
theorem right_19 (x : Int) (w : World) (h0 : 0 ≤ x) (h1 : x < 4294967296) :
    Calls Tryz.prog 186 #[.int .u32 x, .int .i64 19] w fun e w' => e = .returned (.int .u32 (rotI x 19)) ∧ w' = w := by
  have hs : bits .and .u64 (IntKind.u64.wrap (-19)) 31 = 13 := by kernel_rfl
  go_enter Tryz.func186, Tryz.ntmps186
  go_wp2
  go_ret
  exact ⟨rfl, rfl⟩

set_option maxHeartbeats 1000000 in
theorem right_22 (x : Int) (w : World) (h0 : 0 ≤ x) (h1 : x < 4294967296) :
    Calls Tryz.prog 186 #[.int .u32 x, .int .i64 22] w fun e w' => e = .returned (.int .u32 (rotI x 22)) ∧ w' = w := by
  have hs : bits .and .u64 (IntKind.u64.wrap (-22)) 31 = 10 := by kernel_rfl
  go_enter Tryz.func186, Tryz.ntmps186
  go_wp2
  go_ret
  exact ⟨rfl, rfl⟩

set_option maxHeartbeats 1000000 in
theorem right_25 (x : Int) (w : World) (h0 : 0 ≤ x) (h1 : x < 4294967296) :
    Calls Tryz.prog 186 #[.int .u32 x, .int .i64 25] w fun e w' => e = .returned (.int .u32 (rotI x 25)) ∧ w' = w := by
  have hs : bits .and .u64 (IntKind.u64.wrap (-25)) 31 = 7 := by kernel_rfl
  go_enter Tryz.func186, Tryz.ntmps186
  go_wp2
  go_ret
  exact ⟨rfl, rfl⟩


theorem rotI_eq (x n : Nat) (hx : x < 4294967296) (hn : n ≤ 32) : rotI x n = ((rot x n : Nat) : Int) := by
  unfold rotI
  have h2 : 2 ^ n * 2 ^ (32 - n) = 4294967296 := by rw [← Nat.pow_add, show n + (32 - n) = 32 by omega]
  have e1 : IntKind.u32.wrap ((x : Int) * 2 ^ (32 - n)) = ((x % 2 ^ n * 2 ^ (32 - n) : Nat) : Int) := by
    rw [IntKind.wrap_u32]
    have : ((x * 2 ^ (32 - n) : Nat) : Int) % 4294967296 = ((x * 2 ^ (32 - n) % 4294967296 : Nat) : Int) := by omega
    rw [show (x : Int) * 2 ^ (32 - n) = ((x * 2 ^ (32 - n) : Nat) : Int) by simp, this, ← h2, Nat.mul_mod_mul_right]
  have e2 : (x : Int) / 2 ^ n = ((x / 2 ^ n : Nat) : Int) := by simp
  have h1 : x % 2 ^ n < 2 ^ n := Nat.mod_lt _ (Nat.two_pow_pos _)
  have h3 : x / 2 ^ n < 2 ^ (32 - n) := by
    rw [Nat.div_lt_iff_lt_mul (Nat.two_pow_pos _), Nat.mul_comm, h2]; exact hx
  have h4 : (x % 2 ^ n + 1) * 2 ^ (32 - n) ≤ 4294967296 := by rw [← h2]; exact Nat.mul_le_mul_right _ h1
  have h5 : x % 2 ^ n * 2 ^ (32 - n) < 4294967296 := by
    rw [Nat.add_mul] at h4
    have := Nat.two_pow_pos (32 - n)
    omega
  rw [e1, e2, u32_or_nat _ _ h5 (by have := Nat.div_le_self x (2 ^ n); omega), or_add _ _ _ h3]
  unfold rot
  rw [Nat.add_comm]
theorem rt_2 (x : Nat) (w : World) (h : x < 4294967296) : Calls Tryz.prog 186 #[.int .u32 x, .int .i64 2] w fun e w' => e = .returned (.int .u32 (rot x 2 : Nat)) ∧ w' = w := by
  rw [← rotI_eq x 2 h (by decide)]
  exact right_2 x w (by omega) (by omega)
theorem rt_6 (x : Nat) (w : World) (h : x < 4294967296) : Calls Tryz.prog 186 #[.int .u32 x, .int .i64 6] w fun e w' => e = .returned (.int .u32 (rot x 6 : Nat)) ∧ w' = w := by
  rw [← rotI_eq x 6 h (by decide)]
  exact right_6 x w (by omega) (by omega)
theorem rt_7 (x : Nat) (w : World) (h : x < 4294967296) : Calls Tryz.prog 186 #[.int .u32 x, .int .i64 7] w fun e w' => e = .returned (.int .u32 (rot x 7 : Nat)) ∧ w' = w := by
  rw [← rotI_eq x 7 h (by decide)]
  exact right_7 x w (by omega) (by omega)
theorem rt_11 (x : Nat) (w : World) (h : x < 4294967296) : Calls Tryz.prog 186 #[.int .u32 x, .int .i64 11] w fun e w' => e = .returned (.int .u32 (rot x 11 : Nat)) ∧ w' = w := by
  rw [← rotI_eq x 11 h (by decide)]
  exact right_11 x w (by omega) (by omega)
theorem rt_13 (x : Nat) (w : World) (h : x < 4294967296) : Calls Tryz.prog 186 #[.int .u32 x, .int .i64 13] w fun e w' => e = .returned (.int .u32 (rot x 13 : Nat)) ∧ w' = w := by
  rw [← rotI_eq x 13 h (by decide)]
  exact right_13 x w (by omega) (by omega)
theorem rt_17 (x : Nat) (w : World) (h : x < 4294967296) : Calls Tryz.prog 186 #[.int .u32 x, .int .i64 17] w fun e w' => e = .returned (.int .u32 (rot x 17 : Nat)) ∧ w' = w := by
  rw [← rotI_eq x 17 h (by decide)]
  exact right_17 x w (by omega) (by omega)
theorem rt_18 (x : Nat) (w : World) (h : x < 4294967296) : Calls Tryz.prog 186 #[.int .u32 x, .int .i64 18] w fun e w' => e = .returned (.int .u32 (rot x 18 : Nat)) ∧ w' = w := by
  rw [← rotI_eq x 18 h (by decide)]
  exact right_18 x w (by omega) (by omega)
theorem rt_19 (x : Nat) (w : World) (h : x < 4294967296) : Calls Tryz.prog 186 #[.int .u32 x, .int .i64 19] w fun e w' => e = .returned (.int .u32 (rot x 19 : Nat)) ∧ w' = w := by
  rw [← rotI_eq x 19 h (by decide)]
  exact right_19 x w (by omega) (by omega)
theorem rt_22 (x : Nat) (w : World) (h : x < 4294967296) : Calls Tryz.prog 186 #[.int .u32 x, .int .i64 22] w fun e w' => e = .returned (.int .u32 (rot x 22 : Nat)) ∧ w' = w := by
  rw [← rotI_eq x 22 h (by decide)]
  exact right_22 x w (by omega) (by omega)
theorem rt_25 (x : Nat) (w : World) (h : x < 4294967296) : Calls Tryz.prog 186 #[.int .u32 x, .int .i64 25] w fun e w' => e = .returned (.int .u32 (rot x 25 : Nat)) ∧ w' = w := by
  rw [← rotI_eq x 25 h (by decide)]
  exact right_25 x w (by omega) (by omega)
end Go.Proofs.YtfdijcdpmgkdkaaGreatDoor
set_option linter.unusedVariables false
namespace Go.Proofs.YtfdijcdpmgkdkaaGreatDoor
open Go.RowKit

theorem getD_at (l : List UInt8) (j : Nat) (h : j < l.length) : l.getD j 0 = l[j] := by
  rw [List.getD_eq_getElem?_getD, List.getElem?_eq_getElem h]; rfl
theorem cell_zero {w : World} {g t : Nat} {l : List UInt8} {T : TypeId} {fr : Nat × Nat} (h : w.heap[g]? = some (.cells (u32s (schedU l t ++ List.replicate (64 - t) 0)).toArray T fr)) (ht : t < 64) : w.cell? ⟨g, t, none⟩ = some (.int .u32 0) := by
  have hl := schedU_len l t
  have := cell_u32s h (j := t) (by simp [hl]; omega)
  rw [this, List.getElem_append_right (by omega)]
  simp
theorem setCell_blockS {w : World} {g o : Nat} {cs : Array Value} {T : TypeId} {fr : Nat × Nat} (h : w.heap[g]? = some (.cells cs T fr)) (v : Value) :
    (w.setCell ⟨g, o, none⟩ v).heap[g]? = some (.cells (cs.setIfInBounds o v) T fr) := by
  simp [World.setCell, Array.getElem?_modify, h]

theorem below_setRowS {B g : Nat} {a w : World} (h : Below B a w) (hg : B ≤ g) (cs : Array Value) : Below B a (w.setRow g cs) :=
  h.trans ⟨rfl, rfl, rfl, by simp, fun k hk => setRow_other w g k cs (by omega)⟩
theorem u32s_zeros (l : List UInt8) : (u32s (schedU l 0 ++ List.replicate (64 - 0) 0)).toArray = (List.replicate 64 (Value.int .u32 0)).toArray := by
  simp [u32s, schedU]

set_option maxRecDepth 100000 in
set_option maxHeartbeats 2000000 in
theorem schedule_any (a : Option Addr) (l : List UInt8) (n cp : Nat) (w : World) (hr : Rd w a l) (hn : n = l.length) (hl : 64 ≤ l.length) (hm : l.length ≤ 1000000) :
    Calls Tryz.prog 185 #[.slice a n cp] w fun e w' => e = .returned (.agg (u32s (schedU l 64)).toArray) ∧ Below w.heap.size w w' := by
  subst hn
  go_enter Tryz.func185, Tryz.ntmps185
  go_wp2
  go_loopg [7] 64 (fun k i wr => ∃ t : Nat, t + k = 64 ∧ i = .int .i64 t ∧ Below w.heap.size w wr ∧ Hid (wr.heap[w.heap.size + 1]? = some (.cells (u32s (schedU l t ++ List.replicate (64 - t) 0)).toArray 221 (0, 0))) ∧ Hid (∃ cs, wr.heap[w.heap.size]? = some (.cells cs 221 (0, 0)) ∧ cs.size = 64))
  case atStart =>
    refine ⟨0, by omega, rfl, ((Below.refl _ _).alloc (Nat.le_refl _) _).alloc (by simp) _, Lib.hid ?_, Lib.hid ?_⟩
    · rw [u32s_zeros]
      exact heap_alloc2_new w _ _
    · exact ⟨_, heap_alloc2_old w _ _, by simp⟩
  case round =>
    obtain ⟨t, ht, rfl, hbel, hblk, hblk0⟩ := hrel
    by_cases hlt : t < 64
    · by_cases h16 : t < 16
      · obtain ⟨b, off, rfl, hc⟩ := hr.at (show 0 < l.length by omega)
        have hc0 := cell_now hbel (hc (4 * t) (by omega))
        have hc1 := cell_now hbel (hc (4 * t + 1) (by omega))
        have hc2 := cell_now hbel (hc (4 * t + 2) (by omega))
        have hc3 := cell_now hbel (hc (4 * t + 3) (by omega))
        have hb0 := (l[4 * t]'(by omega)).toNat_lt
        have hb1 := (l[4 * t + 1]'(by omega)).toNat_lt
        have hb2 := (l[4 * t + 2]'(by omega)).toNat_lt
        have hb3 := (l[4 * t + 3]'(by omega)).toNat_lt
        have hnext : word l t = nextW l (schedU l t) := by unfold nextW; rw [schedU_len, if_pos h16]
        have hword : word l t = (l[4 * t]'(by omega)).toNat * 16777216 + (l[4 * t + 1]'(by omega)).toNat * 65536 + (l[4 * t + 2]'(by omega)).toNat * 256 + (l[4 * t + 3]'(by omega)).toNat := by
          unfold word
          rw [getD_at l (4 * t) (by omega), getD_at l (4 * t + 1) (by omega), getD_at l (4 * t + 2) (by omega), getD_at l (4 * t + 3) (by omega)]
        have HN := Lib.hid hnext
        obtain ⟨x0, hx0⟩ : ∃ x, (l[4 * t]'(by omega)).toNat = x := ⟨_, rfl⟩
        obtain ⟨x1, hx1⟩ : ∃ x, (l[4 * t + 1]'(by omega)).toNat = x := ⟨_, rfl⟩
        obtain ⟨x2, hx2⟩ : ∃ x, (l[4 * t + 2]'(by omega)).toNat = x := ⟨_, rfl⟩
        obtain ⟨x3, hx3⟩ : ∃ x, (l[4 * t + 3]'(by omega)).toNat = x := ⟨_, rfl⟩
        rw [hx0] at hc0 hb0 hword
        rw [hx1] at hc1 hb1 hword
        rw [hx2] at hc2 hb2 hword
        rw [hx3] at hc3 hb3 hword
        clear hx0 hx1 hx2 hx3 hnext hc
        have c0 : IntKind.u32.wrap (x0 : Int) = x0 := by rw [IntKind.wrap_u32]; omega
        have c1 : IntKind.u32.wrap (x1 : Int) = x1 := by rw [IntKind.wrap_u32]; omega
        have c2 : IntKind.u32.wrap (x2 : Int) = x2 := by rw [IntKind.wrap_u32]; omega
        have c3 : IntKind.u32.wrap (x3 : Int) = x3 := by rw [IntKind.wrap_u32]; omega
        have d0 : IntKind.u32.wrap ((x0 : Int) * 16777216) = ((x0 * 16777216 : Nat) : Int) := by rw [IntKind.wrap_u32]; omega
        have d1 : IntKind.u32.wrap ((x1 : Int) * 65536) = ((x1 * 65536 : Nat) : Int) := by rw [IntKind.wrap_u32]; omega
        have d2 : IntKind.u32.wrap ((x2 : Int) * 256) = ((x2 * 256 : Nat) : Int) := by rw [IntKind.wrap_u32]; omega
        have o1 : bits .or .u32 ((x0 * 16777216 : Nat) : Int) ((x1 * 65536 : Nat) : Int) = ((x0 * 16777216 + x1 * 65536 : Nat) : Int) := by
          rw [u32_or_nat _ _ (by omega) (by omega), show x0 * 16777216 = (x0) * 2 ^ 24 by rfl, or_add x0 (x1 * 65536) 24 (by omega)]
        have o2 : bits .or .u32 ((x0 * 16777216 + x1 * 65536 : Nat) : Int) ((x2 * 256 : Nat) : Int) = ((x0 * 16777216 + x1 * 65536 + x2 * 256 : Nat) : Int) := by
          rw [u32_or_nat _ _ (by omega) (by omega), show x0 * 16777216 + x1 * 65536 = (x0 * 256 + x1) * 2 ^ 16 by omega, or_add (x0 * 256 + x1) (x2 * 256) 16 (by omega)]
        have o3 : bits .or .u32 ((x0 * 16777216 + x1 * 65536 + x2 * 256 : Nat) : Int) (x3 : Int) = ((word l t : Nat) : Int) := by
          rw [u32_or_nat _ _ (by omega) (by omega), show x0 * 16777216 + x1 * 65536 + x2 * 256 = (x0 * 65536 + x1 * 256 + x2) * 2 ^ 8 by omega, or_add (x0 * 65536 + x1 * 256 + x2) x3 8 (by omega), hword]
          omega
        obtain ⟨a0, ha0⟩ : ∃ a : Nat, x0 * 16777216 = a := ⟨_, rfl⟩
        obtain ⟨a1, ha1⟩ : ∃ a : Nat, x1 * 65536 = a := ⟨_, rfl⟩
        obtain ⟨a2, ha2⟩ : ∃ a : Nat, x2 * 256 = a := ⟨_, rfl⟩
        rw [ha0, ha1] at o1
        rw [ha0, ha1, ha2] at o2 o3
        rw [ha0] at d0
        rw [ha1] at d1
        rw [ha2] at d2
        obtain ⟨a3, ha3⟩ : ∃ a : Nat, a0 + a1 = a := ⟨_, rfl⟩
        rw [ha3] at o1 o2 o3
        obtain ⟨a4, ha4⟩ : ∃ a : Nat, a3 + a2 = a := ⟨_, rfl⟩
        rw [ha4] at o2 o3
        obtain ⟨a5, ha5⟩ : ∃ a : Nat, word l t = a := ⟨_, rfl⟩
        rw [ha5] at o3
        have HO := Lib.hid ha5.symm
        clear ha0 ha1 ha2 ha3 ha4 ha5 hword
        have i0 : IntKind.i64.wrap (4 * (t : Int)) = 4 * (t : Int) := IntWalk.i64_in _ (by omega)
        have i1 : IntKind.i64.wrap (4 * (t : Int) + 1) = 4 * (t : Int) + 1 := IntWalk.i64_in _ (by omega)
        have i2 : IntKind.i64.wrap (4 * (t : Int) + 2) = 4 * (t : Int) + 2 := IntWalk.i64_in _ (by omega)
        have i3 : IntKind.i64.wrap (4 * (t : Int) + 3) = 4 * (t : Int) + 3 := IntWalk.i64_in _ (by omega)
        have n0 : (4 * (t : Int)).toNat = 4 * t := by omega
        have n1 : (4 * (t : Int) + 1).toNat = 4 * t + 1 := by omega
        have n2 : (4 * (t : Int) + 2).toNat = 4 * t + 2 := by omega
        have n3 : (4 * (t : Int) + 3).toNat = 4 * t + 3 := by omega
        have p0 : 0 ≤ 4 * (t : Int) := by omega
        have p1 : 0 ≤ 4 * (t : Int) + 1 := by omega
        have p2 : 0 ≤ 4 * (t : Int) + 2 := by omega
        have p3 : 0 ≤ 4 * (t : Int) + 3 := by omega
        have q0 : 4 * (t : Int) < l.length := by omega
        have q1 : 4 * (t : Int) + 1 < l.length := by omega
        have q2 : 4 * (t : Int) + 2 < l.length := by omega
        have q3 : 4 * (t : Int) + 3 < l.length := by omega
        go_upto_region 6 with (fail)
        refine wp_region_still_tail 35 (by kernel_rfl) (by kernel_rfl) ?_
        simp only [List.take_succ_cons, List.take_zero, List.drop_succ_cons, List.drop_zero]
        repeat still_step
        refine wpStill_nil ?_
        change wpList _ _ _ _ _ wr.drew
        have hcell : wr.drew.cell? ⟨w.heap.size + 1, t, none⟩ = some (.int .u32 0) := cell_zero hblk.out hlt
        have hfz : wr.drew.frozen? ⟨w.heap.size + 1, t, none⟩ = false := Lib.frozen_of_heap hblk.out t
        have hbl2 : wr.drew.heap[w.heap.size + 1]? = _ := hblk.out
        have HBL := Lib.hid hbl2
        have hbel2 := hbel.drew
        have hblk02 : ∃ cs, wr.drew.heap[w.heap.size]? = some (.cells cs 221 (0, 0)) ∧ cs.size = 64 := hblk0.out
        have HB0 := Lib.hid hblk02
        clear hbl2 hblk02 hbel hblk hblk0
        obtain ⟨w2, hw2⟩ : ∃ w2, wr.drew = w2 := ⟨_, rfl⟩
        rw [hw2] at hcell hfz HBL hbel2 HB0
        rw [hw2]
        clear hw2
        go_wp2
        go_roundg (gk - 1)
        case measure => omega
        case rel =>
          refine ⟨t + 1, by omega, by go_num, hbel2.setCell (by simp) _, Lib.hid ?_, Lib.hid ?_⟩
          · rw [setCell_blockS HBL.out, HO.out, u32s_set, HN.out, sched_set l t hlt]
          · obtain ⟨cs, h1, h2⟩ := HB0.out
            exact ⟨cs, by rw [Below.heap_setCell _ _ _ _ (by simp)]; exact h1, h2⟩
      · have hlen : (schedU l t ++ List.replicate (64 - t) 0).length = 64 := by simp [schedU_len]; omega
        have hc2 := cell_u32s hblk.out (j := t - 2) (by omega)
        have hc7 := cell_u32s hblk.out (j := t - 7) (by omega)
        have hc15 := cell_u32s hblk.out (j := t - 15) (by omega)
        have hc16 := cell_u32s hblk.out (j := t - 16) (by omega)
        rw [sched_at l t (t - 2) (by omega) (by omega)] at hc2
        rw [sched_at l t (t - 7) (by omega) (by omega)] at hc7
        rw [sched_at l t (t - 15) (by omega) (by omega)] at hc15
        rw [sched_at l t (t - 16) (by omega) (by omega)] at hc16
        have hnext : nextW l (schedU l t) = (sg1 ((schedU l t).getD (t - 2) 0) + (schedU l t).getD (t - 7) 0 + sg0 ((schedU l t).getD (t - 15) 0) + (schedU l t).getD (t - 16) 0) % 4294967296 := by
          unfold nextW; rw [schedU_len, if_neg (by omega)]
        have b2 := getD_lt l t (t - 2)
        have b7 := getD_lt l t (t - 7)
        have b15 := getD_lt l t (t - 15)
        have b16 := getD_lt l t (t - 16)
        generalize (schedU l t).getD (t - 2) 0 = y at *
        generalize (schedU l t).getD (t - 7) 0 = s7 at *
        generalize (schedU l t).getD (t - 15) 0 = x at *
        generalize (schedU l t).getD (t - 16) 0 = s16 at *
        have e1 := u32_xor_nat (rot y 17) (rot y 19) (rot_lt _ _ b2 (by decide)) (rot_lt _ _ b2 (by decide))
        have e2 := u32_xor_nat (rot y 17 ^^^ rot y 19) (y / 1024) (xor_lt _ _ (rot_lt _ _ b2 (by decide)) (rot_lt _ _ b2 (by decide))) (by omega)
        have e3 := u32_xor_nat (rot x 7) (rot x 18) (rot_lt _ _ b15 (by decide)) (rot_lt _ _ b15 (by decide))
        have e4 := u32_xor_nat (rot x 7 ^^^ rot x 18) (x / 8) (xor_lt _ _ (rot_lt _ _ b15 (by decide)) (rot_lt _ _ b15 (by decide))) (by omega)
        have hs1 : (rot y 17 ^^^ rot y 19) ^^^ (y / 1024) = sg1 y := rfl
        have hs0 : (rot x 7 ^^^ rot x 18) ^^^ (x / 8) = sg0 x := rfl
        have l1 := sg1_lt y b2
        have l0 := sg0_lt x b15
        rw [hs1] at e2
        rw [hs0] at e4
        have R17 := fun w => rt_17 y w b2
        have R19 := fun w => rt_19 y w b2
        have R7 := fun w => rt_7 x w b15
        have R18 := fun w => rt_18 x w b15
        rw [show ((y / 1024 : Nat) : Int) = (y : Int) / 1024 by simp] at e2
        rw [show ((x / 8 : Nat) : Int) = (x : Int) / 8 by simp] at e4
        generalize rot y 17 ^^^ rot y 19 = v1 at *
        generalize rot x 7 ^^^ rot x 18 = v0 at *
        generalize rot y 17 = r17 at *
        generalize rot y 19 = r19 at *
        generalize rot x 7 = r7 at *
        generalize rot x 18 = r18 at *
        clear hs1 hs0
        generalize sg1 y = g1 at *
        generalize sg0 x = g0 at *
        have f1 : IntKind.u32.wrap ((g1 : Int) + s7) = (((g1 + s7) % 4294967296 : Nat) : Int) := by rw [IntKind.wrap_u32]; omega
        have f2 : IntKind.u32.wrap ((((g1 + s7) % 4294967296 : Nat) : Int) + g0) = (((g1 + s7 + g0) % 4294967296 : Nat) : Int) := by rw [IntKind.wrap_u32]; omega
        have f3 : IntKind.u32.wrap ((((g1 + s7 + g0) % 4294967296 : Nat) : Int) + s16) = (((g1 + s7 + g0 + s16) % 4294967296 : Nat) : Int) := by rw [IntKind.wrap_u32]; omega
        generalize (g1 + s7) % 4294967296 = m1 at *
        generalize (g1 + s7 + g0) % 4294967296 = m2 at *
        generalize (g1 + s7 + g0 + s16) % 4294967296 = m3 at *
        have HN := Lib.hid hnext
        have HR17 := Lib.hid R17
        have HR19 := Lib.hid R19
        have HR7 := Lib.hid R7
        have HR18 := Lib.hid R18
        clear hnext R17 R19 R7 R18 hlen l1 l0
        have i2 : IntKind.i64.wrap ((t : Int) - 2) = (t : Int) - 2 := IntWalk.i64_in _ (by omega)
        have i7 : IntKind.i64.wrap ((t : Int) - 7) = (t : Int) - 7 := IntWalk.i64_in _ (by omega)
        have i15 : IntKind.i64.wrap ((t : Int) - 15) = (t : Int) - 15 := IntWalk.i64_in _ (by omega)
        have i16 : IntKind.i64.wrap ((t : Int) - 16) = (t : Int) - 16 := IntWalk.i64_in _ (by omega)
        have p2 : 0 ≤ (t : Int) - 2 := by omega
        have p7 : 0 ≤ (t : Int) - 7 := by omega
        have p15 : 0 ≤ (t : Int) - 15 := by omega
        have p16 : 0 ≤ (t : Int) - 16 := by omega
        have q2 : (t : Int) - 2 < 64 := by omega
        have q7 : (t : Int) - 7 < 64 := by omega
        have q15 : (t : Int) - 15 < 64 := by omega
        have q16 : (t : Int) - 16 < 64 := by omega
        have u2 : 2 ≤ (t : Int) := by omega
        have u7 : 7 ≤ (t : Int) := by omega
        have u15 : 15 ≤ (t : Int) := by omega
        have u16 : 16 ≤ (t : Int) := by omega
        have n2 : ((t : Int) - 2).toNat = t - 2 := by omega
        have n7 : ((t : Int) - 7).toNat = t - 7 := by omega
        have n15 : ((t : Int) - 15).toNat = t - 15 := by omega
        have n16 : ((t : Int) - 16).toNat = t - 16 := by omega
        go_upto_region 7 with (fail)
        go_quiet (fail)
        have hc7' : (wr.drewN nq).cell? _ = _ := hc7
        have hc16' : (wr.drewN nq).cell? _ = _ := hc16
        have hblk' : (wr.drewN nq).heap[w.heap.size + 1]? = _ := hblk.out
        have hblk0' : ∃ cs, (wr.drewN nq).heap[w.heap.size]? = some (.cells cs 221 (0, 0)) ∧ cs.size = 64 := hblk0.out
        have hbel' := Below.trans hbel (⟨rfl, rfl, rfl, Nat.le_refl _, fun _ _ => rfl⟩ : Below w.heap.size wr (wr.drewN nq))
        have HBK := Lib.hid hblk'
        have HB0 := Lib.hid hblk0'
        clear hc2 hc7 hc15 hc16 hblk hblk0 hbel hblk' hblk0'
        obtain ⟨wq, hwq⟩ : ∃ wq, wr.drewN nq = wq := ⟨_, rfl⟩
        rw [hwq] at hc7' hc16' HBK HB0 hbel'
        rw [hwq]
        clear hwq
        go_upto_region 8 with (fail)
        refine wp_region_still_tail 29 (by kernel_rfl) (by kernel_rfl) ?_
        simp only [List.take_succ_cons, List.take_zero, List.drop_succ_cons, List.drop_zero]
        repeat (refine wpStill_step (fun K hK => ?_); go_simp; (first | (with_reducible refine hK _ ?_) | (with_reducible refine ⟨_, HR17.out _, hK _ ?_⟩) | (with_reducible refine ⟨_, HR19.out _, hK _ ?_⟩) | (with_reducible refine ⟨_, HR7.out _, hK _ ?_⟩) | (with_reducible refine ⟨_, HR18.out _, hK _ ?_⟩)); clear hK K)
        refine wpStill_nil ?_
        change wpList _ _ _ _ _ wq.drew
        have hcell : wq.drew.cell? ⟨w.heap.size + 1, t, none⟩ = some (.int .u32 0) := cell_zero HBK.out hlt
        have hfz : wq.drew.frozen? ⟨w.heap.size + 1, t, none⟩ = false := Lib.frozen_of_heap HBK.out t
        have hbl2 : wq.drew.heap[w.heap.size + 1]? = _ := HBK.out
        have HBL := Lib.hid hbl2
        have hbel2 := hbel'.drew
        have hblk02 : ∃ cs, wq.drew.heap[w.heap.size]? = some (.cells cs 221 (0, 0)) ∧ cs.size = 64 := HB0.out
        have HB02 := Lib.hid hblk02
        clear hbl2 hblk02 hbel' HBK HB0 hc7' hc16'
        obtain ⟨w2, hw2⟩ : ∃ w2, wq.drew = w2 := ⟨_, rfl⟩
        rw [hw2] at hcell hfz HBL hbel2 HB02
        rw [hw2]
        clear hw2
        go_wp2
        go_roundg (gk - 1)
        case measure => omega
        case rel =>
          refine ⟨t + 1, by omega, by go_num, hbel2.setCell (by simp) _, Lib.hid ?_, Lib.hid ?_⟩
          · rw [setCell_blockS HBL.out, u32s_set, ← HN.out, sched_set l t hlt]
          · obtain ⟨cs, h1, h2⟩ := HB02.out
            exact ⟨cs, by rw [Below.heap_setCell _ _ _ _ (by simp)]; exact h1, h2⟩
    · have ht64 : t = 64 := by omega
      subst ht64
      have hb1 : wr.heap[w.heap.size + 1]? = some (.cells (u32s (schedU l 64)).toArray 221 (0, 0)) := by have := hblk.out; simpa using this
      obtain ⟨cs, hb0, hcs⟩ := hblk0.out
      have HB1 := Lib.hid hb1
      have HB0 := Lib.hid hb0
      have hsz : (u32s (schedU l 64)).toArray.size = 64 := by simp [u32s, schedU_len]
      have HSZ := Lib.hid hsz
      clear hb1 hb0 hsz hblk hblk0
      obtain ⟨S, hS⟩ : ∃ S, (u32s (schedU l 64)).toArray = S := ⟨_, rfl⟩
      have hone : S.all (·.oneCell') = true := by rw [← hS]; simp [u32s, Value.oneCell']
      rw [hS] at HB1 HSZ
      have HS := Lib.hid hS
      clear hS
      go_upto_region 10 with (fail)
      apply wp_region_lit
      refine wpList_load_row rfl 221 (.tmp 3) rfl (w.heap.size + 1) rfl 221 S (0, 0) _ HB1.out Tryz.underlying221 rfl (by rw [HSZ.out]; kernel_rfl) ?_
      refine wpList_store_row rfl 221 (.tmp 2) (.tmp 85) rfl (w.heap.size) S rfl rfl 221 cs HB0.out (by rw [HSZ.out]; kernel_rfl) (by rw [HSZ.out, hcs]) hone ?_
      apply wpList_nil
      have hb2 := below_setRowS hbel (Nat.le_refl w.heap.size) S
      have hg2 := setRow_heap wr w.heap.size cs S 221 (0, 0) HB0.out
      have HG2 := Lib.hid hg2
      clear hg2
      go_wp2
      rw [HS.out]
      exact bodyPost_ret (results_cell_row rfl _ _ w.heap.size 221 S (0, 0) _ rfl HG2.out Tryz.underlying221 rfl (by rw [HSZ.out]; kernel_rfl)) rfl ⟨rfl, hb2⟩
end Go.Proofs.YtfdijcdpmgkdkaaGreatDoor
set_option linter.unusedVariables false
namespace Go.Proofs.YtfdijcdpmgkdkaaGreatDoor
open Go.RowKit

/-- As wp_region_still_lit: the world behind the region has a name of its own. -/
theorem still_named {P : Program} {id : Nat} {Q : Exit → Act → World → Prop} {a : Act} {w : World} {l : List Oper} (hm : P.follows .mixedOrders = true) (hB : Region.lexB .any l.toArray = true)
    (h : ∀ wq, Hid (wq = w.drew) → wpStill P l.toArray w.drew (fun a' => Q .normal a' wq) l a) : (Code.region id l.toArray true).wp P Q a w :=
  wp_region_still_lit hm hB (h _ (Lib.hid rfl))

theorem bits_not (e : Nat) (he : e < 4294967296) : bits .xor .u32 4294967295 (e : Int) = ((4294967295 - e : Nat) : Int) := by
  have h := u32_xor_nat 4294967295 e (by decide) he
  rw [show ((4294967295 : Nat) : Int) = 4294967295 by rfl] at h
  rw [h]
  congr 1
  have h2 : ∀ x : BitVec 32, BitVec.allOnes 32 ^^^ x = ~~~ x := fun x => BitVec.allOnes_xor
  have h3 := congrArg BitVec.toNat (h2 (BitVec.ofNat 32 e))
  rw [BitVec.toNat_xor, BitVec.toNat_not, BitVec.toNat_allOnes, BitVec.toNat_ofNat, Nat.mod_eq_of_lt (by omega : e < 2 ^ 32)] at h3
  exact h3

theorem wrap_sum (x y : Nat) : IntKind.u32.wrap ((x : Int) + (y : Int)) = (((x + y) % 4294967296 : Nat) : Int) := by rw [IntKind.wrap_u32]; omega

theorem round1 (e f g h k w : Nat) (he : e < 4294967296) (hf : f < 4294967296) (hg : g < 4294967296) (hh : h < 4294967296) (hk : k < 4294967296) (hw : w < 4294967296) :
    ∃ r6 r11 r25 v1 v2 s1 a1 ne a2 ch s2 s3 t1 : Nat,
      (∀ w', Calls Tryz.prog 186 #[.int .u32 e, .int .i64 6] w' fun x w'' => x = .returned (.int .u32 (r6 : Nat)) ∧ w'' = w') ∧
      (∀ w', Calls Tryz.prog 186 #[.int .u32 e, .int .i64 11] w' fun x w'' => x = .returned (.int .u32 (r11 : Nat)) ∧ w'' = w') ∧
      (∀ w', Calls Tryz.prog 186 #[.int .u32 e, .int .i64 25] w' fun x w'' => x = .returned (.int .u32 (r25 : Nat)) ∧ w'' = w') ∧
      bits .xor .u32 (r6 : Int) (r11 : Int) = (v1 : Int) ∧ bits .xor .u32 (v1 : Int) (r25 : Int) = (v2 : Int) ∧
      IntKind.u32.wrap ((h : Int) + (v2 : Int)) = (s1 : Int) ∧ bits .and .u32 (e : Int) (f : Int) = (a1 : Int) ∧
      bits .xor .u32 4294967295 (e : Int) = (ne : Int) ∧ bits .and .u32 (ne : Int) (g : Int) = (a2 : Int) ∧ bits .xor .u32 (a1 : Int) (a2 : Int) = (ch : Int) ∧
      IntKind.u32.wrap ((s1 : Int) + (ch : Int)) = (s2 : Int) ∧ IntKind.u32.wrap ((s2 : Int) + (k : Int)) = (s3 : Int) ∧ IntKind.u32.wrap ((s3 : Int) + (w : Int)) = (t1 : Int) ∧
      t1 = t1F e f g h k w ∧ t1 < 4294967296 := by
  have l6 := rot_lt e 6 he (by decide)
  have l11 := rot_lt e 11 he (by decide)
  have l25 := rot_lt e 25 he (by decide)
  have lv := xor_lt _ _ l6 l11
  have la := and_lt e f he
  have ln : 4294967295 - e < 4294967296 := by omega
  have lb := and_lt (4294967295 - e) g ln
  refine ⟨rot e 6, rot e 11, rot e 25, _, _, _, _, _, _, _, _, _, _, fun w' => rt_6 e w' he, fun w' => rt_11 e w' he, fun w' => rt_25 e w' he,
    u32_xor_nat _ _ l6 l11, u32_xor_nat _ _ lv l25, wrap_sum _ _, u32_and_nat _ _ he hf, bits_not _ he, u32_and_nat _ _ ln hg, u32_xor_nat _ _ la lb, wrap_sum _ _, wrap_sum _ _, wrap_sum _ _, ?_, Nat.mod_lt _ (by decide)⟩
  unfold t1F bs1 chF
  simp only [Nat.add_mod, Nat.mod_mod]

theorem round2 (a b c : Nat) (ha : a < 4294967296) (hb : b < 4294967296) (hc : c < 4294967296) :
    ∃ r2 r13 r22 v1 v2 b1 b2 b3 c1 mj t2 : Nat,
      (∀ w', Calls Tryz.prog 186 #[.int .u32 a, .int .i64 2] w' fun x w'' => x = .returned (.int .u32 (r2 : Nat)) ∧ w'' = w') ∧
      (∀ w', Calls Tryz.prog 186 #[.int .u32 a, .int .i64 13] w' fun x w'' => x = .returned (.int .u32 (r13 : Nat)) ∧ w'' = w') ∧
      (∀ w', Calls Tryz.prog 186 #[.int .u32 a, .int .i64 22] w' fun x w'' => x = .returned (.int .u32 (r22 : Nat)) ∧ w'' = w') ∧
      bits .xor .u32 (r2 : Int) (r13 : Int) = (v1 : Int) ∧ bits .xor .u32 (v1 : Int) (r22 : Int) = (v2 : Int) ∧
      bits .and .u32 (a : Int) (b : Int) = (b1 : Int) ∧ bits .and .u32 (a : Int) (c : Int) = (b2 : Int) ∧ bits .xor .u32 (b1 : Int) (b2 : Int) = (c1 : Int) ∧
      bits .and .u32 (b : Int) (c : Int) = (b3 : Int) ∧ bits .xor .u32 (c1 : Int) (b3 : Int) = (mj : Int) ∧ IntKind.u32.wrap ((v2 : Int) + (mj : Int)) = (t2 : Int) ∧
      t2 = t2F a b c ∧ t2 < 4294967296 := by
  have l6 := rot_lt a 2 ha (by decide)
  have l11 := rot_lt a 13 ha (by decide)
  have l25 := rot_lt a 22 ha (by decide)
  have lv := xor_lt _ _ l6 l11
  have l1 := and_lt a b ha
  have l2 := and_lt a c ha
  have l3 := and_lt b c hb
  have l4 := xor_lt _ _ l1 l2
  exact ⟨rot a 2, rot a 13, rot a 22, _, _, _, _, _, _, _, _, fun w' => rt_2 a w' ha, fun w' => rt_13 a w' ha, fun w' => rt_22 a w' ha,
    u32_xor_nat _ _ l6 l11, u32_xor_nat _ _ lv l25, u32_and_nat _ _ ha hb, u32_and_nat _ _ ha hc, u32_xor_nat _ _ l1 l2, u32_and_nat _ _ hb hc, u32_xor_nat _ _ l4 l3, wrap_sum _ _, rfl, Nat.mod_lt _ (by decide)⟩

theorem kAt_lt (t : Nat) : kAt t < 4294967296 := by
  unfold kAt
  by_cases h : t < 64
  · have : ∀ i : Fin 64, kTab.getD i.val 0 < 4294967296 := by decide +kernel
    exact this ⟨t, h⟩
  · rw [List.getD_eq_getElem?_getD, List.getElem?_eq_none (by simp [kTab]; omega)]
    decide
end Go.Proofs.YtfdijcdpmgkdkaaGreatDoor
set_option linter.unusedVariables false
namespace Go.Proofs.YtfdijcdpmgkdkaaGreatDoor
open Go.RowKit

theorem u32s_size (s : List Nat) : (u32s s).toArray.size = s.length := by simp [u32s]

theorem u32s_one (s : List Nat) : (u32s s).toArray.all (·.oneCell') = true := by simp [u32s, Value.oneCell']

/-- What a round finds: the block's numbers, the state in its turn. -/
structure CAt (B : Nat) (w wr : World) (ws : List Nat) (st : List Nat) (g5 g6 : Nat) (s : List Nat) : Prop where
  bel : Below B w wr
  inp : wr.heap[B]? = some (.cells (u32s st).toArray 182 (0, 0))
  out : ∃ cs, wr.heap[B + 1]? = some (.cells cs 182 (0, 0)) ∧ cs.size = 8
  num : wr.heap[g5]? = some (.cells (u32s ws).toArray 221 (0, 0))
  cur : wr.heap[g6]? = some (.cells (u32s s).toArray 182 (0, 0))
  ge5 : B + 2 ≤ g5
  ge6 : B + 2 ≤ g6

theorem CAt.store {B : Nat} {w wr : World} {ws st : List Nat} {g5 g6 : Nat} {s : List Nat} (h : CAt B w wr ws st g5 g6 s) (s' : List Nat) : CAt B w (wr.setRow g6 (u32s s').toArray) ws st g5 g6 s' := by
  have h5 := h.ge5
  have h6 := h.ge6
  refine ⟨below_setRowS h.bel (by omega) _, by rw [setRow_other _ _ _ _ (by omega)]; exact h.inp, ?_, ?_, setRow_heap _ _ _ _ _ _ h.cur, h5, h6⟩
  · obtain ⟨cs, e1, e2⟩ := h.out
    exact ⟨cs, by rw [setRow_other _ _ _ _ (by omega)]; exact e1, e2⟩
  · rw [setRow_other _ _ _ _ (fun e => by have h1 := h.num; have h2 := h.cur; subst e; rw [h1] at h2; simp at h2)]
    exact h.num

/-- The first j numbers have had the block's own put to them. -/
def mix (R st : List Nat) (j : Nat) : List Nat := List.zipWith (fun x y => (x + y) % 4294967296) (R.take j) (st.take j) ++ R.drop j
theorem mix_zero (R st : List Nat) : mix R st 0 = R := by simp [mix]
theorem mix_all (R st : List Nat) (hR : St8 R) (hst : St8 st) : mix R st 8 = List.zipWith (fun x y => (x + y) % 4294967296) R st := by
  obtain ⟨a, b, c, d, e, f, g, i, rfl, _⟩ := hR.shape
  obtain ⟨a', b', c', d', e', f', g', i', rfl, _⟩ := hst.shape
  rfl
theorem mix_step (R st : List Nat) (hR : St8 R) (hst : St8 st) (j : Nat) (hj : j < 8) : ∃ r x, (mix R st j)[j]? = some r ∧ st[j]? = some x ∧ r < 4294967296 ∧ x < 4294967296 ∧ mix R st (j + 1) = (mix R st j).set j ((r + x) % 4294967296) := by
  obtain ⟨a, b, c, d, e, f, g, i, rfl, h1, h2, h3, h4, h5, h6, h7, h8⟩ := hR.shape
  obtain ⟨a', b', c', d', e', f', g', i', rfl, k1, k2, k3, k4, k5, k6, k7, k8⟩ := hst.shape
  match j, hj with
  | 0, _ => exact ⟨a, a', rfl, rfl, h1, k1, rfl⟩
  | 1, _ => exact ⟨b, b', rfl, rfl, h2, k2, rfl⟩
  | 2, _ => exact ⟨c, c', rfl, rfl, h3, k3, rfl⟩
  | 3, _ => exact ⟨d, d', rfl, rfl, h4, k4, rfl⟩
  | 4, _ => exact ⟨e, e', rfl, rfl, h5, k5, rfl⟩
  | 5, _ => exact ⟨f, f', rfl, rfl, h6, k6, rfl⟩
  | 6, _ => exact ⟨g, g', rfl, rfl, h7, k7, rfl⟩
  | 7, _ => exact ⟨i, i', rfl, rfl, h8, k8, rfl⟩
theorem CAt.set {B : Nat} {w wr : World} {ws st : List Nat} {g5 g6 : Nat} {s : List Nat} (h : CAt B w wr ws st g5 g6 s) (j x : Nat) : CAt B w (wr.setCell ⟨g6, j, none⟩ (.int .u32 x)) ws st g5 g6 (s.set j x) := by
  have h5 := h.ge5
  have h6 := h.ge6
  refine ⟨h.bel.setCell (by simp; omega) _, by rw [Below.heap_setCell _ _ _ _ (by simp; omega)]; exact h.inp, ?_, ?_, by rw [setCell_blockS h.cur, u32s_set], h5, h6⟩
  · obtain ⟨cs, e1, e2⟩ := h.out
    exact ⟨cs, by rw [Below.heap_setCell _ _ _ _ (by simp; omega)]; exact e1, e2⟩
  · rw [Below.heap_setCell _ _ _ _ (fun e => by simp at e; have h1 := h.num; have h2 := h.cur; subst e; rw [h1] at h2; simp at h2)]
    exact h.num

/-- How far the first statement is. -/
def R1 (w : World) (a : Option Addr) (l : List UInt8) (cp : Nat) (st ws : List Nat) (b : Nat → Bool) (a' : Act) (w' : World) : Prop :=
  ∃ v5 v6 v7 v12 v13 v14 : Value, ∃ g5 g6 : Nat, a' = { tmps := #[.agg (u32s st).toArray, .slice a l.length cp, .pointer (some ⟨w.heap.size, 0, none⟩), undef, .pointer (some ⟨w.heap.size + 1, 0, none⟩), v5, v6, v7, undef, undef, undef, undef, v12, v13, v14, undef, undef, undef, undef, undef, undef, undef, undef, undef, undef, undef, undef, undef, undef, undef, undef, undef, undef, undef, undef, undef, undef, undef, undef, undef, undef, undef, undef, undef, undef, undef, undef, undef, undef, undef, undef, undef, undef, undef, undef, undef, undef, undef, undef, undef, undef, undef, undef, undef, undef, undef, undef, undef, undef, undef, undef, undef, undef, undef, undef, undef, undef, undef, undef, undef, undef, undef, undef, undef, undef, undef, undef, undef, undef, undef, undef, undef, undef, undef, undef, undef, undef, undef, undef, undef, undef, undef, undef, undef, undef, undef, undef, undef, undef, undef, undef, undef, undef, undef, undef], defers := [] } ∧
    Below w.heap.size w w' ∧ w.heap.size + 2 ≤ w'.heap.size ∧ w'.heap[w.heap.size]? = some (.cells (u32s st).toArray 182 (0, 0)) ∧ (∃ cs, w'.heap[w.heap.size + 1]? = some (.cells cs 182 (0, 0)) ∧ cs.size = 8) ∧
    (b 0 = true → v12 = .slice a l.length cp) ∧ (b 1 = true → v13 = .agg (u32s ws).toArray) ∧ (b 2 = true → v14 = .agg (u32s st).toArray) ∧
    (b 3 = true → v5 = .pointer (some ⟨g5, 0, none⟩) ∧ w.heap.size + 2 ≤ g5 ∧ ∃ cs, w'.heap[g5]? = some (.cells cs 221 (0, 0)) ∧ cs.size = 64 ∧ (b 5 = true → cs = (u32s ws).toArray)) ∧
    (b 4 = true → v6 = .pointer (some ⟨g6, 0, none⟩) ∧ w.heap.size + 2 ≤ g6 ∧ ∃ cs, w'.heap[g6]? = some (.cells cs 182 (0, 0)) ∧ cs.size = 8 ∧ (b 6 = true → cs = (u32s st).toArray)) ∧
    (b 7 = true → v7 = .int .i64 0) ∧ (b 5 = true → b 3 = true) ∧ (b 6 = true → b 4 = true)

/-- What holds at the label. -/
def CJs (w : World) (st ws : List Nat) (a' : Act) (w' : World) : Prop :=
  ∃ t : Nat, ∃ g5 g6 : Nat, t < 64 ∧ CAt w.heap.size w w' ws st g5 g6 (rnds ws st t) ∧ a'.defers = [] ∧ a'.tmps.size = 115 ∧ a'.tmps.getD 2 undef = .pointer (some ⟨w.heap.size, 0, none⟩) ∧ a'.tmps.getD 4 undef = .pointer (some ⟨w.heap.size + 1, 0, none⟩) ∧
    a'.tmps.getD 5 undef = .pointer (some ⟨g5, 0, none⟩) ∧ a'.tmps.getD 6 undef = .pointer (some ⟨g6, 0, none⟩) ∧ a'.tmps.getD 7 undef = .int .i64 t

theorem CAt.drew {B : Nat} {w wr wq : World} {ws st : List Nat} {g5 g6 : Nat} {s : List Nat} (h : CAt B w wr ws st g5 g6 s) (e : wq = wr.drew) : CAt B w wq ws st g5 g6 s := by
  subst e
  exact ⟨h.bel.drew, h.inp, h.out, h.num, h.cur, h.ge5, h.ge6⟩
theorem list_range (L : List Value) : L = (List.range L.length).map fun i => L.getD i undef := by
  apply List.ext_getElem
  · simp
  · intro i h1 h2
    simp [List.getD, h1]
theorem range115 (f : Nat → Value) : (List.range 115).map f = [f 0, f 1, f 2, f 3, f 4, f 5, f 6, f 7, f 8, f 9, f 10, f 11, f 12, f 13, f 14, f 15, f 16, f 17, f 18, f 19, f 20, f 21, f 22, f 23, f 24, f 25, f 26, f 27, f 28, f 29, f 30, f 31, f 32, f 33, f 34, f 35, f 36, f 37, f 38, f 39, f 40, f 41, f 42, f 43, f 44, f 45, f 46, f 47, f 48, f 49, f 50, f 51, f 52, f 53, f 54, f 55, f 56, f 57, f 58, f 59, f 60, f 61, f 62, f 63, f 64, f 65, f 66, f 67, f 68, f 69, f 70, f 71, f 72, f 73, f 74, f 75, f 76, f 77, f 78, f 79, f 80, f 81, f 82, f 83, f 84, f 85, f 86, f 87, f 88, f 89, f 90, f 91, f 92, f 93, f 94, f 95, f 96, f 97, f 98, f 99, f 100, f 101, f 102, f 103, f 104, f 105, f 106, f 107, f 108, f 109, f 110, f 111, f 112, f 113, f 114] := rfl
theorem CJs.shape {w : World} {st ws : List Nat} {a' : Act} {w' : World} (h : CJs w st ws a' w') : ∃ t : Nat, ∃ g5 g6 : Nat, ∃ y : Nat → Value, t < 64 ∧ CAt w.heap.size w w' ws st g5 g6 (rnds ws st t) ∧
    a' = { tmps := #[y 0, y 1, .pointer (some ⟨w.heap.size, 0, none⟩), y 3, .pointer (some ⟨w.heap.size + 1, 0, none⟩), .pointer (some ⟨g5, 0, none⟩), .pointer (some ⟨g6, 0, none⟩), .int .i64 t, y 8, y 9, y 10, y 11, y 12, y 13, y 14, y 15, y 16, y 17, y 18, y 19, y 20, y 21, y 22, y 23, y 24, y 25, y 26, y 27, y 28, y 29, y 30, y 31, y 32, y 33, y 34, y 35, y 36, y 37, y 38, y 39, y 40, y 41, y 42, y 43, y 44, y 45, y 46, y 47, y 48, y 49, y 50, y 51, y 52, y 53, y 54, y 55, y 56, y 57, y 58, y 59, y 60, y 61, y 62, y 63, y 64, y 65, y 66, y 67, y 68, y 69, y 70, y 71, y 72, y 73, y 74, y 75, y 76, y 77, y 78, y 79, y 80, y 81, y 82, y 83, y 84, y 85, y 86, y 87, y 88, y 89, y 90, y 91, y 92, y 93, y 94, y 95, y 96, y 97, y 98, y 99, y 100, y 101, y 102, y 103, y 104, y 105, y 106, y 107, y 108, y 109, y 110, y 111, y 112, y 113, y 114], defers := [] } := by
  obtain ⟨t, g5, g6, ht, hC, hd, hs, h2, h4, h5, h6, h7⟩ := h
  refine ⟨t, g5, g6, fun i => a'.tmps.getD i undef, ht, hC, ?_⟩
  have hl := list_range a'.tmps.toList
  rw [show a'.tmps.toList.length = 115 by simpa using hs, range115] at hl
  have e : ∀ i, a'.tmps.toList.getD i undef = a'.tmps.getD i undef := fun i => by simp [Array.getD_eq_getD_getElem?, List.getD]
  simp only [e, h2, h4, h5, h6, h7] at hl
  cases a' with
  | mk tmps defers =>
    simp only at hd hl ⊢
    subst hd
    congr 1
    apply Array.ext'
    exact hl

set_option maxRecDepth 100000 in
set_option maxHeartbeats 4000000 in
theorem compress_any (st : List Nat) (hst : St8 st) (a : Option Addr) (l : List UInt8) (n cp : Nat) (w : World) (hr : Rd w a l) (hn : n = l.length) (hl : 64 ≤ l.length) (hm : l.length ≤ 1000000) :
    Calls Tryz.prog 144 #[.agg (u32s st).toArray, .slice a n cp] w fun e w' => e = .returned (.agg (u32s (comp st l)).toArray) ∧ Below w.heap.size w w' := by
  subst hn
  have hwlt : ∀ t, (schedU l 64).getD t 0 < 4294967296 := fun t => getD_lt l 64 t
  obtain ⟨ws, hws⟩ : ∃ ws, schedU l 64 = ws := ⟨_, rfl⟩
  rw [hws] at hwlt
  have HWL := Lib.hid hwlt
  clear hwlt
  have hwl : ws.length = 64 := by rw [← hws]; exact schedU_len l 64
  have hsch : ∀ (a : Option Addr) (n cp : Nat) (w : World), Rd w a l → n = l.length → Calls Tryz.prog 185 #[.slice a n cp] w fun e w' => e = .returned (.agg (u32s ws).toArray) ∧ Below w.heap.size w w' := by
    intro a n cp w hr hn
    rw [← hws]
    exact schedule_any a l n cp w hr hn hl hm
  have hfin : comp st l = List.zipWith (fun x y => (x + y) % 4294967296) (rnds ws st 64) st := by unfold comp; rw [hws]
  have HFIN := Lib.hid hfin
  have HSCH := Lib.hid hsch
  clear hws hfin hsch
  go_enter Tryz.func144, Tryz.ntmps144
  go_wp2_with fail
  refine wp_scope_again 0 (CJs w st ws) (fun a' _ => 64 - (intOf (a'.tmps.getD 7 undef)).toNat) rfl ?_ ?_
  rotate_left
  · intro hpass
    have HP := Lib.hid hpass
    clear hpass
    go_upto_region 1 with (fail)
    refine wp_region_inv (by kernel_rfl) (by kernel_rfl) (R1 w a l cp st ws) ?_ ?_ ?_
    · refine ⟨undef, undef, undef, undef, undef, undef, 0, 0, rfl, ((((Below.refl _ _).alloc (Nat.le_refl _) _).alloc (by simp) _).drew), by simp, ?_, ?_, by simp, by simp, by simp, by simp, by simp, by simp, by simp, by simp⟩
      · exact heap_alloc2_old w _ _
      · exact ⟨_, heap_alloc2_new w _ _, by simp⟩
    · rintro b a' w' ⟨v5, v6, v7, v12, v13, v14, g5, g6, rfl, hbel, hsz, hB0, hB1, h0, h1, h2, h3, h4, h7, h53, h64⟩ i o ho hbi hpre
      rcases i with _ | _ | _ | _ | _ | _ | _ | _ | i
      · cases ho
        refine wpOp_step rfl (fun K' hK => ?_)
        go_simp
        exact hK _ _ ⟨v5, v6, v7, _, v13, v14, g5, g6, rfl, hbel, hsz, hB0, hB1, fun _ => rfl, h1, h2, h3, h4, h7, h53, h64⟩
      · cases ho
        simp [Region.binds] at hpre
        obtain rfl := h0 hpre
        refine wpOp_step rfl (fun K' hK => ?_)
        go_simp
        refine (HSCH.out a _ cp _ (hr.below hbel) rfl).mono ?_
        rintro e w1 ⟨rfl, hb⟩
        refine hK _ _ ⟨v5, v6, v7, _, _, v14, g5, g6, rfl, hbel.trans (hb.mono hbel.size), Nat.le_trans hsz hb.size, block_below hB0 hb, ?_, fun _ => rfl, fun _ => rfl, h2, ?_, ?_, h7, h53, h64⟩
        · obtain ⟨cs, e1, e2⟩ := hB1
          exact ⟨cs, block_below e1 hb, e2⟩
        · intro hx
          obtain ⟨e1, e2, cs, e3, e4⟩ := h3 hx
          exact ⟨e1, e2, cs, block_below e3 hb, e4⟩
        · intro hx
          obtain ⟨e1, e2, cs, e3, e4⟩ := h4 hx
          exact ⟨e1, e2, cs, block_below e3 hb, e4⟩
      · cases ho
        refine wpOp_plain rfl rfl ?_
        refine wp_load_row 182 (.tmp 2) rfl w.heap.size rfl 182 _ (0, 0) _ hB0 Tryz.underlying182 rfl (by rw [u32s_size, hst.1]; kernel_rfl) ?_
        exact ⟨v5, v6, v7, v12, v13, _, g5, g6, rfl, hbel, hsz, hB0, hB1, h0, h1, fun _ => rfl, h3, h4, h7, h53, h64⟩
      · cases ho
        refine wpOp_step rfl (fun K' hK => ?_)
        go_simp
        refine hK _ _ ⟨_, v6, v7, v12, v13, v14, w'.heap.size, g6, rfl, hbel.alloc hbel.size _, by simp; omega, block_alloc hB0 _, ?_, h0, h1, h2, ?_, ?_, h7, fun _ => rfl, h64⟩
        · obtain ⟨cs, e1, e2⟩ := hB1
          exact ⟨cs, block_alloc e1 _, e2⟩
        · intro _
          refine ⟨rfl, hsz, _, heap_alloc_new w' _, by simp, ?_⟩
          intro h5
          have := h53 h5
          rw [hbi] at this
          cases this
        · intro hx
          obtain ⟨e1, e2, cs, e3, e4⟩ := h4 hx
          exact ⟨e1, e2, cs, block_alloc e3 _, e4⟩
      · cases ho
        refine wpOp_step rfl (fun K' hK => ?_)
        go_simp
        refine hK _ _ ⟨v5, _, v7, v12, v13, v14, g5, w'.heap.size, rfl, hbel.alloc hbel.size _, by simp; omega, block_alloc hB0 _, ?_, h0, h1, h2, ?_, ?_, h7, h53, fun _ => rfl⟩
        · obtain ⟨cs, e1, e2⟩ := hB1
          exact ⟨cs, block_alloc e1 _, e2⟩
        · intro hx
          obtain ⟨e1, e2, cs, e3, e4⟩ := h3 hx
          exact ⟨e1, e2, cs, block_alloc e3 _, e4⟩
        · intro _
          refine ⟨rfl, hsz, _, heap_alloc_new w' _, by simp, ?_⟩
          intro h5
          have := h64 h5
          rw [hbi] at this
          cases this
      · cases ho
        simp [Region.binds] at hpre
        obtain ⟨p3, p1, p0, p4⟩ := hpre
        obtain ⟨rfl, e2, cs, e3, e4, e5⟩ := h3 p3
        obtain rfl := h1 p1
        refine wpOp_plain rfl rfl ?_
        refine wp_store_row 221 (.tmp 5) (.tmp 13) rfl g5 _ rfl rfl 221 cs e3 (by rw [u32s_size, hwl]; kernel_rfl) (by rw [u32s_size, hwl, e4]) (u32s_one _) ?_
        refine ⟨_, v6, v7, v12, _, v14, g5, g6, rfl, below_setRowS hbel (by omega) _, by simpa using hsz, ?_, ?_, h0, fun _ => rfl, h2, ?_, ?_, h7, fun _ => p3, h64⟩
        · rw [setRow_other _ _ _ _ (by omega)]; exact hB0
        · obtain ⟨cs, e1, e2⟩ := hB1
          exact ⟨cs, by rw [setRow_other _ _ _ _ (by omega)]; exact e1, e2⟩
        · intro _
          exact ⟨rfl, e2, _, setRow_heap _ _ _ _ _ _ e3, by rw [u32s_size, hwl], fun _ => rfl⟩
        · intro hx
          obtain ⟨f1, f2, cs6, f3, f4⟩ := h4 hx
          refine ⟨f1, f2, cs6, ?_, f4⟩
          rw [setRow_other _ _ _ _ (fun e => by subst e; rw [e3] at f3; simp at f3)]
          exact f3
      · cases ho
        simp [Region.binds] at hpre
        obtain ⟨p4, p2, p5, _⟩ := hpre
        obtain ⟨rfl, e2, cs, e3, e4, e5⟩ := h4 p4
        obtain rfl := h2 p2
        refine wpOp_plain rfl rfl ?_
        refine wp_store_row 182 (.tmp 6) (.tmp 14) rfl g6 _ rfl rfl 182 cs e3 (by rw [u32s_size, hst.1]; kernel_rfl) (by rw [u32s_size, hst.1, e4]) (u32s_one _) ?_
        refine ⟨v5, _, v7, v12, v13, _, g5, g6, rfl, below_setRowS hbel (by omega) _, by simpa using hsz, ?_, ?_, h0, h1, fun _ => rfl, ?_, ?_, h7, h53, fun _ => p4⟩
        · rw [setRow_other _ _ _ _ (by omega)]; exact hB0
        · obtain ⟨cs, e1, e2⟩ := hB1
          exact ⟨cs, by rw [setRow_other _ _ _ _ (by omega)]; exact e1, e2⟩
        · intro hx
          obtain ⟨f1, f2, cs5, f3, f4⟩ := h3 hx
          refine ⟨f1, f2, cs5, ?_, f4⟩
          rw [setRow_other _ _ _ _ (fun e => by subst e; rw [e3] at f3; simp at f3)]
          exact f3
        · intro _
          exact ⟨rfl, e2, _, setRow_heap _ _ _ _ _ _ e3, by rw [u32s_size, hst.1], fun _ => rfl⟩
      · cases ho
        refine wpOp_step rfl (fun K' hK => ?_)
        go_simp
        exact hK _ _ ⟨v5, v6, _, v12, v13, v14, g5, g6, rfl, hbel, hsz, hB0, hB1, h0, h1, h2, h3, h4, fun _ => rfl, h53, h64⟩
      · simp at ho
    · rintro b a' w' ⟨v5, v6, v7, v12, v13, v14, g5, g6, rfl, hbel, hsz, hB0, hB1, h0, h1, h2, h3, h4, h7, h53, h64⟩ hall
      obtain rfl := h0 (hall 0 (by simp))
      obtain rfl := h1 (hall 1 (by simp))
      obtain rfl := h2 (hall 2 (by simp))
      obtain rfl := h7 (hall 7 (by simp))
      obtain ⟨rfl, q5, cs5, r5, s5, t5⟩ := h3 (hall 3 (by simp))
      obtain ⟨rfl, q6, cs6, r6, s6, t6⟩ := h4 (hall 4 (by simp))
      obtain rfl := t5 (hall 5 (by simp))
      obtain rfl := t6 (hall 6 (by simp))
      have hC : CAt w.heap.size w w' ws st g5 g6 st := ⟨hbel, hB0, hB1, r5, r6, q5, q6⟩
      clear hbel hsz hB0 hB1 h0 h1 h2 h3 h4 h7 h53 h64 q5 r5 s5 t5 q6 r6 s6 t6 hall
      go_wp2_with fail
      go_step3
      go_step
      refine (by assumption : ∀ _ _, _ → _) _ _ ?_
      refine HP.out _ _ ?_
      exact ⟨0, g5, g6, by decide, hC, rfl, rfl, rfl, rfl, rfl, rfl, rfl⟩
  · intro a' w' hJ
    obtain ⟨t, g5, g6, y, ht, hC, rfl⟩ := hJ.shape
    clear hJ
    obtain ⟨sa, sb, sc, sd, se, sf, sg, sh, hs, ba, bb, bc, bd, be, bf, bg, bh⟩ := (rnds_st8 ws hst t).shape
    rw [hs] at hC
    have HS := Lib.hid hs
    clear hs
    have hkt := kAt_lt t
    have hwt := HWL.out t
    obtain ⟨wt, ewt⟩ : ∃ x, ws.getD t 0 = x := ⟨_, rfl⟩
    obtain ⟨kt, ekt⟩ : ∃ x, kAt t = x := ⟨_, rfl⟩
    have hkc : ∀ w' : World, Calls Tryz.prog 187 #[.int .i64 t] w' fun e w'' => e = .returned (.int .u32 (kt : Nat)) ∧ w'' = w' := fun w' => by rw [← ekt]; exact k_any t w' ht
    have hcw : (ws[t]'(by omega)) = wt := by rw [← ewt, List.getD_eq_getElem?_getD, List.getElem?_eq_getElem (by omega)]; rfl
    rw [ewt] at hwt
    rw [ekt] at hkt
    have EWT := Lib.hid ewt
    have EKT := Lib.hid ekt
    clear ewt ekt
    obtain ⟨r6, r11, r25, v1, v2, s1, a1, ne, a2, ch, s2, s3, t1, C6, C11, C25, x1, x2, x3, x4, x5, x6, x7, x8, x9, x10, ht1, bt1⟩ := round1 se sf sg sh kt wt be bf bg bh hkt hwt
    have HK := Lib.hid hkc
    have HR6 := Lib.hid C6
    have HR11 := Lib.hid C11
    have HR25 := Lib.hid C25
    have HT1 := Lib.hid ht1
    clear C6 C11 C25 ht1
    have hcur := hC.cur
    have hnum := hC.num
    have c0 := cell_u32s hcur (j := 0) (by simp)
    have c1 := cell_u32s hcur (j := 1) (by simp)
    have c2 := cell_u32s hcur (j := 2) (by simp)
    have c3 := cell_u32s hcur (j := 3) (by simp)
    have c4 := cell_u32s hcur (j := 4) (by simp)
    have c5 := cell_u32s hcur (j := 5) (by simp)
    have c6 := cell_u32s hcur (j := 6) (by simp)
    have c7 := cell_u32s hcur (j := 7) (by simp)
    have cw := cell_u32s hnum (j := t) (by omega)
    simp only [List.getElem_cons_zero, List.getElem_cons_succ] at c0 c1 c2 c3 c4 c5 c6 c7
    rw [hcw] at cw
    clear hcur hnum hcw hkc
    have HC := Lib.hid hC
    clear hC
    have tn : ((t : Int)).toNat = t := by omega
    have t0 : 0 ≤ (t : Int) := by omega
    have t64 : (t : Int) < 64 := by omega
    go_upto_region 3 with (fail)
    have hux : (if IntKind.u32.signed = true then -1 else IntKind.u32.max) = 4294967295 := rfl
    refine still_named (by kernel_rfl) (by kernel_rfl) (fun wq hwq => ?_)
    repeat (refine wpStill_step (fun K hK => ?_); go_simp; (first | (with_reducible refine hK _ ?_) | (with_reducible refine ⟨_, HR6.out _, hK _ ?_⟩) | (with_reducible refine ⟨_, HR11.out _, hK _ ?_⟩) | (with_reducible refine ⟨_, HR25.out _, hK _ ?_⟩) | (with_reducible refine ⟨_, HK.out _, hK _ ?_⟩)); clear hK K)
    refine wpStill_nil ?_
    have HC2 := Lib.hid (HC.out.drew hwq.out)
    clear c0 c1 c2 c3 c4 c5 c6 c7 cw HC hwq x1 x2 x3 x4 x5 x6 x7 x8 x9 x10 HR6 HR11 HR25 HK tn t0 t64 hux
    obtain ⟨r2, r13, r22, v1', v2', b1, b2, b3, c1', mj, t2, C2, C13, C22, x1, x2, x3, x4, x5, x6, x7, x8, ht2, bt2⟩ := round2 sa sb sc ba bb bc
    have HR2 := Lib.hid C2
    have HR13 := Lib.hid C13
    have HR22 := Lib.hid C22
    have HT2 := Lib.hid ht2
    clear C2 C13 C22 ht2
    have hcur := HC2.out.cur
    have c0 := cell_u32s hcur (j := 0) (by simp)
    have c1 := cell_u32s hcur (j := 1) (by simp)
    have c2 := cell_u32s hcur (j := 2) (by simp)
    simp only [List.getElem_cons_zero, List.getElem_cons_succ] at c0 c1 c2
    clear hcur
    go_upto_region 4 with (fail)
    refine still_named (by kernel_rfl) (by kernel_rfl) (fun wq2 hwq2 => ?_)
    repeat (refine wpStill_step (fun K hK => ?_); go_simp; (first | (with_reducible refine hK _ ?_) | (with_reducible refine ⟨_, HR2.out _, hK _ ?_⟩) | (with_reducible refine ⟨_, HR13.out _, hK _ ?_⟩) | (with_reducible refine ⟨_, HR22.out _, hK _ ?_⟩)); clear hK K)
    refine wpStill_nil ?_
    have HC3 := Lib.hid (HC2.out.drew hwq2.out)
    clear c0 c1 c2 HC2 hwq2 x1 x2 x3 x4 x5 x6 x7 x8 HR2 HR13 HR22
    have y1 := wrap_sum t1 t2
    have y2 := wrap_sum sd t1
    obtain ⟨z1, hz1⟩ : ∃ z, (t1 + t2) % 4294967296 = z := ⟨_, rfl⟩
    obtain ⟨z2, hz2⟩ : ∃ z, (sd + t1) % 4294967296 = z := ⟨_, rfl⟩
    rw [hz1] at y1
    rw [hz2] at y2
    have HZ1 := Lib.hid hz1
    have HZ2 := Lib.hid hz2
    clear hz1 hz2
    have hcur := HC3.out.cur
    have c0 := cell_u32s hcur (j := 0) (by simp)
    have c1 := cell_u32s hcur (j := 1) (by simp)
    have c2 := cell_u32s hcur (j := 2) (by simp)
    have c3 := cell_u32s hcur (j := 3) (by simp)
    have c4 := cell_u32s hcur (j := 4) (by simp)
    have c5 := cell_u32s hcur (j := 5) (by simp)
    have c6 := cell_u32s hcur (j := 6) (by simp)
    simp only [List.getElem_cons_zero, List.getElem_cons_succ] at c0 c1 c2 c3 c4 c5 c6
    clear hcur
    go_upto_region 5 with (fail)
    apply wp_region_lit
    iterate 19 (refine wpList_plain rfl (fun K hK => ?_); go_simp; (with_reducible refine hK _ _ ?_); clear hK K)
    refine wpList_buildTo rfl 182 _ rfl (some 97) rfl #[.int .u32 (z1 : Nat), .int .u32 (sa : Nat), .int .u32 (sb : Nat), .int .u32 (sc : Nat), .int .u32 (z2 : Nat), .int .u32 (se : Nat), .int .u32 (sf : Nat), .int .u32 (sg : Nat)] (by kernel_rfl) ?_
    have hone : (#[Value.int .u32 (z1 : Nat), .int .u32 (sa : Nat), .int .u32 (sb : Nat), .int .u32 (sc : Nat), .int .u32 (z2 : Nat), .int .u32 (se : Nat), .int .u32 (sf : Nat), .int .u32 (sg : Nat)]).all (·.oneCell') = true := u32s_one [z1, sa, sb, sc, z2, se, sf, sg]
    refine wpList_store_rowTo rfl 182 (.tmp 6) (.tmp 97) rfl rfl g6 #[.int .u32 (z1 : Nat), .int .u32 (sa : Nat), .int .u32 (sb : Nat), .int .u32 (sc : Nat), .int .u32 (z2 : Nat), .int .u32 (se : Nat), .int .u32 (sf : Nat), .int .u32 (sg : Nat)] (by kernel_rfl) (by kernel_rfl) 182 _ HC3.out.cur (by kernel_rfl) (by simp [u32s]) hone ?_
    apply wpList_nil
    have hC5 : CAt w.heap.size w (wq2.setRow g6 #[.int .u32 (z1 : Nat), .int .u32 (sa : Nat), .int .u32 (sb : Nat), .int .u32 (sc : Nat), .int .u32 (z2 : Nat), .int .u32 (se : Nat), .int .u32 (sf : Nat), .int .u32 (sg : Nat)]) ws st g5 g6 (rnds ws st (t + 1)) := by
      have e : rnds ws st (t + 1) = [z1, sa, sb, sc, z2, se, sf, sg] := by
        simp only [rnds]
        rw [EKT.out, EWT.out, HS.out]
        simp only [rnd]
        rw [← HT1.out, ← HT2.out, HZ1.out, HZ2.out]
      rw [e]
      exact HC3.out.store [z1, sa, sb, sc, z2, se, sf, sg]
    obtain ⟨w5, hw5⟩ : ∃ w5, wq2.setRow g6 #[.int .u32 (z1 : Nat), .int .u32 (sa : Nat), .int .u32 (sb : Nat), .int .u32 (sc : Nat), .int .u32 (z2 : Nat), .int .u32 (se : Nat), .int .u32 (sf : Nat), .int .u32 (sg : Nat)] = w5 := ⟨_, rfl⟩
    rw [hw5] at hC5 ⊢
    have HC5 := Lib.hid hC5
    clear hw5 hC5 hone HC3 c0 c1 c2 c3 c4 c5 c6 y1 y2
    have hi : IntKind.i64.wrap ((t : Int) + 1) = (t : Int) + 1 := IntWalk.i64_in _ (by omega)
    by_cases hlt : t + 1 < 64
    · have hlt' : (t : Int) + 1 < 64 := by omega
      go_wp2_with fail
      go_step3
      refine ⟨rfl, ⟨t + 1, g5, g6, hlt, HC5.out, rfl, rfl, rfl, rfl, rfl, rfl, rfl⟩, ?_⟩
      show 64 - ((t : Int) + 1).toNat < 64 - (t : Int).toNat
      omega
    · have hlt' : ¬ (t : Int) + 1 < 64 := by omega
      have h64 : t + 1 = 64 := by omega
      rw [h64] at HC5
      have hR := rnds_st8 ws hst 64
      have hfin := HFIN.out
      obtain ⟨R, hR'⟩ : ∃ R, rnds ws st 64 = R := ⟨_, rfl⟩
      rw [hR'] at HC5 hR hfin
      rw [← mix_all R st hR hst] at hfin
      have HF := Lib.hid hfin
      have hmix := mix_zero R st
      rw [← hmix] at HC5
      clear hfin HFIN hR' hmix h64
      go_upto_region 8 with (fail)
      apply wp_region_lit
      have hix : ∀ (j x : Nat) (w' : World), j < 8 → st[j]? = some x → (Instr.index 182 (.agg (u32s st).toArray) (.int .i64 j)).run Tryz.prog w' = .ok (.int .u32 x) w' := fun j x w' h1 h2 =>
        run_index_agg 182 181 8 (u32s st).toArray j _ Tryz.underlying182 Tryz.sizeOf181 Tryz.isAgg181 h1 (by simp [u32s, h2])
      obtain ⟨S, hS⟩ : ∃ S, (u32s st).toArray = S := ⟨_, rfl⟩
      rw [hS] at hix
      have hinp := HC5.out.inp
      rw [hS] at hinp
      have HIX := Lib.hid hix
      have HSS := Lib.hid hS
      have hssz : S.size = 8 := by rw [← hS, u32s_size, hst.1]
      clear hix hS
      refine wpList_load_row rfl 182 (.tmp 2) rfl w.heap.size rfl 182 S (0, 0) _ hinp Tryz.underlying182 rfl (by rw [hssz]; kernel_rfl) ?_
      clear hinp
      go_wp2_with fail
      go_loopg [103] 8 (fun k i wr => ∃ j : Nat, j + k = 8 ∧ i = .int .i64 j ∧ Hid (CAt w.heap.size w wr ws st g5 g6 (mix R st j)))
      case atStart => exact ⟨0, rfl, rfl, HC5⟩
      case round =>
        obtain ⟨j, hj, rfl, HC⟩ := hrel
        by_cases hlt8 : j < 8
        · obtain ⟨r, x, m1, m2, hr1, hx1, m3⟩ := mix_step R st hR hst j hlt8
          have ix := fun w' => HIX.out j x w' hlt8 m2
          have hc : wr.cell? ⟨g6, j, none⟩ = some (.int .u32 r) := by
            rw [Lib.cell_of_heap HC.out.cur]
            simp [u32s, m1]
          have hfz : wr.frozen? ⟨g6, j, none⟩ = false := Lib.frozen_of_heap HC.out.cur j
          have hsum := wrap_sum r x
          obtain ⟨z, hz⟩ : ∃ z, (r + x) % 4294967296 = z := ⟨_, rfl⟩
          rw [hz] at hsum m3
          have HM := Lib.hid m3
          clear m1 m2 m3 hz
          have tn : ((j : Int)).toNat = j := by omega
          have t0 : 0 ≤ (j : Int) := by omega
          have t8 : (j : Int) < 8 := by omega
          go_wp2_with fail
          go_roundg (gk - 1)
          case measure => omega
          case rel =>
            refine ⟨j + 1, by omega, by go_num, Lib.hid ?_⟩
            rw [HM.out]
            exact HC.out.set j z
        · have hj8 : j = 8 := by omega
          subst hj8
          have hout := HC.out.out
          obtain ⟨co, ho1, ho2⟩ := hout
          have hcur := HC.out.cur
          rw [HF.out.symm] at hcur
          have hbel := HC.out.bel
          have hsz := comp_st8 hst l
          obtain ⟨S2, hS2⟩ : ∃ S2, (u32s (comp st l)).toArray = S2 := ⟨_, rfl⟩
          have h2sz : S2.size = 8 := by rw [← hS2, u32s_size, hsz.1]
          have h2one : S2.all (·.oneCell') = true := by rw [← hS2]; exact u32s_one _
          rw [hS2] at hcur
          have HCU := Lib.hid hcur
          have HOU := Lib.hid ho1
          have HS2 := Lib.hid hS2
          clear hcur ho1 hS2
          go_upto_region 13 with (fail)
          apply wp_region_lit
          refine wpList_load_row rfl 182 (.tmp 6) rfl g6 rfl 182 S2 (0, 0) _ HCU.out Tryz.underlying182 rfl (by rw [h2sz]; kernel_rfl) ?_
          refine wpList_store_row rfl 182 (.tmp 4) (.tmp 114) rfl (w.heap.size + 1) S2 rfl rfl 182 co HOU.out (by rw [h2sz]; kernel_rfl) (by rw [h2sz, ho2]) h2one ?_
          apply wpList_nil
          have hb2 := below_setRowS hbel (by omega : w.heap.size ≤ w.heap.size + 1) S2
          have hg2 := setRow_heap wr (w.heap.size + 1) co S2 182 (0, 0) HOU.out
          have HG2 := Lib.hid hg2
          clear hg2
          go_wp2_with fail
          show bodyPost Tryz.prog Tryz.f144 (fun e w' => e = .returned (.agg (u32s (comp st l)).toArray) ∧ Below w.heap.size w w') Exit.ret _ _
          exact bodyPost_ret (results_cell_row rfl _ _ (w.heap.size + 1) 182 S2 (0, 0) _ rfl HG2.out Tryz.underlying182 rfl (by rw [h2sz]; kernel_rfl)) rfl ⟨by rw [HS2.out], hb2⟩
end Go.Proofs.YtfdijcdpmgkdkaaGreatDoor
set_option linter.unusedVariables false
namespace Go.Proofs.YtfdijcdpmgkdkaaGreatDoor

/-- What a hash begins with. -/
def iv : List Nat := [0x6a09e667, 0xbb67ae85, 0x3c6ef372, 0xa54ff53a, 0x510e527f, 0x9b05688c, 0x1f83d9ab, 0x5be0cd19]
theorem iv_st8 : St8 iv := ⟨rfl, by decide⟩
/-- Behind k blocks. -/
def stOf (m : List UInt8) : Nat → List Nat
  | 0 => iv
  | k + 1 => comp (stOf m k) (m.drop (64 * k))
theorem stOf_st8 (m : List UInt8) (k : Nat) : St8 (stOf m k) := by
  induction k with
  | zero => exact iv_st8
  | succ k ih => exact comp_st8 ih _
/-- A number in eight bytes. -/
def be64 (n : Nat) : List UInt8 := [UInt8.ofNat (n / 2 ^ 56), UInt8.ofNat (n / 2 ^ 48), UInt8.ofNat (n / 2 ^ 40), UInt8.ofNat (n / 2 ^ 32), UInt8.ofNat (n / 2 ^ 24), UInt8.ofNat (n / 2 ^ 16), UInt8.ofNat (n / 2 ^ 8), UInt8.ofNat n]
/-- So many noughts. -/
def zer (n : Nat) : Nat := (119 - n % 64) % 64
def padT (n : Nat) : List UInt8 := [0x80] ++ List.replicate (zer n) 0 ++ be64 (n * 8)
def padded (m : List UInt8) : List UInt8 := m ++ padT m.length
/-- A number's four bytes. -/
def be32 (x : Nat) : List UInt8 := [UInt8.ofNat (x / 16777216), UInt8.ofNat (x / 65536), UInt8.ofNat (x / 256), UInt8.ofNat x]
def outB (st : List Nat) : List UInt8 := st.flatMap be32
def sha (m : List UInt8) : List UInt8 := outB (stOf (padded m) ((padded m).length / 64))

theorem padT_len (n : Nat) : (padT n).length = 1 + zer n + 8 := by simp [padT, be64]; omega
theorem padded_len (m : List UInt8) : (padded m).length % 64 = 0 := by
  simp only [padded, List.length_append, padT_len, zer]; omega
theorem padded_le (m : List UInt8) : (padded m).length ≤ m.length + 72 := by
  simp only [padded, List.length_append, padT_len, zer]; omega
theorem padded_gt (m : List UInt8) : m.length < (padded m).length := by
  simp only [padded, List.length_append, padT_len, zer]; omega

theorem schedU_congr (b c : List UInt8) (h : ∀ i, i < 64 → b.getD i 0 = c.getD i 0) (t : Nat) : schedU b t = schedU c t := by
  induction t with
  | zero => rfl
  | succ t ih =>
    have hn : nextW b (schedU c t) = nextW c (schedU c t) := by
      unfold nextW
      split
      · rename_i hlt
        rw [schedU_len] at hlt
        rw [schedU_len]
        unfold word
        rw [h (4 * t) (by omega), h (4 * t + 1) (by omega), h (4 * t + 2) (by omega), h (4 * t + 3) (by omega)]
      · rfl
    unfold schedU
    rw [ih, hn]
theorem comp_congr (s : List Nat) (b c : List UInt8) (h : ∀ i, i < 64 → b.getD i 0 = c.getD i 0) : comp s b = comp s c := by
  unfold comp; rw [schedU_congr b c h]
theorem stOf_app (m x : List UInt8) (k : Nat) (h : 64 * k ≤ m.length) : stOf (m ++ x) k = stOf m k := by
  induction k with
  | zero => rfl
  | succ k ih =>
    simp only [stOf]
    rw [ih (by omega)]
    apply comp_congr
    intro i hi
    simp only [List.getD_eq_getElem?_getD, List.getElem?_drop]
    rw [List.getElem?_append_left (by omega)]
theorem padded_drop (m : List UInt8) : (padded m).drop (64 * (m.length / 64)) = m.drop (64 * (m.length / 64)) ++ padT m.length := by
  unfold padded
  rw [List.drop_append_of_le_length (by omega)]
theorem padded_st (m : List UInt8) : stOf (padded m) (m.length / 64) = stOf m (m.length / 64) := stOf_app _ _ _ (by omega)
theorem outB_len (st : List Nat) : (outB st).length = 4 * st.length := by
  unfold outB
  induction st with
  | nil => rfl
  | cons x s ih => simp [be32, ih]; omega
theorem sha_len (m : List UInt8) : (sha m).length = 32 := by
  unfold sha
  rw [outB_len, (stOf_st8 _ _).1]
end Go.Proofs.YtfdijcdpmgkdkaaGreatDoor
set_option linter.unusedVariables false
namespace Go.Proofs.YtfdijcdpmgkdkaaGreatDoor
open Go.RowKit

/-- A hash's cells. -/
def hCells (st : List Nat) (v : Value) (n : Nat) : Array Value := (u32s st ++ [v, .int .i64 n]).toArray
theorem hCells_size {st : List Nat} (h : St8 st) (v : Value) (n : Nat) : (hCells st v n).size = 10 := by simp [hCells, u32s, h.1]
theorem hCells_8 {st : List Nat} (h : St8 st) (v : Value) (n : Nat) : (hCells st v n)[8]? = some v := by
  have := h.1
  simp [hCells, u32s, this]
theorem hCells_9 {st : List Nat} (h : St8 st) (v : Value) (n : Nat) : (hCells st v n)[9]? = some (.int .i64 n) := by
  have := h.1
  simp [hCells, u32s, this]
theorem hCells_set8 {st : List Nat} (h : St8 st) (v v' : Value) (n : Nat) : (hCells st v n).setIfInBounds 8 v' = hCells st v' n := by
  have := h.1
  simp [hCells, u32s, this]
theorem hCells_set9 {st : List Nat} (h : St8 st) (v : Value) (n n' : Nat) : (hCells st v n).setIfInBounds 9 (.int .i64 n') = hCells st v n' := by
  have := h.1
  simp [hCells, u32s, this]

/-- A hash at p. -/
structure HAt (B : Nat) (w : World) (p : Nat) (v : Value) (st : List Nat) (rest : List UInt8) (n : Nat) : Prop where
  blk : w.heap[p]? = some (.cells (hCells st v n) 184 (0, 0))
  st8 : St8 st
  tl : Tl B w v rest
  ge : B ≤ p

theorem HAt.range {B : Nat} {w : World} {p : Nat} {v : Value} {st : List Nat} {rest : List UInt8} {n : Nat} (h : HAt B w p v st rest n) : w.rangeAt p 0 (u32s st) := by
  intro j x hx
  rw [Nat.zero_add, Lib.cell_of_heap h.blk]
  have hj := (List.getElem?_eq_some_iff.1 hx).1
  simp only [hCells, List.getElem?_toArray]
  rw [List.getElem?_append_left hj, hx]
theorem HAt.there {B : Nat} {w : World} {p : Nat} {v : Value} {st : List Nat} {rest : List UInt8} {n : Nat} (h : HAt B w p v st rest n) : w.there p 0 8 := by
  intro j hj
  rw [Nat.zero_add, Lib.cell_of_heap h.blk]
  refine ⟨?_, Lib.frozen_of_heap h.blk _⟩
  have := hCells_size h.st8 v n
  rw [Array.getElem?_eq_getElem (by omega)]
  rfl
theorem HAt.cell8 {B : Nat} {w : World} {p : Nat} {v : Value} {st : List Nat} {rest : List UInt8} {n : Nat} (h : HAt B w p v st rest n) : w.cell? ⟨p, 8, none⟩ = some v := by
  rw [Lib.cell_of_heap h.blk, hCells_8 h.st8]
theorem HAt.cell9 {B : Nat} {w : World} {p : Nat} {v : Value} {st : List Nat} {rest : List UInt8} {n : Nat} (h : HAt B w p v st rest n) : w.cell? ⟨p, 9, none⟩ = some (.int .i64 n) := by
  rw [Lib.cell_of_heap h.blk, hCells_9 h.st8]
theorem HAt.frz {B : Nat} {w : World} {p : Nat} {v : Value} {st : List Nat} {rest : List UInt8} {n : Nat} (h : HAt B w p v st rest n) (j : Nat) : w.frozen? ⟨p, j, none⟩ = false := Lib.frozen_of_heap h.blk j
theorem HAt.apart {B : Nat} {w : World} {p : Nat} {v : Value} {st : List Nat} {rest : List UInt8} {n : Nat} (h : HAt B w p v st rest n) : v.ownBlock ≠ some p := by
  intro e
  obtain ⟨cur, hc⟩ := h.tl.kind p e
  rw [h.blk] at hc
  simp at hc
/-- Where the hash's own blocks stand as they stood. -/
theorem HAt.keep {B : Nat} {w w' : World} {p : Nat} {v : Value} {st : List Nat} {rest : List UInt8} {n : Nat} (h : HAt B w p v st rest n) (h1 : w'.heap[p]? = w.heap[p]?) (h2 : ∀ k, v.ownBlock = some k → w'.heap[k]? = w.heap[k]?) : HAt B w' p v st rest n :=
  ⟨by rw [h1]; exact h.blk, h.st8, h.tl.keep h2, h.ge⟩
theorem HAt.below {B : Nat} {w w' : World} {p : Nat} {v : Value} {st : List Nat} {rest : List UInt8} {n : Nat} (h : HAt B w p v st rest n) (hb : Below w.heap.size w w') : HAt B w' p v st rest n :=
  h.keep (hb.block p (Array.getElem?_eq_some_iff.1 h.blk).1) fun k hk => hb.block k (h.tl.lt k hk).2
theorem HAt.num {B : Nat} {w : World} {p : Nat} {v : Value} {st : List Nat} {rest : List UInt8} {n : Nat} (h : HAt B w p v st rest n) (n' : Nat) : HAt B (w.setCell ⟨p, 9, none⟩ (.int .i64 n')) p v st rest n' :=
  ⟨by rw [setCell_blockS h.blk, hCells_set9 h.st8], h.st8, h.tl.keep fun k hk => Below.heap_setCell _ _ _ _ (fun e => h.apart (by rw [hk, e])), h.ge⟩
theorem HAt.own {B : Nat} {w : World} {p : Nat} {v v' : Value} {st : List Nat} {rest rest' : List UInt8} {n : Nat} (h : HAt B w p v st rest n) (ht : Tl B w v' rest') : HAt B (w.setCell ⟨p, 8, none⟩ v') p v' st rest' n := by
  have hne : v'.ownBlock ≠ some p := by
    intro e
    obtain ⟨cur, hc⟩ := ht.kind p e
    rw [h.blk] at hc
    simp at hc
  exact ⟨by rw [setCell_blockS h.blk, hCells_set8 h.st8], h.st8, ht.keep fun k hk => Below.heap_setCell _ _ _ _ (fun e => hne (by rw [hk, e])), h.ge⟩
theorem HAt.state {B : Nat} {w : World} {p : Nat} {v : Value} {st st' : List Nat} {rest : List UInt8} {n : Nat} (h : HAt B w p v st rest n) (h8 : St8 st') : HAt B (w.setCells p 0 (u32s st')) p v st' rest n := by
  obtain ⟨cs', e1, e2, _, e4, e5⟩ := setCells_block (u32s st') 0 w _ h.blk
  have hl : (u32s st').length = 8 := by simp [u32s, h8.1]
  have hl0 : (u32s st).length = 8 := by simp [u32s, h.st8.1]
  have hsz := hCells_size h.st8 v n
  refine ⟨?_, h8, h.tl.keep fun k hk => World.heap_setCells_other _ _ _ _ (h.tl.lt k hk).2 (fun e => h.apart (by rw [hk, e])), h.ge⟩
  rw [e1]
  congr 2
  apply Array.ext_getElem?
  intro i
  by_cases hi : i < 8
  · have := e4 i (by omega) (by omega)
    rw [Nat.zero_add] at this
    rw [this]
    simp only [hCells, List.getElem?_toArray]
    rw [List.getElem?_append_left (by omega), List.getElem?_eq_getElem (by omega)]
  · rw [e5 i (by omega)]
    simp only [hCells, List.getElem?_toArray]
    rw [List.getElem?_append_right (by omega), List.getElem?_append_right (by omega), hl, hl0]

/-- A hash that was told m. -/
def HM (B : Nat) (w : World) (p : Nat) (v : Value) (m : List UInt8) : Prop := HAt B w p v (stOf m (m.length / 64)) (m.drop (64 * (m.length / 64))) m.length

theorem iv_cells : hCells iv (.slice none 0 0) 0 = #[.int .u32 1779033703, .int .u32 3144134277, .int .u32 1013904242, .int .u32 2773480762, .int .u32 1359893119, .int .u32 2600822924, .int .u32 528734635, .int .u32 1541459225, .slice none 0 0, .int .i64 0] := rfl

set_option maxHeartbeats 1000000 in
theorem new_any (w : World) : Calls Tryz.prog 105 #[] w fun e w' => e = .returned (.pointer (some ⟨w.heap.size, 0, none⟩)) ∧ w' = w.alloc (.cells (hCells iv (.slice none 0 0) 0) 184) := by
  rw [iv_cells]
  go_enter Tryz.func105, Tryz.ntmps105
  go_upto_region 1 with (fail)
  apply wp_region_lit
  refine wpList_buildTo rfl 182 _ rfl (some 1) rfl #[.int .u32 1779033703, .int .u32 3144134277, .int .u32 1013904242, .int .u32 2773480762, .int .u32 1359893119, .int .u32 2600822924, .int .u32 528734635, .int .u32 1541459225] (by kernel_rfl) ?_
  refine wpList_buildTo rfl 184 _ rfl (some 2) rfl #[.int .u32 1779033703, .int .u32 3144134277, .int .u32 1013904242, .int .u32 2773480762, .int .u32 1359893119, .int .u32 2600822924, .int .u32 528734635, .int .u32 1541459225, .slice none 0 0, .int .i64 0] (by kernel_rfl) ?_
  go_wp2_with fail
  go_ret
  exact ⟨rfl, rfl⟩
theorem new_hm (B : Nat) (w : World) (hB : B ≤ w.heap.size) : HM B (w.alloc (.cells (hCells iv (.slice none 0 0) 0) 184)) w.heap.size (.slice none 0 0) [] :=
  ⟨heap_alloc_new w _, iv_st8, Tl.nil _ _, hB⟩

set_option maxRecDepth 100000 in
set_option maxHeartbeats 4000000 in
theorem write_any (B p : Nat) (v : Value) (m l : List UInt8) (ad : Option Addr) (n c : Nat) (w : World) (h : HM B w p v m) (hB : B ≤ w.heap.size) (hr : Rd w ad l) (hn : n = l.length) (hap : l ≠ [] → ∀ b off s, ad = some ⟨b, off, s⟩ → b ≠ p) (hlen : m.length + l.length ≤ 1000000) :
    Calls Tryz.prog 106 #[.pointer (some ⟨p, 0, none⟩), .slice ad n c] w fun e w' => e = .returned (.tuple #[]) ∧ ∃ v', HM B w' p v' (m ++ l) ∧ Keeps (fun k => k = p ∨ v.ownBlock = some k) w w' ∧ (v'.ownBlock = v.ownBlock ∨ ∃ k, v'.ownBlock = some k ∧ w.heap.size ≤ k) := by
  subst hn
  obtain ⟨st, hst⟩ : ∃ x, stOf m (m.length / 64) = x := ⟨_, rfl⟩
  obtain ⟨rest, hrest⟩ : ∃ x, m.drop (64 * (m.length / 64)) = x := ⟨_, rfl⟩
  have hrl : rest.length = m.length % 64 := by rw [← hrest, List.length_drop]; omega
  unfold HM at h
  rw [hst, hrest] at h
  have HST := Lib.hid hst
  have HRE := Lib.hid hrest
  have HRL := Lib.hid hrl
  have c8 := HAt.cell8 h
  have c9 := HAt.cell9 h
  have f9 := HAt.frz h 9
  have hcount : IntKind.i64.wrap ((m.length : Int) + l.length) = ((m.length + l.length : Nat) : Int) := IntWalk.i64_in _ (by omega)
  obtain ⟨ml, hml⟩ : ∃ x, m.length + l.length = x := ⟨_, rfl⟩
  rw [hml] at hcount
  obtain ⟨a0, c0, hv⟩ : ∃ a c, v = .slice a rest.length c := by
    obtain ⟨a, c, h, _⟩ := h.tl.shape
    exact ⟨a, c, h⟩
  have H1 := HAt.num h ml
  have HML := Lib.hid hml
  clear hst hrest hrl hml
  have hr1 : Rd (w.setCell ⟨p, 9, none⟩ (.int .i64 ml)) ad l := by
    by_cases e : l = []
    · exact .inl e
    · exact hr.keeps (Keeps.setCell (f := fun k => k = p) w _ _ rfl) (hap e)
  have hk1 : Keeps (fun k => k = p ∨ v.ownBlock = some k) w (w.setCell ⟨p, 9, none⟩ (.int .i64 ml)) := Keeps.setCell _ _ _ (.inl rfl)
  clear h hr
  go_enter Tryz.func106, Tryz.ntmps106
  go_upto_region 1 with (fail)
  obtain ⟨w1, hw1⟩ : ∃ w1, w.setCell ⟨p, 9, none⟩ (.int .i64 ml) = w1 := ⟨_, rfl⟩
  rw [hw1] at H1 hr1 hk1 ⊢
  clear hw1 c8 c9 f9 hcount
  have c8 := HAt.cell8 H1
  subst hv
  have HM1 := Lib.hid H1
  have HR1 := Lib.hid hr1
  have HK1 := Lib.hid hk1
  clear H1 hr1 hk1
  go_wp2_with (at_builtin; go_loud (refine wpList_append_tl rfl (.tmp 17) (.tmp 18) rfl B _ _ rfl HM1.out.tl ad l l.length c rfl rfl HR1.out ?c1 ?c2 ?_))
  case c1 => have := HRL.out; omega
  case c2 => exact Nat.le_trans hB HK1.out.size
  intro a2 n2 c2 w2 hn2 ht2 hg2 how2
  have hp2 : w2.heap[p]? = w1.heap[p]? := hg2.block p (Array.getElem?_eq_some_iff.1 HM1.out.blk).1 (fun e => HM1.out.apart e.symm)
  have hb2 : w2.heap[p]? = some (.cells (hCells st (.slice a0 rest.length c0) ml) 184 (0, 0)) := by rw [hp2]; exact HM1.out.blk
  have c8' : w2.cell? ⟨p, 8, none⟩ = some (.slice a0 rest.length c0) := by rw [Lib.cell_of_heap hb2, hCells_8 HM1.out.st8]
  have f8' : w2.frozen? ⟨p, 8, none⟩ = false := Lib.frozen_of_heap hb2 8
  have H2 : HAt B (w2.setCell ⟨p, 8, none⟩ (.slice a2 n2 c2)) p (.slice a2 n2 c2) st (rest ++ l) ml := by
    have hne : Value.ownBlock (.slice a2 n2 c2) ≠ some p := by
      intro e
      obtain ⟨cur, hc⟩ := ht2.kind p e
      rw [hb2] at hc
      simp at hc
    exact ⟨by rw [setCell_blockS hb2, hCells_set8 HM1.out.st8], HM1.out.st8, ht2.keep fun k hk => Below.heap_setCell _ _ _ _ (fun e => hne (by rw [hk, e])), HM1.out.ge⟩
  have hk2 : Keeps (fun k => k = p ∨ Value.ownBlock (.slice a0 rest.length c0) = some k) w (w2.setCell ⟨p, 8, none⟩ (.slice a2 n2 c2)) :=
    (HK1.out.trans (Keeps.of_grown (f := fun k => k = p ∨ Value.ownBlock (.slice a0 rest.length c0) = some k) hg2 (fun k hk => .inr hk)) (fun k _ h => h)).trans (Keeps.setCell (f := fun k => k = p) _ _ _ rfl) (fun k _ h => .inl h)
  have how3 : Value.ownBlock (.slice a2 n2 c2) = Value.ownBlock (.slice a0 rest.length c0) ∨ ∃ k, Value.ownBlock (.slice a2 n2 c2) = some k ∧ w.heap.size ≤ k :=
    how2.imp id fun ⟨k, h1, h2⟩ => ⟨k, h1, Nat.le_trans HK1.out.size h2⟩
  have HM2 := Lib.hid H2
  have HK2 := Lib.hid hk2
  have HOW := Lib.hid how3
  clear H2 hk2 how3 how2 ht2 hg2 hp2 hb2 c8 HR1
  obtain ⟨rest2, hrest2⟩ : ∃ x, rest ++ l = x := ⟨_, rfl⟩
  obtain ⟨w3, hw3⟩ : ∃ w3, w2.setCell ⟨p, 8, none⟩ (.slice a2 n2 c2) = w3 := ⟨_, rfl⟩
  rw [hrest2] at HM2
  have HR2 := Lib.hid hrest2
  clear hrest2
  go_wp2_with fail
  rw [hw3] at HM2 HK2
  clear hw3 c8' f8'
  go_loopg [22] ((m ++ l).length / 64 - m.length / 64) (fun k x wr => ∃ j v', j + k = (m ++ l).length / 64 ∧ m.length / 64 ≤ j ∧ Hid (HAt B wr p v' (stOf (m ++ l) j) ((m ++ l).drop (64 * j)) ml) ∧
      Hid (Keeps (fun k => k = p ∨ Value.ownBlock (.slice a0 rest.length c0) = some k) w wr) ∧ Hid (v'.ownBlock = Value.ownBlock (.slice a0 rest.length c0) ∨ ∃ k, v'.ownBlock = some k ∧ w.heap.size ≤ k))
  case atStart =>
    have hle : m.length ≤ (m ++ l).length := by simp
    have hd : m.length / 64 ≤ (m ++ l).length / 64 := Nat.div_le_div_right hle
    refine ⟨m.length / 64, _, by omega, Nat.le_refl _, ?_, HK2, HOW⟩
    rw [stOf_app m l _ (by omega), List.drop_append_of_le_length (by omega), HST.out, HRE.out, HR2.out]
    exact HM2
  case round =>
    obtain ⟨j, v', hj, hj0, H, HK, HO⟩ := hrel
    have hML : (m ++ l).length = m.length + l.length := List.length_append
    have hLl : ((m ++ l).drop (64 * j)).length = (m ++ l).length - 64 * j := List.length_drop
    obtain ⟨L, hL⟩ : ∃ x, (m ++ l).drop (64 * j) = x := ⟨_, rfl⟩
    obtain ⟨s1, hs1⟩ : ∃ x, stOf (m ++ l) j = x := ⟨_, rfl⟩
    rw [hL] at hLl H
    rw [hs1] at H
    have HL := Lib.hid hL
    have HS1 := Lib.hid hs1
    obtain ⟨a3, c3, hv3⟩ : ∃ a c, v' = .slice a L.length c := by
      obtain ⟨a, c, h, _⟩ := H.out.tl.shape
      exact ⟨a, c, h⟩
    subst hv3
    have c8 := H.out.cell8
    have HLL := Lib.hid hLl
    have HMLL := Lib.hid hML
    clear hL hs1 hLl hML
    by_cases h64 : 64 ≤ L.length
    · have h64' : (64 : Int) ≤ (L.length : Int) := by omega
      have hl1 : (u32s s1).length = 8 := by simp [u32s, H.out.st8.1]
      have hc8 : (comp s1 L).length = 8 := (comp_st8 H.out.st8 L).1
      have hLm : L.length ≤ 1000000 := by have := HLL.out; have := HMLL.out; omega
      have hrdL : Rd wr a3 L := by
        obtain ⟨a, c, h, hr, _⟩ := H.out.tl.shape
        simp at h
        rw [h.1]
        exact hr
      go_upto_region 3 with (fail)
      refine wp_region_inv (by kernel_rfl) (by kernel_rfl) (fun b a' w' => ∃ v28 v29 v30 v31 v32 v33 v34 v35 v36 v37 v38 v39 : Value, ∃ wb : World, a' = { tmps := #[.pointer (some ⟨p, 0, none⟩), .slice ad l.length c, undef, undef, .pointer (some ⟨p, 0, none⟩), .pointer (some ⟨p, 0, none⟩), .pointer (some ⟨p, 9, none⟩), .int .i64 (m.length : Nat), .slice ad l.length c, .int .i64 (l.length : Nat), .int .i64 (ml : Nat), .pointer (some ⟨p, 0, none⟩), .pointer (some ⟨p, 9, none⟩), .pointer (some ⟨p, 0, none⟩), .pointer (some ⟨p, 0, none⟩), .pointer (some ⟨p, 0, none⟩), .pointer (some ⟨p, 8, none⟩), .slice a0 rest.length c0, .slice ad l.length c, .slice a2 n2 c2, .pointer (some ⟨p, 0, none⟩), .pointer (some ⟨p, 8, none⟩), .pointer (some ⟨p, 0, none⟩), .pointer (some ⟨p, 0, none⟩), .pointer (some ⟨p, 8, none⟩), .slice a3 L.length c3, .int .i64 (L.length : Nat), .bool true, v28, v29, v30, v31, v32, v33, v34, v35, v36, v37, v38, v39, u40, u41, u42, u43, u44, u45, u46, u47], defers := [] } ∧ Below wr.heap.size wr wb ∧ w' = (if b 12 then wb.setCells p 0 (u32s (comp s1 L)) else wb) ∧ (b 12 = true → b 0 = true ∧ b 1 = true ∧ b 2 = true ∧ b 3 = true ∧ b 4 = true ∧ b 5 = true ∧ b 6 = true ∧ b 7 = true ∧ b 8 = true ∧ b 9 = true ∧ b 10 = true ∧ b 11 = true) ∧ (b 11 = true → b 10 = true) ∧ (b 0 = true → v28 = .pointer (some ⟨p, 0, none⟩)) ∧ (b 1 = true → v29 = .pointer (some ⟨p, 0, none⟩)) ∧ (b 2 = true → v30 = .pointer (some ⟨p, 0, none⟩)) ∧ (b 3 = true → v31 = .pointer (some ⟨p, 0, none⟩)) ∧ (b 4 = true → v32 = .agg (u32s s1).toArray) ∧ (b 5 = true → v33 = .pointer (some ⟨p, 0, none⟩)) ∧ (b 6 = true → v34 = .pointer (some ⟨p, 0, none⟩)) ∧ (b 7 = true → v35 = .pointer (some ⟨p, 8, none⟩)) ∧ (b 8 = true → v36 = .slice a3 L.length c3) ∧ (b 9 = true → v37 = .agg (u32s (comp s1 L)).toArray) ∧ (b 10 = true → v38 = .pointer (some ⟨p, 0, none⟩)) ∧ (b 11 = true → v39 = .pointer (some ⟨p, 0, none⟩))) ?_ ?_ ?_
      · exact ⟨u28, u29, u30, u31, u32, u33, u34, u35, u36, u37, u38, u39, wr.drew, rfl, (Below.refl _ _).drew, rfl, by simp, by simp, by simp, by simp, by simp, by simp, by simp, by simp, by simp, by simp, by simp, by simp, by simp, by simp⟩
      · rintro b a' w' ⟨v28, v29, v30, v31, v32, v33, v34, v35, v36, v37, v38, v39, wb, rfl, hbel, hw, h12, h1110, h0, h1, h2, h3, h4, h5, h6, h7, h8, h9, h10, h11⟩ i o ho hbi hpre
        rcases i with _ | _ | _ | _ | _ | _ | _ | _ | _ | _ | _ | _ | _ | i
        · cases ho
          have n12 : b 12 = false := by
            cases e : b 12 with
            | false => rfl
            | true => exact absurd (h12 e).1 (by simp [hbi])
          rw [n12] at hw
          obtain rfl : w' = wb := hw
          refine wpOp_step rfl (fun K' hK => ?_)
          go_simp
          refine hK _ _ ⟨_, _, _, _, _, _, _, _, _, _, _, _, w', rfl, hbel, ?_, fun e => absurd (h12 e).1 (by simp [hbi]), h1110, fun _ => rfl, h1, h2, h3, h4, h5, h6, h7, h8, h9, h10, h11⟩
          simp [n12]
        · cases ho
          have n12 : b 12 = false := by
            cases e : b 12 with
            | false => rfl
            | true => exact absurd (h12 e).2.1 (by simp [hbi])
          rw [n12] at hw
          obtain rfl : w' = wb := hw
          refine wpOp_step rfl (fun K' hK => ?_)
          go_simp
          refine hK _ _ ⟨_, _, _, _, _, _, _, _, _, _, _, _, w', rfl, hbel, ?_, fun e => absurd (h12 e).2.1 (by simp [hbi]), h1110, h0, fun _ => rfl, h2, h3, h4, h5, h6, h7, h8, h9, h10, h11⟩
          simp [n12]
        · cases ho
          have n12 : b 12 = false := by
            cases e : b 12 with
            | false => rfl
            | true => exact absurd (h12 e).2.2.1 (by simp [hbi])
          rw [n12] at hw
          obtain rfl : w' = wb := hw
          simp [Region.binds] at hpre
          obtain rfl := h1 (by simp [hpre])
          refine wpOp_step rfl (fun K' hK => ?_)
          go_simp
          refine hK _ _ ⟨_, _, _, _, _, _, _, _, _, _, _, _, w', rfl, hbel, ?_, fun e => absurd (h12 e).2.2.1 (by simp [hbi]), h1110, h0, h1, fun _ => rfl, h3, h4, h5, h6, h7, h8, h9, h10, h11⟩
          simp [n12]
        · cases ho
          have n12 : b 12 = false := by
            cases e : b 12 with
            | false => rfl
            | true => exact absurd (h12 e).2.2.2.1 (by simp [hbi])
          rw [n12] at hw
          obtain rfl : w' = wb := hw
          simp [Region.binds] at hpre
          obtain rfl := h2 (by simp [hpre])
          refine wpOp_step rfl (fun K' hK => ?_)
          go_simp
          refine hK _ _ ⟨_, _, _, _, _, _, _, _, _, _, _, _, w', rfl, hbel, ?_, fun e => absurd (h12 e).2.2.2.1 (by simp [hbi]), h1110, h0, h1, h2, fun _ => rfl, h4, h5, h6, h7, h8, h9, h10, h11⟩
          simp [n12]
        · cases ho
          have n12 : b 12 = false := by
            cases e : b 12 with
            | false => rfl
            | true => exact absurd (h12 e).2.2.2.2.1 (by simp [hbi])
          rw [n12] at hw
          obtain rfl : w' = wb := hw
          simp [Region.binds] at hpre
          obtain rfl := h3 (by simp [hpre])
          refine wpOp_plain rfl rfl ?_
          refine wp_load_mid 182 (.tmp 31) rfl p 0 rfl (u32s s1) _ (H.out.below hbel).range Tryz.underlying182 rfl (by rw [hl1]; kernel_rfl) ?_
          refine ⟨_, _, _, _, _, _, _, _, _, _, _, _, w', rfl, hbel, ?_, fun e => absurd (h12 e).2.2.2.2.1 (by simp [hbi]), h1110, h0, h1, h2, h3, fun _ => rfl, h5, h6, h7, h8, h9, h10, h11⟩
          simp [n12]
        · cases ho
          have n12 : b 12 = false := by
            cases e : b 12 with
            | false => rfl
            | true => exact absurd (h12 e).2.2.2.2.2.1 (by simp [hbi])
          rw [n12] at hw
          obtain rfl : w' = wb := hw
          refine wpOp_step rfl (fun K' hK => ?_)
          go_simp
          refine hK _ _ ⟨_, _, _, _, _, _, _, _, _, _, _, _, w', rfl, hbel, ?_, fun e => absurd (h12 e).2.2.2.2.2.1 (by simp [hbi]), h1110, h0, h1, h2, h3, h4, fun _ => rfl, h6, h7, h8, h9, h10, h11⟩
          simp [n12]
        · cases ho
          have n12 : b 12 = false := by
            cases e : b 12 with
            | false => rfl
            | true => exact absurd (h12 e).2.2.2.2.2.2.1 (by simp [hbi])
          rw [n12] at hw
          obtain rfl : w' = wb := hw
          simp [Region.binds] at hpre
          obtain rfl := h5 (by simp [hpre])
          refine wpOp_step rfl (fun K' hK => ?_)
          go_simp
          refine hK _ _ ⟨_, _, _, _, _, _, _, _, _, _, _, _, w', rfl, hbel, ?_, fun e => absurd (h12 e).2.2.2.2.2.2.1 (by simp [hbi]), h1110, h0, h1, h2, h3, h4, h5, fun _ => rfl, h7, h8, h9, h10, h11⟩
          simp [n12]
        · cases ho
          have n12 : b 12 = false := by
            cases e : b 12 with
            | false => rfl
            | true => exact absurd (h12 e).2.2.2.2.2.2.2.1 (by simp [hbi])
          rw [n12] at hw
          obtain rfl : w' = wb := hw
          simp [Region.binds] at hpre
          obtain rfl := h6 (by simp [hpre])
          refine wpOp_step rfl (fun K' hK => ?_)
          go_simp
          refine hK _ _ ⟨_, _, _, _, _, _, _, _, _, _, _, _, w', rfl, hbel, ?_, fun e => absurd (h12 e).2.2.2.2.2.2.2.1 (by simp [hbi]), h1110, h0, h1, h2, h3, h4, h5, h6, fun _ => rfl, h8, h9, h10, h11⟩
          simp [n12]
        · cases ho
          have n12 : b 12 = false := by
            cases e : b 12 with
            | false => rfl
            | true => exact absurd (h12 e).2.2.2.2.2.2.2.2.1 (by simp [hbi])
          rw [n12] at hw
          obtain rfl : w' = wb := hw
          simp [Region.binds] at hpre
          obtain rfl := h7 (by simp [hpre])
          have c8' := (H.out.below hbel).cell8
          refine wpOp_step rfl (fun K' hK => ?_)
          go_simp
          refine hK _ _ ⟨_, _, _, _, _, _, _, _, _, _, _, _, w', rfl, hbel, ?_, fun e => absurd (h12 e).2.2.2.2.2.2.2.2.1 (by simp [hbi]), h1110, h0, h1, h2, h3, h4, h5, h6, h7, fun _ => rfl, h9, h10, h11⟩
          simp [n12]
        · cases ho
          have n12 : b 12 = false := by
            cases e : b 12 with
            | false => rfl
            | true => exact absurd (h12 e).2.2.2.2.2.2.2.2.2.1 (by simp [hbi])
          rw [n12] at hw
          obtain rfl : w' = wb := hw
          simp [Region.binds] at hpre
          obtain rfl := h4 (by simp [hpre])
          obtain rfl := h8 (by simp [hpre])
          refine wpOp_step rfl (fun K' hK => ?_)
          go_simp
          refine (compress_any s1 H.out.st8 a3 L L.length c3 _ (hrdL.below hbel) rfl h64 hLm).mono ?_
          rintro e w1 ⟨rfl, hb⟩
          refine hK _ _ ⟨_, _, _, _, _, _, _, _, _, _, _, _, w1, rfl, hbel.trans (hb.mono hbel.size), ?_, fun e => absurd (h12 e).2.2.2.2.2.2.2.2.2.1 (by simp [hbi]), h1110, h0, h1, h2, h3, h4, h5, h6, h7, h8, fun _ => rfl, h10, h11⟩
          simp [n12]
        · cases ho
          have n12 : b 12 = false := by
            cases e : b 12 with
            | false => rfl
            | true => exact absurd (h12 e).2.2.2.2.2.2.2.2.2.2.1 (by simp [hbi])
          rw [n12] at hw
          obtain rfl : w' = wb := hw
          simp [Region.binds] at hpre
          obtain rfl := h0 (by simp [hpre])
          refine wpOp_step rfl (fun K' hK => ?_)
          go_simp
          refine hK _ _ ⟨_, _, _, _, _, _, _, _, _, _, _, _, w', rfl, hbel, ?_, fun e => absurd (h12 e).2.2.2.2.2.2.2.2.2.2.1 (by simp [hbi]), fun _ => rfl, (by first | exact h0 | exact fun _ => rfl), (by first | exact h1 | exact fun _ => rfl), (by first | exact h2 | exact fun _ => rfl), (by first | exact h3 | exact fun _ => rfl), (by first | exact h4 | exact fun _ => rfl), (by first | exact h5 | exact fun _ => rfl), (by first | exact h6 | exact fun _ => rfl), (by first | exact h7 | exact fun _ => rfl), (by first | exact h8 | exact fun _ => rfl), (by first | exact h9 | exact fun _ => rfl), fun _ => rfl, (by first | exact h11 | exact fun _ => rfl)⟩
          simp [n12]
        · cases ho
          have n12 : b 12 = false := by
            cases e : b 12 with
            | false => rfl
            | true => exact absurd (h12 e).2.2.2.2.2.2.2.2.2.2.2 (by simp [hbi])
          rw [n12] at hw
          obtain rfl : w' = wb := hw
          simp [Region.binds] at hpre
          obtain rfl := h10 (by simp [hpre])
          refine wpOp_step rfl (fun K' hK => ?_)
          go_simp
          refine hK _ _ ⟨_, _, _, _, _, _, _, _, _, _, _, _, w', rfl, hbel, ?_, fun e => absurd (h12 e).2.2.2.2.2.2.2.2.2.2.2 (by simp [hbi]), fun _ => by simp [hpre], (by first | exact h0 | exact fun _ => rfl), (by first | exact h1 | exact fun _ => rfl), (by first | exact h2 | exact fun _ => rfl), (by first | exact h3 | exact fun _ => rfl), (by first | exact h4 | exact fun _ => rfl), (by first | exact h5 | exact fun _ => rfl), (by first | exact h6 | exact fun _ => rfl), (by first | exact h7 | exact fun _ => rfl), (by first | exact h8 | exact fun _ => rfl), (by first | exact h9 | exact fun _ => rfl), (by first | exact h10 | exact fun _ => rfl), fun _ => rfl⟩
          simp [n12]
        · cases ho
          simp [Region.binds] at hpre
          rw [hbi] at hw
          obtain rfl : w' = wb := hw
          obtain rfl := h9 (by simp [hpre])
          obtain rfl := h11 (by simp [hpre])
          refine wpOp_plain rfl rfl ?_
          refine wp_store_mid 182 (.tmp 39) (.tmp 37) rfl p 0 (u32s (comp s1 L)).toArray rfl rfl ?_ (by rw [u32s_size, hc8]; kernel_rfl) (u32s_one _) ?_
          · rw [u32s_size, hc8]; exact (H.out.below hbel).there
          · exact ⟨_, _, _, _, _, _, _, _, _, _, _, _, w', rfl, hbel, by simp, fun _ => by simp [hpre, h1110], h1110, h0, h1, h2, h3, h4, h5, h6, h7, h8, fun _ => rfl, h10, fun _ => rfl⟩
        · simp at ho
      · rintro b a' w' ⟨v28, v29, v30, v31, v32, v33, v34, v35, v36, v37, v38, v39, wb, rfl, hbel, hw, h12, h1110, h0, h1, h2, h3, h4, h5, h6, h7, h8, h9, h10, h11⟩ hall
        obtain rfl := h0 (hall 0 (by simp))
        obtain rfl := h1 (hall 1 (by simp))
        obtain rfl := h2 (hall 2 (by simp))
        obtain rfl := h3 (hall 3 (by simp))
        obtain rfl := h4 (hall 4 (by simp))
        obtain rfl := h5 (hall 5 (by simp))
        obtain rfl := h6 (hall 6 (by simp))
        obtain rfl := h7 (hall 7 (by simp))
        obtain rfl := h8 (hall 8 (by simp))
        obtain rfl := h9 (hall 9 (by simp))
        obtain rfl := h10 (hall 10 (by simp))
        obtain rfl := h11 (hall 11 (by simp))
        rw [hall 12 (by simp)] at hw
        obtain rfl : w' = wb.setCells p 0 (u32s (comp s1 L)) := hw
        have H4 := (H.out.below hbel).state (comp_st8 H.out.st8 L)
        have hk4 : Keeps (fun k => k = p ∨ Value.ownBlock (.slice a0 rest.length c0) = some k) w (wb.setCells p 0 (u32s (comp s1 L))) :=
          (HK.out.trans (Keeps.of_below hbel (Nat.le_refl _) (fun k => k = p)) (fun k _ h => .inl h)).trans (Keeps.setCells (f := fun k => k = p) wb p 0 _ rfl) (fun k _ h => .inl h)
        obtain ⟨w4, hw4⟩ : ∃ w4, wb.setCells p 0 (u32s (comp s1 L)) = w4 := ⟨_, rfl⟩
        rw [hw4] at H4 hk4 ⊢
        have ht5 := H4.tl.drop 64 h64
        obtain ⟨a5, n5, c5, hsl⟩ : ∃ a n c, sliced a3 64 L.length c3 1 = .slice a n c := ⟨_, _, _, rfl⟩
        have hrun : ∀ w' : World, (Instr.slice 41 (.slice a3 L.length c3) (some (.int .i64 64)) none none).run Tryz.prog w' = .ok (.slice a5 n5 c5) w' := by
          intro w'
          rw [← hsl, run_slice_l w' 41 a3 L.length c3 Tryz.underlying41 .i64 64 (by decide) h64']
          simp [go_sem]
        rw [hsl] at ht5
        have H5 := H4.own ht5
        have c8' := H4.cell8
        have f8' := H4.frz 8
        have hk5 : Keeps (fun k => k = p ∨ Value.ownBlock (.slice a0 rest.length c0) = some k) w (w4.setCell ⟨p, 8, none⟩ (.slice a5 n5 c5)) :=
          hk4.trans (Keeps.setCell (f := fun k => k = p) w4 _ _ rfl) (fun k _ h => .inl h)
        have how5 : Value.ownBlock (.slice a5 n5 c5) = Value.ownBlock (.slice a3 L.length c3) := by
          rw [← hsl]
          unfold sliced
          cases a3 with
          | none => split <;> rfl
          | some x => split <;> simp [Value.ownBlock, Addr.add] <;> split <;> rfl
        have HH5 := Lib.hid H5
        have HK5 := Lib.hid hk5
        have HO5 := Lib.hid how5
        clear hw4 H4 hk4 ht5 hsl H5 hk5 how5 hbel c8
        go_wp2_with fail
        go_roundg (gk - 1)
        case measure =>
          have := HLL.out
          omega
        case rel =>
          have e1 := HLL.out
          refine ⟨j + 1, .slice a5 n5 c5, by omega, by omega, Lib.hid ?_, HK5, Lib.hid ?_⟩
          · have e2 : stOf (m ++ l) (j + 1) = comp s1 L := by
              simp only [stOf]
              rw [HS1.out, HL.out]
            have e3 : (m ++ l).drop (64 * (j + 1)) = L.drop 64 := by
              rw [← HL.out, List.drop_drop]
              congr 1
            rw [e2, e3]
            exact HH5.out
          · rw [HO5.out]
            exact HO.out
    · have h64' : ¬ (64 : Int) ≤ (L.length : Int) := by omega
      go_wp2_with fail
      refine bodyPost_end (results_none rfl _ _ _) rfl ?_
      have e1 := HLL.out
      have e2 := HMLL.out
      have ej : j = (m ++ l).length / 64 := by omega
      refine ⟨rfl, _, ?_, HK.out, HO.out⟩
      have hH := H.out
      unfold HM
      rw [← ej, HS1.out, HL.out, e2, HML.out]
      exact hH
end Go.Proofs.YtfdijcdpmgkdkaaGreatDoor
set_option linter.unusedVariables false
namespace Go.Proofs.YtfdijcdpmgkdkaaGreatDoor
open Go.RowKit

theorem Tl.alloc {B : Nat} {w : World} {v : Value} {l : List UInt8} (h : Tl B w v l) (o : Obj) : Tl B (w.alloc o) v l :=
  h.keep fun k hk => Below.heap_alloc _ _ _ (h.lt k hk).2
theorem below_grow_tl {B : Nat} {a w w' : World} {v : Value} {l : List UInt8} (h : Below B a w) (ht : Tl B w v l) (hg : w.grownBy w' v.ownBlock) (hB : B ≤ w.heap.size) : Below B a w' :=
  h.grown hg hB (fun k hk => (ht.lt k hk).1)
theorem wrap_byte (N D : Nat) : IntKind.u8.wrap ((N : Int) / (D : Int)) = ((UInt8.ofNat (N / D)).toNat : Int) := by simp [IntKind.wrap, IntKind.bits, IntKind.signed, UInt8.toNat_ofNat']
theorem wrap_byte1 (N : Nat) : IntKind.u8.wrap (N : Int) = ((UInt8.ofNat N).toNat : Int) := by simp [IntKind.wrap, IntKind.bits, IntKind.signed, UInt8.toNat_ofNat']
theorem zer_lt (n : Nat) : zer n < 64 := by unfold zer; omega
theorem zer_step (n z : Nat) (h : z < zer n) : ((n % 64 + 1 + z : Nat) : Int) % 64 ≠ 56 := by unfold zer at h; omega
theorem zer_end (n : Nat) : ((n % 64 + 1 + zer n : Nat) : Int) % 64 = 56 := by unfold zer; omega

set_option maxRecDepth 100000 in
set_option maxHeartbeats 4000000 in
theorem hsum_any (B p : Nat) (v : Value) (m : List UInt8) (w : World) (h : HM B w p v m) (hlen : m.length ≤ 900000) :
    Calls Tryz.prog 109 #[.pointer (some ⟨p, 0, none⟩)] w fun e w' => ∃ v', e = .returned v' ∧ Tl w.heap.size w' v' (sha m) ∧ Below w.heap.size w w' := by
  obtain ⟨st, hst⟩ : ∃ x, stOf m (m.length / 64) = x := ⟨_, rfl⟩
  obtain ⟨rest, hrest⟩ : ∃ x, m.drop (64 * (m.length / 64)) = x := ⟨_, rfl⟩
  have hrl : rest.length = m.length % 64 := by rw [← hrest, List.length_drop]; omega
  unfold HM at h
  rw [hst, hrest] at h
  have HST := Lib.hid hst
  have HRE := Lib.hid hrest
  have HRL := Lib.hid hrl
  obtain ⟨a0, c0, hv⟩ : ∃ a c, v = .slice a rest.length c := by
    obtain ⟨a, c, h, _⟩ := h.tl.shape
    exact ⟨a, c, h⟩
  subst hv
  have hrd : Rd w a0 rest := by
    obtain ⟨a, c, h, hr, _⟩ := h.tl.shape
    simp at h
    rw [h.1]
    exact hr
  have c8 := h.cell8
  have hlt : p < w.heap.size := (Array.getElem?_eq_some_iff.1 h.blk).1
  have c8' : (w.alloc (.cells #[] 5)).cell? ⟨p, 8, none⟩ = some (.slice a0 rest.length c0) := by
    rw [World.cell?_alloc_lt _ _ _ hlt]; exact c8
  have H := Lib.hid h
  have HR := Lib.hid hrd
  clear h hrd hst hrest hrl c8
  go_enter Tryz.func109, Tryz.ntmps109
  go_wp2_with (at_builtin; go_loud (refine wpList_append_tl rfl (.tmp 9) (.tmp 13) rfl w.heap.size _ [] rfl (Tl.of_own (Own.empty w)) a0 rest rest.length c0 rfl rfl (HR.out.alloc _) ?c1 ?c2 ?_))
  case c1 => have := HRL.out; simp; omega
  case c2 => simp
  intro a1 n1 c1 w1 hn1 ht1 hg1 how1
  have hB1 : Below w.heap.size w w1 := below_grow_tl ((Below.refl _ _).alloc (Nat.le_refl _) _) (Tl.of_own (Own.empty w)) hg1 (by simp)
  clear hg1 how1 hn1 c8'
  go_wp2_with (at_builtin; go_loud (refine wpList_append_tl rfl (.tmp 14) (.tmp 15) rfl w.heap.size _ rest rfl (ht1.alloc _) (some ⟨w1.heap.size, 0, none⟩) [0x80] 1 1 rfl rfl (Rd.of_lit (T := 5) (fr := (0, 0)) [0x80] ?c0) ?c1 ?c2 ?_))
  case c0 => rw [heap_alloc_new]; rfl
  case c1 => have := HRL.out; simp; omega
  case c2 => have := hB1.size; simp; omega
  intro a2 n2 c2 w2 hn2 ht2 hg2 how2
  have hB2 : Below w.heap.size w w2 := below_grow_tl (hB1.alloc hB1.size (.cells #[.int .u8 (128 : Int)] 5)) (ht1.alloc _) hg2 (by have := hB1.size; simp; omega)
  obtain ⟨r2, hr2⟩ : ∃ x, rest ++ [0x80] = x := ⟨_, rfl⟩
  have hr2l : r2.length = m.length % 64 + 1 := by rw [← hr2, List.length_append, HRL.out]; rfl
  rw [hr2] at ht2
  obtain rfl : n2 = m.length % 64 + 1 := by
    obtain ⟨a, c, h, _⟩ := ht2.shape
    simp at h
    rw [h.2.1, hr2l]
  have HR2 := Lib.hid hr2
  have HT2 := Lib.hid ht2
  have HB2 := Lib.hid hB2
  have H2L := Lib.hid hr2l
  clear hn2 hg2 how2 hr2 ht1 hB1 hr2l ht2 hB2
  go_wp2_with fail
  go_loopg [3] (zer m.length) (fun k x wr => ∃ z a c, ∃ q : Nat, x = .slice a q c ∧ z + k = zer m.length ∧ q = m.length % 64 + 1 + z ∧ Hid (Tl w.heap.size wr (.slice a q c) (r2 ++ List.replicate z 0)) ∧ Hid (Below w.heap.size w wr))
  case atStart => exact ⟨0, a2, c2, _, rfl, by omega, rfl, by simpa using HT2, HB2⟩
  case round =>
    obtain ⟨z, a, c, q, rfl, hz, hq, HT, HB⟩ := hrel
    by_cases hlt : z < zer m.length
    · have hc := zer_step m.length z hlt
      rw [← hq] at hc
      have HQ := Lib.hid hq
      clear hq
      go_wp2_with (at_builtin; go_loud (refine wpList_append_tl rfl (.tmp 21) (.tmp 22) rfl w.heap.size _ (r2 ++ List.replicate z 0) rfl (HT.out.alloc _) (some ⟨wr.heap.size, 0, none⟩) [0] 1 1 rfl rfl (Rd.of_lit (T := 5) (fr := (0, 0)) [0] ?c0) ?c1 ?c2 ?_))
      case c0 => rw [heap_alloc_new]; rfl
      case c1 => have := H2L.out; have := zer_lt m.length; simp; omega
      case c2 => have := HB.out.size; simp; omega
      intro a4 n4 c4 w4 hn4 ht4 hg4 how4
      have hB4 : Below w.heap.size w w4 := below_grow_tl (HB.out.alloc HB.out.size (.cells #[.int .u8 (0 : Int)] 5)) (HT.out.alloc _) hg4 (by have := HB.out.size; simp; omega)
      have hn5 : n4 = m.length % 64 + 1 + (z + 1) := by
        obtain ⟨a, c, h, _⟩ := ht4.shape
        simp at h
        have := H2L.out
        omega
      have HN5 := Lib.hid hn5
      clear hn4 hg4 how4 hn5
      go_wp2_with fail
      go_roundg (gk - 1)
      case measure => omega
      case rel =>
        refine ⟨z + 1, a4, c4, n4, rfl, by omega, HN5.out, Lib.hid ?_, Lib.hid hB4⟩
        rw [List.replicate_succ']
        simpa using ht4
    · obtain rfl : z = zer m.length := by omega
      have hc := zer_end m.length
      rw [← hq] at hc
      obtain ⟨r3, hr3⟩ : ∃ x, r2 ++ List.replicate (zer m.length) 0 = x := ⟨_, rfl⟩
      rw [hr3] at HT
      have HR3 := Lib.hid hr3
      have HQ := Lib.hid hq
      have hql : r3.length = q := by
        obtain ⟨a, c, h, _⟩ := HT.out.shape
        simp at h
        exact h.2.1.symm
      have HQL := Lib.hid hql
      have h3l : r3.length = m.length % 64 + 1 + zer m.length := by rw [hql, hq]
      have H3L := Lib.hid h3l
      clear hq hr3 hql h3l
      go_wp2_with fail
      go_loopg [4, 3] 8 (fun k y x wr => ∃ t q c : Nat, ∃ a : Option Addr, y = .int .i64 (56 - 8 * (t : Int)) ∧ x = .slice a q c ∧ t + k = 8 ∧ Hid (q = m.length % 64 + 1 + zer m.length + t) ∧ Hid (Tl w.heap.size wr (.slice a q c) (r3 ++ (be64 (m.length * 8)).take t)) ∧ Hid (Below w.heap.size w wr))
      case atStart => exact ⟨0, q, c, a, rfl, rfl, rfl, HQ, by simpa using HT, HB⟩
      case round =>
        clear hc
        obtain ⟨t, q, c, a, rfl, rfl, ht, HQ, HT, HB⟩ := hrel
        obtain ⟨N, hN⟩ : ∃ x, m.length * 8 = x := ⟨_, rfl⟩
        have hmul : IntKind.i64.wrap ((m.length : Int) * 8) = (N : Int) := by rw [← hN]; exact IntWalk.i64_in _ (by omega)
        have hN2 : N ≤ 8000000 := by omega
        rw [hN] at HT
        have HN := Lib.hid hN
        have c9 := (H.out.below HB.out).cell9
        clear hN
        by_cases ht8 : t < 8
        · have hcase : t = 0 ∨ t = 1 ∨ t = 2 ∨ t = 3 ∨ t = 4 ∨ t = 5 ∨ t = 6 ∨ t = 7 := by omega
          rcases hcase with rfl | rfl | rfl | rfl | rfl | rfl | rfl | rfl
          · obtain ⟨bt, hbt⟩ : ∃ x, UInt8.ofNat (N / 2 ^ 56) = x := ⟨_, rfl⟩
            have hwb : IntKind.u8.wrap ((N : Int) / 72057594037927936) = ((bt.toNat : Nat) : Int) := by rw [← hbt]; exact wrap_byte N 72057594037927936
            have HBT := Lib.hid hbt
            clear hbt
            go_wp2_with (at_builtin; go_loud (refine wpList_append_tl rfl (.tmp 28) (.tmp 37) rfl w.heap.size _ _ rfl (HT.out.alloc _) (some ⟨wr.heap.size, 0, none⟩) [bt] 1 1 rfl rfl (Rd.of_lit (T := 5) (fr := (0, 0)) [bt] ?c0) ?c1 ?c2 ?_))
            case c0 => rw [heap_alloc_new]; rfl
            case c1 => have := H3L.out; have := zer_lt m.length; simp [be64]; omega
            case c2 => have := HB.out.size; simp; omega
            intro a4 n4 c4 w4 hn4 ht4 hg4 how4
            have hB4 : Below w.heap.size w w4 := below_grow_tl (HB.out.alloc HB.out.size (.cells #[.int .u8 (bt.toNat : Int)] 5)) (HT.out.alloc _) hg4 (by have := HB.out.size; simp; omega)
            have e4 : r3 ++ (be64 N).take 0 ++ [bt] = r3 ++ (be64 N).take 1 := by rw [← HBT.out]; simp [be64]
            have ht5 : Tl w.heap.size w4 (.slice a4 n4 c4) (r3 ++ (be64 N).take 1) := by rw [← e4]; first | exact ht4 | simpa using ht4
            have hn5 : n4 = m.length % 64 + 1 + zer m.length + 1 := by
              obtain ⟨a, c, h, _⟩ := ht5.shape
              have := H3L.out
              simp [be64] at h
              omega
            have HN5 := Lib.hid hn5
            clear hn4 hg4 how4 hn5 e4
            go_wp2_with fail
            go_roundg (gk - 1)
            case measure => omega
            case rel => exact ⟨1, n4, c4, a4, rfl, rfl, by omega, HN5, Lib.hid (by rw [HN.out]; exact ht5), Lib.hid hB4⟩
          · obtain ⟨bt, hbt⟩ : ∃ x, UInt8.ofNat (N / 2 ^ 48) = x := ⟨_, rfl⟩
            have hwb : IntKind.u8.wrap ((N : Int) / 281474976710656) = ((bt.toNat : Nat) : Int) := by rw [← hbt]; exact wrap_byte N 281474976710656
            have HBT := Lib.hid hbt
            clear hbt
            go_wp2_with (at_builtin; go_loud (refine wpList_append_tl rfl (.tmp 28) (.tmp 37) rfl w.heap.size _ _ rfl (HT.out.alloc _) (some ⟨wr.heap.size, 0, none⟩) [bt] 1 1 rfl rfl (Rd.of_lit (T := 5) (fr := (0, 0)) [bt] ?c0) ?c1 ?c2 ?_))
            case c0 => rw [heap_alloc_new]; rfl
            case c1 => have := H3L.out; have := zer_lt m.length; simp [be64]; omega
            case c2 => have := HB.out.size; simp; omega
            intro a4 n4 c4 w4 hn4 ht4 hg4 how4
            have hB4 : Below w.heap.size w w4 := below_grow_tl (HB.out.alloc HB.out.size (.cells #[.int .u8 (bt.toNat : Int)] 5)) (HT.out.alloc _) hg4 (by have := HB.out.size; simp; omega)
            have e4 : r3 ++ (be64 N).take 1 ++ [bt] = r3 ++ (be64 N).take 2 := by rw [← HBT.out]; simp [be64]
            have ht5 : Tl w.heap.size w4 (.slice a4 n4 c4) (r3 ++ (be64 N).take 2) := by rw [← e4]; first | exact ht4 | simpa using ht4
            have hn5 : n4 = m.length % 64 + 1 + zer m.length + 2 := by
              obtain ⟨a, c, h, _⟩ := ht5.shape
              have := H3L.out
              simp [be64] at h
              omega
            have HN5 := Lib.hid hn5
            clear hn4 hg4 how4 hn5 e4
            go_wp2_with fail
            go_roundg (gk - 1)
            case measure => omega
            case rel => exact ⟨2, n4, c4, a4, rfl, rfl, by omega, HN5, Lib.hid (by rw [HN.out]; exact ht5), Lib.hid hB4⟩
          · obtain ⟨bt, hbt⟩ : ∃ x, UInt8.ofNat (N / 2 ^ 40) = x := ⟨_, rfl⟩
            have hwb : IntKind.u8.wrap ((N : Int) / 1099511627776) = ((bt.toNat : Nat) : Int) := by rw [← hbt]; exact wrap_byte N 1099511627776
            have HBT := Lib.hid hbt
            clear hbt
            go_wp2_with (at_builtin; go_loud (refine wpList_append_tl rfl (.tmp 28) (.tmp 37) rfl w.heap.size _ _ rfl (HT.out.alloc _) (some ⟨wr.heap.size, 0, none⟩) [bt] 1 1 rfl rfl (Rd.of_lit (T := 5) (fr := (0, 0)) [bt] ?c0) ?c1 ?c2 ?_))
            case c0 => rw [heap_alloc_new]; rfl
            case c1 => have := H3L.out; have := zer_lt m.length; simp [be64]; omega
            case c2 => have := HB.out.size; simp; omega
            intro a4 n4 c4 w4 hn4 ht4 hg4 how4
            have hB4 : Below w.heap.size w w4 := below_grow_tl (HB.out.alloc HB.out.size (.cells #[.int .u8 (bt.toNat : Int)] 5)) (HT.out.alloc _) hg4 (by have := HB.out.size; simp; omega)
            have e4 : r3 ++ (be64 N).take 2 ++ [bt] = r3 ++ (be64 N).take 3 := by rw [← HBT.out]; simp [be64]
            have ht5 : Tl w.heap.size w4 (.slice a4 n4 c4) (r3 ++ (be64 N).take 3) := by rw [← e4]; first | exact ht4 | simpa using ht4
            have hn5 : n4 = m.length % 64 + 1 + zer m.length + 3 := by
              obtain ⟨a, c, h, _⟩ := ht5.shape
              have := H3L.out
              simp [be64] at h
              omega
            have HN5 := Lib.hid hn5
            clear hn4 hg4 how4 hn5 e4
            go_wp2_with fail
            go_roundg (gk - 1)
            case measure => omega
            case rel => exact ⟨3, n4, c4, a4, rfl, rfl, by omega, HN5, Lib.hid (by rw [HN.out]; exact ht5), Lib.hid hB4⟩
          · obtain ⟨bt, hbt⟩ : ∃ x, UInt8.ofNat (N / 2 ^ 32) = x := ⟨_, rfl⟩
            have hwb : IntKind.u8.wrap ((N : Int) / 4294967296) = ((bt.toNat : Nat) : Int) := by rw [← hbt]; exact wrap_byte N 4294967296
            have HBT := Lib.hid hbt
            clear hbt
            go_wp2_with (at_builtin; go_loud (refine wpList_append_tl rfl (.tmp 28) (.tmp 37) rfl w.heap.size _ _ rfl (HT.out.alloc _) (some ⟨wr.heap.size, 0, none⟩) [bt] 1 1 rfl rfl (Rd.of_lit (T := 5) (fr := (0, 0)) [bt] ?c0) ?c1 ?c2 ?_))
            case c0 => rw [heap_alloc_new]; rfl
            case c1 => have := H3L.out; have := zer_lt m.length; simp [be64]; omega
            case c2 => have := HB.out.size; simp; omega
            intro a4 n4 c4 w4 hn4 ht4 hg4 how4
            have hB4 : Below w.heap.size w w4 := below_grow_tl (HB.out.alloc HB.out.size (.cells #[.int .u8 (bt.toNat : Int)] 5)) (HT.out.alloc _) hg4 (by have := HB.out.size; simp; omega)
            have e4 : r3 ++ (be64 N).take 3 ++ [bt] = r3 ++ (be64 N).take 4 := by rw [← HBT.out]; simp [be64]
            have ht5 : Tl w.heap.size w4 (.slice a4 n4 c4) (r3 ++ (be64 N).take 4) := by rw [← e4]; first | exact ht4 | simpa using ht4
            have hn5 : n4 = m.length % 64 + 1 + zer m.length + 4 := by
              obtain ⟨a, c, h, _⟩ := ht5.shape
              have := H3L.out
              simp [be64] at h
              omega
            have HN5 := Lib.hid hn5
            clear hn4 hg4 how4 hn5 e4
            go_wp2_with fail
            go_roundg (gk - 1)
            case measure => omega
            case rel => exact ⟨4, n4, c4, a4, rfl, rfl, by omega, HN5, Lib.hid (by rw [HN.out]; exact ht5), Lib.hid hB4⟩
          · obtain ⟨bt, hbt⟩ : ∃ x, UInt8.ofNat (N / 2 ^ 24) = x := ⟨_, rfl⟩
            have hwb : IntKind.u8.wrap ((N : Int) / 16777216) = ((bt.toNat : Nat) : Int) := by rw [← hbt]; exact wrap_byte N 16777216
            have HBT := Lib.hid hbt
            clear hbt
            go_wp2_with (at_builtin; go_loud (refine wpList_append_tl rfl (.tmp 28) (.tmp 37) rfl w.heap.size _ _ rfl (HT.out.alloc _) (some ⟨wr.heap.size, 0, none⟩) [bt] 1 1 rfl rfl (Rd.of_lit (T := 5) (fr := (0, 0)) [bt] ?c0) ?c1 ?c2 ?_))
            case c0 => rw [heap_alloc_new]; rfl
            case c1 => have := H3L.out; have := zer_lt m.length; simp [be64]; omega
            case c2 => have := HB.out.size; simp; omega
            intro a4 n4 c4 w4 hn4 ht4 hg4 how4
            have hB4 : Below w.heap.size w w4 := below_grow_tl (HB.out.alloc HB.out.size (.cells #[.int .u8 (bt.toNat : Int)] 5)) (HT.out.alloc _) hg4 (by have := HB.out.size; simp; omega)
            have e4 : r3 ++ (be64 N).take 4 ++ [bt] = r3 ++ (be64 N).take 5 := by rw [← HBT.out]; simp [be64]
            have ht5 : Tl w.heap.size w4 (.slice a4 n4 c4) (r3 ++ (be64 N).take 5) := by rw [← e4]; first | exact ht4 | simpa using ht4
            have hn5 : n4 = m.length % 64 + 1 + zer m.length + 5 := by
              obtain ⟨a, c, h, _⟩ := ht5.shape
              have := H3L.out
              simp [be64] at h
              omega
            have HN5 := Lib.hid hn5
            clear hn4 hg4 how4 hn5 e4
            go_wp2_with fail
            go_roundg (gk - 1)
            case measure => omega
            case rel => exact ⟨5, n4, c4, a4, rfl, rfl, by omega, HN5, Lib.hid (by rw [HN.out]; exact ht5), Lib.hid hB4⟩
          · obtain ⟨bt, hbt⟩ : ∃ x, UInt8.ofNat (N / 2 ^ 16) = x := ⟨_, rfl⟩
            have hwb : IntKind.u8.wrap ((N : Int) / 65536) = ((bt.toNat : Nat) : Int) := by rw [← hbt]; exact wrap_byte N 65536
            have HBT := Lib.hid hbt
            clear hbt
            go_wp2_with (at_builtin; go_loud (refine wpList_append_tl rfl (.tmp 28) (.tmp 37) rfl w.heap.size _ _ rfl (HT.out.alloc _) (some ⟨wr.heap.size, 0, none⟩) [bt] 1 1 rfl rfl (Rd.of_lit (T := 5) (fr := (0, 0)) [bt] ?c0) ?c1 ?c2 ?_))
            case c0 => rw [heap_alloc_new]; rfl
            case c1 => have := H3L.out; have := zer_lt m.length; simp [be64]; omega
            case c2 => have := HB.out.size; simp; omega
            intro a4 n4 c4 w4 hn4 ht4 hg4 how4
            have hB4 : Below w.heap.size w w4 := below_grow_tl (HB.out.alloc HB.out.size (.cells #[.int .u8 (bt.toNat : Int)] 5)) (HT.out.alloc _) hg4 (by have := HB.out.size; simp; omega)
            have e4 : r3 ++ (be64 N).take 5 ++ [bt] = r3 ++ (be64 N).take 6 := by rw [← HBT.out]; simp [be64]
            have ht5 : Tl w.heap.size w4 (.slice a4 n4 c4) (r3 ++ (be64 N).take 6) := by rw [← e4]; first | exact ht4 | simpa using ht4
            have hn5 : n4 = m.length % 64 + 1 + zer m.length + 6 := by
              obtain ⟨a, c, h, _⟩ := ht5.shape
              have := H3L.out
              simp [be64] at h
              omega
            have HN5 := Lib.hid hn5
            clear hn4 hg4 how4 hn5 e4
            go_wp2_with fail
            go_roundg (gk - 1)
            case measure => omega
            case rel => exact ⟨6, n4, c4, a4, rfl, rfl, by omega, HN5, Lib.hid (by rw [HN.out]; exact ht5), Lib.hid hB4⟩
          · obtain ⟨bt, hbt⟩ : ∃ x, UInt8.ofNat (N / 2 ^ 8) = x := ⟨_, rfl⟩
            have hwb : IntKind.u8.wrap ((N : Int) / 256) = ((bt.toNat : Nat) : Int) := by rw [← hbt]; exact wrap_byte N 256
            have HBT := Lib.hid hbt
            clear hbt
            go_wp2_with (at_builtin; go_loud (refine wpList_append_tl rfl (.tmp 28) (.tmp 37) rfl w.heap.size _ _ rfl (HT.out.alloc _) (some ⟨wr.heap.size, 0, none⟩) [bt] 1 1 rfl rfl (Rd.of_lit (T := 5) (fr := (0, 0)) [bt] ?c0) ?c1 ?c2 ?_))
            case c0 => rw [heap_alloc_new]; rfl
            case c1 => have := H3L.out; have := zer_lt m.length; simp [be64]; omega
            case c2 => have := HB.out.size; simp; omega
            intro a4 n4 c4 w4 hn4 ht4 hg4 how4
            have hB4 : Below w.heap.size w w4 := below_grow_tl (HB.out.alloc HB.out.size (.cells #[.int .u8 (bt.toNat : Int)] 5)) (HT.out.alloc _) hg4 (by have := HB.out.size; simp; omega)
            have e4 : r3 ++ (be64 N).take 6 ++ [bt] = r3 ++ (be64 N).take 7 := by rw [← HBT.out]; simp [be64]
            have ht5 : Tl w.heap.size w4 (.slice a4 n4 c4) (r3 ++ (be64 N).take 7) := by rw [← e4]; first | exact ht4 | simpa using ht4
            have hn5 : n4 = m.length % 64 + 1 + zer m.length + 7 := by
              obtain ⟨a, c, h, _⟩ := ht5.shape
              have := H3L.out
              simp [be64] at h
              omega
            have HN5 := Lib.hid hn5
            clear hn4 hg4 how4 hn5 e4
            go_wp2_with fail
            go_roundg (gk - 1)
            case measure => omega
            case rel => exact ⟨7, n4, c4, a4, rfl, rfl, by omega, HN5, Lib.hid (by rw [HN.out]; exact ht5), Lib.hid hB4⟩
          · obtain ⟨bt, hbt⟩ : ∃ x, UInt8.ofNat (N) = x := ⟨_, rfl⟩
            have hwb : IntKind.u8.wrap ((N : Int)) = ((bt.toNat : Nat) : Int) := by rw [← hbt]; exact wrap_byte1 N
            have HBT := Lib.hid hbt
            clear hbt
            go_wp2_with (at_builtin; go_loud (refine wpList_append_tl rfl (.tmp 28) (.tmp 37) rfl w.heap.size _ _ rfl (HT.out.alloc _) (some ⟨wr.heap.size, 0, none⟩) [bt] 1 1 rfl rfl (Rd.of_lit (T := 5) (fr := (0, 0)) [bt] ?c0) ?c1 ?c2 ?_))
            case c0 => rw [heap_alloc_new]; rfl
            case c1 => have := H3L.out; have := zer_lt m.length; simp [be64]; omega
            case c2 => have := HB.out.size; simp; omega
            intro a4 n4 c4 w4 hn4 ht4 hg4 how4
            have hB4 : Below w.heap.size w w4 := below_grow_tl (HB.out.alloc HB.out.size (.cells #[.int .u8 (bt.toNat : Int)] 5)) (HT.out.alloc _) hg4 (by have := HB.out.size; simp; omega)
            have e4 : r3 ++ (be64 N).take 7 ++ [bt] = r3 ++ (be64 N).take 8 := by rw [← HBT.out]; simp [be64]
            have ht5 : Tl w.heap.size w4 (.slice a4 n4 c4) (r3 ++ (be64 N).take 8) := by rw [← e4]; first | exact ht4 | simpa using ht4
            have hn5 : n4 = m.length % 64 + 1 + zer m.length + 8 := by
              obtain ⟨a, c, h, _⟩ := ht5.shape
              have := H3L.out
              simp [be64] at h
              omega
            have HN5 := Lib.hid hn5
            clear hn4 hg4 how4 hn5 e4
            go_wp2_with fail
            go_roundg (gk - 1)
            case measure => omega
            case rel => exact ⟨8, n4, c4, a4, rfl, rfl, by omega, HN5, Lib.hid (by rw [HN.out]; exact ht5), Lib.hid hB4⟩
        · obtain rfl : t = 8 := by omega
          have hpd := padded_drop m
          have hps := padded_st m
          have hpl := padded_len m
          have hple := padded_le m
          have hpg := padded_gt m
          rw [HRE.out] at hpd
          rw [HST.out] at hps
          have htl : r3 ++ (be64 N).take 8 = rest ++ padT m.length := by
            rw [← HR3.out, ← HR2.out, ← HN.out]
            simp [padT, be64]
          rw [htl, ← hpd] at HT
          have hsha : sha m = outB (stOf (padded m) ((padded m).length / 64)) := rfl
          obtain ⟨PD, hPD⟩ : ∃ x, padded m = x := ⟨_, rfl⟩
          rw [hPD] at HT hpd hps hpl hple hpg hsha
          have HSH := Lib.hid hsha
          have HPS := Lib.hid hps
          obtain ⟨k0, hk0⟩ : ∃ x, m.length / 64 = x := ⟨_, rfl⟩
          have hk1 : k0 ≤ PD.length / 64 := by omega
          rw [hk0] at HT HPS
          have hl8 : (u32s st).length = 8 := by simp [u32s, H.out.st8.1]
          have HL8 := Lib.hid hl8
          have HPL := Lib.hid hpl
          have hPb : PD.length ≤ 900072 := by omega
          have hq2 : PD.length = q + 64 * k0 := by
            obtain ⟨a, c, h, _⟩ := HT.out.shape
            rw [List.length_drop] at h
            simp at h
            omega
          clear hpd hps hpl htl hPD hsha hple hpg hl8 c9 hmul hk0
          go_upto_region 8 with (fail)
          apply wp_region_lit
          iterate 3 (refine wpList_plain rfl (fun K hK => ?_); go_simp; (with_reducible refine hK _ _ ?_); clear hK K)
          refine wpList_load_mid rfl 182 (.tmp 41) rfl p 0 rfl (u32s st) _ (H.out.below HB.out).range Tryz.underlying182 rfl (by rw [HL8.out]; kernel_rfl) ?_
          obtain ⟨S1, hS1⟩ : ∃ S, (u32s st).toArray = S := ⟨_, rfl⟩
          have hS1z : S1.size = 8 := by rw [← hS1]; simp [HL8.out]
          have hS1o : S1.all (·.oneCell') = true := by rw [← hS1]; exact u32s_one _
          rw [hS1]
          have HS1 := Lib.hid hS1
          clear hS1
          refine wpList_plain rfl (fun K hK => ?_)
          go_simp
          with_reducible refine hK _ _ ?_
          clear hK K
          obtain ⟨gs, hgs⟩ : ∃ g, wr.heap.size = g := ⟨_, rfl⟩
          have hgs0 : w.heap.size ≤ gs := by have := HB.out.size; omega
          have hnew := heap_alloc_new wr (.cells #[Value.int IntKind.u32 0, Value.int IntKind.u32 0, Value.int IntKind.u32 0, Value.int IntKind.u32 0, Value.int IntKind.u32 0, Value.int IntKind.u32 0, Value.int IntKind.u32 0, Value.int IntKind.u32 0] 182)
          have hb6 := HB.out.alloc HB.out.size (.cells #[Value.int IntKind.u32 0, Value.int IntKind.u32 0, Value.int IntKind.u32 0, Value.int IntKind.u32 0, Value.int IntKind.u32 0, Value.int IntKind.u32 0, Value.int IntKind.u32 0, Value.int IntKind.u32 0] 182)
          have ht6 := HT.out.alloc (.cells #[Value.int IntKind.u32 0, Value.int IntKind.u32 0, Value.int IntKind.u32 0, Value.int IntKind.u32 0, Value.int IntKind.u32 0, Value.int IntKind.u32 0, Value.int IntKind.u32 0, Value.int IntKind.u32 0] 182)
          rw [hgs] at hnew
          obtain ⟨w6, hw6⟩ : ∃ w6, wr.alloc (.cells #[Value.int IntKind.u32 0, Value.int IntKind.u32 0, Value.int IntKind.u32 0, Value.int IntKind.u32 0, Value.int IntKind.u32 0, Value.int IntKind.u32 0, Value.int IntKind.u32 0, Value.int IntKind.u32 0] 182) = w6 := ⟨_, rfl⟩
          rw [hw6] at hnew hb6 ht6 ⊢
          refine wpList_store_rowTo rfl 182 (.tmp 5) (.tmp 42) rfl rfl gs S1 (by rw [← hgs]; rfl) rfl 182 _ hnew (by rw [hS1z]; kernel_rfl) (by rw [hS1z]; rfl) hS1o ?_
          apply wpList_nil
          have hg7 := setRow_heap w6 gs _ S1 182 (0, 0) hnew
          have hb7 := below_setRowS hb6 hgs0 S1
          have ht7 : Tl w.heap.size (w6.setRow gs S1) (.slice a q c) (PD.drop (64 * k0)) := ht6.keep fun k hk => setRow_other _ _ _ _ (fun e => by
            obtain ⟨cur, hc⟩ := ht6.kind k hk
            subst e
            rw [hnew] at hc
            simp at hc)
          obtain ⟨w7, hw7⟩ : ∃ w7, w6.setRow gs S1 = w7 := ⟨_, rfl⟩
          rw [hgs]
          rw [hw7] at hg7 hb7 ht7 ⊢
          rw [← HS1.out, ← HPS.out] at hg7
          have HG7 := Lib.hid hg7
          have HB7 := Lib.hid hb7
          have HT7 := Lib.hid ht7
          clear hw7 hw6 hnew hb6 ht6 hg7 hb7 ht7 hgs HB HT
          go_wp2_with fail
          go_loopg [3] (PD.length / 64 - k0) (fun k x wr => ∃ j q c : Nat, ∃ a : Option Addr, x = .slice a q c ∧ j + k = PD.length / 64 ∧ PD.length = q + 64 * j ∧ Hid (Tl w.heap.size wr (.slice a q c) (PD.drop (64 * j))) ∧ Hid (Below w.heap.size w wr) ∧ Hid (wr.heap[gs]? = some (.cells (u32s (stOf PD j)).toArray 182 (0, 0))))
          case atStart => exact ⟨k0, q, c, a, rfl, by omega, hq2, HT7, HB7, HG7⟩
          case round =>
            clear hq2 HT7 HB7 HG7
            obtain ⟨j, q, c, a, rfl, hj, hq, HT, HB, HG⟩ := hrel
            have hst8 := stOf_st8 PD j
            obtain ⟨s1, hs1⟩ : ∃ x, stOf PD j = x := ⟨_, rfl⟩
            rw [hs1] at hst8 HG
            have hl1 : (u32s s1).length = 8 := by simp [u32s, hst8.1]
            obtain ⟨S2, hS2⟩ : ∃ S, (u32s s1).toArray = S := ⟨_, rfl⟩
            rw [hS2] at HG
            have hS2z : S2.size = 8 := by rw [← hS2]; simp [hl1]
            by_cases hpos : 0 < q
            · have hpos' : (0 : Int) < (q : Int) := by omega
              have hdiv := HPL.out
              have hq64 : 64 ≤ q := by omega
              obtain ⟨L, hL⟩ : ∃ x, PD.drop (64 * j) = x := ⟨_, rfl⟩
              have hLl : q = L.length := by rw [← hL, List.length_drop]; omega
              rw [hL] at HT
              have hrdL : Rd wr a L := by
                obtain ⟨a', c', h, hr, _⟩ := HT.out.shape
                simp at h
                rw [h.1]
                exact hr
              have hco : Calls Tryz.prog 144 #[.agg S2, .slice a q c] wr fun e w' => e = .returned (.agg (u32s (comp s1 L)).toArray) ∧ Below wr.heap.size wr w' := by
                rw [← hS2]
                exact compress_any s1 hst8 a L q c wr hrdL hLl (by omega) (by omega)
              have HCO := Lib.hid hco
              clear hco
              have hc8 := comp_st8 hst8 L
              have HS2 := Lib.hid hS2
              have HL := Lib.hid hL
              have HLL := Lib.hid hLl
              have HS1' := Lib.hid hs1
              clear hS2 hL hLl hs1 hdiv hrdL hl1
              go_upto_region 11 with (fail)
              apply wp_region_lit
              refine wpList_load_row rfl 182 (.tmp 5) rfl gs rfl 182 S2 (0, 0) _ HG.out Tryz.underlying182 rfl (by rw [hS2z]; kernel_rfl) ?_
              refine wpList_plain rfl (fun K hK => ?_)
              go_simp
              with_reducible refine hK _ _ ?_
              clear hK K
              refine wpList_plain rfl (fun K hK => ?_)
              go_simp
              refine HCO.out.mono ?_
              rintro e w8 ⟨rfl, hb8⟩
              with_reducible refine hK _ _ ?_
              clear hK K
              have hg8 := block_below HG.out hb8
              have hb9 := HB.out.trans (hb8.mono HB.out.size)
              have ht9 := HT.out.keep (w' := w8) fun k hk => hb8.block k (HT.out.lt k hk).2
              obtain ⟨S3, hS3⟩ : ∃ S, (u32s (comp s1 L)).toArray = S := ⟨_, rfl⟩
              have hS3z : S3.size = 8 := by rw [← hS3, u32s_size, hc8.1]
              have hS3o : S3.all (·.oneCell') = true := by rw [← hS3]; exact u32s_one _
              rw [hS3]
              have HS3 := Lib.hid hS3
              refine wpList_store_rowTo rfl 182 (.tmp 5) (.tmp 50) rfl rfl gs S3 rfl rfl 182 _ hg8 (by rw [hS3z]; kernel_rfl) (by rw [hS3z, hS2z]) hS3o ?_
              apply wpList_nil
              have hg10 := setRow_heap w8 gs _ S3 182 (0, 0) hg8
              have hb10 := below_setRowS hb9 hgs0 S3
              have ht10 : Tl w.heap.size (w8.setRow gs S3) (.slice a q c) L := ht9.keep fun k hk => setRow_other _ _ _ _ (fun e => by
                obtain ⟨cur, hc⟩ := ht9.kind k hk
                subst e
                rw [hg8] at hc
                simp at hc)
              have ht11 := ht10.drop 64 (by have := HLL.out; omega)
              obtain ⟨w9, hw9⟩ : ∃ w9, w8.setRow gs S3 = w9 := ⟨_, rfl⟩
              rw [hw9] at hg10 hb10 ht11 ⊢
              obtain ⟨a5, n5, c5, hsl⟩ : ∃ a' n c', sliced a 64 q c 1 = .slice a' n c' := ⟨_, _, _, rfl⟩
              have hrun : ∀ w' : World, (Instr.slice 41 (.slice a q c) (some (.int .i64 64)) none none).run Tryz.prog w' = .ok (.slice a5 n5 c5) w' := by
                intro w'
                rw [← hsl, run_slice_l w' 41 a q c Tryz.underlying41 .i64 64 (by decide) (by omega)]
                simp [go_sem]
              have hn5 : n5 = q - 64 := by
                unfold sliced at hsl
                split at hsl <;> simp at hsl <;> exact hsl.2.1.symm
              have HN5 := Lib.hid hn5
              rw [hsl] at ht11
              clear hn5
              have HT11 := Lib.hid ht11
              have HB10 := Lib.hid hb10
              have HG10 := Lib.hid hg10
              have hq64i : (64 : Int) ≤ (q : Int) := by omega
              clear hw9 hg8 hb9 ht9 hS3 hg10 hb10 ht10 ht11 hsl hb8
              go_wp2_with fail
              go_roundg (gk - 1)
              case measure => omega
              case rel =>
                have e2 : stOf PD (j + 1) = comp s1 L := by
                  simp only [stOf]
                  rw [HS1'.out, HL.out]
                have e3 : PD.drop (64 * (j + 1)) = L.drop 64 := by
                  rw [← HL.out, List.drop_drop]
                  congr 1
                have hn5 := HN5.out
                refine ⟨j + 1, n5, c5, a5, rfl, by omega, by omega, Lib.hid ?_, HB10, Lib.hid ?_⟩
                · rw [e3]; exact HT11.out
                · rw [e2, HS3.out]; exact HG10.out
            · have hpos' : ¬ (0 : Int) < (q : Int) := by omega
              have hdiv := HPL.out
              have hj2 : j = PD.length / 64 := by omega
              have hix : ∀ (j x : Nat) (w' : World), j < 8 → s1[j]? = some x → (Instr.index 182 (.agg S2) (.int .i64 j)).run Tryz.prog w' = .ok (.int .u32 x) w' := fun j x w' h1 h2 =>
                run_index_agg 182 181 8 S2 j _ Tryz.underlying182 Tryz.sizeOf181 Tryz.isAgg181 h1 (by rw [← hS2]; simp [u32s, h2])
              have HIX := Lib.hid hix
              have hs1' : s1 = stOf PD (PD.length / 64) := by rw [← hs1, hj2]
              have HS1' := Lib.hid hs1'
              have h8l : s1.length = 8 := hst8.1
              clear hix hs1' hs1 hS2 hj2
              go_upto_region 13 with (fail)
              apply wp_region_lit
              refine wpList_load_row rfl 182 (.tmp 5) rfl gs rfl 182 S2 (0, 0) _ HG.out Tryz.underlying182 rfl (by rw [hS2z]; kernel_rfl) ?_
              go_wp2_with fail
              have HT0 : Tl w.heap.size wr (.slice none 0 0) [] := Tl.nil _ _
              have HT00 := Lib.hid HT0
              clear HT0
              obtain ⟨wo, hwo⟩ : ∃ x, wr = x := ⟨_, rfl⟩
              go_loopg [52, 6] 8 (fun k y x wr => ∃ j q c : Nat, ∃ a : Option Addr, y = .int .i64 j ∧ x = .slice a q c ∧ j + k = 8 ∧ Hid (Tl w.heap.size wr (.slice a q c) (outB (s1.take j))) ∧ Hid (Below w.heap.size w wr))
              case atStart => exact ⟨0, 0, 0, none, rfl, rfl, rfl, HT00, HB⟩
              case round =>
                clear HT00
                obtain ⟨j, q, c, a, rfl, rfl, hj, HT, HB⟩ := hrel
                by_cases hj8 : j < 8
                · obtain ⟨x, hx⟩ : ∃ x, s1[j]? = some x := ⟨_, List.getElem?_eq_getElem (by omega)⟩
                  have hxl : x < 4294967296 := hst8.2 x (List.mem_of_getElem? hx)
                  have ix := fun w' => HIX.out j x w' hj8 hx
                  have hout : outB (s1.take (j + 1)) = outB (s1.take j) ++ be32 x := by
                    unfold outB
                    rw [List.take_add_one, hx]
                    simp
                  obtain ⟨b0, hb0⟩ : ∃ y, UInt8.ofNat (x / 16777216) = y := ⟨_, rfl⟩
                  obtain ⟨b1, hb1⟩ : ∃ y, UInt8.ofNat (x / 65536) = y := ⟨_, rfl⟩
                  obtain ⟨b2, hb2⟩ : ∃ y, UInt8.ofNat (x / 256) = y := ⟨_, rfl⟩
                  obtain ⟨b3, hb3⟩ : ∃ y, UInt8.ofNat x = y := ⟨_, rfl⟩
                  have k0 : IntKind.u8.wrap ((x : Int) / 16777216) = ((b0.toNat : Nat) : Int) := by rw [← hb0]; exact wrap_byte x 16777216
                  have k1 : IntKind.u8.wrap ((x : Int) / 65536) = ((b1.toNat : Nat) : Int) := by rw [← hb1]; exact wrap_byte x 65536
                  have k2 : IntKind.u8.wrap ((x : Int) / 256) = ((b2.toNat : Nat) : Int) := by rw [← hb2]; exact wrap_byte x 256
                  have k3 : IntKind.u8.wrap (x : Int) = ((b3.toNat : Nat) : Int) := by rw [← hb3]; exact wrap_byte1 x
                  have hbe : be32 x = [b0, b1, b2, b3] := by unfold be32; rw [hb0, hb1, hb2, hb3]
                  rw [hbe] at hout
                  have HOUT := Lib.hid hout
                  clear hb0 hb1 hb2 hb3 hbe hout hx
                  have j0 : 0 ≤ (j : Int) := by omega
                  have jn : ((j : Int)).toNat = j := by omega
                  have jlt : (j : Int) < 8 := by omega
                  have hol : (outB (s1.take j)).length ≤ 32 := by rw [outB_len, List.length_take]; omega
                  have HOL := Lib.hid hol
                  clear hol
                  go_wp2_with (at_builtin; go_loud (refine wpList_append_tl rfl (.tmp 55) (.tmp 67) rfl w.heap.size _ _ rfl (HT.out.alloc _) (some ⟨wr.heap.size, 0, none⟩) [b0, b1, b2, b3] 4 4 rfl rfl (Rd.of_lit (T := 5) (fr := (0, 0)) [b0, b1, b2, b3] ?c0) ?c1 ?c2 ?_))
                  case c0 => rw [heap_alloc_new]; rfl
                  case c1 => have := HOL.out; simp; omega
                  case c2 => have := HB.out.size; simp; omega
                  intro a4 n4 c4 w4 hn4 ht4 hg4 how4
                  have hB4 : Below w.heap.size w w4 := below_grow_tl (HB.out.alloc HB.out.size (.cells #[.int .u8 (b0.toNat : Int), .int .u8 (b1.toNat : Int), .int .u8 (b2.toNat : Int), .int .u8 (b3.toNat : Int)] 5)) (HT.out.alloc _) hg4 (by have := HB.out.size; simp; omega)
                  have ht5 : Tl w.heap.size w4 (.slice a4 n4 c4) (outB (s1.take (j + 1))) := by rw [HOUT.out]; exact ht4
                  have HT5 := Lib.hid ht5
                  have HB5 := Lib.hid hB4
                  clear hn4 hg4 how4 ht4 ht5 hB4
                  go_wp2_with fail
                  go_roundg (gk - 1)
                  case measure => omega
                  case rel => exact ⟨j + 1, n4, c4, a4, by go_num, rfl, by omega, HT5, HB5⟩
                · obtain rfl : j = 8 := by omega
                  have hfin : outB (s1.take 8) = sha m := by
                    rw [HSH.out, ← HS1'.out, List.take_of_length_le (by omega)]
                  have HFI := Lib.hid hfin
                  clear hfin
                  go_wp2_with fail
                  go_ret
                  refine ⟨_, rfl, ?_, HB.out⟩
                  rw [← HFI.out]
                  exact HT.out
end Go.Proofs.YtfdijcdpmgkdkaaGreatDoor
set_option linter.unusedVariables false
namespace Go.Proofs.YtfdijcdpmgkdkaaGreatDoor
open Go.RowKit

theorem Rd.lt {w : World} {b off : Nat} {s : Option Nat} {l : List UInt8} (h : Rd w (some ⟨b, off, s⟩) l) (hl : l ≠ []) : b < w.heap.size := by
  rcases h with h | ⟨b', off', e, hc⟩
  · exact absurd h hl
  · simp at e
    have hp : 0 < l.length := List.length_pos_iff.2 hl
    have := World.block_lt_of_cell? w _ (hc 0 hp)
    simp at this
    omega

/-- Parts lie at an address. -/
def RdS (w : World) (a : Option Addr) (ps : List (List UInt8)) : Prop :=
  ps = [] ∨ ∃ b off, a = some ⟨b, off, none⟩ ∧ ∀ i (h : i < ps.length), ∃ x c, w.cell? ⟨b, off + i, none⟩ = some (.slice x (ps[i]).length c) ∧ Rd w x ps[i]
theorem RdS.below {w w' : World} {a : Option Addr} {ps : List (List UInt8)} (h : RdS w a ps) (hb : Below w.heap.size w w') : RdS w' a ps := by
  rcases h with rfl | ⟨b, off, rfl, hc⟩
  · exact .inl rfl
  · refine .inr ⟨b, off, rfl, fun i hi => ?_⟩
    obtain ⟨x, c, h1, h2⟩ := hc i hi
    refine ⟨x, c, ?_, h2.below hb⟩
    rw [hb.cell (World.block_lt_of_cell? w _ h1)]
    exact h1

theorem flatten_le (ps : List (List UInt8)) (j : Nat) : (ps.take j).flatten.length ≤ ps.flatten.length := by
  conv => rhs; rw [← List.take_append_drop j ps]
  rw [List.flatten_append, List.length_append]
  omega

set_option maxRecDepth 100000 in
set_option maxHeartbeats 4000000 in
theorem sum_any (ps : List (List UInt8)) (ap : Option Addr) (n c : Nat) (w : World) (hr : RdS w ap ps) (hn : n = ps.length) (hps : ps.length ≤ 1000000) (hlen : ps.flatten.length ≤ 900000) :
    Calls Tryz.prog 108 #[.slice ap n c] w fun e w' => ∃ v', e = .returned v' ∧ Tl w.heap.size w' v' (sha ps.flatten) ∧ Below w.heap.size w w' := by
  subst hn
  have HR := Lib.hid hr
  clear hr
  go_enter Tryz.func108, Tryz.ntmps108
  go_wp2_with fail
  refine (new_any w).mono ?_
  rintro e w1 ⟨rfl, rfl⟩
  have hm := new_hm w.heap.size w (Nat.le_refl _)
  have hb1 : Below w.heap.size w (w.alloc (.cells (hCells iv (.slice none 0 0) 0) 184)) := (Below.refl _ _).alloc (Nat.le_refl _) _
  obtain ⟨w1, hw1⟩ : ∃ w1, w.alloc (.cells (hCells iv (.slice none 0 0) 0) 184) = w1 := ⟨_, rfl⟩
  rw [hw1] at hm hb1 ⊢
  have HM1 := Lib.hid hm
  have HB1 := Lib.hid hb1
  clear hw1 hm hb1
  go_wp2_with fail
  go_loopg [9] ps.length (fun k y wr => ∃ j : Nat, ∃ v : Value, y = .int .i64 j ∧ j + k = ps.length ∧ Hid (HM w.heap.size wr w.heap.size v (ps.take j).flatten) ∧ Hid (Below w.heap.size w wr))
  case atStart => exact ⟨0, _, rfl, by omega, HM1, HB1⟩
  case round =>
    clear HM1 HB1
    obtain ⟨j, v, rfl, hj, HM, HB⟩ := hrel
    by_cases hlt : j < ps.length
    · obtain ⟨b, off, hap, hc⟩ : ∃ b off, ap = some ⟨b, off, none⟩ ∧ ∀ i (h : i < ps.length), ∃ x c, w.cell? ⟨b, off + i, none⟩ = some (.slice x (ps[i]).length c) ∧ Rd w x ps[i] := by
        rcases HR.out with h | h
        · rw [h] at hlt; simp at hlt
        · exact h
      obtain ⟨x, cx, hcell, hrd⟩ := hc j hlt
      obtain ⟨l, hl⟩ : ∃ l, ps[j] = l := ⟨_, rfl⟩
      rw [hl] at hcell hrd
      have hcell' := cell_now HB.out hcell
      have htake : (ps.take (j + 1)).flatten = (ps.take j).flatten ++ l := by
        rw [List.take_add_one, List.getElem?_eq_getElem hlt, hl]
        simp
      have hfl := flatten_le ps (j + 1)
      rw [htake, List.length_append] at hfl
      have hw := write_any w.heap.size w.heap.size v (ps.take j).flatten l x l.length cx wr HM.out HB.out.size (hrd.below HB.out) rfl (fun hne b off s e => by
        subst e
        have := hrd.lt hne
        omega) (by omega)
      have HW := Lib.hid hw
      have HT := Lib.hid htake
      have hjI : (j : Int) < (ps.length : Int) := by omega
      have hjn : ((j : Int)).toNat = j := by omega
      have hj0 : 0 ≤ (j : Int) := by omega
      subst hap
      clear hc hcell hrd hl hw htake hfl
      go_wp2_with fail
      refine HW.out.mono ?_
      rintro e w2 ⟨rfl, v', hm2, hk2, _⟩
      have hb2 : Below w.heap.size w w2 := HB.out.trans (hk2.below w.heap.size HB.out.size (fun k hk h => by
        rcases h with h | h
        · omega
        · have := (HM.out.tl.lt k h).1
          omega))
      rw [← HT.out] at hm2
      have HM2 := Lib.hid hm2
      have HB2 := Lib.hid hb2
      clear hm2 hk2 hb2 hcell'
      go_wp2_with fail
      go_roundg (gk - 1)
      case measure => omega
      case rel => exact ⟨j + 1, v', by go_num, by omega, HM2, HB2⟩
    · obtain rfl : j = ps.length := by omega
      have hm := HM.out
      rw [List.take_length] at hm
      have HM2 := Lib.hid hm
      clear hm
      go_wp2_with fail
      refine (hsum_any w.heap.size w.heap.size v ps.flatten wr HM2.out hlen).mono ?_
      rintro e w2 ⟨v', rfl, ht, hb⟩
      have hb2 := HB.out.trans (hb.mono HB.out.size)
      have ht2 := ht.mono HB.out.size
      obtain ⟨a', c', rfl, _⟩ := ht2.shape
      have HB2 := Lib.hid hb2
      have HT2 := Lib.hid ht2
      clear ht hb hb2 ht2
      go_wp2_with fail
      go_ret
      exact ⟨_, rfl, HT2.out, HB2.out⟩

/-- One part. -/
theorem RdS.one {w : World} {a : Option Addr} {l : List UInt8} {c : Nat} (h : Rd w a l) (T : TypeId) : RdS (w.alloc (.cells #[.slice a l.length c] T)) (some ⟨w.heap.size, 0, none⟩) [l] := by
  refine .inr ⟨w.heap.size, 0, rfl, fun i hi => ?_⟩
  simp at hi
  subst hi
  refine ⟨a, c, ?_, h.alloc _⟩
  rw [Lib.cell_of_heap (heap_alloc_new w _)]
  rfl
end Go.Proofs.YtfdijcdpmgkdkaaGreatDoor
set_option linter.unusedVariables false
namespace Go.Proofs.YtfdijcdpmgkdkaaGreatDoor
open Go.RowKit

def VParts (ps : List (List UInt8)) : Value → World → Prop := fun v w => ∃ a c, v = .slice a ps.length c ∧ RdS w a ps
theorem VParts.stab (ps : List (List UInt8)) : Stab (VParts ps) := fun v w1 w2 ⟨a, c, e, h⟩ hb => ⟨a, c, e, h.below hb⟩

/-- A new row of one number. -/
def VRow (x : Nat) : Value → World → Prop := fun v w => ∃ g, v = .slice (some ⟨g, 0, none⟩) 1 1 ∧ w.cell? ⟨g, 0, none⟩ = some (.int .i64 (x : Nat))
theorem VRow.stab (x : Nat) : Stab (VRow x) := fun v w1 w2 ⟨g, e, h⟩ hb => ⟨g, e, by rw [hb.cell (World.block_lt_of_cell? _ _ h)]; exact h⟩

/-- Numbers lie in block g. -/
def RowI (w : World) (g : Nat) (ns : List Nat) : Prop := ∀ i (h : i < ns.length), w.cell? ⟨g, i, none⟩ = some (.int .i64 (ns[i] : Nat))
theorem RowI.below {w w' : World} {g : Nat} {ns : List Nat} (h : RowI w g ns) (hb : Below w.heap.size w w') : RowI w' g ns := fun i hi => by
  rw [hb.cell (World.block_lt_of_cell? _ _ (h i hi))]
  exact h i hi
def VRow8 (B : Nat) (ns : List Nat) : Value → World → Prop := fun v w => ∃ g, v = .slice (some ⟨g, 0, none⟩) 8 8 ∧ B ≤ g ∧ RowI w g ns
theorem VRow8.stab (B : Nat) (ns : List Nat) : Stab (VRow8 B ns) := fun v w1 w2 ⟨g, e, hB, h⟩ hb => ⟨g, e, hB, h.below hb⟩

section
variable {Q : Exit → Act → World → Prop} {o : Oper} {a : Act} {w : World} {V : Value → World → Prop}
theorem grow_part {x : Operand} {l : List UInt8} {ad : Option Addr} {c : Nat} (ho : o.op = .buildSlice 72 1 #[(0, x)]) (hx : a.eval x = .slice ad l.length c) (h : Rd w ad l) : o.wp Tryz.prog a w (Grew o.dst (VParts [l]) a w) Q := by
  refine grow_value (v := .slice (some ⟨w.heap.size, 0, none⟩) 1 1) (w' := w.alloc (.cells #[.slice ad l.length c] 41)) ?_ ⟨_, _, rfl, RdS.one h _⟩ ((Below.refl _ _).alloc (Nat.le_refl _) _)
  simp only [execOp, ho, List.map_toArray, List.map_cons, List.map_nil, hx]
  go_simp
theorem grow_row {x : Operand} {n : Nat} (ho : o.op = .buildSlice 186 1 #[(0, x)]) (hx : a.eval x = .int .i64 (n : Nat)) : o.wp Tryz.prog a w (Grew o.dst (VRow n) a w) Q := by
  refine grow_value (v := .slice (some ⟨w.heap.size, 0, none⟩) 1 1) (w' := w.alloc (.cells #[.int .i64 (n : Nat)] 3)) ?_ ⟨_, rfl, by rw [Lib.cell_of_heap (heap_alloc_new w _)]; rfl⟩ ((Below.refl _ _).alloc (Nat.le_refl _) _)
  simp only [execOp, ho, List.map_toArray, List.map_cons, List.map_nil, hx]
  go_simp
theorem grow_row8 {B : Nat} (hB : B ≤ w.heap.size) {x0 x1 x2 x3 x4 x5 x6 x7 : Operand} {n0 n1 n2 n3 n4 n5 n6 n7 : Nat} (ho : o.op = .buildSlice 186 8 #[(0, x0), (1, x1), (2, x2), (3, x3), (4, x4), (5, x5), (6, x6), (7, x7)])
    (h0 : a.eval x0 = .int .i64 (n0 : Nat)) (h1 : a.eval x1 = .int .i64 (n1 : Nat)) (h2 : a.eval x2 = .int .i64 (n2 : Nat)) (h3 : a.eval x3 = .int .i64 (n3 : Nat)) (h4 : a.eval x4 = .int .i64 (n4 : Nat)) (h5 : a.eval x5 = .int .i64 (n5 : Nat)) (h6 : a.eval x6 = .int .i64 (n6 : Nat)) (h7 : a.eval x7 = .int .i64 (n7 : Nat)) :
    o.wp Tryz.prog a w (Grew o.dst (VRow8 B [n0, n1, n2, n3, n4, n5, n6, n7]) a w) Q := by
  refine grow_value (v := .slice (some ⟨w.heap.size, 0, none⟩) 8 8) (w' := w.alloc (.cells #[.int .i64 (n0 : Nat), .int .i64 (n1 : Nat), .int .i64 (n2 : Nat), .int .i64 (n3 : Nat), .int .i64 (n4 : Nat), .int .i64 (n5 : Nat), .int .i64 (n6 : Nat), .int .i64 (n7 : Nat)] 3)) ?_ ⟨_, rfl, hB, fun i hi => ?_⟩ ((Below.refl _ _).alloc (Nat.le_refl _) _)
  · simp only [execOp, ho, List.map_toArray, List.map_cons, List.map_nil, h0, h1, h2, h3, h4, h5, h6, h7]
    go_simp
  · rw [Lib.cell_of_heap (heap_alloc_new w _)]
    match i, hi with
    | 0, _ => rfl
    | 1, _ => rfl
    | 2, _ => rfl
    | 3, _ => rfl
    | 4, _ => rfl
    | 5, _ => rfl
    | 6, _ => rfl
    | 7, _ => rfl
    | k + 8, h => exact absurd h (by simp)
theorem grow_bytes4 {x0 x1 x2 x3 : Operand} {b0 b1 b2 b3 : UInt8} (ho : o.op = .buildSlice 41 4 #[(0, x0), (1, x1), (2, x2), (3, x3)])
    (h0 : a.eval x0 = .int .u8 (b0.toNat : Nat)) (h1 : a.eval x1 = .int .u8 (b1.toNat : Nat)) (h2 : a.eval x2 = .int .u8 (b2.toNat : Nat)) (h3 : a.eval x3 = .int .u8 (b3.toNat : Nat)) :
    o.wp Tryz.prog a w (Grew o.dst (VBytes [b0, b1, b2, b3]) a w) Q := by
  refine grow_value (v := .slice (some ⟨w.heap.size, 0, none⟩) 4 4) (w' := w.alloc (.cells #[.int .u8 (b0.toNat : Nat), .int .u8 (b1.toNat : Nat), .int .u8 (b2.toNat : Nat), .int .u8 (b3.toNat : Nat)] 5)) ?_ ⟨_, _, rfl, Rd.of_lit (T := 5) (fr := (0, 0)) _ (by rw [heap_alloc_new]; rfl)⟩ ((Below.refl _ _).alloc (Nat.le_refl _) _)
  simp only [execOp, ho, List.map_toArray, List.map_cons, List.map_nil, h0, h1, h2, h3]
  go_simp
end
section
variable {Q : Exit → Act → World → Prop} {o : Oper} {a : Act} {w : World}
end
end Go.Proofs.YtfdijcdpmgkdkaaGreatDoor
set_option linter.unusedVariables false
namespace Go.Proofs.YtfdijcdpmgkdkaaGreatDoor
open Go.RowKit

theorem HM.keeps {B : Nat} {f : Nat → Prop} {w w' : World} {p : Nat} {v : Value} {m : List UInt8} (h : HM B w p v m) (hk : Keeps f w w') (h1 : ¬ f p) (h2 : ∀ k, v.ownBlock = some k → ¬ f k) : HM B w' p v m :=
  HAt.keep h (hk.block p (Array.getElem?_eq_some_iff.1 h.blk).1 h1) fun k e => hk.block k (h.tl.lt k e).2 (h2 k e)

theorem Tl.own_shape {B : Nat} {w : World} {v : Value} {l : List UInt8} (h : Tl B w v l) : ∃ a c, v = .slice a l.length c ∧ Rd w a l := by
  obtain ⟨a, c, h1, h2, _⟩ := h.shape
  exact ⟨a, c, h1, h2⟩
end Go.Proofs.YtfdijcdpmgkdkaaGreatDoor
