/- A statement whose order is open, whose operations add to the memory, and one of which fills a row of the call's own (a struct that is returned). -/
import Derived.Test.YtgmieceebchmfaaDoorGrow
import Derived.Laws.Tables
set_option linter.unusedVariables false
namespace Go.Proofs.YtgmieceebchmfaaDoor
open Go.RowKit

theorem setRow_at {w : World} {g : Nat} {old C : Array Value} {T : TypeId} {fr : Nat × Nat} (h : w.heap[g]? = some (.cells old T fr)) : (w.setRow g C).heap[g]? = some (.cells C T fr) := by
  unfold World.setRow
  simp [Array.getElem?_modify, h]
theorem setRow_block {w : World} {g k : Nat} (C : Array Value) (h : k ≠ g) : (w.setRow g C).heap[k]? = w.heap[k]? := by
  unfold World.setRow
  rw [Array.getElem?_modify, if_neg (Ne.symm h)]
theorem below_setRow {B g : Nat} {a w : World} (h : Below B a w) (hg : B ≤ g) (C : Array Value) : Below B a (w.setRow g C) :=
  ⟨h.os, h.tape, h.output, by rw [setRow_size]; exact h.size, fun k hk => (setRow_block C (by omega)).trans (h.block k hk)⟩

def slotOf (a : Act) (d : Option Nat) : Value := match d with
  | some d => a.tmps.getD d undef
  | none => undef

theorem wp_region_put {P : Program} {id : Nat} {l : List Oper} {Q : Exit → Act → World → Prop} {a : Act} {w : World} (hm : P.follows .mixedOrders = true)
    (hac : ((List.range l.length).all fun i => ((l[i]?).map fun o => o.after.all fun e => !Region.binds .any e || decide (e.on < i)).getD true) = true)
    (ds : List (Option Nat)) (hds : l.map (·.dst) = ds) (hnd : (ds.filterMap fun x => x).Nodup) (hlt : (ds.filterMap fun x => x).all (fun d => decide (d < a.tmps.size)) = true)
    (g : Nat) (T : TypeId) (C old0 : Array Value) (hg : w.heap[g]? = some (.cells old0 T (0, 0))) (hold : old0.size = C.size) (B : Nat) (hB : B ≤ g)
    (V : Nat → Value → World → Prop) (hV1 : ∀ i v w1 w2, V i v w1 → Below w1.heap.size w1 w2 → V i v w2) (hV2 : ∀ i v w1, V i v w1 → V i v (w1.setRow g C))
    (step : ∀ i o, l[i]? = some o → ∀ a' w', Fr (ds.filterMap fun x => x) a a' → Below B w w' → (∃ old, w'.heap[g]? = some (.cells old T (0, 0)) ∧ old.size = C.size) →
      (∀ j, (o.after.any fun e => Region.binds .any e && e.on == j) = true → V j (slotOf a' (ds.getD j none)) w') →
      wpOp P l.toArray Q i (fun a'' w'' => ∃ v, a'' = a'.put (ds.getD i none) v ∧ (ds.getD i none = none → v = undef) ∧ V i v w'' ∧ (Below w'.heap.size w' w'' ∨ w'' = w'.setRow g C)) a' w')
    (done : ∀ a' w', Fr (ds.filterMap fun x => x) a a' → Below B w w' → (∀ j, j < l.length → V j (slotOf a' (ds.getD j none)) w') → Q .normal a' w') :
    (Code.region id l.toArray true).wp P Q a w := by
  have hlen : l.length = ds.length := by rw [← hds]; simp
  have hgw : g < w.heap.size := (Array.getElem?_eq_some_iff.1 hg).1
  have hmem : ∀ j d, ds.getD j none = some d → d ∈ ds.filterMap fun x => x := by
    intro j d h
    rw [List.mem_filterMap]
    refine ⟨some d, ?_, rfl⟩
    rw [List.getD_eq_getElem?_getD] at h
    cases e : ds[j]? with
    | none => rw [e] at h; cases h
    | some x => rw [e] at h; simp only [Option.getD_some] at h; rw [← h]; exact List.mem_of_getElem? e
  have hinj : ∀ (L : List (Option Nat)), (L.filterMap fun x => x).Nodup → ∀ (i j : Nat) (d : Nat), L.getD i none = some d → L.getD j none = some d → i = j := by
    intro L
    induction L with
    | nil => intro _ i j d h; simp at h
    | cons x L ih =>
      intro hn i j d hi hj
      have hmem' : ∀ k, L.getD k none = some d → d ∈ L.filterMap fun x => x := by
        intro k h
        rw [List.mem_filterMap]
        refine ⟨some d, ?_, rfl⟩
        rw [List.getD_eq_getElem?_getD] at h
        cases e : L[k]? with
        | none => rw [e] at h; cases h
        | some y => rw [e] at h; simp only [Option.getD_some] at h; rw [← h]; exact List.mem_of_getElem? e
      cases x with
      | none =>
        have hn' : (L.filterMap fun x => x).Nodup := by simpa using hn
        cases i with
        | zero => simp at hi
        | succ i =>
          cases j with
          | zero => simp at hj
          | succ j => rw [ih hn' i j d (by simpa using hi) (by simpa using hj)]
      | some y =>
        have hn' : y ∉ (L.filterMap fun x => x) ∧ (L.filterMap fun x => x).Nodup := by simpa using hn
        cases i with
        | zero =>
          have hy : y = d := by simpa using hi
          subst hy
          cases j with
          | zero => rfl
          | succ j => exact absurd (hmem' j (by simpa using hj)) hn'.1
        | succ i =>
          cases j with
          | zero =>
            have hy : y = d := by simpa using hj
            subst hy
            exact absurd (hmem' i (by simpa using hi)) hn'.1
          | succ j => rw [ih hn'.2 i j d (by simpa using hi) (by simpa using hj)]
  refine wp_region_inv hm hac (fun b a' w' => Fr (ds.filterMap fun x => x) a a' ∧ Below B w w' ∧ (∃ old, w'.heap[g]? = some (.cells old T (0, 0)) ∧ old.size = C.size) ∧ ∀ j, j < l.length → b j = true → V j (slotOf a' (ds.getD j none)) w') ?_ ?_ ?_
  · exact ⟨Fr.refl _ _, (Below.refl _ _).drew, ⟨old0, hg, hold⟩, fun j _ h => by cases h⟩
  · rintro b a' w' ⟨hf, hb, hgo, hall⟩ i o ho hbi hpre
    have hil : i < l.length := (List.getElem?_eq_some_iff.1 ho).1
    obtain ⟨old, ho1, ho2⟩ := hgo
    have hgw' : g < w'.heap.size := (Array.getElem?_eq_some_iff.1 ho1).1
    refine wpOp_mono ?_ (step i o ho a' w' hf hb ⟨old, ho1, ho2⟩ ?_)
    · rintro a'' w'' ⟨v, rfl, hno, hv, hb'⟩
      have hst : ∀ j v, V j v w' → V j v w'' := by
        intro j v hj
        rcases hb' with hb' | rfl
        · exact hV1 _ _ _ _ hj hb'
        · exact hV2 _ _ _ hj
      have hbw : Below B w w'' := by
        rcases hb' with hb' | rfl
        · exact hb.trans (hb'.mono (by omega))
        · exact below_setRow hb hB C
      have hgo' : ∃ old, w''.heap[g]? = some (.cells old T (0, 0)) ∧ old.size = C.size := by
        rcases hb' with hb' | rfl
        · exact ⟨old, (hb'.block g hgw').trans ho1, ho2⟩
        · exact ⟨C, setRow_at ho1, rfl⟩
      refine ⟨?_, hbw, hgo', fun j hj hbj => ?_⟩
      · cases e : ds.getD i none with
        | none => exact hf
        | some d => exact hf.put (hmem i d e) v
      · by_cases e : j = i
        · subst e
          cases ed : ds.getD j none with
          | none => rw [hno ed] at hv; exact hv
          | some d =>
            show V j ((a'.put (some d) v).tmps.getD d undef) w''
            rw [put_at]
            · exact hv
            · rw [hf.size]
              have := (List.all_eq_true.1 hlt) _ (hmem j d ed)
              simpa using this
        · simp only [e, if_false] at hbj
          have hvj := hst j _ (hall j hj hbj)
          cases ed : ds.getD j none with
          | none => rw [ed] at hvj; exact hvj
          | some d =>
            rw [ed] at hvj
            show V j ((a'.put (ds.getD i none) v).tmps.getD d undef) w''
            cases ei : ds.getD i none with
            | none => exact hvj
            | some d' =>
              rw [put_other _ _ _ _ (fun e' => e (hinj ds hnd j i d ed (by rw [ei, e'])))]
              exact hvj
    · intro j hj
      obtain ⟨k, hk, hj⟩ := Array.any_eq_true.1 hj
      obtain ⟨e, he, e1⟩ : ∃ e, e ∈ o.after ∧ e = o.after[k] := ⟨_, Array.getElem_mem hk, rfl⟩
      rw [← e1] at hj
      simp only [Bool.and_eq_true, beq_iff_eq] at hj
      obtain ⟨hbd, rfl⟩ := hj
      have h1 : b e.on = true := by
        simp only [Array.all_eq_true_iff_forall_mem] at hpre
        have := hpre e he
        rw [hbd] at this
        simpa using this
      have h2 : e.on < i := by
        have hac' := (List.all_eq_true.1 hac) i (List.mem_range.2 hil)
        simp only [ho, Option.map_some, Option.getD_some, Array.all_eq_true_iff_forall_mem] at hac'
        have := hac' e he
        rw [hbd] at this
        simpa using this
      exact hall e.on (by omega) h1
  · rintro b a' w' ⟨hf, hb, _, hall⟩ hdone
    exact done a' w' hf hb fun j hj => hall j hj (hdone j hj)

/-- The row holds C. -/
def VRowIs (g : Nat) (T : TypeId) (C : Array Value) : Value → World → Prop := fun _ w => w.heap[g]? = some (.cells C T (0, 0))
theorem VRowIs.stab (g : Nat) (T : TypeId) (C : Array Value) : Stab (VRowIs g T C) := fun v w1 w2 h hb => (hb.block g (Array.getElem?_eq_some_iff.1 h).1).trans h
def Stab2 (g : Nat) (C : Array Value) (V : Value → World → Prop) : Prop := ∀ v w1, V v w1 → V v (w1.setRow g C)
theorem VIs.stab2 (g : Nat) (C : Array Value) (x : Value) : Stab2 g C (VIs x) := fun _ _ h => h
theorem VRowIs.stab2 (g : Nat) (T : TypeId) (C : Array Value) : Stab2 g C (VRowIs g T C) := fun v w1 h => setRow_at h
theorem stab2_list {g : Nat} {C : Array Value} (Vs : List (Value → World → Prop)) (h : ∀ V ∈ Vs, Stab2 g C V) : ∀ i v w1, (Vs.getD i fun _ _ => True) v w1 → (Vs.getD i fun _ _ => True) v (w1.setRow g C) := by
  intro i v w1 hv
  simp only [List.getD_eq_getElem?_getD] at *
  cases e : Vs[i]? with
  | none => simp
  | some V =>
    rw [e] at hv
    exact h V (List.mem_of_getElem? e) v w1 hv

/-- An operation that adds. -/
theorem put_op {P : Program} {l : List Oper} {Q : Exit → Act → World → Prop} {i d : Nat} {o : Oper} {a : Act} {w : World} {V : Value → World → Prop} {X : World → Prop} (ho : l[i]? = some o) (hw : Region.wanted o (yielded l.toArray a.tmps) = true) (hd : o.dst = some d)
    (h : o.wp P a w (Grew o.dst V a w) Q) : wpOp P l.toArray Q i (fun a'' w'' => ∃ v, a'' = a.put (some d) v ∧ ((some d : Option Nat) = none → v = undef) ∧ V v w'' ∧ (Below w.heap.size w w'' ∨ X w'')) a w := by
  refine wpOp_mono ?_ (grow_op ho hw hd h)
  rintro a'' w'' ⟨v, h1, h2, h3⟩
  exact ⟨v, h1, fun h => by (exact nomatch h), h2, .inl h3⟩
/-- The operation that fills the row. -/
theorem put_store {P : Program} {l : List Oper} {Q : Exit → Act → World → Prop} {i : Nat} {o : Oper} {a : Act} {w : World} {V : Value → World → Prop} (ho : l[i]? = some o) (hw : Region.wanted o (yielded l.toArray a.tmps) = true) (ty : TypeId) (x y : Operand)
    (hop : o.op = .store ty x y) (hd : o.dst = none) (g : Nat) (C : Array Value) (hx : a.eval x = .pointer (some ⟨g, 0, none⟩)) (hy : a.eval y = .agg C) (T : TypeId) (hg : ∃ old, w.heap[g]? = some (.cells old T (0, 0)) ∧ old.size = C.size)
    (hi : (P.info? ty).map (·.size) = some C.size) (h1 : C.all (·.oneCell') = true) (hv : V undef (w.setRow g C)) :
    wpOp P l.toArray Q i (fun a'' w'' => ∃ v, a'' = a.put none v ∧ ((none : Option Nat) = none → v = undef) ∧ V v w'' ∧ (Below w.heap.size w w'' ∨ w'' = w.setRow g C)) a w := by
  obtain ⟨old, h2, h3⟩ := hg
  unfold wpOp
  rw [show l.toArray[i]? = some o by simpa using ho]
  simp only [hw, if_true]
  refine .inl (wp_store_row ty x y hop g C hx hy T old h2 hi h3 h1 ?_)
  rw [hd]
  exact ⟨undef, rfl, fun _ => rfl, hv, .inr rfl⟩
end Go.Proofs.YtgmieceebchmfaaDoor
