/- Merged: Lad, Put, PutK, Fld, JsPl. -/
import Derived.Stop.LaidErr
import Derived.Lib.LaidTab
import Derived.MakeChecks
import Derived.Laws.Tables
import Derived.Test.YtfcokdkbjajohaaGreatDoorMg1
import Derived.Test.YtfcokdkbjajohaaGreatDoorMg2
import Derived.Test.YtfcokdkbjajohaaGreatDoorMg3
import Derived.Test.YtfcokdkbjajohaaGreatDoorMg4
import Derived.Test.YtfcokdkbjajohaaGreatDoorMg5
import Derived.Test.YtfcokdkbjajohaaGreatDoorMg6
/- What a card's listed variables give a walk. -/
set_option linter.unusedVariables false
namespace Go.Proofs.YtfcokdkbjajohaaGreatDoor
open Go.RowKit Go.ChangeShapes

theorem laid_drop {P : Program} {w : World} : ∀ (l : List (String × DataW Unit)) (i : Nat), laidMet P l w → laidMet P (l.drop i) w
  | l, 0, h => h
  | [], i + 1, h => h
  | x :: l, i + 1, h => laid_drop l i h.tail
theorem sent_of_head {n nm : String} {d : DataW Unit} {r : List (String × DataW Unit)} {W : World} {g : Nat} {ti : TypeId} {ms : Array (String × TypeId)}
    (h : laidMet Tryz.prog ((n, .iface nm d) :: r) W) (hg : Tryz.prog.globalNamed n = some g) (ht : (Tryz.prog.globals[g]?).map (·.type) = some ti) (hi : Tryz.prog.underlying ti = some (.interface ms)) : Sent W n := by
  obtain ⟨ps, ⟨g0, t0, cs0, f0, p0, q0, hg0, ht0, hv0, hd0, _, e0⟩, _, hrows⟩ := h
  obtain rfl := Option.some.inj (hg.symm.trans hg0)
  obtain rfl := Option.some.inj (ht.symm.trans ht0)
  obtain ⟨l0⟩ := cs0
  obtain ⟨f1, u, v, hcs, _, _⟩ := iface_of_trod hi hd0
  refine ⟨u, v, ?_⟩
  rw [hv0]
  simp only at hcs
  rw [hcs]
theorem pow_of {W : World} {laid : List (String × DataW Unit)} (hL : laidMetH Tryz.prog laid W) (hp : (laid.all fun x => x.2.handleName?.isNone) = true)
    {i : Nat} {r1 : List (String × DataW Unit)} (h1 : laid.drop i = ("internal/strconv.uint64pow10", Lib.tabData .u64 Lib.pow10Tab) :: r1) : Pow W := by
  rw [MakeChecks.laidMetH_plain _ _ _ hp] at hL
  have a1 := laid_drop _ i hL
  rw [h1] at a1
  exact Lib.tabIs_of_head (g := 2) (t := 239) (e := 177) (n := 20) (by kernel_rfl) (by kernel_rfl) (by kernel_rfl) (by kernel_rfl) (by kernel_rfl) (by kernel_rfl) a1
theorem std_of {W : World} {laid : List (String × DataW Unit)} (hL : laidMetH Tryz.prog laid W) (hp : (laid.all fun x => x.2.handleName?.isNone) = true)
    {i j k : Nat} {r1 r2 r3 : List (String × DataW Unit)} {n1 n2 : String} {d1 d2 : DataW Unit}
    (h1 : laid.drop i = ("internal/strconv.uint64pow10", Lib.tabData .u64 Lib.pow10Tab) :: r1) (h2 : laid.drop j = ("strconv.ErrRange", .iface n1 d1) :: r2) (h3 : laid.drop k = ("strconv.ErrSyntax", .iface n2 d2) :: r3) :
    Std3 W := by
  have hP := pow_of hL hp h1
  rw [MakeChecks.laidMetH_plain _ _ _ hp] at hL
  have a2 := laid_drop _ j hL
  have a3 := laid_drop _ k hL
  rw [h2] at a2
  rw [h3] at a3
  refine ⟨hP, ?_, ?_⟩
  · exact sent_of_head (g := 1) (ti := 120) (ms := #[("Error", 104)]) a2 (by kernel_rfl) (by kernel_rfl) (by kernel_rfl)
  · exact sent_of_head (g := 0) (ti := 120) (ms := #[("Error", 104)]) a3 (by kernel_rfl) (by kernel_rfl) (by kernel_rfl)
end Go.Proofs.YtfcokdkbjajohaaGreatDoor
/- A statement whose order is open, whose operations add to the memory, and one of which fills a row of the call's own (a struct that is returned). -/
set_option linter.unusedVariables false
namespace Go.Proofs.YtfcokdkbjajohaaGreatDoor
open Go.RowKit

theorem setRow_at {w : World} {g : Nat} {old C : Array Value} {T : TypeId} {fr : Nat × Nat} (h : w.heap[g]? = some (.cells old T fr)) : (w.setRow g C).heap[g]? = some (.cells C T fr) := by
  unfold World.setRow
  simp [Array.getElem?_modify, h]
theorem setRow_block {w : World} {g k : Nat} (C : Array Value) (h : k ≠ g) : (w.setRow g C).heap[k]? = w.heap[k]? := by
  unfold World.setRow
  rw [Array.getElem?_modify, if_neg (Ne.symm h)]
theorem below_setRow {B g : Nat} {a w : World} (h : Below B a w) (hg : B ≤ g) (C : Array Value) : Below B a (w.setRow g C) :=
  ⟨h.os, h.tape, h.output, by rw [setRow_size]; exact h.size, fun k hk => (setRow_block C (by omega)).trans (h.block k hk)⟩

def slotOf (a : Act) (d : Option Nat) : Value := match d with
  | some d => a.tmps.getD d undef
  | none => undef

theorem wp_region_put {P : Program} {id : Nat} {l : List Oper} {Q : Exit → Act → World → Prop} {a : Act} {w : World} (hm : P.follows .mixedOrders = true)
    (hac : ((List.range l.length).all fun i => ((l[i]?).map fun o => o.after.all fun e => !Region.binds .any e || decide (e.on < i)).getD true) = true)
    (ds : List (Option Nat)) (hds : l.map (·.dst) = ds) (hnd : (ds.filterMap fun x => x).Nodup) (hlt : (ds.filterMap fun x => x).all (fun d => decide (d < a.tmps.size)) = true)
    (g : Nat) (T : TypeId) (C old0 : Array Value) (hg : w.heap[g]? = some (.cells old0 T (0, 0))) (hold : old0.size = C.size) (B : Nat) (hB : B ≤ g)
    (V : Nat → Value → World → Prop) (hV1 : ∀ i v w1 w2, V i v w1 → Below w1.heap.size w1 w2 → V i v w2) (hV2 : ∀ i v w1, V i v w1 → V i v (w1.setRow g C))
    (step : ∀ i o, l[i]? = some o → ∀ a' w', Fr (ds.filterMap fun x => x) a a' → Below B w w' → (∃ old, w'.heap[g]? = some (.cells old T (0, 0)) ∧ old.size = C.size) →
      (∀ j, (o.after.any fun e => Region.binds .any e && e.on == j) = true → V j (slotOf a' (ds.getD j none)) w') →
      wpOp P l.toArray Q i (fun a'' w'' => ∃ v, a'' = a'.put (ds.getD i none) v ∧ (ds.getD i none = none → v = undef) ∧ V i v w'' ∧ (Below w'.heap.size w' w'' ∨ w'' = w'.setRow g C)) a' w')
    (done : ∀ a' w', Fr (ds.filterMap fun x => x) a a' → Below B w w' → (∀ j, j < l.length → V j (slotOf a' (ds.getD j none)) w') → Q .normal a' w') :
    (Code.region id l.toArray true).wp P Q a w := by
  have hlen : l.length = ds.length := by rw [← hds]; simp
  have hgw : g < w.heap.size := (Array.getElem?_eq_some_iff.1 hg).1
  have hmem : ∀ j d, ds.getD j none = some d → d ∈ ds.filterMap fun x => x := by
    intro j d h
    rw [List.mem_filterMap]
    refine ⟨some d, ?_, rfl⟩
    rw [List.getD_eq_getElem?_getD] at h
    cases e : ds[j]? with
    | none => rw [e] at h; cases h
    | some x => rw [e] at h; simp only [Option.getD_some] at h; rw [← h]; exact List.mem_of_getElem? e
  have hinj : ∀ (L : List (Option Nat)), (L.filterMap fun x => x).Nodup → ∀ (i j : Nat) (d : Nat), L.getD i none = some d → L.getD j none = some d → i = j := by
    intro L
    induction L with
    | nil => intro _ i j d h; simp at h
    | cons x L ih =>
      intro hn i j d hi hj
      have hmem' : ∀ k, L.getD k none = some d → d ∈ L.filterMap fun x => x := by
        intro k h
        rw [List.mem_filterMap]
        refine ⟨some d, ?_, rfl⟩
        rw [List.getD_eq_getElem?_getD] at h
        cases e : L[k]? with
        | none => rw [e] at h; cases h
        | some y => rw [e] at h; simp only [Option.getD_some] at h; rw [← h]; exact List.mem_of_getElem? e
      cases x with
      | none =>
        have hn' : (L.filterMap fun x => x).Nodup := by simpa using hn
        cases i with
        | zero => simp at hi
        | succ i =>
          cases j with
          | zero => simp at hj
          | succ j => rw [ih hn' i j d (by simpa using hi) (by simpa using hj)]
      | some y =>
        have hn' : y ∉ (L.filterMap fun x => x) ∧ (L.filterMap fun x => x).Nodup := by simpa using hn
        cases i with
        | zero =>
          have hy : y = d := by simpa using hi
          subst hy
          cases j with
          | zero => rfl
          | succ j => exact absurd (hmem' j (by simpa using hj)) hn'.1
        | succ i =>
          cases j with
          | zero =>
            have hy : y = d := by simpa using hj
            subst hy
            exact absurd (hmem' i (by simpa using hi)) hn'.1
          | succ j => rw [ih hn'.2 i j d (by simpa using hi) (by simpa using hj)]
  refine wp_region_inv hm hac (fun b a' w' => Fr (ds.filterMap fun x => x) a a' ∧ Below B w w' ∧ (∃ old, w'.heap[g]? = some (.cells old T (0, 0)) ∧ old.size = C.size) ∧ ∀ j, j < l.length → b j = true → V j (slotOf a' (ds.getD j none)) w') ?_ ?_ ?_
  · exact ⟨Fr.refl _ _, (Below.refl _ _).drew, ⟨old0, hg, hold⟩, fun j _ h => by cases h⟩
  · rintro b a' w' ⟨hf, hb, hgo, hall⟩ i o ho hbi hpre
    have hil : i < l.length := (List.getElem?_eq_some_iff.1 ho).1
    obtain ⟨old, ho1, ho2⟩ := hgo
    have hgw' : g < w'.heap.size := (Array.getElem?_eq_some_iff.1 ho1).1
    refine wpOp_mono ?_ (step i o ho a' w' hf hb ⟨old, ho1, ho2⟩ ?_)
    · rintro a'' w'' ⟨v, rfl, hno, hv, hb'⟩
      have hst : ∀ j v, V j v w' → V j v w'' := by
        intro j v hj
        rcases hb' with hb' | rfl
        · exact hV1 _ _ _ _ hj hb'
        · exact hV2 _ _ _ hj
      have hbw : Below B w w'' := by
        rcases hb' with hb' | rfl
        · exact hb.trans (hb'.mono (by omega))
        · exact below_setRow hb hB C
      have hgo' : ∃ old, w''.heap[g]? = some (.cells old T (0, 0)) ∧ old.size = C.size := by
        rcases hb' with hb' | rfl
        · exact ⟨old, (hb'.block g hgw').trans ho1, ho2⟩
        · exact ⟨C, setRow_at ho1, rfl⟩
      refine ⟨?_, hbw, hgo', fun j hj hbj => ?_⟩
      · cases e : ds.getD i none with
        | none => exact hf
        | some d => exact hf.put (hmem i d e) v
      · by_cases e : j = i
        · subst e
          cases ed : ds.getD j none with
          | none => rw [hno ed] at hv; exact hv
          | some d =>
            show V j ((a'.put (some d) v).tmps.getD d undef) w''
            rw [put_at]
            · exact hv
            · rw [hf.size]
              have := (List.all_eq_true.1 hlt) _ (hmem j d ed)
              simpa using this
        · simp only [e, if_false] at hbj
          have hvj := hst j _ (hall j hj hbj)
          cases ed : ds.getD j none with
          | none => rw [ed] at hvj; exact hvj
          | some d =>
            rw [ed] at hvj
            show V j ((a'.put (ds.getD i none) v).tmps.getD d undef) w''
            cases ei : ds.getD i none with
            | none => exact hvj
            | some d' =>
              rw [put_other _ _ _ _ (fun e' => e (hinj ds hnd j i d ed (by rw [ei, e'])))]
              exact hvj
    · intro j hj
      obtain ⟨k, hk, hj⟩ := Array.any_eq_true.1 hj
      obtain ⟨e, he, e1⟩ : ∃ e, e ∈ o.after ∧ e = o.after[k] := ⟨_, Array.getElem_mem hk, rfl⟩
      rw [← e1] at hj
      simp only [Bool.and_eq_true, beq_iff_eq] at hj
      obtain ⟨hbd, rfl⟩ := hj
      have h1 : b e.on = true := by
        simp only [Array.all_eq_true_iff_forall_mem] at hpre
        have := hpre e he
        rw [hbd] at this
        simpa using this
      have h2 : e.on < i := by
        have hac' := (List.all_eq_true.1 hac) i (List.mem_range.2 hil)
        simp only [ho, Option.map_some, Option.getD_some, Array.all_eq_true_iff_forall_mem] at hac'
        have := hac' e he
        rw [hbd] at this
        simpa using this
      exact hall e.on (by omega) h1
  · rintro b a' w' ⟨hf, hb, _, hall⟩ hdone
    exact done a' w' hf hb fun j hj => hall j hj (hdone j hj)

/-- The row holds C. -/
def VRowIs (g : Nat) (T : TypeId) (C : Array Value) : Value → World → Prop := fun _ w => w.heap[g]? = some (.cells C T (0, 0))
theorem VRowIs.stab (g : Nat) (T : TypeId) (C : Array Value) : Stab (VRowIs g T C) := fun v w1 w2 h hb => (hb.block g (Array.getElem?_eq_some_iff.1 h).1).trans h
def Stab2 (g : Nat) (C : Array Value) (V : Value → World → Prop) : Prop := ∀ v w1, V v w1 → V v (w1.setRow g C)
theorem VIs.stab2 (g : Nat) (C : Array Value) (x : Value) : Stab2 g C (VIs x) := fun _ _ h => h
theorem VRowIs.stab2 (g : Nat) (T : TypeId) (C : Array Value) : Stab2 g C (VRowIs g T C) := fun v w1 h => setRow_at h
theorem stab2_list {g : Nat} {C : Array Value} (Vs : List (Value → World → Prop)) (h : ∀ V ∈ Vs, Stab2 g C V) : ∀ i v w1, (Vs.getD i fun _ _ => True) v w1 → (Vs.getD i fun _ _ => True) v (w1.setRow g C) := by
  intro i v w1 hv
  simp only [List.getD_eq_getElem?_getD] at *
  cases e : Vs[i]? with
  | none => simp
  | some V =>
    rw [e] at hv
    exact h V (List.mem_of_getElem? e) v w1 hv

/-- An operation that adds. -/
theorem put_op {P : Program} {l : List Oper} {Q : Exit → Act → World → Prop} {i d : Nat} {o : Oper} {a : Act} {w : World} {V : Value → World → Prop} {X : World → Prop} (ho : l[i]? = some o) (hw : Region.wanted o (yielded l.toArray a.tmps) = true) (hd : o.dst = some d)
    (h : o.wp P a w (Grew o.dst V a w) Q) : wpOp P l.toArray Q i (fun a'' w'' => ∃ v, a'' = a.put (some d) v ∧ ((some d : Option Nat) = none → v = undef) ∧ V v w'' ∧ (Below w.heap.size w w'' ∨ X w'')) a w := by
  refine wpOp_mono ?_ (grow_op ho hw hd h)
  rintro a'' w'' ⟨v, h1, h2, h3⟩
  exact ⟨v, h1, fun h => by (exact nomatch h), h2, .inl h3⟩
/-- The operation that fills the row. -/
theorem put_store {P : Program} {l : List Oper} {Q : Exit → Act → World → Prop} {i : Nat} {o : Oper} {a : Act} {w : World} {V : Value → World → Prop} (ho : l[i]? = some o) (hw : Region.wanted o (yielded l.toArray a.tmps) = true) (ty : TypeId) (x y : Operand)
    (hop : o.op = .store ty x y) (hd : o.dst = none) (g : Nat) (C : Array Value) (hx : a.eval x = .pointer (some ⟨g, 0, none⟩)) (hy : a.eval y = .agg C) (T : TypeId) (hg : ∃ old, w.heap[g]? = some (.cells old T (0, 0)) ∧ old.size = C.size)
    (hi : (P.info? ty).map (·.size) = some C.size) (h1 : C.all (·.oneCell') = true) (hv : V undef (w.setRow g C)) :
    wpOp P l.toArray Q i (fun a'' w'' => ∃ v, a'' = a.put none v ∧ ((none : Option Nat) = none → v = undef) ∧ V v w'' ∧ (Below w.heap.size w w'' ∨ w'' = w.setRow g C)) a w := by
  obtain ⟨old, h2, h3⟩ := hg
  unfold wpOp
  rw [show l.toArray[i]? = some o by simpa using ho]
  simp only [hw, if_true]
  refine .inl (wp_store_row ty x y hop g C hx hy T old h2 hi h3 h1 ?_)
  rw [hd]
  exact ⟨undef, rfl, fun _ => rfl, hv, .inr rfl⟩
end Go.Proofs.YtfcokdkbjajohaaGreatDoor
/- A statement whose order is open, whose operations add to the memory, and one of which fills a field of the call's own struct. -/
set_option linter.unusedVariables false
namespace Go.Proofs.YtfcokdkbjajohaaGreatDoor
open Go.RowKit

theorem wp_region_putK {P : Program} {id : Nat} {l : List Oper} {Q : Exit → Act → World → Prop} {a : Act} {w : World} (hm : P.follows .mixedOrders = true)
    (hac : ((List.range l.length).all fun i => ((l[i]?).map fun o => o.after.all fun e => !Region.binds .any e || decide (e.on < i)).getD true) = true)
    (ds : List (Option Nat)) (hds : l.map (·.dst) = ds) (hnd : (ds.filterMap fun x => x).Nodup) (hlt : (ds.filterMap fun x => x).all (fun d => decide (d < a.tmps.size)) = true)
    (g : Nat) (T : TypeId) (C old0 : Array Value) (hg : w.heap[g]? = some (.cells old0 T (0, 0))) (K : Array Value → Prop) (hold : K old0) (hKC : K C) (B : Nat) (hB : B ≤ g)
    (V : Nat → Value → World → Prop) (hV1 : ∀ i v w1 w2, V i v w1 → Below w1.heap.size w1 w2 → V i v w2) (hV2 : ∀ i v w1, V i v w1 → V i v (w1.setRow g C))
    (step : ∀ i o, l[i]? = some o → ∀ a' w', Fr (ds.filterMap fun x => x) a a' → Below B w w' → (∃ old, w'.heap[g]? = some (.cells old T (0, 0)) ∧ K old) →
      (∀ j, (o.after.any fun e => Region.binds .any e && e.on == j) = true → V j (slotOf a' (ds.getD j none)) w') →
      wpOp P l.toArray Q i (fun a'' w'' => ∃ v, a'' = a'.put (ds.getD i none) v ∧ (ds.getD i none = none → v = undef) ∧ V i v w'' ∧ (Below w'.heap.size w' w'' ∨ w'' = w'.setRow g C)) a' w')
    (done : ∀ a' w', Fr (ds.filterMap fun x => x) a a' → Below B w w' → (∀ j, j < l.length → V j (slotOf a' (ds.getD j none)) w') → Q .normal a' w') :
    (Code.region id l.toArray true).wp P Q a w := by
  have hlen : l.length = ds.length := by rw [← hds]; simp
  have hgw : g < w.heap.size := (Array.getElem?_eq_some_iff.1 hg).1
  have hmem : ∀ j d, ds.getD j none = some d → d ∈ ds.filterMap fun x => x := by
    intro j d h
    rw [List.mem_filterMap]
    refine ⟨some d, ?_, rfl⟩
    rw [List.getD_eq_getElem?_getD] at h
    cases e : ds[j]? with
    | none => rw [e] at h; cases h
    | some x => rw [e] at h; simp only [Option.getD_some] at h; rw [← h]; exact List.mem_of_getElem? e
  have hinj : ∀ (L : List (Option Nat)), (L.filterMap fun x => x).Nodup → ∀ (i j : Nat) (d : Nat), L.getD i none = some d → L.getD j none = some d → i = j := by
    intro L
    induction L with
    | nil => intro _ i j d h; simp at h
    | cons x L ih =>
      intro hn i j d hi hj
      have hmem' : ∀ k, L.getD k none = some d → d ∈ L.filterMap fun x => x := by
        intro k h
        rw [List.mem_filterMap]
        refine ⟨some d, ?_, rfl⟩
        rw [List.getD_eq_getElem?_getD] at h
        cases e : L[k]? with
        | none => rw [e] at h; cases h
        | some y => rw [e] at h; simp only [Option.getD_some] at h; rw [← h]; exact List.mem_of_getElem? e
      cases x with
      | none =>
        have hn' : (L.filterMap fun x => x).Nodup := by simpa using hn
        cases i with
        | zero => simp at hi
        | succ i =>
          cases j with
          | zero => simp at hj
          | succ j => rw [ih hn' i j d (by simpa using hi) (by simpa using hj)]
      | some y =>
        have hn' : y ∉ (L.filterMap fun x => x) ∧ (L.filterMap fun x => x).Nodup := by simpa using hn
        cases i with
        | zero =>
          have hy : y = d := by simpa using hi
          subst hy
          cases j with
          | zero => rfl
          | succ j => exact absurd (hmem' j (by simpa using hj)) hn'.1
        | succ i =>
          cases j with
          | zero =>
            have hy : y = d := by simpa using hj
            subst hy
            exact absurd (hmem' i (by simpa using hi)) hn'.1
          | succ j => rw [ih hn'.2 i j d (by simpa using hi) (by simpa using hj)]
  refine wp_region_inv hm hac (fun b a' w' => Fr (ds.filterMap fun x => x) a a' ∧ Below B w w' ∧ (∃ old, w'.heap[g]? = some (.cells old T (0, 0)) ∧ K old) ∧ ∀ j, j < l.length → b j = true → V j (slotOf a' (ds.getD j none)) w') ?_ ?_ ?_
  · exact ⟨Fr.refl _ _, (Below.refl _ _).drew, ⟨old0, hg, hold⟩, fun j _ h => by cases h⟩
  · rintro b a' w' ⟨hf, hb, hgo, hall⟩ i o ho hbi hpre
    have hil : i < l.length := (List.getElem?_eq_some_iff.1 ho).1
    obtain ⟨old, ho1, ho2⟩ := hgo
    have hgw' : g < w'.heap.size := (Array.getElem?_eq_some_iff.1 ho1).1
    refine wpOp_mono ?_ (step i o ho a' w' hf hb ⟨old, ho1, ho2⟩ ?_)
    · rintro a'' w'' ⟨v, rfl, hno, hv, hb'⟩
      have hst : ∀ j v, V j v w' → V j v w'' := by
        intro j v hj
        rcases hb' with hb' | rfl
        · exact hV1 _ _ _ _ hj hb'
        · exact hV2 _ _ _ hj
      have hbw : Below B w w'' := by
        rcases hb' with hb' | rfl
        · exact hb.trans (hb'.mono (by omega))
        · exact below_setRow hb hB C
      have hgo' : ∃ old, w''.heap[g]? = some (.cells old T (0, 0)) ∧ K old := by
        rcases hb' with hb' | rfl
        · exact ⟨old, (hb'.block g hgw').trans ho1, ho2⟩
        · exact ⟨C, setRow_at ho1, hKC⟩
      refine ⟨?_, hbw, hgo', fun j hj hbj => ?_⟩
      · cases e : ds.getD i none with
        | none => exact hf
        | some d => exact hf.put (hmem i d e) v
      · by_cases e : j = i
        · subst e
          cases ed : ds.getD j none with
          | none => rw [hno ed] at hv; exact hv
          | some d =>
            show V j ((a'.put (some d) v).tmps.getD d undef) w''
            rw [put_at]
            · exact hv
            · rw [hf.size]
              have := (List.all_eq_true.1 hlt) _ (hmem j d ed)
              simpa using this
        · simp only [e, if_false] at hbj
          have hvj := hst j _ (hall j hj hbj)
          cases ed : ds.getD j none with
          | none => rw [ed] at hvj; exact hvj
          | some d =>
            rw [ed] at hvj
            show V j ((a'.put (ds.getD i none) v).tmps.getD d undef) w''
            cases ei : ds.getD i none with
            | none => exact hvj
            | some d' =>
              rw [put_other _ _ _ _ (fun e' => e (hinj ds hnd j i d ed (by rw [ei, e'])))]
              exact hvj
    · intro j hj
      obtain ⟨k, hk, hj⟩ := Array.any_eq_true.1 hj
      obtain ⟨e, he, e1⟩ : ∃ e, e ∈ o.after ∧ e = o.after[k] := ⟨_, Array.getElem_mem hk, rfl⟩
      rw [← e1] at hj
      simp only [Bool.and_eq_true, beq_iff_eq] at hj
      obtain ⟨hbd, rfl⟩ := hj
      have h1 : b e.on = true := by
        simp only [Array.all_eq_true_iff_forall_mem] at hpre
        have := hpre e he
        rw [hbd] at this
        simpa using this
      have h2 : e.on < i := by
        have hac' := (List.all_eq_true.1 hac) i (List.mem_range.2 hil)
        simp only [ho, Option.map_some, Option.getD_some, Array.all_eq_true_iff_forall_mem] at hac'
        have := hac' e he
        rw [hbd] at this
        simpa using this
      exact hall e.on (by omega) h1
  · rintro b a' w' ⟨hf, hb, _, hall⟩ hdone
    exact done a' w' hf hb fun j hj => hall j hj (hdone j hj)


theorem setCell_row {w : World} {g k : Nat} {x : Value} {old C : Array Value} {T : TypeId} {fr : Nat × Nat} (h : w.heap[g]? = some (.cells old T fr)) (hC : old.setIfInBounds k x = C) : w.setCell ⟨g, k, none⟩ x = w.setRow g C := by
  unfold World.setCell World.setRow
  congr 1
  apply Array.ext_getElem?
  intro i
  rw [Array.getElem?_modify, Array.getElem?_modify]
  by_cases e : g = i
  · subst e
    rw [if_pos rfl, if_pos rfl, h]
    simp [hC]
  · rw [if_neg e, if_neg e]
/-- The operation that fills a field. -/
theorem put_field {P : Program} {l : List Oper} {Q : Exit → Act → World → Prop} {i : Nat} {o : Oper} {a : Act} {w : World} {V : Value → World → Prop} (ho : l[i]? = some o) (hw : Region.wanted o (yielded l.toArray a.tmps) = true) (hd : o.dst = none)
    (g k : Nat) (X : Value) (C : Array Value) (T : TypeId) (hg : ∃ old, w.heap[g]? = some (.cells old T (0, 0)) ∧ old.setIfInBounds k X = C) (h : (execOp a.eval o).run P w = .ok .skip (w.setCell ⟨g, k, none⟩ X)) (hv : V undef (w.setRow g C)) :
    wpOp P l.toArray Q i (fun a'' w'' => ∃ v, a'' = a.put none v ∧ ((none : Option Nat) = none → v = undef) ∧ V v w'' ∧ (Below w.heap.size w w'' ∨ w'' = w.setRow g C)) a w := by
  obtain ⟨old, h1, h2⟩ := hg
  have e := setCell_row (k := k) h1 h2
  unfold wpOp
  rw [show l.toArray[i]? = some o by simpa using ho]
  simp only [hw, if_true]
  refine .inl ?_
  unfold Oper.wp
  rw [h, e]
  show ∃ v, a.put o.dst undef = a.put none v ∧ _
  rw [hd]
  exact ⟨undef, rfl, fun _ => rfl, hv, .inr rfl⟩
/-- A block of five cells, or of three, below. -/
theorem five_at {B x : Nat} {w w' : World} {a b c d e : Value} {T : TypeId} {fr : Nat × Nat} (h : w.heap[x]? = some (.cells #[a, b, c, d, e] T fr)) (hb : Below B w w') (hx : x < B) :
    w'.cell? ⟨x, 0, none⟩ = some a ∧ w'.cell? ⟨x, 1, none⟩ = some b ∧ w'.cell? ⟨x, 2, none⟩ = some c ∧ w'.cell? ⟨x, 3, none⟩ = some d ∧ w'.cell? ⟨x, 4, none⟩ = some e := by
  have hx := (hb.block x hx).trans h
  refine ⟨?_, ?_, ?_, ?_, ?_⟩ <;> (rw [Lib.cell_of_heap hx]; rfl)
theorem three_at {B x : Nat} {w w' : World} {a b c : Value} {T : TypeId} {fr : Nat × Nat} (h : w.heap[x]? = some (.cells #[a, b, c] T fr)) (hb : Below B w w') (hx : x < B) :
    w'.cell? ⟨x, 0, none⟩ = some a ∧ w'.cell? ⟨x, 1, none⟩ = some b ∧ w'.cell? ⟨x, 2, none⟩ = some c := by
  have hx := (hb.block x hx).trans h
  refine ⟨?_, ?_, ?_⟩ <;> (rw [Lib.cell_of_heap hx]; rfl)
theorem three_stored {w : World} {g : Nat} {x0 x1 x2 : Value} {T : TypeId} {fr : Nat × Nat} (h : w.heap[g]? = some (.cells #[x0, x1, x2] T fr)) (a b c : Value) :
    (((w.setCell ⟨g, 0, none⟩ a).setCell ⟨g, 1, none⟩ b).setCell ⟨g, 2, none⟩ c).heap[g]? = some (.cells #[a, b, c] T fr) := by
  simp [World.setCell, Array.getElem?_modify, h]
theorem below_three {B g : Nat} {w0 w : World} (h : Below B w0 w) (hg : B ≤ g) (a b c : Value) : Below B w0 (((w.setCell ⟨g, 0, none⟩ a).setCell ⟨g, 1, none⟩ b).setCell ⟨g, 2, none⟩ c) := by
  have s1 : ∀ (w : World) (i : Nat) (v : Value), Below B w0 w → Below B w0 (w.setCell ⟨g, i, none⟩ v) := fun w i v h => h.setCell hg _
  exact s1 _ _ _ (s1 _ _ _ (s1 _ _ _ h))
end Go.Proofs.YtfcokdkbjajohaaGreatDoor
/- A field of a value that lies in no cell. -/
set_option linter.unusedVariables false
namespace Go.Proofs.YtfcokdkbjajohaaGreatDoor
open Go.RowKit

theorem field_text (a b c d e : Value) (hc : c.cells = #[c]) (w : World) : (Instr.field 26 (.agg #[a, b, c, d, e]) 2).run Tryz.prog w = .ok c w := by
  kernel_rfl
end Go.Proofs.YtfcokdkbjajohaaGreatDoor
/- json: a right value's text is parsed as it. Plain. -/
set_option linter.unusedVariables false
namespace Go.Proofs.YtfcokdkbjajohaaGreatDoor

mutual
theorem plain_sty : ∀ (v : JV) (n : Nat), styJ plainS n v = plainJ v
  | .mk k y t l m, n => by
    have h1 := plainL_sty l n
    have h2 := plainM_sty m n
    rw [styJ, plainJ]
    have e1 : plainS.opn n = [] := rfl
    have e2 : plainS.cls n = [] := rfl
    rw [e1, e2, h1.1, h2.1]
theorem plainL_sty : ∀ (l : List JV) (n : Nat), styL plainS n [] [] l = plainL true l ∧ styL plainS n [44] [] l = plainL false l
  | [], n => ⟨rfl, rfl⟩
  | v :: l, n => by
    have h1 := plain_sty v (n + 1)
    have h2 := (plainL_sty l n).2
    have e3 : plainS.com n = [] := rfl
    have e4 : (if l.isEmpty then ([] : List UInt8) else styL plainS n (44 :: plainS.com n) [] l) = plainL false l := by
      cases l with
      | nil => rfl
      | cons x r => rw [e3]; exact h2
    constructor
    · rw [styL, plainL, h1, e4]; rfl
    · rw [styL, plainL, h1, e4]; rfl
theorem plainM_sty : ∀ (l : List (List UInt8 × JV)) (n : Nat), styM plainS n [] [] l = plainM true l ∧ styM plainS n [44] [] l = plainM false l
  | [], n => ⟨rfl, rfl⟩
  | (x, v) :: l, n => by
    have h1 := plain_sty v (n + 1)
    have h2 := (plainM_sty l n).2
    have e3 : plainS.com n = [] := rfl
    have e5 : plainS.col = [] := rfl
    have e4 : (if l.isEmpty then ([] : List UInt8) else styM plainS n (44 :: plainS.com n) [] l) = plainM false l := by
      cases l with
      | nil => rfl
      | cons x r => rw [e3]; exact h2
    constructor
    · rw [styM, plainM, h1, e4, e5]; rfl
    · rw [styM, plainM, h1, e4, e5]; rfl
end
theorem parse_sty (S : Sty) (hS : S.blank) (v : JV) (h : rightJ v = true) (e : List UInt8) (he : ∀ c ∈ e, blankB c = true) (hl : (styJ S 0 v ++ e).length ≤ 16384) (d : Int) (h1 : 1 ≤ d) (h2 : d ≤ 32) :
    parseL (styJ S 0 v ++ e) d = if openJ v ≤ d.toNat then (v, 0) else (.zero, 32) := by
  unfold parseL
  have ht : toldB (styJ S 0 v ++ e) = true := told_cat (told_sty S hS v 0 h) (told_blank he)
  rw [if_neg (by omega), if_neg (by omega), if_neg (by rw [ht]; decide), whole_sty S hS v h 0 d.toNat e he]
  by_cases ho : openJ v ≤ d.toNat
  · rw [if_pos ho, if_pos ho]
  · rw [if_neg ho, if_neg ho]
theorem parse_plain (v : JV) (h : rightJ v = true) (hl : (plainJ v).length ≤ 16384) (d : Int) (h1 : 1 ≤ d) (h2 : d ≤ 32) :
    parseL (plainJ v) d = if openJ v ≤ d.toNat then (v, 0) else (.zero, 32) := by
  have := parse_sty plainS plainS_blank v h [] (by simp) (by rw [plain_sty]; simpa using hl) d h1 h2
  rw [plain_sty] at this
  simpa using this
mutual
theorem open_depth : ∀ v : JV, openJ v ≤ depthJ v
  | .mk k y t l m => by
    have h1 := openL_depth l
    have h2 := openM_depth m
    rw [openJ, depthJ]
    split
    · omega
    split
    · omega
    · omega
theorem openL_depth : ∀ l : List JV, openL l ≤ depthL l
  | [] => by simp [openL]
  | v :: l => by
    have h1 := open_depth v
    have h2 := openL_depth l
    rw [openL, depthL]; omega
theorem openM_depth : ∀ l : List (List UInt8 × JV), openM l ≤ depthM l
  | [] => by simp [openM]
  | (n, v) :: l => by
    have h1 := open_depth v
    have h2 := openM_depth l
    rw [openM, depthM]
    show max (openJ v) (openM l) ≤ _
    omega
end
end Go.Proofs.YtfcokdkbjajohaaGreatDoor
