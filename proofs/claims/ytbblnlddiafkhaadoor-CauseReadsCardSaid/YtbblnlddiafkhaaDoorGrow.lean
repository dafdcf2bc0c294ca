/- A statement whose order is open and whose operations only add to the memory: whatever the order, each operation's value is what is said of it. -/
import Derived.Test.YtbblnlddiafkhaaDoorReg
import Derived.Below
import Derived.WalkKit
set_option linter.unusedVariables false
namespace Go.Proofs.YtbblnlddiafkhaaDoor
open Go.RowKit

/-- A frame that differs in the slots ds alone. -/
structure Fr (ds : List Nat) (a a' : Act) : Prop where
  defers : a'.defers = a.defers
  size : a'.tmps.size = a.tmps.size
  same : ∀ k, k ∉ ds → a'.tmps.getD k undef = a.tmps.getD k undef

theorem put_at (a : Act) (d : Nat) (v : Value) (h : d < a.tmps.size) : (a.put (some d) v).tmps.getD d undef = v := by
  simp [Act.put, Array.getD, h]
theorem put_other (a : Act) (d k : Nat) (v : Value) (h : k ≠ d) : (a.put (some d) v).tmps.getD k undef = a.tmps.getD k undef := by
  simp [Act.put, Array.getD_eq_getD_getElem?, Array.getElem?_setIfInBounds_ne (Ne.symm h)]
theorem Fr.refl (ds : List Nat) (a : Act) : Fr ds a a := ⟨rfl, rfl, fun _ _ => rfl⟩
theorem Fr.put {ds : List Nat} {a a' : Act} (h : Fr ds a a') {d : Nat} (hd : d ∈ ds) (v : Value) : Fr ds a (a'.put (some d) v) :=
  ⟨h.defers, by simpa [Act.put] using h.size, fun k hk => by
    rw [put_other a' d k v (fun e => hk (by rw [e]; exact hd))]
    exact h.same k hk⟩

theorem wp_region_grow {P : Program} {id : Nat} {l : List Oper} {Q : Exit → Act → World → Prop} {a : Act} {w : World} (hm : P.follows .mixedOrders = true)
    (hac : ((List.range l.length).all fun i => ((l[i]?).map fun o => o.after.all fun e => !Region.binds .any e || decide (e.on < i)).getD true) = true)
    (ds : List Nat) (hds : (l.map (·.dst)) = ds.map some) (hnd : ds.Nodup) (hlt : ds.all (fun d => decide (d < a.tmps.size)) = true)
    (V : Nat → Value → World → Prop) (hV : ∀ i v w1 w2, V i v w1 → Below w1.heap.size w1 w2 → V i v w2)
    (step : ∀ i o, l[i]? = some o → ∀ a' w', Fr ds a a' → Below w.heap.size w w' → (∀ j, (o.after.any fun e => Region.binds .any e && e.on == j) = true → V j (a'.tmps.getD (ds.getD j 0) undef) w') →
      wpOp P l.toArray Q i (fun a'' w'' => ∃ v, a'' = a'.put (some (ds.getD i 0)) v ∧ V i v w'' ∧ Below w'.heap.size w' w'') a' w')
    (done : ∀ a' w', Fr ds a a' → Below w.heap.size w w' → (∀ j, j < l.length → V j (a'.tmps.getD (ds.getD j 0) undef) w') → Q .normal a' w') :
    (Code.region id l.toArray true).wp P Q a w := by
  have hlen : l.length = ds.length := by have := congrArg List.length hds; simpa using this
  have hmem : ∀ j, j < l.length → ds.getD j 0 ∈ ds := by
    intro j hj
    rw [List.getD_eq_getElem?_getD, List.getElem?_eq_getElem (by omega)]
    exact List.getElem_mem _
  have hinj : ∀ i j, i < l.length → j < l.length → ds.getD i 0 = ds.getD j 0 → i = j := by
    intro i j hi hj e
    rw [List.getD_eq_getElem?_getD, List.getElem?_eq_getElem (by omega), List.getD_eq_getElem?_getD, List.getElem?_eq_getElem (by omega)] at e
    exact (List.getElem_inj hnd).1 e
  refine wp_region_inv hm hac (fun b a' w' => Fr ds a a' ∧ Below w.heap.size w w' ∧ ∀ j, j < l.length → b j = true → V j (a'.tmps.getD (ds.getD j 0) undef) w') ?_ ?_ ?_
  · exact ⟨Fr.refl _ _, (Below.refl _ _).drew, fun j _ h => by cases h⟩
  · rintro b a' w' ⟨hf, hb, hall⟩ i o ho hbi hpre
    have hil : i < l.length := (List.getElem?_eq_some_iff.1 ho).1
    refine wpOp_mono ?_ (step i o ho a' w' hf hb ?_)
    · rintro a'' w'' ⟨v, rfl, hv, hb'⟩
      refine ⟨hf.put (hmem i hil) v, hb.trans (hb'.mono hb.size), fun j hj hbj => ?_⟩
      by_cases e : j = i
      · subst e
        rw [put_at]
        · exact hv
        · rw [hf.size]
          have := (List.all_eq_true.1 hlt) _ (hmem j hil)
          simpa using this
      · simp only [e, if_false] at hbj
        rw [put_other _ _ _ _ (fun e' => e (hinj _ _ hj hil e'))]
        exact hV _ _ _ _ (hall j hj hbj) hb'
    · intro j hj
      obtain ⟨k, hk, hj⟩ := Array.any_eq_true.1 hj
      obtain ⟨e, he, e1⟩ : ∃ e, e ∈ o.after ∧ e = o.after[k] := ⟨_, Array.getElem_mem hk, rfl⟩
      rw [← e1] at hj
      simp only [Bool.and_eq_true, beq_iff_eq] at hj
      obtain ⟨hbd, rfl⟩ := hj
      have h1 : b e.on = true := by
        simp only [Array.all_eq_true_iff_forall_mem] at hpre
        have := hpre e he
        rw [hbd] at this
        simpa using this
      have h2 : e.on < i := by
        have hac' := (List.all_eq_true.1 hac) i (List.mem_range.2 hil)
        simp only [ho, Option.map_some, Option.getD_some, Array.all_eq_true_iff_forall_mem] at hac'
        have := hac' e he
        rw [hbd] at this
        simpa using this
      exact hall e.on (by omega) h1
  · rintro b a' w' ⟨hf, hb, hall⟩ hdone
    exact done a' w' hf hb fun j hj => hall j hj (hdone j hj)

theorem Fr.nil_eq {a a' : Act} (h : Fr [] a a') : a' = a := by
  cases a with
  | mk t d =>
    cases a' with
    | mk t' d' =>
      have h1 : d' = d := h.defers
      have h2 : t'.size = t.size := h.size
      have h3 : t' = t := by
        apply Array.ext h2
        intro i hi hi'
        have := h.same i (by simp)
        simp only [Array.getD_eq_getD_getElem?] at this
        rw [Array.getElem?_eq_getElem hi, Array.getElem?_eq_getElem hi'] at this
        simpa using this
      rw [h1, h3]
/-- The frame behind such a statement, written out. -/
theorem Fr.eq : ∀ {ds : List Nat} {a a' : Act} (vs : List Value), Fr ds a a' → (∀ j, j < ds.length → a'.tmps.getD (ds.getD j 0) undef = vs.getD j undef) → ds.Nodup → (ds.all fun d => decide (d < a.tmps.size)) = true → vs.length = ds.length →
    a' = (ds.zip vs).foldl (fun a x => a.put (some x.1) x.2) a
  | [], a, a', vs, h, _, _, _, _ => by simpa using h.nil_eq
  | d :: ds, a, a', [], h, _, _, _, hl => by simp at hl
  | d :: ds, a, a', v :: vs, h, hv, hnd, hlt, hl => by
    simp only [List.zip_cons_cons, List.foldl_cons]
    obtain ⟨hn1, hn2⟩ := List.nodup_cons.1 hnd
    simp only [List.all_cons, Bool.and_eq_true, decide_eq_true_eq] at hlt
    refine Fr.eq vs ⟨h.defers, by simpa [Act.put] using h.size, fun k hk => ?_⟩ (fun j hj => ?_) hn2 (by simpa [Act.put] using hlt.2) (by simpa using hl)
    · by_cases e : k = d
      · subst e
        rw [put_at _ _ _ hlt.1]
        exact hv 0 (by simp)
      · rw [put_other _ _ _ _ e]
        exact h.same k (by simp [e, hk])
    · exact hv (j + 1) (by simpa using hj)

/-- What an operation waits for. -/
def depsAt (l : List Oper) (j : Nat) : List Nat := ((l[j]?).map fun o => (o.after.toList.filter (Region.binds .any)).map (·.on)).getD []
/-- Whatever is done when all that j waits for is done: all ahead of j? -/
def coverGo (l : List Oper) : Nat → List Nat → Bool
  | 0, _ => true
  | i + 1, S => S.contains i && coverGo l i (S ++ depsAt l i)
theorem coverGo_all {l : List Oper} {b : Nat → Bool} (hcl : ∀ j, b j = true → ∀ x ∈ depsAt l j, b x = true) : ∀ (i : Nat) (S : List Nat), coverGo l i S = true → (∀ x ∈ S, b x = true) → ∀ x, x < i → b x = true
  | 0, _, _, _, x, hx => by omega
  | i + 1, S, h, hS, x, hx => by
    simp only [coverGo, Bool.and_eq_true, List.contains_iff_mem] at h
    have hi := hS i h.1
    by_cases e : x = i
    · subst e; exact hi
    · exact coverGo_all hcl i _ h.2 (fun y hy => by
        rcases List.mem_append.1 hy with h' | h'
        · exact hS y h'
        · exact hcl i hi y h') x (by omega)
theorem depsAt_mem {l : List Oper} {i : Nat} {o : Oper} (ho : l[i]? = some o) {x : Nat} : x ∈ depsAt l i ↔ (o.after.any fun e => Region.binds .any e && e.on == x) = true := by
  simp only [depsAt, ho, Option.map_some, Option.getD_some, List.mem_map, List.mem_filter, Array.any_eq_true, Bool.and_eq_true, beq_iff_eq]
  constructor
  · rintro ⟨e, ⟨he, hb⟩, rfl⟩
    obtain ⟨k, hk, rfl⟩ := Array.mem_iff_getElem.1 (Array.mem_toList_iff.1 he)
    exact ⟨k, hk, hb, rfl⟩
  · rintro ⟨k, hk, hb, rfl⟩
    exact ⟨_, ⟨Array.mem_toList_iff.2 (Array.getElem_mem hk), hb⟩, rfl⟩

theorem wpOp_of_list {P : Program} {l : List Oper} {Q : Exit → Act → World → Prop} {i : Nat} {o : Oper} {a : Act} {w : World} (ho : l[i]? = some o) (h : wpList P l.toArray Q (l.drop i) a w) : wpOp P l.toArray Q i (fun a' w' => wpList P l.toArray Q (l.drop (i + 1)) a' w') a w := by
  have hil : i < l.length := (List.getElem?_eq_some_iff.1 ho).1
  have e : l.drop i = o :: l.drop (i + 1) := by
    rw [List.drop_eq_getElem_cons hil]
    rw [List.getElem?_eq_getElem hil] at ho
    simp at ho
    rw [ho]
  rw [e] at h
  unfold wpOp
  rw [show l.toArray[i]? = some o by simpa using ho]
  exact h

/-- .. and then a few in a forced order. -/
theorem wp_region_grow_tail {P : Program} {id : Nat} {l : List Oper} {Q : Exit → Act → World → Prop} {a : Act} {w : World} (n : Nat) (hm : P.follows .mixedOrders = true)
    (hac : ((List.range l.length).all fun i => ((l[i]?).map fun o => o.after.all fun e => !Region.binds .any e || decide (e.on < i)).getD true) = true)
    (hn : n ≤ l.length) (hcov : ((List.range l.length).all fun j => decide (j < n) || coverGo l j (depsAt l j)) = true)
    (ds : List Nat) (hds : ((l.take n).map (·.dst)) = ds.map some) (hnd : ds.Nodup) (hlt : ds.all (fun d => decide (d < a.tmps.size)) = true)
    (V : Nat → Value → World → Prop) (hV : ∀ i v w1 w2, V i v w1 → Below w1.heap.size w1 w2 → V i v w2)
    (step : ∀ i o, (l.take n)[i]? = some o → ∀ a' w', Fr ds a a' → Below w.heap.size w w' → (∀ j, (o.after.any fun e => Region.binds .any e && e.on == j) = true → V j (a'.tmps.getD (ds.getD j 0) undef) w') →
      wpOp P l.toArray Q i (fun a'' w'' => ∃ v, a'' = a'.put (some (ds.getD i 0)) v ∧ V i v w'' ∧ Below w'.heap.size w' w'') a' w')
    (done : ∀ a' w', Fr ds a a' → Below w.heap.size w w' → (∀ j, j < n → V j (a'.tmps.getD (ds.getD j 0) undef) w') → wpList P l.toArray Q (l.drop n) a' w') :
    (Code.region id l.toArray true).wp P Q a w := by
  have hlen : n = ds.length := by have := congrArg List.length hds; simp at this; omega
  have hmem : ∀ j, j < n → ds.getD j 0 ∈ ds := by
    intro j hj
    rw [List.getD_eq_getElem?_getD, List.getElem?_eq_getElem (by omega)]
    exact List.getElem_mem _
  have hinj : ∀ i j, i < n → j < n → ds.getD i 0 = ds.getD j 0 → i = j := by
    intro i j hi hj e
    rw [List.getD_eq_getElem?_getD, List.getElem?_eq_getElem (by omega), List.getD_eq_getElem?_getD, List.getElem?_eq_getElem (by omega)] at e
    exact (List.getElem_inj hnd).1 e
  have hdeps : ∀ (b : Nat → Bool) i o, l[i]? = some o → (o.after.all fun e => !Region.binds .any e || b e.on) = true → ∀ x ∈ depsAt l i, b x = true := by
    intro b i o ho hpre x hx
    rw [depsAt_mem ho] at hx
    obtain ⟨k, hk, hj⟩ := Array.any_eq_true.1 hx
    simp only [Bool.and_eq_true, beq_iff_eq] at hj
    have := (Array.all_eq_true.1 hpre) k hk
    rw [hj.1, hj.2] at this
    simpa using this
  refine wp_region_inv hm hac (fun b a' w' => (∀ j, b j = true → ∀ x ∈ depsAt l j, b x = true) ∧
    (((∀ j, n ≤ j → b j = false) ∧ Fr ds a a' ∧ Below w.heap.size w w' ∧ ∀ j, j < n → b j = true → V j (a'.tmps.getD (ds.getD j 0) undef) w') ∨
     (∃ k, n ≤ k ∧ (∀ j, b j = true ↔ j < k) ∧ wpList P l.toArray Q (l.drop k) a' w'))) ?_ ?_ ?_
  · exact ⟨fun _ h => (by cases h), .inl ⟨fun _ _ => rfl, Fr.refl _ _, (Below.refl _ _).drew, fun j _ h => by cases h⟩⟩
  · rintro b a' w' ⟨hcl, hI⟩ i o ho hbi hpre
    have hil : i < l.length := (List.getElem?_eq_some_iff.1 ho).1
    have hdi := hdeps b i o ho hpre
    have hcl' : ∀ j, (if j = i then true else b j) = true → ∀ x ∈ depsAt l j, (if x = i then true else b x) = true := by
      intro j hj x hx
      by_cases ex : x = i
      · simp [ex]
      · simp only [ex, if_false]
        by_cases ej : j = i
        · subst ej; exact hdi x hx
        · simp only [ej, if_false] at hj; exact hcl j hj x hx
    have hcovi : n ≤ i → ∀ x, x < i → b x = true := by
      intro hni
      have := (List.all_eq_true.1 hcov) i (List.mem_range.2 hil)
      simp only [Bool.or_eq_true, decide_eq_true_eq] at this
      rcases this with h | h
      · omega
      · exact coverGo_all hcl i _ h hdi
    rcases hI with ⟨hno, hf, hb, hall⟩ | ⟨k, hk, hbk, hw⟩
    · by_cases hin : i < n
      · refine wpOp_mono ?_ (step i o (by rw [List.getElem?_take, if_pos hin]; exact ho) a' w' hf hb ?_)
        · rintro a'' w'' ⟨v, rfl, hv, hb'⟩
          refine ⟨hcl', .inl ⟨fun j hj => ?_, hf.put (hmem i hin) v, hb.trans (hb'.mono hb.size), fun j hj hbj => ?_⟩⟩
          · simp only [show j ≠ i by omega, if_false]; exact hno j hj
          · by_cases e : j = i
            · subst e
              rw [put_at]
              · exact hv
              · rw [hf.size]
                have := (List.all_eq_true.1 hlt) _ (hmem j hin)
                simpa using this
            · simp only [e, if_false] at hbj
              rw [put_other _ _ _ _ (fun e' => e (hinj _ _ hj hin e'))]
              exact hV _ _ _ _ (hall j hj hbj) hb'
        · intro j hj
          have h1 : b j = true := hdi j ((depsAt_mem ho).2 hj)
          have h2 : j < n := by
            rcases Nat.lt_or_ge j n with h | h
            · exact h
            · rw [hno j h] at h1; cases h1
          exact hall j h2 h1
      · have hc := hcovi (by omega)
        have ein : i = n := by
          rcases Nat.lt_or_ge n i with h | h
          · have := hc n h
            rw [hno n (Nat.le_refl _)] at this
            cases this
          · omega
        subst ein
        refine wpOp_mono ?_ (wpOp_of_list ho (done a' w' hf hb fun j hj => hall j hj (hc j hj)))
        intro a'' w'' hw'
        refine ⟨hcl', .inr ⟨i + 1, by omega, fun j => ?_, hw'⟩⟩
        by_cases e : j = i
        · simp [e]
        · simp only [e, if_false]
          constructor
          · intro h
            rcases Nat.lt_or_ge j i with h' | h'
            · omega
            · rw [hno j h'] at h; cases h
          · intro h; exact hc j (by omega)
    · have hki : i = k := by
        have h1 : ¬ i < k := fun h => by rw [(hbk i).2 h] at hbi; cases hbi
        have hc := hcovi (by omega)
        rcases Nat.lt_or_ge k i with h | h
        · have := (hbk k).1 (hc k h)
          omega
        · omega
      subst hki
      refine wpOp_mono ?_ (wpOp_of_list ho hw)
      intro a'' w'' hw'
      refine ⟨hcl', .inr ⟨i + 1, by omega, fun j => ?_, hw'⟩⟩
      by_cases e : j = i
      · simp [e]
      · simp only [e, if_false]
        rw [hbk j]
        omega
  · rintro b a' w' ⟨hcl, hI⟩ hdone
    rcases hI with ⟨hno, hf, hb, hall⟩ | ⟨k, hk, hbk, hw⟩
    · have hnl : l.length ≤ n := by
        rcases Nat.lt_or_ge n l.length with h | h
        · have := hdone n h
          rw [hno n (Nat.le_refl _)] at this
          cases this
        · exact h
      have := done a' w' hf hb fun j hj => hall j hj (hdone j (by omega))
      rw [List.drop_eq_nil_of_le hnl] at this
      exact this
    · have hkl : l.length ≤ k := by
        rcases Nat.lt_or_ge k l.length with h | h
        · have := (hbk k).1 (hdone k h)
          omega
        · exact h
      rw [List.drop_eq_nil_of_le hkl] at hw
      exact hw

/-- An operation that is carried out. -/
theorem grow_op {P : Program} {l : List Oper} {Q : Exit → Act → World → Prop} {i d : Nat} {o : Oper} {a : Act} {w : World} {V : Value → World → Prop} (ho : l[i]? = some o) (hw : Region.wanted o (yielded l.toArray a.tmps) = true) (hd : o.dst = some d)
    (h : o.wp P a w (fun a'' w'' => ∃ v, a'' = a.put o.dst v ∧ V v w'' ∧ Below w.heap.size w w'') Q) : wpOp P l.toArray Q i (fun a'' w'' => ∃ v, a'' = a.put (some d) v ∧ V v w'' ∧ Below w.heap.size w w'') a w := by
  unfold wpOp
  rw [show l.toArray[i]? = some o by simpa using ho]
  simp only [hw, if_true]
  rw [hd] at h
  exact .inl h
/-- .. or isn't. -/
theorem grow_no {P : Program} {l : List Oper} {Q : Exit → Act → World → Prop} {i d : Nat} {o : Oper} {a : Act} {w : World} {V : Value → World → Prop} (ho : l[i]? = some o) (hw : Region.wanted o (yielded l.toArray a.tmps) = false) (hd : o.dst = some d)
    (h : V undef w) : wpOp P l.toArray Q i (fun a'' w'' => ∃ v, a'' = a.put (some d) v ∧ V v w'' ∧ Below w.heap.size w w'') a w := by
  unfold wpOp
  rw [show l.toArray[i]? = some o by simpa using ho]
  simp only [hw]
  rw [hd]
  exact ⟨_, rfl, h, Below.refl _ _⟩

theorem run_enters {P : Program} {f : FuncId} {fn : Func} {c : Code} (hf : P.funcs[f]? = some fn) (hname : (fn.name == "runtime.NumGoroutine") = false) (hb : fn.body = some c) (args : Array Value) (w : World) :
    (callFunc f args).run P w = .ok (.enter f args) w := by
  have h1 : fn.name ≠ "runtime.NumGoroutine" := by simpa using hname
  simp [callFunc, hf, h1, hb]
theorem grow_wanted {l : List Oper} {o : Oper} {a : Act} {j d : Nat} {b : Bool} (hg : o.guard = some (j, b)) (hd : ((l[j]?).bind (·.dst)) = some d) (hv : a.tmps.getD d undef = .bool b) : Region.wanted o (yielded l.toArray a.tmps) = true := by
  have h1 : a.tmps[d]? = some (.bool b) := by
    rw [Array.getD_eq_getD_getElem?] at hv
    cases e : a.tmps[d]? with
    | none => rw [e] at hv; simp [undef] at hv
    | some x => rw [e] at hv; simpa using hv
  simp [Region.wanted, hg, yielded, hd, h1]

/-- What an operation leaves behind. -/
abbrev Grew (d : Option Nat) (V : Value → World → Prop) (a : Act) (w : World) : Act → World → Prop := fun a'' w'' => ∃ v, a'' = a.put d v ∧ V v w'' ∧ Below w.heap.size w w''

section
variable {P : Program} {Q : Exit → Act → World → Prop} {o : Oper} {a : Act} {w : World} {V : Value → World → Prop}
theorem grow_value {v : Value} {w' : World} (h : (execOp a.eval o).run P w = .ok (.value v) w') (hv : V v w') (hb : Below w.heap.size w w') : o.wp P a w (Grew o.dst V a w) Q := by
  unfold Oper.wp
  rw [h]
  exact ⟨v, rfl, hv, hb⟩
theorem grow_move {x : Operand} (ho : o.op = .move x) (hv : V (a.eval x) w) : o.wp P a w (Grew o.dst V a w) Q :=
  grow_value (by simp only [execOp, ho]; rfl) hv (Below.refl _ _)
theorem grow_assign {x : Operand} (ho : o.op = .assign x) (hv : V (a.eval x) w) : o.wp P a w (Grew o.dst V a w) Q :=
  grow_value (by simp only [execOp, ho]; rfl) hv (Below.refl _ _)
theorem grow_pick {c x y : Operand} {b : Bool} (ho : o.op = .pick c x y) (hc : a.eval c = .bool b) (hv : V (if b then a.eval x else a.eval y) w) : o.wp P a w (Grew o.dst V a w) Q :=
  grow_value (by simp only [execOp, ho, hc]; rfl) hv (Below.refl _ _)
theorem grow_convert {s d : TypeId} {x : Operand} {v : Value} (ho : o.op = .convert s d x) (hc : (convert s d (a.eval x)).run P w = .ok v w) (hv : V v w) : o.wp P a w (Grew o.dst V a w) Q :=
  grow_value (v := v) (by simp only [execOp, ho, Sem.run_bind, hc]; rfl) hv (Below.refl _ _)
theorem grow_call {f : FuncId} {xs : Array Operand} {ts : Array TypeId} (hf : ∀ args w, (callFunc f args).run P w = .ok (.enter f args) w) (ho : o.op = .call { callee := .value (.func f), args := xs, argTypes := ts })
    (h : Calls P f (xs.map a.eval) w fun e w' => ∃ v, e = .returned v ∧ V v w' ∧ Below w.heap.size w w') : o.wp P a w (Grew o.dst V a w) Q := by
  unfold Oper.wp
  have e : (execOp a.eval o).run P w = .ok (.enter f (xs.map a.eval)) w := by
    simp [execOp, ho, resolve, Act.eval, Deferred.ofValue, invoke, hf]
  rw [e]
  rw [Oper.upon_enter]
  refine h.mono ?_
  rintro e w' ⟨v, rfl, hv, hb⟩
  exact ⟨v, rfl, hv, hb⟩
end

/-- Values of which it is said what they are. -/
def VIs (x : Value) : Value → World → Prop := fun v _ => v = x
def Stab (V : Value → World → Prop) : Prop := ∀ v w1 w2, V v w1 → Below w1.heap.size w1 w2 → V v w2
theorem VIs.stab (x : Value) : Stab (VIs x) := fun _ _ _ h _ => h
theorem stab_list (Vs : List (Value → World → Prop)) (h : ∀ V ∈ Vs, Stab V) : ∀ i v w1 w2, (Vs.getD i fun _ _ => True) v w1 → Below w1.heap.size w1 w2 → (Vs.getD i fun _ _ => True) v w2 := by
  intro i v w1 w2 hv hb
  simp only [List.getD_eq_getElem?_getD] at *
  cases e : Vs[i]? with
  | none => simp
  | some V =>
    simp only [e, Option.getD_some] at hv ⊢
    exact h V (List.mem_of_getElem? e) v w1 w2 hv hb
end Go.Proofs.YtbblnlddiafkhaaDoor
