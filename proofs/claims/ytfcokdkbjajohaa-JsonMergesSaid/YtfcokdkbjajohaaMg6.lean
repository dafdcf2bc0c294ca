/- Merged: TrM, TrV, OpnN, JsMp, JsWi, JsWk, JsWl, ClM, ObL, Put, PutK, JsWm, JsWn. -/
import Derived.Deep.Slices
import Derived.ChangeSame
import Derived.Lib.SliceRun
import Derived.Laws.Tables
import Derived.Test.YtfcokdkbjajohaaMg1
import Derived.Test.YtfcokdkbjajohaaMg2
import Derived.Test.YtfcokdkbjajohaaMg3
import Derived.Test.YtfcokdkbjajohaaMg4
import Derived.Test.YtfcokdkbjajohaaMg5
/- Rows of members: parts of them, and what lies behind. -/
set_option linter.unusedVariables false
namespace Go.Proofs.Ytfcokdkbjajohaa
open Go.RowKit

theorem memCells_drop : ∀ (m : List (List UInt8 × JV)) (cm : List (List Value)) (k : Nat), cm.length = m.length → (∀ r ∈ cm, r.length = 5) → memCells (m.drop k) (cm.drop k) = (memCells m cm).drop (k * 6)
  | m, cm, 0, h, _ => by simp
  | [], cm, k + 1, h, _ => by
    have : cm = [] := List.eq_nil_of_length_eq_zero h
    subst this
    simp [memCells]
  | p :: m, [], k + 1, h, _ => by simp at h
  | p :: m, r :: cm, k + 1, h, h5 => by
    have hr := h5 r (by simp)
    have ih := memCells_drop m cm k (by simpa using h) (fun x hx => h5 x (by simp [hx]))
    simp only [List.drop_succ_cons, memCells]
    rw [ih, show (k + 1) * 6 = (k * 6 + 5) + 1 by omega, List.drop_succ_cons, List.drop_append, show List.drop (k * 6 + 5) r = [] from List.drop_eq_nil_of_le (by omega), hr, show k * 6 + 5 - 5 = k * 6 by omega, List.nil_append]
theorem memCells_len {m : List (List UInt8 × JV)} {cm : List (List Value)} (h : cm.length = m.length) (h5 : ∀ r ∈ cm, r.length = 5) : (memCells m cm).length = m.length * 6 := by
  induction m generalizing cm with
  | nil =>
    have : cm = [] := List.eq_nil_of_length_eq_zero h
    subst this
    rfl
  | cons p m ih =>
    cases cm with
    | nil => simp at h
    | cons r cm =>
      have hr := h5 r (by simp)
      have := ih (cm := cm) (by simpa using h) (fun x hx => h5 x (by simp [hx]))
      simp only [memCells, List.length_cons, List.length_append, hr, this]
      omega
theorem kids_rd {w : World} {ro : Option Addr} {rc q : Nat} {o : List (List UInt8 × JV)} {cm : List (List Value)} (h : RdC w ro (memCells o cm)) (hl : cm.length = o.length) (h5 : ∀ r ∈ cm, r.length = 5) (hq : q ≤ o.length) (hrc : o.length ≤ rc) :
    RdC w (if rc = q then ro else Option.map (fun x => x.add (q * 6)) ro) (memCells (o.drop q) (cm.drop q)) := by
  by_cases e : q = o.length
  · subst e
    left
    rw [List.drop_of_length_le (Nat.le_refl _), List.drop_of_length_le (by omega)]
    rfl
  · rw [if_neg (by omega)]
    rcases h with h | ⟨b, off, rfl, hc⟩
    · have := memCells_len hl h5
      rw [h] at this
      simp at this
      omega
    · refine .inr ⟨b, off + q * 6, by simp [Addr.add_lit], fun i u hu => ?_⟩
      rw [memCells_drop o cm q hl h5, List.getElem?_drop] at hu
      rw [Nat.add_assoc]
      exact hc _ u hu
theorem mem_row {ok : Nat → Prop} {w : World} {a' : Option Addr} {m : List (List UInt8 × JV)} {cm : List (List Value)} (h3 : RdC w a' (memCells m cm)) (h4 : RepsM ok w cm m) (j : Nat) (hj : j < m.length) :
    ∃ b off k2 y2 t2 a2 l2 c2 a3 l3 c3, a' = some ⟨b, off, none⟩ ∧ cm[j]? = some [.int .i64 k2, .bool y2, .string ⟨t2⟩, .slice a2 l2 c2, .slice a3 l3 c3] ∧ w.cell? ⟨b, off + j * 6, none⟩ = some (.string ⟨m[j].1.toArray⟩) ∧ w.cell? ⟨b, off + j * 6 + 1, none⟩ = some (.int .i64 k2) ∧ w.cell? ⟨b, off + j * 6 + 2, none⟩ = some (.bool y2) ∧ w.cell? ⟨b, off + j * 6 + 3, none⟩ = some (.string ⟨t2⟩) ∧ w.cell? ⟨b, off + j * 6 + 4, none⟩ = some (.slice a2 l2 c2) ∧ w.cell? ⟨b, off + j * 6 + 5, none⟩ = some (.slice a3 l3 c3) := by
  have hjc : j < cm.length := by rw [h4.1]; exact hj
  have hr := h4.2 j hjc hj
  obtain ⟨a2, c2, a3, c3, cl, cmm, hcs, _⟩ := hr.parts
  have hg := fun i hi => mem6_get h4 j hjc hj i hi
  rw [hcs] at hg
  unfold strV at hcs hg
  rcases h3 with h | ⟨b, off, e, hc⟩
  · have := mem6_len h4
    rw [h] at this
    simp only [List.length_nil] at this
    omega
  · exact ⟨b, off, _, _, _, _, _, _, _, _, _, e, by rw [List.getElem?_eq_getElem hjc, hcs], hc _ _ (hg 0 (by decide)), hc _ _ (hg 1 (by decide)), hc _ _ (hg 2 (by decide)), hc _ _ (hg 3 (by decide)), hc _ _ (hg 4 (by decide)), hc _ _ (hg 5 (by decide))⟩
theorem own_rdo {B : Nat} {E : TypeId} {sz : Nat} {w : World} {v : Value} {n : Nat} {xs : List Value} (h : w.ownsRow B E sz v n xs) : ∃ a c, v = .slice a n c ∧ RdO (fun b => B ≤ b ∧ b < w.heap.size ∧ v.ownBlock = some b) w a xs ∧ n ≤ c := by
  have h' := h
  rcases h.2 with ⟨rfl, rfl⟩ | ⟨g, cap, cur, rfl, hB, hg, hle, _, _, _⟩
  · exact ⟨none, 0, rfl, .inl (List.eq_nil_of_length_eq_zero (by rw [h.1]; simp)), Nat.le_refl _⟩
  · refine ⟨_, _, rfl, .inr ⟨g, 0, rfl, ⟨hB, (Array.getElem?_eq_some_iff.1 hg).1, rfl⟩, fun i u hu => ?_⟩, hle⟩
    have := World.ownsRow.cells h' (g := g) rfl i u hu
    rw [Addr.add_lit] at this
    exact this
/-- One member in a block of its own. -/
def VM (cs : Array Value) : Value → World → Prop := fun v w => ∃ g, v = .slice (some ⟨g, 0, none⟩) 1 1 ∧ w.heap[g]? = some (.cells cs 38 (0, 0))
theorem VM.stab (cs : Array Value) : Stab (VM cs) := fun v w1 w2 ⟨g, e, h⟩ hb => ⟨g, e, (hb.block _ (Array.getElem?_eq_some_iff.1 h).1).trans h⟩
theorem below_butv {B g : Nat} {w w' : World} (h : ButV B g g w w') {C : Nat} (hC : C ≤ B) (hg : C ≤ g) : Below C w w' := ⟨h.os, h.tape, h.output, h.size, fun k hk => h.block k (by omega) (by omega) (by omega)⟩
theorem butv_below {B g : Nat} {a w w' : World} (h : ButV B g g a w) (hb : Below B w w') : ButV B g g a w' :=
  h.trans ⟨hb.os, hb.tape, hb.output, hb.size, fun k hk _ _ => hb.block k hk⟩
end Go.Proofs.Ytfcokdkbjajohaa
/- What the statements need: a value in a row. -/
set_option linter.unusedVariables false
namespace Go.Proofs.Ytfcokdkbjajohaa
open Go.RowKit

theorem nd_cells {w : World} {a : Option Addr} {l : List ND} (h : RdC w a (l.flatMap ndCell)) (j : Nat) (hj : j < l.length) :
    ∃ b off, a = some ⟨b, off, none⟩ ∧ w.cell? ⟨b, off + j * 5, none⟩ = some (.int .i64 l[j].kind) ∧ w.cell? ⟨b, off + j * 5 + 1, none⟩ = some (.int .i64 l[j].kids) ∧ w.cell? ⟨b, off + j * 5 + 2, none⟩ = some (.bool l[j].yes) ∧ w.cell? ⟨b, off + j * 5 + 3, none⟩ = some (.string ⟨l[j].text.toArray⟩) ∧ w.cell? ⟨b, off + j * 5 + 4, none⟩ = some (.string ⟨l[j].name.toArray⟩) := by
  have hg := fun i hi => flat_get ndCell 5 (fun _ => rfl) l j i hj hi
  rcases h with h | ⟨b, off, e, hc⟩
  · have := flat_len ndCell 5 (fun _ => rfl) l
    rw [h] at this
    simp only [List.length_nil] at this
    omega
  · exact ⟨b, off, e, hc _ _ (hg 0 (by decide)), hc _ _ (hg 1 (by decide)), hc _ _ (hg 2 (by decide)), hc _ _ (hg 3 (by decide)), hc _ _ (hg 4 (by decide))⟩
theorem stored_other (w : World) (gv : Nat) (a b c d e : Value) {k : Nat} (h : k ≠ gv) :
    (((((w.setCell ⟨gv, 0, none⟩ a).setCell ⟨gv, 1, none⟩ b).setCell ⟨gv, 2, none⟩ c).setCell ⟨gv, 3, none⟩ d).setCell ⟨gv, 4, none⟩ e).heap[k]? = w.heap[k]? := by
  rw [Below.heap_setCell _ _ _ _ h, Below.heap_setCell _ _ _ _ h, Below.heap_setCell _ _ _ _ h, Below.heap_setCell _ _ _ _ h, Below.heap_setCell _ _ _ _ h]
set_option maxRecDepth 100000 in
set_option maxHeartbeats 64000000 in
theorem treeval_any (a : Option Addr) (c : Nat) (l : List ND) (w : World) (hr : RdC w a (l.flatMap ndCell)) (hlen : l.length ≤ 9223372036854775807) :
    Calls Try.prog 5 #[.slice a l.length c] w fun e w' => Below w.heap.size w w' ∧ ∃ cs, e = .returned (.tuple #[.agg cs.toArray, .bool (treeV l).isSome]) ∧ Rep (w.heap.size ≤ ·) w' cs ((treeV l).getD .zero) := by
  have HR := Lib.hid hr
  have HTV : Hid (treeV l = if l.length ≤ 40 ∧ l.all shortN = true then (treeOpen l).getLast?.map Prod.snd else none) := Lib.hid rfl
  clear hr
  go_enter Try.func5, Try.ntmps5
  go_upto_region 1 with (fail)
  generalize hw1 : w.alloc _ = w1
  have hb1 : Below w.heap.size w w1 := by rw [← hw1]; exact (Below.refl _ _).alloc (Nat.le_refl _) _
  have hx1 : w1.heap[w.heap.size]? = some (.cells zero5.toArray 28 (0, 0)) := by rw [← hw1]; exact heap_alloc_new _ _
  have hs1 : w.heap.size < w1.heap.size := by rw [← hw1]; simp
  have HB1 := Lib.hid hb1
  have HX1 := Lib.hid hx1
  have HR1 := Lib.hid (HR.out.below hb1)
  clear hw1 hb1 hx1
  by_cases hl : l.length ≤ 40
  · have hlI : ¬ (40 : Int) < (l.length : Int) := by omega
    go_wp2_with fail
    go_loopg [4, 18] l.length (fun k ov iv wr => ∃ (j : Nat) (rv : Value) (cm : List (List Value)), rv = ov ∧ iv = .int .i64 (j : Int) ∧ j + k = l.length ∧ (treeOpen (l.take j)).length ≤ j ∧ Hid ((l.take j).all shortN = true) ∧ Hid (wr.ownsRow w1.heap.size 38 6 rv (treeOpen (l.take j)).length (memCells (treeOpen (l.take j)) cm)) ∧ Hid (RepsM (fun b => w1.heap.size ≤ b ∧ rv.ownBlock ≠ some b) wr cm (treeOpen (l.take j))) ∧ Hid (Below w1.heap.size w1 wr))
    case atStart => exact ⟨0, _, [], rfl, rfl, by omega, by simp [treeOpen], Lib.hid rfl, Lib.hid (World.ownsRow_nil _ _ _ _), Lib.hid (RepsM.nil _ _), Lib.hid (Below.refl _ _)⟩
    case round =>
      obtain ⟨j, rv, cm, rfl, rfl, hj, hol, HSH, HW, HRM, HB⟩ := hrel
      obtain ⟨wo, rfl⟩ : ∃ x : World, x = wr := ⟨_, rfl⟩
      obtain ⟨gO, rfl⟩ : ∃ x : Nat, x = gk := ⟨_, rfl⟩
      have hszB : w1.heap.size ≤ wo.heap.size := HB.out.size
      obtain ⟨ro, rc, hrv, hro, hrc⟩ := RdC.of_own HW.out
      subst hrv
      have HRO := Lib.hid hro
      clear hro
      by_cases hlt : j < l.length
      · have hltI : (j : Int) < (l.length : Int) := by omega
        obtain ⟨nb, noff, ea, n0, n1, n2, n3, n4⟩ := nd_cells (HR1.out.below HB.out) j hlt
        subst ea
        have HTS := Lib.hid (open_take hlt)
        have HALL : Hid ((l.take (j + 1)).all shortN = ((l.take j).all shortN && shortN l[j])) := Lib.hid (by rw [List.take_succ_eq_append_getElem hlt, List.all_append]; simp)
        have HNO : Hid (shortN l[j] = false → treeV l = none) := Lib.hid (fun hf => by
          rw [HTV.out, if_neg]
          rintro ⟨_, hall⟩
          rw [List.all_eq_true.1 hall _ (List.getElem_mem hlt)] at hf
          cases hf)
        generalize l[j] = x at *
        obtain ⟨xk, xn, xy, xt, xm⟩ := x
        simp only at n0 n1 n2 n3 n4
        generalize treeOpen (l.take j) = o at *
        go_upto_region 7 with (fail)
        generalize hw2 : wo.alloc _ = w2
        have hb2 : Below wo.heap.size wo w2 := by rw [← hw2]; exact (Below.refl _ _).alloc (Nat.le_refl _) _
        have hx2 : w2.heap[wo.heap.size]? = some (.cells #[.int .i64 xk, .int .i64 xn, .bool xy, .string ⟨xt.toArray⟩, .string ⟨xm.toArray⟩] 46 (0, 0)) := by rw [← hw2]; exact heap_alloc_new _ _
        have hs2 : wo.heap.size < w2.heap.size := by rw [← hw2]; simp
        have HB2 := Lib.hid (HB.out.trans (hb2.mono hszB))
        have HX2 := Lib.hid hx2
        have HBX2 := Lib.hid hb2
        have HRZ := Lib.hid ((HB2.out.block w.heap.size (by omega)).trans HX1.out)
        have HBW := Lib.hid (HB1.out.trans (HB2.out.mono (by omega)))
        have HW2 := Lib.hid (own_below HW.out hb2)
        have HRM2 := Lib.hid (HRM.out.lt.keep fun b hb _ => hb2.block b hb.2)
        clear hw2 hb2 hx2 n0 n1 n2 n3 n4
        have m0 : w2.cell? ⟨wo.heap.size, 0, none⟩ = some (.int .i64 xk) := by rw [Lib.cell_of_heap HX2.out]; rfl
        have m1 : w2.cell? ⟨wo.heap.size, 1, none⟩ = some (.int .i64 xn) := by rw [Lib.cell_of_heap HX2.out]; rfl
        have m2 : w2.cell? ⟨wo.heap.size, 2, none⟩ = some (.bool xy) := by rw [Lib.cell_of_heap HX2.out]; rfl
        have m3 : w2.cell? ⟨wo.heap.size, 3, none⟩ = some (.string ⟨xt.toArray⟩) := by rw [Lib.cell_of_heap HX2.out]; rfl
        have m4 : w2.cell? ⟨wo.heap.size, 4, none⟩ = some (.string ⟨xm.toArray⟩) := by rw [Lib.cell_of_heap HX2.out]; rfl
        by_cases s1 : xt.length ≤ 100
        case neg =>
          have s1I : (100 : Int) < (xt.length : Int) := by omega
          have HNN : Hid (treeV l = none) := Lib.hid (HNO.out (by unfold shortN; simp only [decide_eq_false s1, Bool.false_and]))
          have d0 : w2.cell? ⟨w.heap.size, 0, none⟩ = some (.int .i64 0) := by rw [Lib.cell_of_heap HRZ.out]; rfl
          have d1 : w2.cell? ⟨w.heap.size, 1, none⟩ = some (.bool false) := by rw [Lib.cell_of_heap HRZ.out]; rfl
          have d2 : w2.cell? ⟨w.heap.size, 2, none⟩ = some (.string ⟨#[]⟩) := by rw [Lib.cell_of_heap HRZ.out]; rfl
          have d3 : w2.cell? ⟨w.heap.size, 3, none⟩ = some (.slice none 0 0) := by rw [Lib.cell_of_heap HRZ.out]; rfl
          have d4 : w2.cell? ⟨w.heap.size, 4, none⟩ = some (.slice none 0 0) := by rw [Lib.cell_of_heap HRZ.out]; rfl
          have f0 := Lib.frozen_of_heap HRZ.out 0
          have f1 := Lib.frozen_of_heap HRZ.out 1
          have f2 := Lib.frozen_of_heap HRZ.out 2
          have f3 := Lib.frozen_of_heap HRZ.out 3
          have f4 := Lib.frozen_of_heap HRZ.out 4
          go_wp2_with fail
          have hst := value_stored HRZ.out (.int .i64 0) (.bool false) (.string ⟨#[]⟩) (.slice none 0 0) (.slice none 0 0)
          have hbe := zero_stored HBW.out (Nat.le_refl _) (.int .i64 0) (.bool false) (.string ⟨#[]⟩) (.slice none 0 0) (.slice none 0 0)
          have e0 := Lib.cell_of_heap hst 0
          have e1 := Lib.cell_of_heap hst 1
          have e2 := Lib.cell_of_heap hst 2
          have e3 := Lib.cell_of_heap hst 3
          have e4 := Lib.cell_of_heap hst 4
          simp only [List.getElem?_toArray] at e0 e1 e2 e3 e4
          refine bodyPost_ret (v := .tuple #[.agg #[.int .i64 0, .bool false, .string ⟨#[]⟩, .slice none 0 0, .slice none 0 0], .bool false]) (by simp [results, Try.results5, go_sem, e0, e1, e2, e3, e4]) rfl ?_
          exact ⟨hbe, zero5, by rw [HNN.out]; rfl, by rw [HNN.out]; exact Rep.leaf _ _ 0 false []⟩
        by_cases s2 : xm.length ≤ 60
        case neg =>
          have s1I : ¬ (100 : Int) < (xt.length : Int) := by omega
          have s2I : (60 : Int) < (xm.length : Int) := by omega
          have HNN : Hid (treeV l = none) := Lib.hid (HNO.out (by unfold shortN; simp only [decide_eq_false s2, Bool.and_false]))
          have d0 : w2.cell? ⟨w.heap.size, 0, none⟩ = some (.int .i64 0) := by rw [Lib.cell_of_heap HRZ.out]; rfl
          have d1 : w2.cell? ⟨w.heap.size, 1, none⟩ = some (.bool false) := by rw [Lib.cell_of_heap HRZ.out]; rfl
          have d2 : w2.cell? ⟨w.heap.size, 2, none⟩ = some (.string ⟨#[]⟩) := by rw [Lib.cell_of_heap HRZ.out]; rfl
          have d3 : w2.cell? ⟨w.heap.size, 3, none⟩ = some (.slice none 0 0) := by rw [Lib.cell_of_heap HRZ.out]; rfl
          have d4 : w2.cell? ⟨w.heap.size, 4, none⟩ = some (.slice none 0 0) := by rw [Lib.cell_of_heap HRZ.out]; rfl
          have f0 := Lib.frozen_of_heap HRZ.out 0
          have f1 := Lib.frozen_of_heap HRZ.out 1
          have f2 := Lib.frozen_of_heap HRZ.out 2
          have f3 := Lib.frozen_of_heap HRZ.out 3
          have f4 := Lib.frozen_of_heap HRZ.out 4
          go_wp2_with fail
          have hst := value_stored HRZ.out (.int .i64 0) (.bool false) (.string ⟨#[]⟩) (.slice none 0 0) (.slice none 0 0)
          have hbe := zero_stored HBW.out (Nat.le_refl _) (.int .i64 0) (.bool false) (.string ⟨#[]⟩) (.slice none 0 0) (.slice none 0 0)
          have e0 := Lib.cell_of_heap hst 0
          have e1 := Lib.cell_of_heap hst 1
          have e2 := Lib.cell_of_heap hst 2
          have e3 := Lib.cell_of_heap hst 3
          have e4 := Lib.cell_of_heap hst 4
          simp only [List.getElem?_toArray] at e0 e1 e2 e3 e4
          refine bodyPost_ret (v := .tuple #[.agg #[.int .i64 0, .bool false, .string ⟨#[]⟩, .slice none 0 0, .slice none 0 0], .bool false]) (by simp [results, Try.results5, go_sem, e0, e1, e2, e3, e4]) rfl ?_
          exact ⟨hbe, zero5, by rw [HNN.out]; rfl, by rw [HNN.out]; exact Rep.leaf _ _ 0 false []⟩
        have s1I : ¬ (100 : Int) < (xt.length : Int) := by omega
        have s2I : ¬ (60 : Int) < (xm.length : Int) := by omega
        have HSN : Hid (shortN ⟨xk, xn, xy, xt, xm⟩ = true) := Lib.hid (by unfold shortN; simp only [decide_eq_true s1, decide_eq_true s2, Bool.and_self])
        go_upto_region 10 with (fail)
        generalize hw3 : w2.alloc _ = w3
        have hb3 : Below w2.heap.size w2 w3 := by rw [← hw3]; exact (Below.refl _ _).alloc (Nat.le_refl _) _
        have hx3 : w3.heap[w2.heap.size]? = some (.cells #[.int .i64 xk, .bool xy, .string ⟨xt.toArray⟩, .slice none 0 0, .slice none 0 0] 28 (0, 0)) := by rw [← hw3]; exact heap_alloc_new _ _
        have hs3 : w2.heap.size < w3.heap.size := by rw [← hw3]; simp
        have HB3 := Lib.hid (HB2.out.trans (hb3.mono (by omega)))
        have HX3 := Lib.hid hx3
        have HBX3 := Lib.hid (show Below wo.heap.size wo w3 from HBX2.out.trans (hb3.mono (by omega)))
        have HXN := Lib.hid ((hb3.block _ (by omega)).trans HX2.out)
        have HW3 := Lib.hid (own_below HW2.out hb3)
        have HRM3 := Lib.hid (HRM2.out.lt.keep fun b hb _ => hb3.block b hb.2)
        clear hw3 hb3 hx3 m0 m1 m2 m3 m4
        have m0 : w3.cell? ⟨wo.heap.size, 0, none⟩ = some (.int .i64 xk) := by rw [Lib.cell_of_heap HXN.out]; rfl
        have m1 : w3.cell? ⟨wo.heap.size, 1, none⟩ = some (.int .i64 xn) := by rw [Lib.cell_of_heap HXN.out]; rfl
        obtain ⟨n, hn⟩ : ∃ n, cutN ⟨xk, xn, xy, xt, xm⟩ o.length = n := ⟨_, rfl⟩
        have hno : n ≤ o.length := by rw [← hn]; exact (cutN_le _ _).1
        have hn6 : n ≤ 6 := by rw [← hn]; exact (cutN_le _ _).2
        have HN := Lib.hid hn
        have HOB : Hid (∀ b, (Value.slice ro o.length rc).ownBlock = some b → b < wo.heap.size) := Lib.hid fun b hb => (HW.out.lt b hb).2
        have hcs : xk = 5 ∨ xk = 6 ∨ (xk ≠ 5 ∧ xk ≠ 6) := by omega
        unfold cutN kidsN at hn
        obtain ⟨q, hq⟩ : ∃ q, o.length - n = q := ⟨_, rfl⟩
        have hqI : (o.length : Int) - (n : Int) = (q : Int) := by omega
        rcases hcs with hk5 | hk6 | ⟨hk5, hk6⟩
        · subst hk5
          rw [if_pos (.inl rfl)] at hn
          simp only at hn
          have hnn : (if (6 : Int) < (if (o.length : Int) < max xn 0 then (o.length : Int) else max xn 0) then (6 : Int) else if (o.length : Int) < max xn 0 then (o.length : Int) else max xn 0) = (n : Int) := by split <;> split <;> omega
          have hqn : o.length - q = n := by omega
          go_upto_region 14 with (fail)
          try simp only [hqn]
          have HKR := Lib.hid (kids_rd (q := q) HRO.out HRM.out.1 (reps_rows HRM.out) (by omega) hrc)
          generalize (if rc = q then ro else Option.map (fun x => x.add (q * 6)) ro) = KA at *
          have hdl : (o.drop q).length = n := by rw [List.length_drop]; exact hqn
          have HKM := Lib.hid (HRM.out.drop q)
          clear hnn m0 m1
          go_wp2_with fail
          go_loopg [62] n (fun k iv wr => ∃ (i : Nat) (LV : Value), iv = .int .i64 (i : Int) ∧ i + k = n ∧ Hid (wr.heap[w2.heap.size]? = some (.cells #[.int .i64 5, .bool xy, .string ⟨xt.toArray⟩, LV, .slice none 0 0] 28 (0, 0))) ∧ Hid (wr.ownsRow w3.heap.size 28 5 LV i (((cm.drop q).take i).flatten)) ∧ Hid (ButV w3.heap.size w2.heap.size w2.heap.size w3 wr))
          case atStart => exact ⟨0, .slice none 0 0, rfl, by omega, HX3, Lib.hid (by simpa [memCells] using World.ownsRow_nil _ _ _ _), Lib.hid (ButV.refl _ _ _ _)⟩
          case round =>
            obtain ⟨i, LV, rfl, hi, HVB, HLV, HBV⟩ := hrel
            have hsz2 : w3.heap.size ≤ wr.heap.size := HBV.out.size
            by_cases hin : i < n
            · have hinI : (i : Int) < (n : Int) := by omega
              have HBR := Lib.hid (show Below wo.heap.size wo wr from HBX3.out.trans (below_butv HBV.out (by omega) (by omega)))
              obtain ⟨kb, koff, k2, y2, t2, a2, l2, c2, a3, l3, c3, eka, hcmi, g0, g1, g2, g3, g4, g5⟩ := mem_row (HKR.out.below HBR.out) (HKM.out.lt.keep fun b hb _ => HBR.out.block b hb.2) i (by omega)
              subst eka
              have HROW : Hid (((cm.drop q).take (i + 1)).flatten = ((cm.drop q).take i).flatten ++ (#[.int .i64 k2, .bool y2, .string ⟨t2⟩, .slice a2 l2 c2, .slice a3 l3 c3]).toList) := Lib.hid (by
                rw [List.take_succ_eq_append_getElem (by rw [HKM.out.1]; omega), List.flatten_append]
                rw [List.getElem?_eq_getElem (by rw [HKM.out.1]; omega)] at hcmi
                simp only [Option.some.injEq] at hcmi
                rw [hcmi]
                simp)
              generalize ((o.drop q)[i]'(by omega)).1 = nm at *
              go_upto_region 17 with (fail)
              generalize hw4 : wr.alloc _ = w4
              have hb4 : Below wr.heap.size wr w4 := by rw [← hw4]; exact (Below.refl _ _).alloc (Nat.le_refl _) _
              have hx4 : w4.heap[wr.heap.size]? = some (.cells #[.string ⟨nm.toArray⟩, .int .i64 k2, .bool y2, .string ⟨t2⟩, .slice a2 l2 c2, .slice a3 l3 c3] 38 (0, 0)) := by rw [← hw4]; exact heap_alloc_new _ _
              have hs4 : wr.heap.size < w4.heap.size := by rw [← hw4]; simp
              have HBV4 := Lib.hid (butv_below HBV.out (hb4.mono hsz2))
              have HVB4 := Lib.hid ((hb4.block _ (by omega)).trans HVB.out)
              have HLV4 := Lib.hid (own_below HLV.out hb4)
              have HNB4 := Lib.hid ((HBV4.out.block wo.heap.size (by omega) (by omega) (by omega)).trans HXN.out)
              clear hw4 hb4 g0 g1 g2 g3 g4 g5
              have m0 : w4.cell? ⟨wo.heap.size, 0, none⟩ = some (.int .i64 5) := by rw [Lib.cell_of_heap HNB4.out]; rfl
              have z : w4.cell? ⟨w2.heap.size, 3, none⟩ = some LV := by rw [Lib.cell_of_heap HVB4.out]; rfl
              have x0 : w4.cell? ⟨wr.heap.size, 0, none⟩ = some (.string ⟨nm.toArray⟩) := by rw [Lib.cell_of_heap hx4]; rfl
              have x1 : w4.cell? ⟨wr.heap.size, 1, none⟩ = some (.int .i64 k2) := by rw [Lib.cell_of_heap hx4]; rfl
              have x2 : w4.cell? ⟨wr.heap.size, 2, none⟩ = some (.bool y2) := by rw [Lib.cell_of_heap hx4]; rfl
              have x3 : w4.cell? ⟨wr.heap.size, 3, none⟩ = some (.string ⟨t2⟩) := by rw [Lib.cell_of_heap hx4]; rfl
              have x4 : w4.cell? ⟨wr.heap.size, 4, none⟩ = some (.slice a2 l2 c2) := by rw [Lib.cell_of_heap hx4]; rfl
              have x5 : w4.cell? ⟨wr.heap.size, 5, none⟩ = some (.slice a3 l3 c3) := by rw [Lib.cell_of_heap hx4]; rfl
              clear hx4
              go_wp2_with (at_builtin; refine wpList_append_at rfl (.tmp 70) (.tmp 73) 25 rfl w3.heap.size 28 5 80 Try.underlying25 (by kernel_rfl) (by decide) LV i _ rfl (HLV4.out.alloc _) w4.heap.size 1 #[.int .i64 k2, .bool y2, .string ⟨t2⟩, .slice a2 l2 c2, .slice a3 l3 c3] 28 (0, 0) (heap_alloc_new _ _) rfl rfl ?c2 ?c3 ?c4 ?c5 ?_)
              case c2 => exact ⟨rfl, rfl, rfl, rfl, rfl⟩
              case c3 => omega
              case c4 => omega
              case c5 => omega
              intro v' w6 hown' hgrow _
              obtain ⟨va, vc, hva, -, -⟩ := RdC.of_own hown'
              subst hva
              have hBg : Below w3.heap.size w4 w6 := below_own ((Below.refl _ _).alloc (by omega) _) (HLV4.out.alloc _) hgrow (by simp; omega)
              have hvb6 := (hBg.block w2.heap.size (by omega)).trans HVB4.out
              have HBV6 := Lib.hid (butv_below HBV4.out hBg)
              have zc : w6.cell? ⟨w2.heap.size, 3, none⟩ = some LV := by rw [Lib.cell_of_heap hvb6]; rfl
              have zf := Lib.frozen_of_heap hvb6 3
              have HVB7 := Lib.hid (setCell_block hvb6 (o := 3) (v := .slice va (i + 1) vc))
              have hbut : But w2.heap.size w6 (w6.setCell ⟨w2.heap.size, 3, none⟩ (.slice va (i + 1) vc)) := But.setCell _ _ _ _
              have HLV7 := Lib.hid (own_butg hown' hbut (by omega))
              have HBV7 := Lib.hid (HBV6.out.trans ⟨hbut.os, hbut.tape, hbut.output, hbut.size, fun k hk h1 _ => hbut.block k (by have := HBV6.out.size; omega) h1⟩)
              clear hown' hgrow hBg hvb6 hbut m0 z x0 x1 x2 x3 x4 x5
              go_wp2_with fail
              go_roundg (gk - 1)
              case measure => omega
              case rel => exact ⟨i + 1, .slice va (i + 1) vc, by first | rfl | (congr 1), by omega, Lib.hid (by have := HVB7.out; simpa using this), Lib.hid (by rw [HROW.out]; exact HLV7.out), HBV7⟩
            · have hinI : ¬ (i : Int) < (n : Int) := by omega
              obtain rfl : i = n := by omega
              have HBRE := Lib.hid (show Below wo.heap.size wo wr from HBX3.out.trans (below_butv HBV.out (by omega) (by omega)))
              obtain ⟨la, lc, hLV, hld, hlc⟩ := own_rdo HLV.out
              subst hLV
              have HRP : Hid (Rep (fun b => w1.heap.size ≤ b ∧ (Value.slice ro o.length rc).ownBlock ≠ some b) wr [.int .i64 5, .bool xy, strV xt, .slice la i lc, .slice none 0 0] (nodeJ ⟨5, xn, xy, xt, xm⟩ (o.drop q))) := Lib.hid (by
                have hfl : (cm.drop q).take i = cm.drop q := List.take_of_length_le (by rw [HKM.out.1]; omega)
                rw [hfl] at hld
                have hkids := HKM.out.lt.keep fun b hb _ => (show wr.heap[b]? = wo.heap[b]? from HBRE.out.block b hb.2)
                have := rep_of (k := 5) (y := xy) (t := xt) (l := (o.drop q).map Prod.snd) (m := []) (c := lc) (c' := 0) (a' := none) (cm := []) (ok := fun b => w1.heap.size ≤ b ∧ (Value.slice ro o.length rc).ownBlock ≠ some b) (hld.mono fun b hb => ⟨by omega, fun e => by have := HOB.out b e; omega⟩) (RepsM.snd (hkids.mono fun b hb => hb.1)) (.inl rfl) (RepsM.nil _ _) (by rw [List.length_map]; omega) (Nat.le_refl _)
                unfold nodeJ
                rw [if_pos rfl, if_pos rfl]
                rw [List.length_map, hdl] at this
                exact this)
              have HNB8 := Lib.hid ((HBV.out.block wo.heap.size (by omega) (by omega) (by omega)).trans HXN.out)
              have HVB8 := Lib.hid HVB.out
              have HTQ : Hid (treeOpen (l.take (j + 1)) = o.take q ++ [(xm, nodeJ ⟨5, xn, xy, xt, xm⟩ (o.drop q))]) := Lib.hid (by
                rw [HTS.out]
                unfold treeStep
                rw [HN.out, hq])
              have HW8 := Lib.hid (own_cut (own_below HW.out HBRE.out) q (by omega))
              have HRT := Lib.hid ((HRM.out.lt.keep fun b hb _ => (HBRE.out).block b hb.2).take q)
              have HB8 := Lib.hid (HB.out.trans ((HBRE.out).mono hszB))
              have hsz8 : w1.heap.size ≤ wr.heap.size := HB8.out.size
              go_upto_region 21 with (fail)
              refine wp_region_grow_tail 11 (by kernel_rfl) (by kernel_rfl) (by decide) (by kernel_rfl) [83, 84, 85, 86, 87, 88, 89, 90, 91, 92, 93] rfl (by decide) (by kernel_rfl) (fun iX => [VIs (Value.slice ro o.length rc), VIs (Value.slice ro o.length rc), VIs (Value.int .i64 ((o.length : Nat) : Int)), VIs (Value.int .i64 ((i : Nat) : Int)), VIs (Value.int .i64 ((q : Nat) : Int)), VIs (Value.slice ro q rc), VIs (Value.pointer (some ⟨wo.heap.size, 4, none⟩)), VIs (Value.string ⟨xm.toArray⟩), VIs (Value.agg #[.int .i64 5, .bool xy, .string ⟨xt.toArray⟩, .slice la i lc, .slice none 0 0]), VIs (Value.agg #[.string ⟨xm.toArray⟩, .int .i64 5, .bool xy, .string ⟨xt.toArray⟩, .slice la i lc, .slice none 0 0]), VM #[.string ⟨xm.toArray⟩, .int .i64 5, .bool xy, .string ⟨xt.toArray⟩, .slice la i lc, .slice none 0 0]].getD iX fun _ _ => True) (stab_list _ ?_) ?_ ?_
              · skip
                intro V hV
                simp only [List.mem_cons, List.mem_nil_iff, or_false] at hV
                rcases hV with rfl | rfl | rfl | rfl | rfl | rfl | rfl | rfl | rfl | rfl | rfl <;> first | exact VIs.stab _ | exact VM.stab _
              · intro iX op ho ax w' hf hb hd
                rcases iX with _ | _ | _ | _ | _ | _ | _ | _ | _ | _ | _ | iX
                · cases ho
                  refine grow_op rfl rfl rfl (grow_move rfl ?_)
                  exact (hf.same 4 (by decide)).trans rfl
                · cases ho
                  refine grow_op rfl rfl rfl (grow_move rfl ?_)
                  exact (hf.same 4 (by decide)).trans rfl
                · cases ho
                  refine grow_op rfl rfl rfl ?_
                  have e1 : ax.tmps.getD 84 undef = .slice ro o.length rc := hd 1 (by kernel_rfl)
                  refine grow_value (v := Value.int .i64 ((o.length : Nat) : Int)) (w' := w') ?_ rfl (Below.refl _ _)
                  simp only [execOp, resolve, invoke, builtin]
                  go_simp
                · cases ho
                  refine grow_op rfl rfl rfl (grow_move rfl ?_)
                  exact (hf.same 8 (by decide)).trans rfl
                · cases ho
                  refine grow_op rfl rfl rfl ?_
                  have e2 : ax.tmps.getD 85 undef = Value.int .i64 ((o.length : Nat) : Int) := hd 2 (by kernel_rfl)
                  have e3 : ax.tmps.getD 86 undef = Value.int .i64 ((i : Nat) : Int) := hd 3 (by kernel_rfl)
                  refine grow_value (v := Value.int .i64 ((q : Nat) : Int)) (w' := w') ?_ rfl (Below.refl _ _)
                  simp only [execOp, Act.eval, e2, e3]
                  go_simp
                  first | exact IntWalk.i64_in _ (by omega) | (rw [IntWalk.i64_in _ (by omega)]; omega)
                · cases ho
                  refine grow_op rfl rfl rfl ?_
                  have e0 : ax.tmps.getD 83 undef = .slice ro o.length rc := hd 0 (by kernel_rfl)
                  have e4 : ax.tmps.getD 87 undef = Value.int .i64 ((q : Nat) : Int) := hd 4 (by kernel_rfl)
                  refine grow_value (v := Value.slice ro q rc) (w' := w') ?_ rfl (Below.refl _ _)
                  simp only [execOp, Act.eval, e0]
                  go_simp
                  try (intro hx; omega)
                · cases ho
                  refine grow_op rfl rfl rfl ?_
                  have e6 : ax.tmps.getD 6 undef = .pointer (some ⟨wo.heap.size, 0, none⟩) := (hf.same 6 (by decide)).trans rfl
                  refine grow_value (v := Value.pointer (some ⟨wo.heap.size, 4, none⟩)) (w' := w') ?_ rfl (Below.refl _ _)
                  simp only [execOp, Act.eval, e6]
                  go_simp
                · cases ho
                  refine grow_op rfl rfl rfl ?_
                  have e6 : ax.tmps.getD 89 undef = Value.pointer (some ⟨wo.heap.size, 4, none⟩) := hd 6 (by kernel_rfl)
                  have c4 : w'.cell? ⟨wo.heap.size, 4, none⟩ = some (.string ⟨xm.toArray⟩) := by rw [Lib.cell_of_heap ((hb.block _ (by omega)).trans HNB8.out)]; rfl
                  refine grow_value (v := Value.string ⟨xm.toArray⟩) (w' := w') ?_ rfl (Below.refl _ _)
                  simp only [execOp, Act.eval, e6]
                  go_simp
                · cases ho
                  refine grow_op rfl rfl rfl ?_
                  have e7 : ax.tmps.getD 7 undef = .pointer (some ⟨w2.heap.size, 0, none⟩) := (hf.same 7 (by decide)).trans (by first | rfl | rw [hs2])
                  have hvb := (hb.block _ (by omega)).trans HVB8.out
                  have c0 : w'.cell? ⟨w2.heap.size, 0, none⟩ = some (.int .i64 5) := by rw [Lib.cell_of_heap hvb]; rfl
                  have c1 : w'.cell? ⟨w2.heap.size, 1, none⟩ = some (.bool xy) := by rw [Lib.cell_of_heap hvb]; rfl
                  have c2 : w'.cell? ⟨w2.heap.size, 2, none⟩ = some (.string ⟨xt.toArray⟩) := by rw [Lib.cell_of_heap hvb]; rfl
                  have c3 : w'.cell? ⟨w2.heap.size, 3, none⟩ = some (.slice la i lc) := by rw [Lib.cell_of_heap hvb]; rfl
                  have c4 : w'.cell? ⟨w2.heap.size, 4, none⟩ = some (.slice none 0 0) := by rw [Lib.cell_of_heap hvb]; rfl
                  refine grow_value (v := Value.agg #[.int .i64 5, .bool xy, .string ⟨xt.toArray⟩, .slice la i lc, .slice none 0 0]) (w' := w') ?_ rfl (Below.refl _ _)
                  simp only [execOp, Act.eval, e7]
                  go_simp
                · cases ho
                  refine grow_op rfl rfl rfl ?_
                  have e7 : ax.tmps.getD 90 undef = Value.string ⟨xm.toArray⟩ := hd 7 (by kernel_rfl)
                  have e8 : ax.tmps.getD 91 undef = Value.agg #[.int .i64 5, .bool xy, .string ⟨xt.toArray⟩, .slice la i lc, .slice none 0 0] := hd 8 (by kernel_rfl)
                  refine grow_value (v := Value.agg #[.string ⟨xm.toArray⟩, .int .i64 5, .bool xy, .string ⟨xt.toArray⟩, .slice la i lc, .slice none 0 0]) (w' := w') ?_ rfl (Below.refl _ _)
                  simp only [execOp, Act.eval, List.map_toArray, List.map_cons, List.map_nil, e7, e8]
                  go_simp
                  try rfl
                · cases ho
                  refine grow_op rfl rfl rfl ?_
                  have e9 : ax.tmps.getD 92 undef = Value.agg #[.string ⟨xm.toArray⟩, .int .i64 5, .bool xy, .string ⟨xt.toArray⟩, .slice la i lc, .slice none 0 0] := hd 9 (by kernel_rfl)
                  refine grow_value (v := .slice (some ⟨w'.heap.size, 0, none⟩) 1 1) (w' := w'.alloc (.cells #[.string ⟨xm.toArray⟩, .int .i64 5, .bool xy, .string ⟨xt.toArray⟩, .slice la i lc, .slice none 0 0] 38)) ?_ ⟨_, rfl, heap_alloc_new _ _⟩ ((Below.refl _ _).alloc (Nat.le_refl _) _)
                  simp only [execOp, Act.eval, List.map_toArray, List.map_cons, List.map_nil, e9]
                  go_simp
                  try rfl
                · simp at ho
              · intro ax w' hf hb hd
                obtain ⟨gb, hv93, hbk⟩ := hd 10 (by decide)
                obtain rfl := hf.eq [Value.slice ro o.length rc, Value.slice ro o.length rc, Value.int .i64 ((o.length : Nat) : Int), Value.int .i64 ((i : Nat) : Int), Value.int .i64 ((q : Nat) : Int), Value.slice ro q rc, Value.pointer (some ⟨wo.heap.size, 4, none⟩), Value.string ⟨xm.toArray⟩, Value.agg #[.int .i64 5, .bool xy, .string ⟨xt.toArray⟩, .slice la i lc, .slice none 0 0], Value.agg #[.string ⟨xm.toArray⟩, .int .i64 5, .bool xy, .string ⟨xt.toArray⟩, .slice la i lc, .slice none 0 0], Value.slice (some ⟨gb, 0, none⟩) 1 1] (fun j hj => match j, hj with
                  | 0, _ => hd 0 (by decide)
                  | 1, _ => hd 1 (by decide)
                  | 2, _ => hd 2 (by decide)
                  | 3, _ => hd 3 (by decide)
                  | 4, _ => hd 4 (by decide)
                  | 5, _ => hd 5 (by decide)
                  | 6, _ => hd 6 (by decide)
                  | 7, _ => hd 7 (by decide)
                  | 8, _ => hd 8 (by decide)
                  | 9, _ => hd 9 (by decide)
                  | 10, _ => hv93
                  | k + 11, h => absurd h (by simp)) (by decide) (by kernel_rfl) rfl
                simp only [List.zip_cons_cons, List.zip_nil_right, List.foldl_cons, List.foldl_nil, Act.put, List.setIfInBounds_toArray, List.set_cons_succ, List.set_cons_zero]
                have HW9 := Lib.hid (own_below HW8.out hb)
                have HB9 := Lib.hid (HB8.out.trans (hb.mono hsz8))
                have HRT9 := Lib.hid (HRT.out.lt.keep fun b hb' _ => hb.block b hb'.2)
                have HRP9 := Lib.hid (HRP.out.lt.keep fun b hb' _ => hb.block b hb'.2)
                have HG9 := Lib.hid hbk
                have hsz9 : wr.heap.size ≤ w'.heap.size := hb.size
                clear hd hf hb hbk hv93
                (refine wpList_append_at rfl (.tmp 88) (.tmp 93) 26 rfl w1.heap.size 38 6 96 Try.underlying26 (by kernel_rfl) (by decide) (.slice ro q rc) q _ rfl HW9.out gb 1 #[.string ⟨xm.toArray⟩, .int .i64 5, .bool xy, .string ⟨xt.toArray⟩, .slice la i lc, .slice none 0 0] 38 (0, 0) HG9.out rfl rfl ?c2 ?c3 ?c4 ?c5 ?_)
                case c2 => intro u hu; simp at hu; rcases hu with rfl | rfl | rfl | rfl | rfl | rfl <;> rfl
                case c3 => omega
                case c4 => omega
                case c5 => omega
                intro v' w9 hown' hgrow hinfo
                have HOWN : Hid (w9.ownsRow w1.heap.size 38 6 v' (treeOpen (l.take (j + 1))).length (memCells (treeOpen (l.take (j + 1))) (cm.take q ++ [[.int .i64 5, .bool xy, strV xt, .slice la i lc, .slice none 0 0]]))) := Lib.hid (by
                  rw [HTQ.out, memCells_snoc _ _ _ _ _ (by simp [HRM.out.1]), memCells_take o cm q HRM.out.1 (reps_rows HRM.out)]
                  have e : (o.take q ++ [(xm, nodeJ ⟨5, xn, xy, xt, xm⟩ (o.drop q))]).length = q + 1 := by simp <;> omega
                  rw [e]
                  exact hown')
                have hkeep : ∀ b, b < w'.heap.size → (Value.slice ro q rc).ownBlock ≠ some b → w9.heap[b]? = w'.heap[b]? := fun b hb hne => hgrow.block b hb (fun e => hne e.symm)
                have hsame : (Value.slice ro q rc).ownBlock = (Value.slice ro o.length rc).ownBlock := by cases ro <;> rfl
                have hok : ∀ b, b < w'.heap.size → (Value.slice ro o.length rc).ownBlock ≠ some b → v'.ownBlock ≠ some b := by
                  intro b hb hne e
                  rcases hinfo with h | h
                  · rw [h, hsame] at e; exact hne e
                  · rw [h] at e; simp only [Option.some.injEq] at e; omega
                have HREPS : Hid (RepsM (fun b => w1.heap.size ≤ b ∧ v'.ownBlock ≠ some b) w9 (cm.take q ++ [[.int .i64 5, .bool xy, strV xt, .slice la i lc, .slice none 0 0]]) (treeOpen (l.take (j + 1)))) := Lib.hid (by
                  rw [HTQ.out]
                  refine RepsM.snoc ?_ ?_
                  · exact (HRT9.out.lt.keep fun b hb _ => hkeep b hb.2 (by rw [hsame]; exact hb.1.1.1.2)).mono fun b hb => ⟨hb.1.1.1.1, hok b hb.2 hb.1.1.1.2⟩
                  · exact (HRP9.out.lt.keep fun b hb _ => hkeep b hb.2 (by rw [hsame]; exact hb.1.1.2)).mono fun b hb => ⟨hb.1.1.1, hok b hb.2 hb.1.1.2⟩)
                have HBE := Lib.hid (below_own HB9.out HW9.out hgrow (by omega))
                have hlen9 : (treeOpen (l.take (j + 1))).length ≤ j + 1 := by rw [HTQ.out]; simp <;> omega
                have HALL2 : Hid ((l.take (j + 1)).all shortN = true) := Lib.hid (by rw [HALL.out, HSH.out, HSN.out]; rfl)
                clear hown' hgrow hinfo hkeep hok
                go_wp2_with fail
                go_roundg (gO - 1)
                case measure => omega
                case rel => exact ⟨j + 1, v', _, rfl, by first | rfl | (congr 1), by omega, hlen9, HALL2, HOWN, HREPS, HBE⟩
        · subst hk6
          rw [if_pos (.inr rfl)] at hn
          simp only at hn
          have hnn : (if (6 : Int) < (if (o.length : Int) < max xn 0 then (o.length : Int) else max xn 0) then (6 : Int) else if (o.length : Int) < max xn 0 then (o.length : Int) else max xn 0) = (n : Int) := by split <;> split <;> omega
          have hqn : o.length - q = n := by omega
          go_upto_region 14 with (fail)
          try simp only [hqn]
          have HKR := Lib.hid (kids_rd (q := q) HRO.out HRM.out.1 (reps_rows HRM.out) (by omega) hrc)
          generalize (if rc = q then ro else Option.map (fun x => x.add (q * 6)) ro) = KA at *
          have hdl : (o.drop q).length = n := by rw [List.length_drop]; exact hqn
          have HKM := Lib.hid (HRM.out.drop q)
          clear hnn m0 m1
          go_wp2_with fail
          go_loopg [62] n (fun k iv wr => ∃ (i : Nat) (LV : Value), iv = .int .i64 (i : Int) ∧ i + k = n ∧ Hid (wr.heap[w2.heap.size]? = some (.cells #[.int .i64 6, .bool xy, .string ⟨xt.toArray⟩, .slice none 0 0, LV] 28 (0, 0))) ∧ Hid (wr.ownsRow w3.heap.size 38 6 LV i (memCells ((o.drop q).take i) ((cm.drop q).take i))) ∧ Hid (ButV w3.heap.size w2.heap.size w2.heap.size w3 wr))
          case atStart => exact ⟨0, .slice none 0 0, rfl, by omega, HX3, Lib.hid (by simpa [memCells] using World.ownsRow_nil _ _ _ _), Lib.hid (ButV.refl _ _ _ _)⟩
          case round =>
            obtain ⟨i, LV, rfl, hi, HVB, HLV, HBV⟩ := hrel
            have hsz2 : w3.heap.size ≤ wr.heap.size := HBV.out.size
            by_cases hin : i < n
            · have hinI : (i : Int) < (n : Int) := by omega
              have HBR := Lib.hid (show Below wo.heap.size wo wr from HBX3.out.trans (below_butv HBV.out (by omega) (by omega)))
              obtain ⟨kb, koff, k2, y2, t2, a2, l2, c2, a3, l3, c3, eka, hcmi, g0, g1, g2, g3, g4, g5⟩ := mem_row (HKR.out.below HBR.out) (HKM.out.lt.keep fun b hb _ => HBR.out.block b hb.2) i (by omega)
              subst eka
              have HROW : Hid (memCells ((o.drop q).take (i + 1)) ((cm.drop q).take (i + 1)) = memCells ((o.drop q).take i) ((cm.drop q).take i) ++ (#[.string ⟨((o.drop q)[i]'(by omega)).1.toArray⟩, .int .i64 k2, .bool y2, .string ⟨t2⟩, .slice a2 l2 c2, .slice a3 l3 c3]).toList) := Lib.hid (by
                rw [List.take_succ_eq_append_getElem (by omega), List.take_succ_eq_append_getElem (by rw [HKM.out.1]; omega), memCells_snoc _ _ _ _ _ (by simp [HKM.out.1])]
                rw [List.getElem?_eq_getElem (by rw [HKM.out.1]; omega)] at hcmi
                simp only [Option.some.injEq] at hcmi
                rw [hcmi]
                rfl)
              generalize ((o.drop q)[i]'(by omega)).1 = nm at *
              go_upto_region 17 with (fail)
              generalize hw4 : wr.alloc _ = w4
              have hb4 : Below wr.heap.size wr w4 := by rw [← hw4]; exact (Below.refl _ _).alloc (Nat.le_refl _) _
              have hx4 : w4.heap[wr.heap.size]? = some (.cells #[.string ⟨nm.toArray⟩, .int .i64 k2, .bool y2, .string ⟨t2⟩, .slice a2 l2 c2, .slice a3 l3 c3] 38 (0, 0)) := by rw [← hw4]; exact heap_alloc_new _ _
              have hs4 : wr.heap.size < w4.heap.size := by rw [← hw4]; simp
              have HBV4 := Lib.hid (butv_below HBV.out (hb4.mono hsz2))
              have HVB4 := Lib.hid ((hb4.block _ (by omega)).trans HVB.out)
              have HLV4 := Lib.hid (own_below HLV.out hb4)
              have HNB4 := Lib.hid ((HBV4.out.block wo.heap.size (by omega) (by omega) (by omega)).trans HXN.out)
              clear hw4 hb4 g0 g1 g2 g3 g4 g5
              have m0 : w4.cell? ⟨wo.heap.size, 0, none⟩ = some (.int .i64 6) := by rw [Lib.cell_of_heap HNB4.out]; rfl
              have z : w4.cell? ⟨w2.heap.size, 4, none⟩ = some LV := by rw [Lib.cell_of_heap HVB4.out]; rfl
              have x0 : w4.cell? ⟨wr.heap.size, 0, none⟩ = some (.string ⟨nm.toArray⟩) := by rw [Lib.cell_of_heap hx4]; rfl
              have x1 : w4.cell? ⟨wr.heap.size, 1, none⟩ = some (.int .i64 k2) := by rw [Lib.cell_of_heap hx4]; rfl
              have x2 : w4.cell? ⟨wr.heap.size, 2, none⟩ = some (.bool y2) := by rw [Lib.cell_of_heap hx4]; rfl
              have x3 : w4.cell? ⟨wr.heap.size, 3, none⟩ = some (.string ⟨t2⟩) := by rw [Lib.cell_of_heap hx4]; rfl
              have x4 : w4.cell? ⟨wr.heap.size, 4, none⟩ = some (.slice a2 l2 c2) := by rw [Lib.cell_of_heap hx4]; rfl
              have x5 : w4.cell? ⟨wr.heap.size, 5, none⟩ = some (.slice a3 l3 c3) := by rw [Lib.cell_of_heap hx4]; rfl
              clear hx4
              go_wp2_with (at_builtin; refine wpList_append_at rfl (.tmp 77) (.tmp 79) 26 rfl w3.heap.size 38 6 96 Try.underlying26 (by kernel_rfl) (by decide) LV i _ rfl (HLV4.out.alloc _) w4.heap.size 1 #[.string ⟨nm.toArray⟩, .int .i64 k2, .bool y2, .string ⟨t2⟩, .slice a2 l2 c2, .slice a3 l3 c3] 38 (0, 0) (heap_alloc_new _ _) rfl rfl ?c2 ?c3 ?c4 ?c5 ?_)
              case c2 => exact ⟨rfl, rfl, rfl, rfl, rfl, rfl⟩
              case c3 => omega
              case c4 => omega
              case c5 => omega
              intro v' w6 hown' hgrow _
              obtain ⟨va, vc, hva, -, -⟩ := RdC.of_own hown'
              subst hva
              have hBg : Below w3.heap.size w4 w6 := below_own ((Below.refl _ _).alloc (by omega) _) (HLV4.out.alloc _) hgrow (by simp; omega)
              have hvb6 := (hBg.block w2.heap.size (by omega)).trans HVB4.out
              have HBV6 := Lib.hid (butv_below HBV4.out hBg)
              have zc : w6.cell? ⟨w2.heap.size, 4, none⟩ = some LV := by rw [Lib.cell_of_heap hvb6]; rfl
              have zf := Lib.frozen_of_heap hvb6 4
              have HVB7 := Lib.hid (setCell_block hvb6 (o := 4) (v := .slice va (i + 1) vc))
              have hbut : But w2.heap.size w6 (w6.setCell ⟨w2.heap.size, 4, none⟩ (.slice va (i + 1) vc)) := But.setCell _ _ _ _
              have HLV7 := Lib.hid (own_butg hown' hbut (by omega))
              have HBV7 := Lib.hid (HBV6.out.trans ⟨hbut.os, hbut.tape, hbut.output, hbut.size, fun k hk h1 _ => hbut.block k (by have := HBV6.out.size; omega) h1⟩)
              clear hown' hgrow hBg hvb6 hbut m0 z x0 x1 x2 x3 x4 x5
              go_wp2_with fail
              go_roundg (gk - 1)
              case measure => omega
              case rel => exact ⟨i + 1, .slice va (i + 1) vc, by first | rfl | (congr 1), by omega, Lib.hid (by have := HVB7.out; simpa using this), Lib.hid (by rw [HROW.out]; exact HLV7.out), HBV7⟩
            · have hinI : ¬ (i : Int) < (n : Int) := by omega
              obtain rfl : i = n := by omega
              have HBRE := Lib.hid (show Below wo.heap.size wo wr from HBX3.out.trans (below_butv HBV.out (by omega) (by omega)))
              obtain ⟨la, lc, hLV, hld, hlc⟩ := own_rdo HLV.out
              subst hLV
              have HRP : Hid (Rep (fun b => w1.heap.size ≤ b ∧ (Value.slice ro o.length rc).ownBlock ≠ some b) wr [.int .i64 6, .bool xy, strV xt, .slice none 0 0, .slice la i lc] (nodeJ ⟨6, xn, xy, xt, xm⟩ (o.drop q))) := Lib.hid (by
                have hfl : (cm.drop q).take i = cm.drop q := List.take_of_length_le (by rw [HKM.out.1]; omega)
                have hfo : (o.drop q).take i = o.drop q := List.take_of_length_le (by omega)
                rw [hfl, hfo] at hld
                have hkids := HKM.out.lt.keep fun b hb _ => (show wr.heap[b]? = wo.heap[b]? from HBRE.out.block b hb.2)
                have := rep_of (k := 6) (y := xy) (t := xt) (l := []) (m := o.drop q) (c := 0) (c' := lc) (a := none) (cl := []) (ok := fun b => w1.heap.size ≤ b ∧ (Value.slice ro o.length rc).ownBlock ≠ some b) (.inl rfl) (Reps.nil _ _) (hld.mono fun b hb => ⟨by omega, fun e => by have := HOB.out b e; omega⟩) (hkids.mono fun b hb => hb.1) (Nat.le_refl _) (by omega)
                unfold nodeJ
                rw [if_neg (show ¬ (6 : Int) = 5 by decide), if_neg (show ¬ (6 : Int) = 5 by decide)]
                rw [hdl] at this
                exact this)
              have HNB8 := Lib.hid ((HBV.out.block wo.heap.size (by omega) (by omega) (by omega)).trans HXN.out)
              have HVB8 := Lib.hid HVB.out
              have HTQ : Hid (treeOpen (l.take (j + 1)) = o.take q ++ [(xm, nodeJ ⟨6, xn, xy, xt, xm⟩ (o.drop q))]) := Lib.hid (by
                rw [HTS.out]
                unfold treeStep
                rw [HN.out, hq])
              have HW8 := Lib.hid (own_cut (own_below HW.out HBRE.out) q (by omega))
              have HRT := Lib.hid ((HRM.out.lt.keep fun b hb _ => (HBRE.out).block b hb.2).take q)
              have HB8 := Lib.hid (HB.out.trans ((HBRE.out).mono hszB))
              have hsz8 : w1.heap.size ≤ wr.heap.size := HB8.out.size
              go_upto_region 21 with (fail)
              refine wp_region_grow_tail 11 (by kernel_rfl) (by kernel_rfl) (by decide) (by kernel_rfl) [83, 84, 85, 86, 87, 88, 89, 90, 91, 92, 93] rfl (by decide) (by kernel_rfl) (fun iX => [VIs (Value.slice ro o.length rc), VIs (Value.slice ro o.length rc), VIs (Value.int .i64 ((o.length : Nat) : Int)), VIs (Value.int .i64 ((i : Nat) : Int)), VIs (Value.int .i64 ((q : Nat) : Int)), VIs (Value.slice ro q rc), VIs (Value.pointer (some ⟨wo.heap.size, 4, none⟩)), VIs (Value.string ⟨xm.toArray⟩), VIs (Value.agg #[.int .i64 6, .bool xy, .string ⟨xt.toArray⟩, .slice none 0 0, .slice la i lc]), VIs (Value.agg #[.string ⟨xm.toArray⟩, .int .i64 6, .bool xy, .string ⟨xt.toArray⟩, .slice none 0 0, .slice la i lc]), VM #[.string ⟨xm.toArray⟩, .int .i64 6, .bool xy, .string ⟨xt.toArray⟩, .slice none 0 0, .slice la i lc]].getD iX fun _ _ => True) (stab_list _ ?_) ?_ ?_
              · skip
                intro V hV
                simp only [List.mem_cons, List.mem_nil_iff, or_false] at hV
                rcases hV with rfl | rfl | rfl | rfl | rfl | rfl | rfl | rfl | rfl | rfl | rfl <;> first | exact VIs.stab _ | exact VM.stab _
              · intro iX op ho ax w' hf hb hd
                rcases iX with _ | _ | _ | _ | _ | _ | _ | _ | _ | _ | _ | iX
                · cases ho
                  refine grow_op rfl rfl rfl (grow_move rfl ?_)
                  exact (hf.same 4 (by decide)).trans rfl
                · cases ho
                  refine grow_op rfl rfl rfl (grow_move rfl ?_)
                  exact (hf.same 4 (by decide)).trans rfl
                · cases ho
                  refine grow_op rfl rfl rfl ?_
                  have e1 : ax.tmps.getD 84 undef = .slice ro o.length rc := hd 1 (by kernel_rfl)
                  refine grow_value (v := Value.int .i64 ((o.length : Nat) : Int)) (w' := w') ?_ rfl (Below.refl _ _)
                  simp only [execOp, resolve, invoke, builtin]
                  go_simp
                · cases ho
                  refine grow_op rfl rfl rfl (grow_move rfl ?_)
                  exact (hf.same 8 (by decide)).trans rfl
                · cases ho
                  refine grow_op rfl rfl rfl ?_
                  have e2 : ax.tmps.getD 85 undef = Value.int .i64 ((o.length : Nat) : Int) := hd 2 (by kernel_rfl)
                  have e3 : ax.tmps.getD 86 undef = Value.int .i64 ((i : Nat) : Int) := hd 3 (by kernel_rfl)
                  refine grow_value (v := Value.int .i64 ((q : Nat) : Int)) (w' := w') ?_ rfl (Below.refl _ _)
                  simp only [execOp, Act.eval, e2, e3]
                  go_simp
                  first | exact IntWalk.i64_in _ (by omega) | (rw [IntWalk.i64_in _ (by omega)]; omega)
                · cases ho
                  refine grow_op rfl rfl rfl ?_
                  have e0 : ax.tmps.getD 83 undef = .slice ro o.length rc := hd 0 (by kernel_rfl)
                  have e4 : ax.tmps.getD 87 undef = Value.int .i64 ((q : Nat) : Int) := hd 4 (by kernel_rfl)
                  refine grow_value (v := Value.slice ro q rc) (w' := w') ?_ rfl (Below.refl _ _)
                  simp only [execOp, Act.eval, e0]
                  go_simp
                  try (intro hx; omega)
                · cases ho
                  refine grow_op rfl rfl rfl ?_
                  have e6 : ax.tmps.getD 6 undef = .pointer (some ⟨wo.heap.size, 0, none⟩) := (hf.same 6 (by decide)).trans rfl
                  refine grow_value (v := Value.pointer (some ⟨wo.heap.size, 4, none⟩)) (w' := w') ?_ rfl (Below.refl _ _)
                  simp only [execOp, Act.eval, e6]
                  go_simp
                · cases ho
                  refine grow_op rfl rfl rfl ?_
                  have e6 : ax.tmps.getD 89 undef = Value.pointer (some ⟨wo.heap.size, 4, none⟩) := hd 6 (by kernel_rfl)
                  have c4 : w'.cell? ⟨wo.heap.size, 4, none⟩ = some (.string ⟨xm.toArray⟩) := by rw [Lib.cell_of_heap ((hb.block _ (by omega)).trans HNB8.out)]; rfl
                  refine grow_value (v := Value.string ⟨xm.toArray⟩) (w' := w') ?_ rfl (Below.refl _ _)
                  simp only [execOp, Act.eval, e6]
                  go_simp
                · cases ho
                  refine grow_op rfl rfl rfl ?_
                  have e7 : ax.tmps.getD 7 undef = .pointer (some ⟨w2.heap.size, 0, none⟩) := (hf.same 7 (by decide)).trans (by first | rfl | rw [hs2])
                  have hvb := (hb.block _ (by omega)).trans HVB8.out
                  have c0 : w'.cell? ⟨w2.heap.size, 0, none⟩ = some (.int .i64 6) := by rw [Lib.cell_of_heap hvb]; rfl
                  have c1 : w'.cell? ⟨w2.heap.size, 1, none⟩ = some (.bool xy) := by rw [Lib.cell_of_heap hvb]; rfl
                  have c2 : w'.cell? ⟨w2.heap.size, 2, none⟩ = some (.string ⟨xt.toArray⟩) := by rw [Lib.cell_of_heap hvb]; rfl
                  have c3 : w'.cell? ⟨w2.heap.size, 3, none⟩ = some (.slice none 0 0) := by rw [Lib.cell_of_heap hvb]; rfl
                  have c4 : w'.cell? ⟨w2.heap.size, 4, none⟩ = some (.slice la i lc) := by rw [Lib.cell_of_heap hvb]; rfl
                  refine grow_value (v := Value.agg #[.int .i64 6, .bool xy, .string ⟨xt.toArray⟩, .slice none 0 0, .slice la i lc]) (w' := w') ?_ rfl (Below.refl _ _)
                  simp only [execOp, Act.eval, e7]
                  go_simp
                · cases ho
                  refine grow_op rfl rfl rfl ?_
                  have e7 : ax.tmps.getD 90 undef = Value.string ⟨xm.toArray⟩ := hd 7 (by kernel_rfl)
                  have e8 : ax.tmps.getD 91 undef = Value.agg #[.int .i64 6, .bool xy, .string ⟨xt.toArray⟩, .slice none 0 0, .slice la i lc] := hd 8 (by kernel_rfl)
                  refine grow_value (v := Value.agg #[.string ⟨xm.toArray⟩, .int .i64 6, .bool xy, .string ⟨xt.toArray⟩, .slice none 0 0, .slice la i lc]) (w' := w') ?_ rfl (Below.refl _ _)
                  simp only [execOp, Act.eval, List.map_toArray, List.map_cons, List.map_nil, e7, e8]
                  go_simp
                  try rfl
                · cases ho
                  refine grow_op rfl rfl rfl ?_
                  have e9 : ax.tmps.getD 92 undef = Value.agg #[.string ⟨xm.toArray⟩, .int .i64 6, .bool xy, .string ⟨xt.toArray⟩, .slice none 0 0, .slice la i lc] := hd 9 (by kernel_rfl)
                  refine grow_value (v := .slice (some ⟨w'.heap.size, 0, none⟩) 1 1) (w' := w'.alloc (.cells #[.string ⟨xm.toArray⟩, .int .i64 6, .bool xy, .string ⟨xt.toArray⟩, .slice none 0 0, .slice la i lc] 38)) ?_ ⟨_, rfl, heap_alloc_new _ _⟩ ((Below.refl _ _).alloc (Nat.le_refl _) _)
                  simp only [execOp, Act.eval, List.map_toArray, List.map_cons, List.map_nil, e9]
                  go_simp
                  try rfl
                · simp at ho
              · intro ax w' hf hb hd
                obtain ⟨gb, hv93, hbk⟩ := hd 10 (by decide)
                obtain rfl := hf.eq [Value.slice ro o.length rc, Value.slice ro o.length rc, Value.int .i64 ((o.length : Nat) : Int), Value.int .i64 ((i : Nat) : Int), Value.int .i64 ((q : Nat) : Int), Value.slice ro q rc, Value.pointer (some ⟨wo.heap.size, 4, none⟩), Value.string ⟨xm.toArray⟩, Value.agg #[.int .i64 6, .bool xy, .string ⟨xt.toArray⟩, .slice none 0 0, .slice la i lc], Value.agg #[.string ⟨xm.toArray⟩, .int .i64 6, .bool xy, .string ⟨xt.toArray⟩, .slice none 0 0, .slice la i lc], Value.slice (some ⟨gb, 0, none⟩) 1 1] (fun j hj => match j, hj with
                  | 0, _ => hd 0 (by decide)
                  | 1, _ => hd 1 (by decide)
                  | 2, _ => hd 2 (by decide)
                  | 3, _ => hd 3 (by decide)
                  | 4, _ => hd 4 (by decide)
                  | 5, _ => hd 5 (by decide)
                  | 6, _ => hd 6 (by decide)
                  | 7, _ => hd 7 (by decide)
                  | 8, _ => hd 8 (by decide)
                  | 9, _ => hd 9 (by decide)
                  | 10, _ => hv93
                  | k + 11, h => absurd h (by simp)) (by decide) (by kernel_rfl) rfl
                simp only [List.zip_cons_cons, List.zip_nil_right, List.foldl_cons, List.foldl_nil, Act.put, List.setIfInBounds_toArray, List.set_cons_succ, List.set_cons_zero]
                have HW9 := Lib.hid (own_below HW8.out hb)
                have HB9 := Lib.hid (HB8.out.trans (hb.mono hsz8))
                have HRT9 := Lib.hid (HRT.out.lt.keep fun b hb' _ => hb.block b hb'.2)
                have HRP9 := Lib.hid (HRP.out.lt.keep fun b hb' _ => hb.block b hb'.2)
                have HG9 := Lib.hid hbk
                have hsz9 : wr.heap.size ≤ w'.heap.size := hb.size
                clear hd hf hb hbk hv93
                (refine wpList_append_at rfl (.tmp 88) (.tmp 93) 26 rfl w1.heap.size 38 6 96 Try.underlying26 (by kernel_rfl) (by decide) (.slice ro q rc) q _ rfl HW9.out gb 1 #[.string ⟨xm.toArray⟩, .int .i64 6, .bool xy, .string ⟨xt.toArray⟩, .slice none 0 0, .slice la i lc] 38 (0, 0) HG9.out rfl rfl ?c2 ?c3 ?c4 ?c5 ?_)
                case c2 => intro u hu; simp at hu; rcases hu with rfl | rfl | rfl | rfl | rfl | rfl <;> rfl
                case c3 => omega
                case c4 => omega
                case c5 => omega
                intro v' w9 hown' hgrow hinfo
                have HOWN : Hid (w9.ownsRow w1.heap.size 38 6 v' (treeOpen (l.take (j + 1))).length (memCells (treeOpen (l.take (j + 1))) (cm.take q ++ [[.int .i64 6, .bool xy, strV xt, .slice none 0 0, .slice la i lc]]))) := Lib.hid (by
                  rw [HTQ.out, memCells_snoc _ _ _ _ _ (by simp [HRM.out.1]), memCells_take o cm q HRM.out.1 (reps_rows HRM.out)]
                  have e : (o.take q ++ [(xm, nodeJ ⟨6, xn, xy, xt, xm⟩ (o.drop q))]).length = q + 1 := by simp <;> omega
                  rw [e]
                  exact hown')
                have hkeep : ∀ b, b < w'.heap.size → (Value.slice ro q rc).ownBlock ≠ some b → w9.heap[b]? = w'.heap[b]? := fun b hb hne => hgrow.block b hb (fun e => hne e.symm)
                have hsame : (Value.slice ro q rc).ownBlock = (Value.slice ro o.length rc).ownBlock := by cases ro <;> rfl
                have hok : ∀ b, b < w'.heap.size → (Value.slice ro o.length rc).ownBlock ≠ some b → v'.ownBlock ≠ some b := by
                  intro b hb hne e
                  rcases hinfo with h | h
                  · rw [h, hsame] at e; exact hne e
                  · rw [h] at e; simp only [Option.some.injEq] at e; omega
                have HREPS : Hid (RepsM (fun b => w1.heap.size ≤ b ∧ v'.ownBlock ≠ some b) w9 (cm.take q ++ [[.int .i64 6, .bool xy, strV xt, .slice none 0 0, .slice la i lc]]) (treeOpen (l.take (j + 1)))) := Lib.hid (by
                  rw [HTQ.out]
                  refine RepsM.snoc ?_ ?_
                  · exact (HRT9.out.lt.keep fun b hb _ => hkeep b hb.2 (by rw [hsame]; exact hb.1.1.1.2)).mono fun b hb => ⟨hb.1.1.1.1, hok b hb.2 hb.1.1.1.2⟩
                  · exact (HRP9.out.lt.keep fun b hb _ => hkeep b hb.2 (by rw [hsame]; exact hb.1.1.2)).mono fun b hb => ⟨hb.1.1.1, hok b hb.2 hb.1.1.2⟩)
                have HBE := Lib.hid (below_own HB9.out HW9.out hgrow (by omega))
                have hlen9 : (treeOpen (l.take (j + 1))).length ≤ j + 1 := by rw [HTQ.out]; simp <;> omega
                have HALL2 : Hid ((l.take (j + 1)).all shortN = true) := Lib.hid (by rw [HALL.out, HSH.out, HSN.out]; rfl)
                clear hown' hgrow hinfo hkeep hok
                go_wp2_with fail
                go_roundg (gO - 1)
                case measure => omega
                case rel => exact ⟨j + 1, v', _, rfl, by first | rfl | (congr 1), by omega, hlen9, HALL2, HOWN, HREPS, HBE⟩
        · have q5 : (xk == 5) = false := by simpa using hk5
          have q6 : (xk == 6) = false := by simpa using hk6
          rw [if_neg (by rintro (e | e); exact hk5 e; exact hk6 e)] at hn
          subst hn
          clear hq hqI q
          go_upto_region 14 with (fail)
          try simp only [Nat.sub_self]
          generalize (if rc = o.length then ro else Option.map (fun x => x.add (o.length * 6)) ro) = KA at *
          clear m0 m1
          go_wp2_with fail
          go_loopg [62] 0 (fun k iv wr => iv = .int .i64 0 ∧ wr = w3)
          case atStart => exact ⟨rfl, rfl⟩
          case round =>
            obtain ⟨rfl, rfl⟩ := hrel
            have HRP : Hid (Rep (fun b => w1.heap.size ≤ b ∧ (Value.slice ro o.length rc).ownBlock ≠ some b) wr [.int .i64 xk, .bool xy, strV xt, .slice none 0 0, .slice none 0 0] (nodeJ ⟨xk, xn, xy, xt, xm⟩ (o.drop o.length))) := Lib.hid (by
              rw [List.drop_of_length_le (Nat.le_refl _)]
              unfold nodeJ
              rw [if_neg hk5, if_neg hk5]
              exact Rep.leaf _ _ xk xy xt)
            have HNB8 := Lib.hid HXN.out
            have HVB8 := Lib.hid HX3.out
            have HTQ : Hid (treeOpen (l.take (j + 1)) = o.take o.length ++ [(xm, nodeJ ⟨xk, xn, xy, xt, xm⟩ (o.drop o.length))]) := Lib.hid (by
              rw [HTS.out]
              unfold treeStep
              rw [HN.out, Nat.sub_zero])
            have HW8 := Lib.hid (own_cut (own_below HW.out HBX3.out) o.length (by omega))
            have HRT := Lib.hid ((HRM.out.lt.keep fun b hb _ => (HBX3.out).block b hb.2).take o.length)
            have HB8 := Lib.hid (HB.out.trans ((HBX3.out).mono hszB))
            have hsz8 : w1.heap.size ≤ wr.heap.size := HB8.out.size
            go_upto_region 21 with (fail)
            refine wp_region_grow_tail 11 (by kernel_rfl) (by kernel_rfl) (by decide) (by kernel_rfl) [83, 84, 85, 86, 87, 88, 89, 90, 91, 92, 93] rfl (by decide) (by kernel_rfl) (fun iX => [VIs (Value.slice ro o.length rc), VIs (Value.slice ro o.length rc), VIs (Value.int .i64 ((o.length : Nat) : Int)), VIs (Value.int .i64 ((0 : Nat) : Int)), VIs (Value.int .i64 ((o.length : Nat) : Int)), VIs (Value.slice ro o.length rc), VIs (Value.pointer (some ⟨wo.heap.size, 4, none⟩)), VIs (Value.string ⟨xm.toArray⟩), VIs (Value.agg #[.int .i64 xk, .bool xy, .string ⟨xt.toArray⟩, .slice none 0 0, .slice none 0 0]), VIs (Value.agg #[.string ⟨xm.toArray⟩, .int .i64 xk, .bool xy, .string ⟨xt.toArray⟩, .slice none 0 0, .slice none 0 0]), VM #[.string ⟨xm.toArray⟩, .int .i64 xk, .bool xy, .string ⟨xt.toArray⟩, .slice none 0 0, .slice none 0 0]].getD iX fun _ _ => True) (stab_list _ ?_) ?_ ?_
            · skip
              intro V hV
              simp only [List.mem_cons, List.mem_nil_iff, or_false] at hV
              rcases hV with rfl | rfl | rfl | rfl | rfl | rfl | rfl | rfl | rfl | rfl | rfl <;> first | exact VIs.stab _ | exact VM.stab _
            · intro iX op ho ax w' hf hb hd
              rcases iX with _ | _ | _ | _ | _ | _ | _ | _ | _ | _ | _ | iX
              · cases ho
                refine grow_op rfl rfl rfl (grow_move rfl ?_)
                exact (hf.same 4 (by decide)).trans rfl
              · cases ho
                refine grow_op rfl rfl rfl (grow_move rfl ?_)
                exact (hf.same 4 (by decide)).trans rfl
              · cases ho
                refine grow_op rfl rfl rfl ?_
                have e1 : ax.tmps.getD 84 undef = .slice ro o.length rc := hd 1 (by kernel_rfl)
                refine grow_value (v := Value.int .i64 ((o.length : Nat) : Int)) (w' := w') ?_ rfl (Below.refl _ _)
                simp only [execOp, resolve, invoke, builtin]
                go_simp
              · cases ho
                refine grow_op rfl rfl rfl (grow_move rfl ?_)
                exact (hf.same 8 (by decide)).trans rfl
              · cases ho
                refine grow_op rfl rfl rfl ?_
                have e2 : ax.tmps.getD 85 undef = Value.int .i64 ((o.length : Nat) : Int) := hd 2 (by kernel_rfl)
                have e3 : ax.tmps.getD 86 undef = Value.int .i64 ((0 : Nat) : Int) := hd 3 (by kernel_rfl)
                refine grow_value (v := Value.int .i64 ((o.length : Nat) : Int)) (w' := w') ?_ rfl (Below.refl _ _)
                simp only [execOp, Act.eval, e2, e3]
                go_simp
                first | exact IntWalk.i64_in _ (by omega) | (rw [IntWalk.i64_in _ (by omega)]; omega)
              · cases ho
                refine grow_op rfl rfl rfl ?_
                have e0 : ax.tmps.getD 83 undef = .slice ro o.length rc := hd 0 (by kernel_rfl)
                have e4 : ax.tmps.getD 87 undef = Value.int .i64 ((o.length : Nat) : Int) := hd 4 (by kernel_rfl)
                refine grow_value (v := Value.slice ro o.length rc) (w' := w') ?_ rfl (Below.refl _ _)
                simp only [execOp, Act.eval, e0]
                go_simp
                try (intro hx; omega)
              · cases ho
                refine grow_op rfl rfl rfl ?_
                have e6 : ax.tmps.getD 6 undef = .pointer (some ⟨wo.heap.size, 0, none⟩) := (hf.same 6 (by decide)).trans rfl
                refine grow_value (v := Value.pointer (some ⟨wo.heap.size, 4, none⟩)) (w' := w') ?_ rfl (Below.refl _ _)
                simp only [execOp, Act.eval, e6]
                go_simp
              · cases ho
                refine grow_op rfl rfl rfl ?_
                have e6 : ax.tmps.getD 89 undef = Value.pointer (some ⟨wo.heap.size, 4, none⟩) := hd 6 (by kernel_rfl)
                have c4 : w'.cell? ⟨wo.heap.size, 4, none⟩ = some (.string ⟨xm.toArray⟩) := by rw [Lib.cell_of_heap ((hb.block _ (by omega)).trans HNB8.out)]; rfl
                refine grow_value (v := Value.string ⟨xm.toArray⟩) (w' := w') ?_ rfl (Below.refl _ _)
                simp only [execOp, Act.eval, e6]
                go_simp
              · cases ho
                refine grow_op rfl rfl rfl ?_
                have e7 : ax.tmps.getD 7 undef = .pointer (some ⟨w2.heap.size, 0, none⟩) := (hf.same 7 (by decide)).trans (by first | rfl | rw [hs2])
                have hvb := (hb.block _ (by omega)).trans HVB8.out
                have c0 : w'.cell? ⟨w2.heap.size, 0, none⟩ = some (.int .i64 xk) := by rw [Lib.cell_of_heap hvb]; rfl
                have c1 : w'.cell? ⟨w2.heap.size, 1, none⟩ = some (.bool xy) := by rw [Lib.cell_of_heap hvb]; rfl
                have c2 : w'.cell? ⟨w2.heap.size, 2, none⟩ = some (.string ⟨xt.toArray⟩) := by rw [Lib.cell_of_heap hvb]; rfl
                have c3 : w'.cell? ⟨w2.heap.size, 3, none⟩ = some (.slice none 0 0) := by rw [Lib.cell_of_heap hvb]; rfl
                have c4 : w'.cell? ⟨w2.heap.size, 4, none⟩ = some (.slice none 0 0) := by rw [Lib.cell_of_heap hvb]; rfl
                refine grow_value (v := Value.agg #[.int .i64 xk, .bool xy, .string ⟨xt.toArray⟩, .slice none 0 0, .slice none 0 0]) (w' := w') ?_ rfl (Below.refl _ _)
                simp only [execOp, Act.eval, e7]
                go_simp
              · cases ho
                refine grow_op rfl rfl rfl ?_
                have e7 : ax.tmps.getD 90 undef = Value.string ⟨xm.toArray⟩ := hd 7 (by kernel_rfl)
                have e8 : ax.tmps.getD 91 undef = Value.agg #[.int .i64 xk, .bool xy, .string ⟨xt.toArray⟩, .slice none 0 0, .slice none 0 0] := hd 8 (by kernel_rfl)
                refine grow_value (v := Value.agg #[.string ⟨xm.toArray⟩, .int .i64 xk, .bool xy, .string ⟨xt.toArray⟩, .slice none 0 0, .slice none 0 0]) (w' := w') ?_ rfl (Below.refl _ _)
                simp only [execOp, Act.eval, List.map_toArray, List.map_cons, List.map_nil, e7, e8]
                go_simp
                try rfl
              · cases ho
                refine grow_op rfl rfl rfl ?_
                have e9 : ax.tmps.getD 92 undef = Value.agg #[.string ⟨xm.toArray⟩, .int .i64 xk, .bool xy, .string ⟨xt.toArray⟩, .slice none 0 0, .slice none 0 0] := hd 9 (by kernel_rfl)
                refine grow_value (v := .slice (some ⟨w'.heap.size, 0, none⟩) 1 1) (w' := w'.alloc (.cells #[.string ⟨xm.toArray⟩, .int .i64 xk, .bool xy, .string ⟨xt.toArray⟩, .slice none 0 0, .slice none 0 0] 38)) ?_ ⟨_, rfl, heap_alloc_new _ _⟩ ((Below.refl _ _).alloc (Nat.le_refl _) _)
                simp only [execOp, Act.eval, List.map_toArray, List.map_cons, List.map_nil, e9]
                go_simp
                try rfl
              · simp at ho
            · intro ax w' hf hb hd
              obtain ⟨gb, hv93, hbk⟩ := hd 10 (by decide)
              obtain rfl := hf.eq [Value.slice ro o.length rc, Value.slice ro o.length rc, Value.int .i64 ((o.length : Nat) : Int), Value.int .i64 ((0 : Nat) : Int), Value.int .i64 ((o.length : Nat) : Int), Value.slice ro o.length rc, Value.pointer (some ⟨wo.heap.size, 4, none⟩), Value.string ⟨xm.toArray⟩, Value.agg #[.int .i64 xk, .bool xy, .string ⟨xt.toArray⟩, .slice none 0 0, .slice none 0 0], Value.agg #[.string ⟨xm.toArray⟩, .int .i64 xk, .bool xy, .string ⟨xt.toArray⟩, .slice none 0 0, .slice none 0 0], Value.slice (some ⟨gb, 0, none⟩) 1 1] (fun j hj => match j, hj with
                | 0, _ => hd 0 (by decide)
                | 1, _ => hd 1 (by decide)
                | 2, _ => hd 2 (by decide)
                | 3, _ => hd 3 (by decide)
                | 4, _ => hd 4 (by decide)
                | 5, _ => hd 5 (by decide)
                | 6, _ => hd 6 (by decide)
                | 7, _ => hd 7 (by decide)
                | 8, _ => hd 8 (by decide)
                | 9, _ => hd 9 (by decide)
                | 10, _ => hv93
                | k + 11, h => absurd h (by simp)) (by decide) (by kernel_rfl) rfl
              simp only [List.zip_cons_cons, List.zip_nil_right, List.foldl_cons, List.foldl_nil, Act.put, List.setIfInBounds_toArray, List.set_cons_succ, List.set_cons_zero]
              have HW9 := Lib.hid (own_below HW8.out hb)
              have HB9 := Lib.hid (HB8.out.trans (hb.mono hsz8))
              have HRT9 := Lib.hid (HRT.out.lt.keep fun b hb' _ => hb.block b hb'.2)
              have HRP9 := Lib.hid (HRP.out.lt.keep fun b hb' _ => hb.block b hb'.2)
              have HG9 := Lib.hid hbk
              have hsz9 : wr.heap.size ≤ w'.heap.size := hb.size
              clear hd hf hb hbk hv93
              (refine wpList_append_at rfl (.tmp 88) (.tmp 93) 26 rfl w1.heap.size 38 6 96 Try.underlying26 (by kernel_rfl) (by decide) (.slice ro o.length rc) o.length _ rfl HW9.out gb 1 #[.string ⟨xm.toArray⟩, .int .i64 xk, .bool xy, .string ⟨xt.toArray⟩, .slice none 0 0, .slice none 0 0] 38 (0, 0) HG9.out rfl rfl ?c2 ?c3 ?c4 ?c5 ?_)
              case c2 => intro u hu; simp at hu; rcases hu with rfl | rfl | rfl | rfl | rfl | rfl <;> rfl
              case c3 => omega
              case c4 => omega
              case c5 => omega
              intro v' w9 hown' hgrow hinfo
              have HOWN : Hid (w9.ownsRow w1.heap.size 38 6 v' (treeOpen (l.take (j + 1))).length (memCells (treeOpen (l.take (j + 1))) (cm.take o.length ++ [[.int .i64 xk, .bool xy, strV xt, .slice none 0 0, .slice none 0 0]]))) := Lib.hid (by
                rw [HTQ.out, memCells_snoc _ _ _ _ _ (by simp [HRM.out.1]), memCells_take o cm o.length HRM.out.1 (reps_rows HRM.out)]
                have e : (o.take o.length ++ [(xm, nodeJ ⟨xk, xn, xy, xt, xm⟩ (o.drop o.length))]).length = o.length + 1 := by simp <;> omega
                rw [e]
                exact hown')
              have hkeep : ∀ b, b < w'.heap.size → (Value.slice ro o.length rc).ownBlock ≠ some b → w9.heap[b]? = w'.heap[b]? := fun b hb hne => hgrow.block b hb (fun e => hne e.symm)
              have hsame : (Value.slice ro o.length rc).ownBlock = (Value.slice ro o.length rc).ownBlock := by cases ro <;> rfl
              have hok : ∀ b, b < w'.heap.size → (Value.slice ro o.length rc).ownBlock ≠ some b → v'.ownBlock ≠ some b := by
                intro b hb hne e
                rcases hinfo with h | h
                · rw [h, hsame] at e; exact hne e
                · rw [h] at e; simp only [Option.some.injEq] at e; omega
              have HREPS : Hid (RepsM (fun b => w1.heap.size ≤ b ∧ v'.ownBlock ≠ some b) w9 (cm.take o.length ++ [[.int .i64 xk, .bool xy, strV xt, .slice none 0 0, .slice none 0 0]]) (treeOpen (l.take (j + 1)))) := Lib.hid (by
                rw [HTQ.out]
                refine RepsM.snoc ?_ ?_
                · exact (HRT9.out.lt.keep fun b hb _ => hkeep b hb.2 (by rw [hsame]; exact hb.1.1.1.2)).mono fun b hb => ⟨hb.1.1.1.1, hok b hb.2 hb.1.1.1.2⟩
                · exact (HRP9.out.lt.keep fun b hb _ => hkeep b hb.2 (by rw [hsame]; exact hb.1.1.2)).mono fun b hb => ⟨hb.1.1.1, hok b hb.2 hb.1.1.2⟩)
              have HBE := Lib.hid (below_own HB9.out HW9.out hgrow (by omega))
              have hlen9 : (treeOpen (l.take (j + 1))).length ≤ j + 1 := by rw [HTQ.out]; simp <;> omega
              have HALL2 : Hid ((l.take (j + 1)).all shortN = true) := Lib.hid (by rw [HALL.out, HSH.out, HSN.out]; rfl)
              clear hown' hgrow hinfo hkeep hok
              go_wp2_with fail
              go_roundg (gO - 1)
              case measure => omega
              case rel => exact ⟨j + 1, v', _, rfl, by first | rfl | (congr 1), by omega, hlen9, HALL2, HOWN, HREPS, HBE⟩
      · have hge : ¬ (j : Int) < (l.length : Int) := by omega
        obtain rfl : j = l.length := by omega
        have hta : l.take l.length = l := List.take_of_length_le (Nat.le_refl _)
        have HTV2 : Hid (treeV l = (treeOpen (l.take l.length)).getLast?.map Prod.snd) := Lib.hid (by
          have h1 := HSH.out
          rw [hta] at h1
          rw [HTV.out, if_pos ⟨hl, h1⟩, hta])
        generalize treeOpen (l.take l.length) = o at *
        clear hta
        have HBW := Lib.hid (HB1.out.trans (HB.out.mono (by omega)))
        have HRZ := Lib.hid ((HB.out.block w.heap.size (by omega)).trans HX1.out)
        by_cases ho : o.length = 0
        · have HNN : Hid (treeV l = none) := Lib.hid (by
            rw [HTV2.out, List.eq_nil_of_length_eq_zero ho]; rfl)
          have hoI : ((o.length : Int) == 0) = true := by rw [ho]; rfl
          clear ho
          have d0 : wo.cell? ⟨w.heap.size, 0, none⟩ = some (.int .i64 0) := by rw [Lib.cell_of_heap HRZ.out]; rfl
          have d1 : wo.cell? ⟨w.heap.size, 1, none⟩ = some (.bool false) := by rw [Lib.cell_of_heap HRZ.out]; rfl
          have d2 : wo.cell? ⟨w.heap.size, 2, none⟩ = some (.string ⟨#[]⟩) := by rw [Lib.cell_of_heap HRZ.out]; rfl
          have d3 : wo.cell? ⟨w.heap.size, 3, none⟩ = some (.slice none 0 0) := by rw [Lib.cell_of_heap HRZ.out]; rfl
          have d4 : wo.cell? ⟨w.heap.size, 4, none⟩ = some (.slice none 0 0) := by rw [Lib.cell_of_heap HRZ.out]; rfl
          have f0 := Lib.frozen_of_heap HRZ.out 0
          have f1 := Lib.frozen_of_heap HRZ.out 1
          have f2 := Lib.frozen_of_heap HRZ.out 2
          have f3 := Lib.frozen_of_heap HRZ.out 3
          have f4 := Lib.frozen_of_heap HRZ.out 4
          go_wp2_with fail
          have hst := value_stored HRZ.out (.int .i64 0) (.bool false) (.string ⟨#[]⟩) (.slice none 0 0) (.slice none 0 0)
          have hbe := zero_stored HBW.out (Nat.le_refl _) (.int .i64 0) (.bool false) (.string ⟨#[]⟩) (.slice none 0 0) (.slice none 0 0)
          have e0 := Lib.cell_of_heap hst 0
          have e1 := Lib.cell_of_heap hst 1
          have e2 := Lib.cell_of_heap hst 2
          have e3 := Lib.cell_of_heap hst 3
          have e4 := Lib.cell_of_heap hst 4
          simp only [List.getElem?_toArray] at e0 e1 e2 e3 e4
          refine bodyPost_ret (v := .tuple #[.agg #[.int .i64 0, .bool false, .string ⟨#[]⟩, .slice none 0 0, .slice none 0 0], .bool false]) (by simp [results, Try.results5, go_sem, e0, e1, e2, e3, e4]) rfl ?_
          exact ⟨hbe, zero5, by rw [HNN.out]; rfl, by rw [HNN.out]; exact Rep.leaf _ _ 0 false []⟩
        · have hoI : ((o.length : Int) == 0) = false := by rw [beq_eq_false_iff_ne]; omega
          obtain ⟨m, hm⟩ : ∃ m, o.length = m + 1 := ⟨o.length - 1, by omega⟩
          have hmI : ((o.length : Nat) : Int) - 1 = (m : Int) := by omega
          obtain ⟨kb, koff, k2, y2, t2, a2, l2, c2, a3, l3, c3, ero, hcmi, g0, g1, g2, g3, g4, g5⟩ := mem_row HRO.out HRM.out m (by omega)
          subst ero
          have HSS : Hid (treeV l = some (o[m]'(by omega)).2) := Lib.hid (by
            rw [HTV2.out, List.getLast?_eq_getElem?, show o.length - 1 = m by omega, List.getElem?_eq_getElem (by omega)]
            rfl)
          have HREP : Hid (Rep (fun b => w1.heap.size ≤ b ∧ b < wo.heap.size) wo [.int .i64 k2, .bool y2, .string ⟨t2⟩, .slice a2 l2 c2, .slice a3 l3 c3] (o[m]'(by omega)).2) := Lib.hid (by
            have h1 := HRM.out.lt.2 m (by rw [HRM.out.1]; omega) (by omega)
            rw [List.getElem?_eq_getElem (by rw [HRM.out.1]; omega)] at hcmi
            simp only [Option.some.injEq] at hcmi
            rw [hcmi] at h1
            exact h1.mono fun b hb => ⟨hb.1.1, hb.2⟩)
          have hmo : m < o.length := by omega
          clear hcmi g0
          generalize (o[m]'(by omega)).2 = OV at HSS HREP
          clear ho hm
          have d0 : wo.cell? ⟨w.heap.size, 0, none⟩ = some (.int .i64 0) := by rw [Lib.cell_of_heap HRZ.out]; rfl
          have d1 : wo.cell? ⟨w.heap.size, 1, none⟩ = some (.bool false) := by rw [Lib.cell_of_heap HRZ.out]; rfl
          have d2 : wo.cell? ⟨w.heap.size, 2, none⟩ = some (.string ⟨#[]⟩) := by rw [Lib.cell_of_heap HRZ.out]; rfl
          have d3 : wo.cell? ⟨w.heap.size, 3, none⟩ = some (.slice none 0 0) := by rw [Lib.cell_of_heap HRZ.out]; rfl
          have d4 : wo.cell? ⟨w.heap.size, 4, none⟩ = some (.slice none 0 0) := by rw [Lib.cell_of_heap HRZ.out]; rfl
          have f0 := Lib.frozen_of_heap HRZ.out 0
          have f1 := Lib.frozen_of_heap HRZ.out 1
          have f2 := Lib.frozen_of_heap HRZ.out 2
          have f3 := Lib.frozen_of_heap HRZ.out 3
          have f4 := Lib.frozen_of_heap HRZ.out 4
          go_wp2_with fail
          have hst := value_stored HRZ.out (.int .i64 k2) (.bool y2) (.string ⟨t2⟩) (.slice a2 l2 c2) (.slice a3 l3 c3)
          have hbe := zero_stored HBW.out (Nat.le_refl _) (.int .i64 k2) (.bool y2) (.string ⟨t2⟩) (.slice a2 l2 c2) (.slice a3 l3 c3)
          have e0 := Lib.cell_of_heap hst 0
          have e1 := Lib.cell_of_heap hst 1
          have e2 := Lib.cell_of_heap hst 2
          have e3 := Lib.cell_of_heap hst 3
          have e4 := Lib.cell_of_heap hst 4
          simp only [List.getElem?_toArray] at e0 e1 e2 e3 e4
          refine bodyPost_ret (v := .tuple #[.agg #[.int .i64 k2, .bool y2, .string ⟨t2⟩, .slice a2 l2 c2, .slice a3 l3 c3], .bool true]) (by simp [results, Try.results5, go_sem, e0, e1, e2, e3, e4]) rfl ?_
          exact ⟨hbe, [.int .i64 k2, .bool y2, .string ⟨t2⟩, .slice a2 l2 c2, .slice a3 l3 c3], by rw [HSS.out]; rfl, by
            rw [HSS.out]
            refine (HREP.out.keep fun b hb hlt => ?_).mono fun b hb => (show w.heap.size ≤ b by omega)
            exact stored_other _ _ _ _ _ _ _ (by omega)⟩
  · have hlI : (40 : Int) < (l.length : Int) := by omega
    have HNN : Hid (treeV l = none) := Lib.hid (by rw [HTV.out, if_neg (fun h => hl h.1)])
    have HRZ := Lib.hid HX1.out
    have d0 : w1.cell? ⟨w.heap.size, 0, none⟩ = some (.int .i64 0) := by rw [Lib.cell_of_heap HRZ.out]; rfl
    have d1 : w1.cell? ⟨w.heap.size, 1, none⟩ = some (.bool false) := by rw [Lib.cell_of_heap HRZ.out]; rfl
    have d2 : w1.cell? ⟨w.heap.size, 2, none⟩ = some (.string ⟨#[]⟩) := by rw [Lib.cell_of_heap HRZ.out]; rfl
    have d3 : w1.cell? ⟨w.heap.size, 3, none⟩ = some (.slice none 0 0) := by rw [Lib.cell_of_heap HRZ.out]; rfl
    have d4 : w1.cell? ⟨w.heap.size, 4, none⟩ = some (.slice none 0 0) := by rw [Lib.cell_of_heap HRZ.out]; rfl
    have f0 := Lib.frozen_of_heap HRZ.out 0
    have f1 := Lib.frozen_of_heap HRZ.out 1
    have f2 := Lib.frozen_of_heap HRZ.out 2
    have f3 := Lib.frozen_of_heap HRZ.out 3
    have f4 := Lib.frozen_of_heap HRZ.out 4
    go_wp2_with fail
    have hst := value_stored HRZ.out (.int .i64 0) (.bool false) (.string ⟨#[]⟩) (.slice none 0 0) (.slice none 0 0)
    have hbe := zero_stored HB1.out (Nat.le_refl _) (.int .i64 0) (.bool false) (.string ⟨#[]⟩) (.slice none 0 0) (.slice none 0 0)
    have e0 := Lib.cell_of_heap hst 0
    have e1 := Lib.cell_of_heap hst 1
    have e2 := Lib.cell_of_heap hst 2
    have e3 := Lib.cell_of_heap hst 3
    have e4 := Lib.cell_of_heap hst 4
    simp only [List.getElem?_toArray] at e0 e1 e2 e3 e4
    refine bodyPost_ret (v := .tuple #[.agg #[.int .i64 0, .bool false, .string ⟨#[]⟩, .slice none 0 0, .slice none 0 0], .bool false]) (by simp [results, Try.results5, go_sem, e0, e1, e2, e3, e4]) rfl ?_
    exact ⟨hbe, zero5, by rw [HNN.out]; rfl, by rw [HNN.out]; exact Rep.leaf _ _ 0 false []⟩
end Go.Proofs.Ytfcokdkbjajohaa
/- A parameter that is a row of nodes, opened. -/
set_option linter.unusedVariables false
namespace Go.Proofs.Ytfcokdkbjajohaa
open Go.RowKit

section
variable {H : Type} {enc : TypeId × Value → H} {w : World} {base : Nat} {spare : Nat → Bool} {held : Bool}
theorem cellsNode : Try.prog.cellsOf 46 = 5 := by kernel_rfl
theorem cellsStrN : Try.prog.cellsOf 9 = 1 := by kernel_rfl
theorem cellsIntN : Try.prog.cellsOf 3 = 1 := by kernel_rfl
theorem cellsBoolN : Try.prog.cellsOf 4 = 1 := by kernel_rfl
theorem ndCell_len (x : ND) : (ndCell x).length = 5 := rfl
set_option maxRecDepth 100000 in
/-- One node. -/
theorem open_node {fuel : Nat} {cs : List Value} {x : DataW H × List MemPlace} (h : DataW.trod enc Try.prog w base spare held fuel 46 cs = some x) :
    ∃ p : ND, cs = ndCell p := by
  obtain ⟨ys, n, _, _, hlen, _, hf⟩ := DataW.trod_struct Try.underlying46 h
  rw [cellsNode] at hlen
  match cs, hlen with
  | [c0, c1, c2, c3, c4], _ =>
    have f0 : DataW.trod enc Try.prog w base spare held n 3 (([c0, c1, c2, c3, c4].drop 0).take (Try.prog.cellsOf 3)) = ys[0]? := hf 0 _ rfl
    have f1 : DataW.trod enc Try.prog w base spare held n 3 (([c0, c1, c2, c3, c4].drop 1).take (Try.prog.cellsOf 3)) = ys[1]? := hf 1 _ rfl
    have f2 : DataW.trod enc Try.prog w base spare held n 4 (([c0, c1, c2, c3, c4].drop 2).take (Try.prog.cellsOf 4)) = ys[2]? := hf 2 _ rfl
    have f3 : DataW.trod enc Try.prog w base spare held n 9 (([c0, c1, c2, c3, c4].drop 3).take (Try.prog.cellsOf 9)) = ys[3]? := hf 3 _ rfl
    have f4 : DataW.trod enc Try.prog w base spare held n 9 (([c0, c1, c2, c3, c4].drop 4).take (Try.prog.cellsOf 9)) = ys[4]? := hf 4 _ rfl
    rw [cellsIntN] at f0 f1
    rw [cellsBoolN] at f2
    rw [cellsStrN] at f3 f4
    have g : ∀ i, i < 5 → ∃ y, ys[i]? = some y := by
      intro i hi
      cases e : ys[i]? with
      | some y => exact ⟨y, rfl⟩
      | none => exfalso; simp at e; simp_all; omega
    obtain ⟨y0, e0⟩ := g 0 (by omega)
    obtain ⟨y1, e1⟩ := g 1 (by omega)
    obtain ⟨y2, e2⟩ := g 2 (by omega)
    obtain ⟨y3, e3⟩ := g 3 (by omega)
    obtain ⟨y4, e4⟩ := g 4 (by omega)
    rw [e0] at f0
    rw [e1] at f1
    rw [e2] at f2
    rw [e3] at f3
    rw [e4] at f4
    obtain ⟨x0, h0, _, _⟩ := DataW.trod_int Try.underlying3 f0
    obtain ⟨x1, h1, _, _⟩ := DataW.trod_int Try.underlying3 f1
    obtain ⟨x2, h2, _⟩ := DataW.trod_bool Try.underlying4 f2
    obtain ⟨s3, h3, _, _⟩ := DataW.trod_string Try.underlying9 f3
    obtain ⟨s4, h4, _, _⟩ := DataW.trod_string Try.underlying9 f4
    simp at h0 h1 h2 h3 h4
    subst h0 h1 h2 h3 h4
    exact ⟨⟨x0, x1, x2, s3.data.toList, s4.data.toList⟩, rfl⟩
set_option maxRecDepth 100000 in
/-- A row of nodes. -/
theorem open_nodes {fuel : Nat} {a : Option Addr} {len cap : Nat} {x : DataW H × List MemPlace} (h : DataW.trod enc Try.prog w base spare held fuel 23 [.slice a len cap] = some x) :
    ∃ l : List ND, len = l.length ∧ RdC w a (l.flatMap ndCell) ∧ l.length ≤ maxLen := by
  rcases Go.Deep.open_slice Try.underlying23 h with ⟨h0, _⟩ | ⟨ad, len', cap', m, n, D, Pl, h0, hb, hl, hm, hmm, hx, hi⟩
  · simp at h0
    obtain ⟨rfl, rfl, rfl⟩ := h0
    exact ⟨[], rfl, .inl rfl, Nat.zero_le _⟩
  · simp at h0
    obtain ⟨rfl, rfl, rfl⟩ := h0
    have hml : len ≤ m := by rw [hmm]; split <;> omega
    rw [cellsNode] at hi
    have key : ∀ i, i < len → ∃ p : ND, ∀ j, j < 5 → w.cell? ((ad.add (i * 5)).add j) = some ((ndCell p).getD j undef) := by
      intro i hil
      obtain ⟨cs', hc, ht⟩ := hi i (by omega)
      obtain ⟨p, rfl⟩ := open_node ht
      obtain ⟨_, _, hat⟩ := World.cells?_some hc
      refine ⟨p, fun j hj => ?_⟩
      rw [hat j (by omega)]
      rw [List.getD_eq_getElem?_getD, List.getElem?_eq_getElem (by rw [ndCell_len]; exact hj)]
      rfl
    by_cases h0 : len = 0
    · subst h0
      exact ⟨[], rfl, .inl rfl, Nat.zero_le _⟩
    · have hsp : ad.spot = none := by
        obtain ⟨p, h1⟩ := key 0 (by omega)
        have h1 := h1 0 (by omega)
        obtain ⟨b, off, spot⟩ := ad
        cases spot with
        | none => rfl
        | some k =>
          have e0 : ((⟨b, off, some k⟩ : Addr).add (0 * 5)).add 0 = ⟨b, off, some k⟩ := by simp [Addr.add]
          rw [e0] at h1
          unfold World.cell? at h1
          split at h1 <;> simp at h1
      obtain ⟨b, off, spot⟩ := ad
      simp only at hsp
      subst hsp
      have key2 : ∀ i, ∃ p : ND, i < len → ∀ j, j < 5 → w.cell? ⟨b, off + i * 5 + j, none⟩ = some ((ndCell p).getD j undef) := by
        intro i
        by_cases h : i < len
        · obtain ⟨p, h2⟩ := key i h
          simp only [Addr.add_lit] at h2
          exact ⟨p, fun _ => h2⟩
        · exact ⟨⟨0, 0, false, [], []⟩, fun h' => absurd h' h⟩
      obtain ⟨f, hf⟩ : ∃ f : Nat → ND, ∀ i, i < len → ∀ j, j < 5 → w.cell? ⟨b, off + i * 5 + j, none⟩ = some ((ndCell (f i)).getD j undef) :=
        ⟨fun i => Classical.choose (key2 i), fun i => Classical.choose_spec (key2 i)⟩
      refine ⟨(List.range len).map f, by simp, .inr ⟨b, off, rfl, fun i u hu => ?_⟩, by simp; omega⟩
      have hlen := flat_len ndCell 5 ndCell_len ((List.range len).map f)
      simp only [List.length_map, List.length_range] at hlen
      have hi2 := (List.getElem?_eq_some_iff.1 hu).1
      rw [hlen] at hi2
      have hj : i / 5 < len := by omega
      have hg := flat_get ndCell 5 ndCell_len ((List.range len).map f) (i / 5) (i % 5) (by simpa using hj) (by omega)
      rw [show i / 5 * 5 + i % 5 = i by omega, hu] at hg
      simp only [List.getElem_map, List.getElem_range] at hg
      have k1 := hf (i / 5) hj (i % 5) (by omega)
      rw [List.getD_eq_getElem?_getD, ← hg] at k1
      rw [show off + i = off + i / 5 * 5 + i % 5 by omega, k1]
      rfl
end
end Go.Proofs.Ytfcokdkbjajohaa
/- json, plain: a member set, a member dropped; what stays right. -/
set_option linter.unusedVariables false
namespace Go.Proofs.Ytfcokdkbjajohaa

/-- A name set to a value: in its place, or at the end. -/
def withM (n : List UInt8) (v : JV) : List (List UInt8 × JV) → List (List UInt8 × JV)
  | [] => [(n, v)]
  | p :: m => if p.1 = n then (p.1, v) :: m else p :: withM n v m
/-- A name dropped, wherever it stands. -/
def withoutM (n : List UInt8) (m : List (List UInt8 × JV)) : List (List UInt8 × JV) := m.filter fun p => decide (p.1 ≠ n)
theorem withM_get (n k : List UInt8) (v : JV) : ∀ m, getM k (withM n v m) = if k = n then some v else getM k m
  | [] => by
    rw [withM]
    simp only [getM]
    by_cases h : k = n
    · rw [if_pos h.symm, if_pos h]
    · rw [if_neg (fun e => h e.symm), if_neg h]
  | p :: m => by
    have ih := withM_get n k v m
    rw [withM]
    by_cases hp : p.1 = n
    · rw [if_pos hp]
      simp only [getM]
      by_cases h : k = n
      · rw [if_pos (hp.trans h.symm), if_pos h]
      · have : ¬ p.1 = k := fun e => h (e.symm.trans hp)
        rw [if_neg this, if_neg h, if_neg this]
    · rw [if_neg hp]
      simp only [getM]
      by_cases h : p.1 = k
      · have hk : ¬ k = n := fun e => hp (h.trans e)
        rw [if_pos h, if_neg hk, if_pos h]
      · rw [if_neg h, ih, if_neg h]
theorem withM_right (n : List UInt8) (v : JV) (hn : toldB n = true) (hv : rightJ v = true) : ∀ m, rightM m = true → rightM (withM n v m) = true
  | [], _ => by simp [withM, rightM, hn, hv, getM]
  | p :: m, h => by
    have ih := withM_right n v hn hv m
    rw [rightM, Bool.and_eq_true, Bool.and_eq_true, Bool.and_eq_true] at h
    rw [withM]
    by_cases hp : p.1 = n
    · rw [if_pos hp, rightM]
      simp [h.1.1.1, hv, h.1.2, h.2]
    · rw [if_neg hp, rightM, withM_get, if_neg hp, ih h.2, h.1.1.1, h.1.1.2, h.1.2]
      rfl
theorem without_none (n k : List UInt8) : ∀ m, getM k (withoutM n m) = if k = n then none else getM k m
  | [] => by simp [withoutM, getM]
  | p :: m => by
    have ih := without_none n k m
    unfold withoutM at ih ⊢
    rw [List.filter_cons]
    by_cases hp : p.1 = n
    · rw [if_neg (by simpa using hp), ih]
      simp only [getM]
      by_cases h : k = n
      · rw [if_pos h, if_pos h]
      · rw [if_neg h, if_neg h, if_neg (fun e => h (e.symm.trans hp))]
    · rw [if_pos (by simpa using hp)]
      simp only [getM]
      by_cases h : p.1 = k
      · rw [if_pos h, if_neg (fun e => hp (h.trans e)), if_pos h]
      · rw [if_neg h, ih, if_neg h]
theorem without_right (n : List UInt8) : ∀ m, rightM m = true → rightM (withoutM n m) = true
  | [], _ => rfl
  | p :: m, h => by
    have ih := without_right n m
    rw [rightM, Bool.and_eq_true, Bool.and_eq_true, Bool.and_eq_true] at h
    have hg := without_none n p.1 m
    unfold withoutM at ih hg ⊢
    rw [List.filter_cons]
    by_cases hp : p.1 = n
    · rw [if_neg (by simpa using hp)]
      exact ih h.2
    · rw [if_pos (by simpa using hp), rightM, hg, if_neg hp, ih h.2, h.1.1.1, h.1.1.2, h.1.2]
      rfl
mutual
/-- A value patched by another. -/
def mergeJ : JV → JV → JV
  | v, .mk k y t l m => if k = 6 then jobj (mergeM (if v.kind = 6 then v.mem else []) m) else .mk k y t l m
/-- .. members, one behind the other. -/
def mergeM : List (List UInt8 × JV) → List (List UInt8 × JV) → List (List UInt8 × JV)
  | o, [] => o
  | o, (n, u) :: m => mergeM (if u.kind = 1 then withoutM n o else withM n (mergeJ ((getM n o).getD .zero) u) o) m
end
theorem get_right : ∀ {m : List (List UInt8 × JV)} {n : List UInt8} {v : JV}, rightM m = true → getM n m = some v → rightJ v = true
  | p :: m, n, v, h, hg => by
    rw [rightM, Bool.and_eq_true, Bool.and_eq_true, Bool.and_eq_true] at h
    rw [getM] at hg
    by_cases hp : p.1 = n
    · rw [if_pos hp] at hg
      rw [← Option.some.inj hg]
      exact h.1.1.2
    · rw [if_neg hp] at hg
      exact get_right h.2 hg
mutual
theorem mergeJ_right : ∀ (u v : JV), (rightJ v = true ∨ v.kind ≠ 6) → rightJ u = true → rightJ (mergeJ v u) = true
  | .mk k y t l m, v, hv, hu => by
    have hm := mergeM_right m
    rw [mergeJ]
    by_cases h6 : k = 6
    · rw [if_pos h6]
      subst h6
      have hmr : rightM m = true := by
        rcases right_cases hu with e | ⟨_, e⟩ | ⟨_, e, _⟩ | ⟨_, e, _⟩ | ⟨_, e, _⟩ | ⟨_, e, h⟩ <;> simp [jnull, jbool, jnum, jstr, jarr, jobj] at e
        rw [e.2.2.2]
        exact h
      have ho : rightM (if v.kind = 6 then v.mem else []) = true := by
        by_cases hk : v.kind = 6
        · rw [if_pos hk]
          have hv' := hv.resolve_right (fun e => e hk)
          rcases right_cases hv' with e | ⟨_, e⟩ | ⟨_, e, _⟩ | ⟨_, e, _⟩ | ⟨_, e, _⟩ | ⟨_, e, h⟩ <;> subst e <;> simp [jnull, jbool, jnum, jstr, jarr, jobj, JV.kind] at hk
          exact h
        · rw [if_neg hk]; rfl
      have := hm _ ho hmr
      simp [jobj, rightJ, this]
    · rw [if_neg h6]
      exact hu
theorem mergeM_right : ∀ (m o : List (List UInt8 × JV)), rightM o = true → rightM m = true → rightM (mergeM o m) = true
  | [], o, ho, _ => by rw [mergeM]; exact ho
  | (n, u) :: m, o, ho, hm => by
    have hj := mergeJ_right u
    have hr := mergeM_right m
    rw [rightM, Bool.and_eq_true, Bool.and_eq_true, Bool.and_eq_true] at hm
    rw [mergeM]
    refine hr _ ?_ hm.2
    by_cases h1 : u.kind = 1
    · rw [if_pos h1]
      exact without_right n o ho
    · rw [if_neg h1]
      refine withM_right n _ hm.1.1.1 (hj _ ?_ hm.1.1.2) o ho
      cases hg : getM n o with
      | none => exact .inr (by decide)
      | some x => exact .inl (get_right ho hg)
end
end Go.Proofs.Ytfcokdkbjajohaa
/- With's and Without's closures; IndexFunc over members. -/
set_option linter.unusedVariables false
namespace Go.Proofs.Ytfcokdkbjajohaa
open Go.RowKit

/-- The first member of a name. -/
def idxM (n : List UInt8) : List (List UInt8 × JV) → Nat
  | [] => 0
  | (k, _) :: r => if k = n then 0 else idxM n r + 1
theorem idxM_le (n : List UInt8) : ∀ m, idxM n m ≤ m.length
  | [] => Nat.le_refl _
  | (k, v) :: r => by
    have := idxM_le n r
    unfold idxM
    split
    · simp
    · simp only [List.length_cons]; omega
theorem idxM_drop {n : List UInt8} {m : List (List UInt8 × JV)} {j : Nat} (hj : j < m.length) : idxM n (m.drop j) = if m[j].1 = n then 0 else idxM n (m.drop (j + 1)) + 1 := by
  rw [List.drop_eq_getElem_cons hj]
  rfl
set_option maxRecDepth 100000 in
set_option maxHeartbeats 8000000 in
theorem wcl_any (n nm : List UInt8) (x0 x1 x2 x3 x4 : Value) (q : Addr) (w : World) (hq : w.cell? q = some (.string ⟨n.toArray⟩)) :
    Calls Try.prog 40 #[.agg #[.string ⟨nm.toArray⟩, x0, x1, x2, x3, x4], .pointer (some q)] w fun e w' => e = .returned (.bool (nm == n)) ∧ Below w.heap.size w w' := by
  have hb : Below w.heap.size w (w.alloc (.cells #[.string ⟨nm.toArray⟩, x0, x1, x2, x3, x4] 38)) := (Below.refl _ _).alloc (Nat.le_refl _) _
  have HB := Lib.hid hb
  have hq2 := (hb.cell (World.block_lt_of_cell? _ _ hq)).trans hq
  clear hb hq
  go_enter Try.func40, Try.ntmps40
  go_wp2_with fail
  refine bodyPost_ret (results_tmp rfl _ _ _) rfl ?_
  exact ⟨by first | rfl | simp, HB.out⟩
set_option maxRecDepth 100000 in
set_option maxHeartbeats 8000000 in
theorem wix_any (n : List UInt8) (q : Addr) (ok : Nat → Prop) (a : Option Addr) (c : Nat) (m : List (List UInt8 × JV)) (cm : List (List Value)) (w : World) (h3 : RdO ok w a (memCells m cm)) (h4 : RepsM ok w cm m) (hq : w.cell? q = some (.string ⟨n.toArray⟩)) (hl : m.length ≤ 10000000) :
    Calls Try.prog 39 #[.slice a m.length c, .func (.func 40) #[] #[.pointer (some q)]] w fun e w' => Below w.heap.size w w' ∧ e = .returned (.int .i64 (if idxM n m < m.length then (idxM n m : Int) else -1)) := by
  have H3 := Lib.hid h3.lt
  have H4 := Lib.hid (RepsM.mono h4.lt fun b hb => hb)
  have HQ := Lib.hid hq
  have hql := World.block_lt_of_cell? _ _ hq
  obtain ⟨R, hR⟩ : ∃ R : Int, (if idxM n m < m.length then (idxM n m : Int) else -1) = R := ⟨_, rfl⟩
  rw [hR]
  have HR := Lib.hid hR
  clear h3 h4 hq hR
  go_enter Try.func39, Try.ntmps39
  go_wp2_with fail
  go_loopg [8] m.length (fun k iv wr => ∃ j : Nat, iv = .int .i64 (j : Int) ∧ j + k = m.length ∧ Hid (idxM n m = idxM n (m.drop j) + j) ∧ Hid (Below w.heap.size w wr))
  case atStart => exact ⟨0, rfl, by omega, Lib.hid rfl, Lib.hid (Below.refl _ _)⟩
  case round =>
    obtain ⟨j, rfl, hj, hd, HB⟩ := hrel
    by_cases hlt : j < m.length
    · have hltI : (j : Int) < (m.length : Int) := by omega
      obtain ⟨b, off, k2, y2, t2, a2, l2, c2, a3, l3, c3, ea, -, i0, i1, i2, i3, i4, i5⟩ := mem_cells' (RdO.keep H3.out fun b _ hb => HB.out.block b hb) (H4.out.under HB.out) j hlt
      subst ea
      have HGD := Lib.hid (idxM_drop (n := n) hlt)
      obtain ⟨nm, hnm⟩ : ∃ x, m[j].1 = x := ⟨_, rfl⟩
      rw [hnm] at i0 HGD
      clear hnm
      have HC := Lib.hid (wcl_any n nm (.int .i64 k2) (.bool y2) (.string ⟨t2⟩) (.slice a2 l2 c2) (.slice a3 l3 c3) q wr ((HB.out.cell hql).trans HQ.out))
      by_cases hn : nm = n
      · have HE : Hid (idxM n m = j) := Lib.hid (by rw [hd.out, HGD.out, if_pos hn]; omega)
        have hb1 : (nm == n) = true := by rw [hn]; simp
        have HRES : Hid (R = (j : Int)) := Lib.hid (by rw [← HR.out, HE.out, if_pos hlt])
        rw [hb1] at HC
        clear hn
        go_wp2_with fail
        refine HC.out.mono ?_
        rintro e w2 ⟨rfl, hb2⟩
        have HB2 := Lib.hid (HB.out.trans (hb2.mono HB.out.size))
        clear hb2
        go_wp2_with fail
        refine bodyPost_ret (results_tmp rfl _ _ _) rfl ?_
        exact ⟨HB2.out, by rw [HRES.out]; rfl⟩
      · have HE : Hid (idxM n m = idxM n (m.drop (j + 1)) + (j + 1)) := Lib.hid (by rw [hd.out, HGD.out, if_neg hn]; omega)
        have hb1 : (nm == n) = false := beq_false_of_ne hn
        rw [hb1] at HC
        clear hn
        go_wp2_with fail
        refine HC.out.mono ?_
        rintro e w2 ⟨rfl, hb2⟩
        have HB2 := Lib.hid (HB.out.trans (hb2.mono HB.out.size))
        clear hb2
        go_wp2_with fail
        go_roundg (gk - 1)
        case measure => omega
        case rel => exact ⟨j + 1, by first | rfl | (congr 1), by omega, HE, HB2⟩
    · have hge : ¬ (j : Int) < (m.length : Int) := by omega
      have HE : Hid (idxM n m = m.length) := Lib.hid (by rw [hd.out, List.drop_eq_nil_of_le (by omega)]; unfold idxM; omega)
      have HRES : Hid (R = -1) := Lib.hid (by rw [← HR.out, HE.out, if_neg (by omega)])
      go_wp2_with fail
      refine bodyPost_ret (results_tmp rfl _ _ _) rfl ?_
      exact ⟨HB.out, by rw [HRES.out]; rfl⟩
set_option maxRecDepth 100000 in
set_option maxHeartbeats 8000000 in
theorem ocl_any (n nm : List UInt8) (x0 x1 x2 x3 x4 : Value) (q : Addr) (w : World) (hq : w.cell? q = some (.string ⟨n.toArray⟩)) :
    Calls Try.prog 38 #[.agg #[.string ⟨nm.toArray⟩, x0, x1, x2, x3, x4], .pointer (some q)] w fun e w' => e = .returned (.bool (nm == n)) ∧ Below w.heap.size w w' := by
  have hb : Below w.heap.size w (w.alloc (.cells #[.string ⟨nm.toArray⟩, x0, x1, x2, x3, x4] 38)) := (Below.refl _ _).alloc (Nat.le_refl _) _
  have HB := Lib.hid hb
  have hq2 := (hb.cell (World.block_lt_of_cell? _ _ hq)).trans hq
  clear hb hq
  go_enter Try.func38, Try.ntmps38
  go_wp2_with fail
  refine bodyPost_ret (results_tmp rfl _ _ _) rfl ?_
  exact ⟨by first | rfl | simp, HB.out⟩
set_option maxRecDepth 100000 in
set_option maxHeartbeats 8000000 in
theorem oix_any (n : List UInt8) (q : Addr) (ok : Nat → Prop) (a : Option Addr) (c : Nat) (m : List (List UInt8 × JV)) (cm : List (List Value)) (w : World) (h3 : RdO ok w a (memCells m cm)) (h4 : RepsM ok w cm m) (hq : w.cell? q = some (.string ⟨n.toArray⟩)) (hl : m.length ≤ 10000000) :
    Calls Try.prog 39 #[.slice a m.length c, .func (.func 38) #[] #[.pointer (some q)]] w fun e w' => Below w.heap.size w w' ∧ e = .returned (.int .i64 (if idxM n m < m.length then (idxM n m : Int) else -1)) := by
  have H3 := Lib.hid h3.lt
  have H4 := Lib.hid (RepsM.mono h4.lt fun b hb => hb)
  have HQ := Lib.hid hq
  have hql := World.block_lt_of_cell? _ _ hq
  obtain ⟨R, hR⟩ : ∃ R : Int, (if idxM n m < m.length then (idxM n m : Int) else -1) = R := ⟨_, rfl⟩
  rw [hR]
  have HR := Lib.hid hR
  clear h3 h4 hq hR
  go_enter Try.func39, Try.ntmps39
  go_wp2_with fail
  go_loopg [8] m.length (fun k iv wr => ∃ j : Nat, iv = .int .i64 (j : Int) ∧ j + k = m.length ∧ Hid (idxM n m = idxM n (m.drop j) + j) ∧ Hid (Below w.heap.size w wr))
  case atStart => exact ⟨0, rfl, by omega, Lib.hid rfl, Lib.hid (Below.refl _ _)⟩
  case round =>
    obtain ⟨j, rfl, hj, hd, HB⟩ := hrel
    by_cases hlt : j < m.length
    · have hltI : (j : Int) < (m.length : Int) := by omega
      obtain ⟨b, off, k2, y2, t2, a2, l2, c2, a3, l3, c3, ea, -, i0, i1, i2, i3, i4, i5⟩ := mem_cells' (RdO.keep H3.out fun b _ hb => HB.out.block b hb) (H4.out.under HB.out) j hlt
      subst ea
      have HGD := Lib.hid (idxM_drop (n := n) hlt)
      obtain ⟨nm, hnm⟩ : ∃ x, m[j].1 = x := ⟨_, rfl⟩
      rw [hnm] at i0 HGD
      clear hnm
      have HC := Lib.hid (ocl_any n nm (.int .i64 k2) (.bool y2) (.string ⟨t2⟩) (.slice a2 l2 c2) (.slice a3 l3 c3) q wr ((HB.out.cell hql).trans HQ.out))
      by_cases hn : nm = n
      · have HE : Hid (idxM n m = j) := Lib.hid (by rw [hd.out, HGD.out, if_pos hn]; omega)
        have hb1 : (nm == n) = true := by rw [hn]; simp
        have HRES : Hid (R = (j : Int)) := Lib.hid (by rw [← HR.out, HE.out, if_pos hlt])
        rw [hb1] at HC
        clear hn
        go_wp2_with fail
        refine HC.out.mono ?_
        rintro e w2 ⟨rfl, hb2⟩
        have HB2 := Lib.hid (HB.out.trans (hb2.mono HB.out.size))
        clear hb2
        go_wp2_with fail
        refine bodyPost_ret (results_tmp rfl _ _ _) rfl ?_
        exact ⟨HB2.out, by rw [HRES.out]; rfl⟩
      · have HE : Hid (idxM n m = idxM n (m.drop (j + 1)) + (j + 1)) := Lib.hid (by rw [hd.out, HGD.out, if_neg hn]; omega)
        have hb1 : (nm == n) = false := beq_false_of_ne hn
        rw [hb1] at HC
        clear hn
        go_wp2_with fail
        refine HC.out.mono ?_
        rintro e w2 ⟨rfl, hb2⟩
        have HB2 := Lib.hid (HB.out.trans (hb2.mono HB.out.size))
        clear hb2
        go_wp2_with fail
        go_roundg (gk - 1)
        case measure => omega
        case rel => exact ⟨j + 1, by first | rfl | (congr 1), by omega, HE, HB2⟩
    · have hge : ¬ (j : Int) < (m.length : Int) := by omega
      have HE : Hid (idxM n m = m.length) := Lib.hid (by rw [hd.out, List.drop_eq_nil_of_le (by omega)]; unfold idxM; omega)
      have HRES : Hid (R = -1) := Lib.hid (by rw [← HR.out, HE.out, if_neg (by omega)])
      go_wp2_with fail
      refine bodyPost_ret (results_tmp rfl _ _ _) rfl ?_
      exact ⟨HB.out, by rw [HRES.out]; rfl⟩
end Go.Proofs.Ytfcokdkbjajohaa
/- With, by the place of the name: plain data, no program. -/
set_option linter.unusedVariables false
namespace Go.Proofs.Ytfcokdkbjajohaa
open Go.RowKit

theorem withM_at (n : List UInt8) (v : JV) : ∀ m, idxM n m < m.length → withM n v m = m.set (idxM n m) (n, v)
  | [], h => by simp at h
  | (k, u) :: r, h => by
    unfold idxM at h ⊢
    unfold withM
    by_cases e : k = n
    · rw [if_pos e, if_pos e, List.set_cons_zero]
      show (k, v) :: r = (n, v) :: r
      rw [e]
    · rw [if_neg e] at h ⊢
      rw [if_neg e, List.set_cons_succ, withM_at n v r (by simpa using h)]
theorem withM_new (n : List UInt8) (v : JV) : ∀ m, ¬ idxM n m < m.length → withM n v m = m ++ [(n, v)]
  | [], _ => rfl
  | (k, u) :: r, h => by
    unfold idxM at h
    unfold withM
    by_cases e : k = n
    · rw [if_pos e] at h
      simp at h
    · rw [if_neg e] at h ⊢
      rw [withM_new n v r (by simpa using h)]
      rfl
theorem idxM_name (n : List UInt8) : ∀ m (h : idxM n m < m.length), (m[idxM n m]).1 = n
  | [], h => by simp at h
  | (k, u) :: r, h => by
    by_cases e : k = n
    · have h0 : idxM n ((k, u) :: r) = 0 := by unfold idxM; rw [if_pos e]
      simp only [h0, List.getElem_cons_zero]
      exact e
    · have h0 : idxM n ((k, u) :: r) = idxM n r + 1 := by conv => lhs; unfold idxM; rw [if_neg e]
      simp only [h0, List.getElem_cons_succ]
      exact idxM_name n r (by rw [h0] at h; simpa using h)
end Go.Proofs.Ytfcokdkbjajohaa
/- A member's value replaced in its row: cells, no program. -/
set_option linter.unusedVariables false
namespace Go.Proofs.Ytfcokdkbjajohaa
open Go.RowKit

theorem memCells_put (v : JV) (cs : List Value) (hc : cs.length = 5) : ∀ (m : List (List UInt8 × JV)) (cm : List (List Value)) (j : Nat) (hj : j < m.length), cm.length = m.length → (∀ r ∈ cm, r.length = 5) → ∀ q : Nat,
    (memCells (m.set j (m[j].1, v)) (cm.set j cs))[q]? = if j * 6 + 1 ≤ q ∧ q < j * 6 + 6 then cs[q - (j * 6 + 1)]? else (memCells m cm)[q]?
  | [], _, _, hj, _, _, _ => by simp at hj
  | _ :: _, [], _, _, hl, _, _ => by simp at hl
  | (k, u) :: m, r :: cm, 0, hj, hl, h5, q => by
    have hr := h5 r (by simp)
    simp only [List.set_cons_zero, List.getElem_cons_zero, memCells]
    cases q with
    | zero => simp
    | succ q =>
      simp only [List.getElem?_cons_succ]
      by_cases hq : q < 5
      · rw [if_pos (by omega), List.getElem?_append_left (by omega)]
        congr 1
      · rw [if_neg (by omega), List.getElem?_append_right (by omega), List.getElem?_append_right (by omega), hc, hr]
  | (k, u) :: m, r :: cm, j + 1, hj, hl, h5, q => by
    have hr := h5 r (by simp)
    have ih := memCells_put v cs hc m cm j (by simpa using hj) (by simpa using hl) (fun x hx => h5 x (by simp [hx]))
    simp only [List.set_cons_succ, List.getElem_cons_succ, memCells]
    cases q with
    | zero =>
      rw [if_neg (by omega)]
      simp
    | succ q =>
      simp only [List.getElem?_cons_succ]
      by_cases hq : q < 5
      · rw [if_neg (by omega), List.getElem?_append_left (by omega), List.getElem?_append_left (by omega)]
      · rw [List.getElem?_append_right (by omega), List.getElem?_append_right (by omega), hr, ih (q - 5)]
        by_cases h2 : j * 6 + 1 ≤ q - 5 ∧ q - 5 < j * 6 + 6
        · rw [if_pos h2, if_pos (by omega)]
          congr 1
          omega
        · rw [if_neg h2, if_neg (by omega)]
/-- The members' values, one replaced. -/
theorem RepsM.put {ok : Nat → Prop} {w : World} {cm : List (List Value)} {m : List (List UInt8 × JV)} {j : Nat} {v : JV} {cs : List Value} (h : RepsM ok w cm m) (hj : j < m.length) (hv : Rep ok w cs v) : RepsM ok w (cm.set j cs) (m.set j (m[j].1, v)) := by
  refine ⟨by simp [h.1], fun i hi hi2 => ?_⟩
  by_cases e : i = j
  · subst e
    rw [List.getElem_set_self]
    have : (m.set i (m[i].1, v))[i] = (m[i].1, v) := List.getElem_set_self _
    rw [this]
    exact hv
  · have e1 : (cm.set j cs)[i] = cm[i]'(by simpa using hi) := List.getElem_set_ne (fun h => e h.symm) _
    have e2 : (m.set j (m[j].1, v))[i] = m[i]'(by simpa using hi2) := List.getElem_set_ne (fun h => e h.symm) _
    rw [e1, e2]
    exact h.2 i (by simpa using hi) (by simpa using hi2)
/-- The row behind such a store. -/
theorem rdo_put {ok : Nat → Prop} {w w' : World} {b : Nat} {off : Nat} {m : List (List UInt8 × JV)} {cm : List (List Value)} {j : Nat} {v : JV} {cs : List Value} (h3 : RdO ok w (some ⟨b, off, none⟩) (memCells m cm)) (hl : cm.length = m.length) (h5 : ∀ r ∈ cm, r.length = 5) (hj : j < m.length) (hc : cs.length = 5)
    (hold : ∀ q, ¬ (j * 6 + 1 ≤ q ∧ q < j * 6 + 6) → w'.cell? ⟨b, off + q, none⟩ = w.cell? ⟨b, off + q, none⟩) (hnew : ∀ i (h : i < 5), w'.cell? ⟨b, off + (j * 6 + 1 + i), none⟩ = cs[i]?) : RdO ok w' (some ⟨b, off, none⟩) (memCells (m.set j (m[j].1, v)) (cm.set j cs)) := by
  have hok : ok b ∧ ∀ (i : Nat) (u : Value), (memCells m cm)[i]? = some u → w.cell? ⟨b, off + i, none⟩ = some u := by
    rcases h3 with h | ⟨b', off', e, h1, h2⟩
    · cases m with
      | nil => simp at hj
      | cons p m =>
        cases cm with
        | nil => simp at hl
        | cons r cm => simp [memCells] at h
    · cases e
      exact ⟨h1, h2⟩
  refine .inr ⟨b, off, rfl, hok.1, fun i u hu => ?_⟩
  rw [memCells_put v cs hc m cm j hj hl h5 i] at hu
  by_cases h : j * 6 + 1 ≤ i ∧ i < j * 6 + 6
  · rw [if_pos h] at hu
    have := hnew (i - (j * 6 + 1)) (by omega)
    rw [show j * 6 + 1 + (i - (j * 6 + 1)) = i by omega] at this
    rw [this, hu]
  · rw [if_neg h] at hu
    rw [hold i h]
    exact hok.2 i u hu
end Go.Proofs.Ytfcokdkbjajohaa
/- slices.Clone, rows of members. -/
set_option linter.unusedVariables false
namespace Go.Proofs.Ytfcokdkbjajohaa
open Go.RowKit

/-- A row of any length appended to a row of the call's own. -/
theorem wpList_append_rows {ops : Array Oper} {rest : List Oper} {o : Oper} {a : Act} {w : World} {Q : Exit → Act → World → Prop} (hgd : o.guard = none) (s x : Operand) (t : TypeId)
    (ho : o.op = .call { callee := .builtin .append, args := #[s, x], argTypes := #[t, t] })
    (base : Nat) (e : TypeId) (size bytes : Nat) (ht : Try.prog.underlying t = some (.slice e)) (hinfo : ((Try.prog.info? e).bind fun i => i.zero.map fun z => (i.size, i.bytes, z.cells.size)) = some (size, bytes, size)) (hsz : 0 < size)
    (v : Value) (n : Nat) (xs : List Value) (hs : a.eval s = v) (hown : w.ownsRow base e size v n xs)
    (ad : Addr) (m c : Nat) (news : List Value) (hx : a.eval x = .slice (some ad) m c) (hl : news.length = m * size) (hnews : ∀ j u, news[j]? = some u → w.cell? (ad.add j) = some u) (h1 : ∀ u ∈ news, u.oneCell' = true)
    (hbytes : (n + m) * bytes ≤ 140737488355328) (hn : n + m ≤ 140737488355328) (hbase : base ≤ w.heap.size)
    (h : ∀ v' w', w'.ownsRow base e size v' (n + m) (xs ++ news) → w.grownBy w' v.ownBlock → (v'.ownBlock = v.ownBlock ∨ v'.ownBlock = some w.heap.size) → wpList Try.prog ops Q rest (a.put o.dst v') w') : wpList Try.prog ops Q (o :: rest) a w := by
  refine wpList_plain hgd fun K hK' => ?_
  exact op_append s x t ho base e size bytes ht hinfo hsz v n xs hs hown ad m c news hx hl hnews h1 (by unfold maxLen; omega) hbytes hbase fun v' w' h2 h3 h5 => hK' _ _ (h v' w' h2 h3 h5)
set_option maxRecDepth 100000 in
set_option maxHeartbeats 4000000 in
theorem cloneM_any (a : Option Addr) (n c : Nat) (xs : List Value) (w : World) (hr : RdC w a xs) (hl : xs.length = n * 6) (h1 : ∀ u ∈ xs, u.oneCell' = true) (hn : n ≤ 1000000) (ha : a = none → n = 0) :
    Calls Try.prog 36 #[.slice a n c] w fun e w' => ∃ v, e = .returned v ∧ w'.ownsRow w.heap.size 38 6 v n xs ∧ Below w.heap.size w w' := by
  have q := fun (w : World) (a : Option Addr) (n c n' c' : Nat) => Lib.run_eql_slice_nil (P := Try.prog) w 26 38 a n c n' c' Try.underlying26
  cases a with
  | none =>
    obtain rfl := ha rfl
    obtain rfl : xs = [] := List.eq_nil_of_length_eq_zero (by simpa using hl)
    clear hr ha hl h1 hn
    go_enter Try.func36, Try.ntmps36
    go_wp2_with fail
    refine bodyPost_ret (results_tmp rfl _ _ _) rfl ?_
    exact ⟨_, rfl, World.ownsRow_nil _ _ _ _, Below.refl _ _⟩
  | some ad =>
    have HR := Lib.hid hr
    have H1 := Lib.hid h1
    have HL := Lib.hid hl
    have hown : (w.alloc (.cells #[] 38)).ownsRow w.heap.size 38 6 (.slice (some ⟨w.heap.size, 0, none⟩) 0 0) 0 [] := World.ownsRow_made w #[] 0 (Nat.le_refl _) (by decide) rfl
    have hba : Below w.heap.size w (w.alloc (.cells #[] 38)) := (Below.refl _ _).alloc (Nat.le_refl _) _
    have HRA := Lib.hid (HR.out.below hba)
    have HO := Lib.hid hown
    have HB := Lib.hid hba
    have hsz := hba.size
    clear hown hba hr hl h1 ha
    go_enter Try.func36, Try.ntmps36
    go_wp2_with (at_builtin; refine wpList_append_rows rfl (.tmp 5) (.tmp 6) 26 rfl w.heap.size 38 6 96 Try.underlying26 (by kernel_rfl) (by decide) _ 0 [] rfl HO.out ad n c xs rfl HL.out ?c1 H1.out ?c2 ?c3 hsz ?_)
    case c1 =>
      intro j u hu
      rcases HRA.out with h | ⟨b, off, e, h⟩
      · rw [h] at hu; simp at hu
      · cases e
        rw [Addr.add_lit]
        exact h j u hu
    case c2 => omega
    case c3 => omega
    intro v1 w3 hown hgrow _
    have HB3 := Lib.hid (below_own HB.out HO.out hgrow hsz)
    have hown2 : w3.ownsRow w.heap.size 38 6 v1 n xs := by simpa using hown
    have HW3 := Lib.hid hown2
    clear hown hgrow hown2
    go_wp2_with fail
    refine bodyPost_ret (results_tmp rfl _ _ _) rfl ?_
    exact ⟨_, rfl, HW3.out, HB3.out⟩
end Go.Proofs.Ytfcokdkbjajohaa
/- json.Obj. -/
set_option linter.unusedVariables false
namespace Go.Proofs.Ytfcokdkbjajohaa
open Go.RowKit

theorem own_rd {B : Nat} {E : TypeId} {sz : Nat} {w : World} {v : Value} {n : Nat} {xs : List Value} (h : w.ownsRow B E sz v n xs) : ∃ a c, v = .slice a n c ∧ RdO (fun b => B ≤ b ∧ b < w.heap.size ∧ v.ownBlock = some b) w a xs ∧ n ≤ c := by
  have h' := h
  rcases h.2 with ⟨rfl, rfl⟩ | ⟨g, cap, cur, rfl, hB, hg, hle, _, _, _⟩
  · exact ⟨none, 0, rfl, .inl (List.eq_nil_of_length_eq_zero (by rw [h.1]; simp)), Nat.le_refl _⟩
  · refine ⟨_, _, rfl, .inr ⟨g, 0, rfl, ⟨hB, (Array.getElem?_eq_some_iff.1 hg).1, rfl⟩, fun i u hu => ?_⟩, hle⟩
    have := World.ownsRow.cells h' (g := g) rfl i u hu
    rw [Addr.add_lit] at this
    exact this
theorem Rep.one {ok : Nat → Prop} {w : World} {cs : List Value} {v : JV} (h : Rep ok w cs v) : ∀ u ∈ cs, u.oneCell' = true := by
  cases h with
  | mk k y t l m a c a' c' cl cm h1 h2 h3 h4 h5 h6 hc hc' =>
    intro u hu
    simp only [List.mem_cons, List.mem_nil_iff, or_false] at hu
    rcases hu with rfl | rfl | rfl | rfl | rfl <;> rfl
theorem memCells_mem : ∀ (m : List (List UInt8 × JV)) (cm : List (List Value)) (u : Value), u ∈ memCells m cm → (∃ n : List UInt8, u = strV n) ∨ ∃ r ∈ cm, u ∈ r
  | [], cm, u, h => by simp [memCells] at h
  | _ :: _, [], u, h => by simp [memCells] at h
  | p :: m, r :: cm, u, h => by
    simp only [memCells, List.mem_cons, List.mem_append] at h
    rcases h with h | h | h
    · exact .inl ⟨p.1, h⟩
    · exact .inr ⟨r, by simp, h⟩
    · rcases memCells_mem m cm u h with h | ⟨q, hq, h⟩
      · exact .inl h
      · exact .inr ⟨q, by simp [hq], h⟩
theorem RepsM.one {ok : Nat → Prop} {w : World} {cm : List (List Value)} {m : List (List UInt8 × JV)} (h : RepsM ok w cm m) : ∀ u ∈ memCells m cm, u.oneCell' = true := by
  intro u hu
  rcases memCells_mem m cm u hu with ⟨n, rfl⟩ | ⟨r, hr, hu⟩
  · rfl
  · obtain ⟨i, hi, rfl⟩ := List.mem_iff_getElem.1 hr
    exact (h.2 i hi (by rw [← h.1]; exact hi)).one u hu
theorem Reps.one {ok : Nat → Prop} {w : World} {cl : List (List Value)} {l : List JV} (h : Reps ok w cl l) : ∀ u ∈ cl.flatten, u.oneCell' = true := by
  intro u hu
  obtain ⟨r, hr, hu⟩ := List.mem_flatten.1 hu
  obtain ⟨i, hi, rfl⟩ := List.mem_iff_getElem.1 hr
  exact (h.2 i hi (by rw [← h.1]; exact hi)).one u hu
set_option maxRecDepth 100000 in
set_option maxHeartbeats 4000000 in
theorem obj_any (ok : Nat → Prop) (a : Option Addr) (c : Nat) (m : List (List UInt8 × JV)) (cm : List (List Value)) (w : World) (h3 : RdO ok w a (memCells m cm)) (h4 : RepsM ok w cm m) (hn : m.length ≤ 1000000) (ha : a = none → m.length = 0) :
    Calls Try.prog 21 #[.slice a m.length c] w fun e w' => Below w.heap.size w w' ∧ ∃ cs, e = .returned (.agg cs.toArray) ∧ Rep (fun b => (ok b ∧ b < w.heap.size) ∨ w.heap.size ≤ b) w' cs (jobj m) := by
  have hl := mem6_len h4
  have h1 := h4.one
  have HR := Lib.hid h3.rdc
  have HM := Lib.hid h4.lt
  have hba : Below w.heap.size w (w.alloc (.cells #[.int .i64 0, .bool false, .string ⟨#[]⟩, .slice none 0 0, .slice none 0 0] 28)) := (Below.refl _ _).alloc (Nat.le_refl _) _
  have hx := heap_alloc_new w (.cells #[.int .i64 0, .bool false, .string ⟨#[]⟩, .slice none 0 0, .slice none 0 0] 28)
  have HCL := Lib.hid (cloneM_any a m.length c (memCells m cm) _ (HR.out.below hba) hl h1 hn ha)
  clear h3 h4 hl h1 ha
  go_enter Try.func21, Try.ntmps21
  go_upto_region 1 with (fail)
  generalize w.alloc _ = w1 at *
  have HB1 := Lib.hid hba
  have HX1 := Lib.hid hx
  have hs1 : w.heap.size < w1.heap.size := (Array.getElem?_eq_some_iff.1 hx).1
  clear hba hx
  go_wp2_with fail
  refine HCL.out.mono ?_
  rintro e w2 ⟨v, rfl, hown, hb2⟩
  obtain ⟨b, d, rfl, hrd, hd⟩ := own_rd hown
  have HB2 := Lib.hid (HB1.out.trans (hb2.mono HB1.out.size))
  have hx2 := (hb2.block _ hs1).trans HX1.out
  have HX2 := Lib.hid hx2
  have d0 : w2.cell? ⟨w.heap.size, 0, none⟩ = some (.int .i64 0) := by rw [Lib.cell_of_heap hx2]; rfl
  have d1 : w2.cell? ⟨w.heap.size, 1, none⟩ = some (.bool false) := by rw [Lib.cell_of_heap hx2]; rfl
  have d2 : w2.cell? ⟨w.heap.size, 2, none⟩ = some (.string ⟨#[]⟩) := by rw [Lib.cell_of_heap hx2]; rfl
  have d3 : w2.cell? ⟨w.heap.size, 3, none⟩ = some (.slice none 0 0) := by rw [Lib.cell_of_heap hx2]; rfl
  have d4 : w2.cell? ⟨w.heap.size, 4, none⟩ = some (.slice none 0 0) := by rw [Lib.cell_of_heap hx2]; rfl
  have f0 := Lib.frozen_of_heap hx2 0
  have f1 := Lib.frozen_of_heap hx2 1
  have f2 := Lib.frozen_of_heap hx2 2
  have f3 := Lib.frozen_of_heap hx2 3
  have f4 := Lib.frozen_of_heap hx2 4
  have HRD := Lib.hid hrd
  clear hown hb2 hx2 hrd HCL
  go_wp2_with fail
  have hst := value_stored HX2.out (.int .i64 6) (.bool false) (.string ⟨#[]⟩) (.slice none 0 0) (.slice b m.length d)
  have hbe := zero_stored HB2.out (Nat.le_refl _) (.int .i64 6) (.bool false) (.string ⟨#[]⟩) (.slice none 0 0) (.slice b m.length d)
  have hot : ∀ k, k ≠ w.heap.size → (((((w2.setCell ⟨w.heap.size, 0, none⟩ (.int .i64 6)).setCell ⟨w.heap.size, 1, none⟩ (.bool false)).setCell ⟨w.heap.size, 2, none⟩ (.string ⟨#[]⟩)).setCell ⟨w.heap.size, 3, none⟩ (.slice none 0 0)).setCell ⟨w.heap.size, 4, none⟩ (.slice b m.length d)).heap[k]? = w2.heap[k]? := fun k hk => by
    rw [Below.heap_setCell _ _ _ _ hk, Below.heap_setCell _ _ _ _ hk, Below.heap_setCell _ _ _ _ hk, Below.heap_setCell _ _ _ _ hk, Below.heap_setCell _ _ _ _ hk]
  have e0 := Lib.cell_of_heap hst 0
  have e1 := Lib.cell_of_heap hst 1
  have e2 := Lib.cell_of_heap hst 2
  have e3 := Lib.cell_of_heap hst 3
  have e4 := Lib.cell_of_heap hst 4
  simp only [List.getElem?_toArray] at e0 e1 e2 e3 e4
  refine bodyPost_ret (v := .agg #[.int .i64 6, .bool false, .string ⟨#[]⟩, .slice none 0 0, .slice b m.length d]) (by simp [results, Try.results21, go_sem, e0, e1, e2, e3, e4]) rfl ?_
  refine ⟨hbe, [.int .i64 6, .bool false, .string ⟨#[]⟩, .slice none 0 0, .slice b m.length d], rfl, ?_⟩
  refine rep_of (l := []) (cl := []) (.inl rfl) (Reps.nil _ _) (cm := cm) ?_ ?_ (Nat.le_refl _) hd
  · exact (HRD.out.keep fun k hk _ => hot k (by have := hk.1; omega)).mono fun k hk => .inr (by have := hk.1; omega)
  · exact (HM.out.keep fun k hk _ => hbe.block k hk.2).mono fun k hk => .inl hk
end Go.Proofs.Ytfcokdkbjajohaa
/- A statement whose order is open, whose operations add to the memory, and one of which fills a row of the call's own (a struct that is returned). -/
set_option linter.unusedVariables false
namespace Go.Proofs.Ytfcokdkbjajohaa
open Go.RowKit

theorem setRow_at {w : World} {g : Nat} {old C : Array Value} {T : TypeId} {fr : Nat × Nat} (h : w.heap[g]? = some (.cells old T fr)) : (w.setRow g C).heap[g]? = some (.cells C T fr) := by
  unfold World.setRow
  simp [Array.getElem?_modify, h]
theorem setRow_block {w : World} {g k : Nat} (C : Array Value) (h : k ≠ g) : (w.setRow g C).heap[k]? = w.heap[k]? := by
  unfold World.setRow
  rw [Array.getElem?_modify, if_neg (Ne.symm h)]
theorem below_setRow {B g : Nat} {a w : World} (h : Below B a w) (hg : B ≤ g) (C : Array Value) : Below B a (w.setRow g C) :=
  ⟨h.os, h.tape, h.output, by rw [setRow_size]; exact h.size, fun k hk => (setRow_block C (by omega)).trans (h.block k hk)⟩

def slotOf (a : Act) (d : Option Nat) : Value := match d with
  | some d => a.tmps.getD d undef
  | none => undef

theorem wp_region_put {P : Program} {id : Nat} {l : List Oper} {Q : Exit → Act → World → Prop} {a : Act} {w : World} (hm : P.follows .mixedOrders = true)
    (hac : ((List.range l.length).all fun i => ((l[i]?).map fun o => o.after.all fun e => !Region.binds .any e || decide (e.on < i)).getD true) = true)
    (ds : List (Option Nat)) (hds : l.map (·.dst) = ds) (hnd : (ds.filterMap fun x => x).Nodup) (hlt : (ds.filterMap fun x => x).all (fun d => decide (d < a.tmps.size)) = true)
    (g : Nat) (T : TypeId) (C old0 : Array Value) (hg : w.heap[g]? = some (.cells old0 T (0, 0))) (hold : old0.size = C.size) (B : Nat) (hB : B ≤ g)
    (V : Nat → Value → World → Prop) (hV1 : ∀ i v w1 w2, V i v w1 → Below w1.heap.size w1 w2 → V i v w2) (hV2 : ∀ i v w1, V i v w1 → V i v (w1.setRow g C))
    (step : ∀ i o, l[i]? = some o → ∀ a' w', Fr (ds.filterMap fun x => x) a a' → Below B w w' → (∃ old, w'.heap[g]? = some (.cells old T (0, 0)) ∧ old.size = C.size) →
      (∀ j, (o.after.any fun e => Region.binds .any e && e.on == j) = true → V j (slotOf a' (ds.getD j none)) w') →
      wpOp P l.toArray Q i (fun a'' w'' => ∃ v, a'' = a'.put (ds.getD i none) v ∧ (ds.getD i none = none → v = undef) ∧ V i v w'' ∧ (Below w'.heap.size w' w'' ∨ w'' = w'.setRow g C)) a' w')
    (done : ∀ a' w', Fr (ds.filterMap fun x => x) a a' → Below B w w' → (∀ j, j < l.length → V j (slotOf a' (ds.getD j none)) w') → Q .normal a' w') :
    (Code.region id l.toArray true).wp P Q a w := by
  have hlen : l.length = ds.length := by rw [← hds]; simp
  have hgw : g < w.heap.size := (Array.getElem?_eq_some_iff.1 hg).1
  have hmem : ∀ j d, ds.getD j none = some d → d ∈ ds.filterMap fun x => x := by
    intro j d h
    rw [List.mem_filterMap]
    refine ⟨some d, ?_, rfl⟩
    rw [List.getD_eq_getElem?_getD] at h
    cases e : ds[j]? with
    | none => rw [e] at h; cases h
    | some x => rw [e] at h; simp only [Option.getD_some] at h; rw [← h]; exact List.mem_of_getElem? e
  have hinj : ∀ (L : List (Option Nat)), (L.filterMap fun x => x).Nodup → ∀ (i j : Nat) (d : Nat), L.getD i none = some d → L.getD j none = some d → i = j := by
    intro L
    induction L with
    | nil => intro _ i j d h; simp at h
    | cons x L ih =>
      intro hn i j d hi hj
      have hmem' : ∀ k, L.getD k none = some d → d ∈ L.filterMap fun x => x := by
        intro k h
        rw [List.mem_filterMap]
        refine ⟨some d, ?_, rfl⟩
        rw [List.getD_eq_getElem?_getD] at h
        cases e : L[k]? with
        | none => rw [e] at h; cases h
        | some y => rw [e] at h; simp only [Option.getD_some] at h; rw [← h]; exact List.mem_of_getElem? e
      cases x with
      | none =>
        have hn' : (L.filterMap fun x => x).Nodup := by simpa using hn
        cases i with
        | zero => simp at hi
        | succ i =>
          cases j with
          | zero => simp at hj
          | succ j => rw [ih hn' i j d (by simpa using hi) (by simpa using hj)]
      | some y =>
        have hn' : y ∉ (L.filterMap fun x => x) ∧ (L.filterMap fun x => x).Nodup := by simpa using hn
        cases i with
        | zero =>
          have hy : y = d := by simpa using hi
          subst hy
          cases j with
          | zero => rfl
          | succ j => exact absurd (hmem' j (by simpa using hj)) hn'.1
        | succ i =>
          cases j with
          | zero =>
            have hy : y = d := by simpa using hj
            subst hy
            exact absurd (hmem' i (by simpa using hi)) hn'.1
          | succ j => rw [ih hn'.2 i j d (by simpa using hi) (by simpa using hj)]
  refine wp_region_inv hm hac (fun b a' w' => Fr (ds.filterMap fun x => x) a a' ∧ Below B w w' ∧ (∃ old, w'.heap[g]? = some (.cells old T (0, 0)) ∧ old.size = C.size) ∧ ∀ j, j < l.length → b j = true → V j (slotOf a' (ds.getD j none)) w') ?_ ?_ ?_
  · exact ⟨Fr.refl _ _, (Below.refl _ _).drew, ⟨old0, hg, hold⟩, fun j _ h => by cases h⟩
  · rintro b a' w' ⟨hf, hb, hgo, hall⟩ i o ho hbi hpre
    have hil : i < l.length := (List.getElem?_eq_some_iff.1 ho).1
    obtain ⟨old, ho1, ho2⟩ := hgo
    have hgw' : g < w'.heap.size := (Array.getElem?_eq_some_iff.1 ho1).1
    refine wpOp_mono ?_ (step i o ho a' w' hf hb ⟨old, ho1, ho2⟩ ?_)
    · rintro a'' w'' ⟨v, rfl, hno, hv, hb'⟩
      have hst : ∀ j v, V j v w' → V j v w'' := by
        intro j v hj
        rcases hb' with hb' | rfl
        · exact hV1 _ _ _ _ hj hb'
        · exact hV2 _ _ _ hj
      have hbw : Below B w w'' := by
        rcases hb' with hb' | rfl
        · exact hb.trans (hb'.mono (by omega))
        · exact below_setRow hb hB C
      have hgo' : ∃ old, w''.heap[g]? = some (.cells old T (0, 0)) ∧ old.size = C.size := by
        rcases hb' with hb' | rfl
        · exact ⟨old, (hb'.block g hgw').trans ho1, ho2⟩
        · exact ⟨C, setRow_at ho1, rfl⟩
      refine ⟨?_, hbw, hgo', fun j hj hbj => ?_⟩
      · cases e : ds.getD i none with
        | none => exact hf
        | some d => exact hf.put (hmem i d e) v
      · by_cases e : j = i
        · subst e
          cases ed : ds.getD j none with
          | none => rw [hno ed] at hv; exact hv
          | some d =>
            show V j ((a'.put (some d) v).tmps.getD d undef) w''
            rw [put_at]
            · exact hv
            · rw [hf.size]
              have := (List.all_eq_true.1 hlt) _ (hmem j d ed)
              simpa using this
        · simp only [e, if_false] at hbj
          have hvj := hst j _ (hall j hj hbj)
          cases ed : ds.getD j none with
          | none => rw [ed] at hvj; exact hvj
          | some d =>
            rw [ed] at hvj
            show V j ((a'.put (ds.getD i none) v).tmps.getD d undef) w''
            cases ei : ds.getD i none with
            | none => exact hvj
            | some d' =>
              rw [put_other _ _ _ _ (fun e' => e (hinj ds hnd j i d ed (by rw [ei, e'])))]
              exact hvj
    · intro j hj
      obtain ⟨k, hk, hj⟩ := Array.any_eq_true.1 hj
      obtain ⟨e, he, e1⟩ : ∃ e, e ∈ o.after ∧ e = o.after[k] := ⟨_, Array.getElem_mem hk, rfl⟩
      rw [← e1] at hj
      simp only [Bool.and_eq_true, beq_iff_eq] at hj
      obtain ⟨hbd, rfl⟩ := hj
      have h1 : b e.on = true := by
        simp only [Array.all_eq_true_iff_forall_mem] at hpre
        have := hpre e he
        rw [hbd] at this
        simpa using this
      have h2 : e.on < i := by
        have hac' := (List.all_eq_true.1 hac) i (List.mem_range.2 hil)
        simp only [ho, Option.map_some, Option.getD_some, Array.all_eq_true_iff_forall_mem] at hac'
        have := hac' e he
        rw [hbd] at this
        simpa using this
      exact hall e.on (by omega) h1
  · rintro b a' w' ⟨hf, hb, _, hall⟩ hdone
    exact done a' w' hf hb fun j hj => hall j hj (hdone j hj)

/-- The row holds C. -/
def VRowIs (g : Nat) (T : TypeId) (C : Array Value) : Value → World → Prop := fun _ w => w.heap[g]? = some (.cells C T (0, 0))
theorem VRowIs.stab (g : Nat) (T : TypeId) (C : Array Value) : Stab (VRowIs g T C) := fun v w1 w2 h hb => (hb.block g (Array.getElem?_eq_some_iff.1 h).1).trans h
def Stab2 (g : Nat) (C : Array Value) (V : Value → World → Prop) : Prop := ∀ v w1, V v w1 → V v (w1.setRow g C)
theorem VIs.stab2 (g : Nat) (C : Array Value) (x : Value) : Stab2 g C (VIs x) := fun _ _ h => h
theorem VRowIs.stab2 (g : Nat) (T : TypeId) (C : Array Value) : Stab2 g C (VRowIs g T C) := fun v w1 h => setRow_at h
theorem stab2_list {g : Nat} {C : Array Value} (Vs : List (Value → World → Prop)) (h : ∀ V ∈ Vs, Stab2 g C V) : ∀ i v w1, (Vs.getD i fun _ _ => True) v w1 → (Vs.getD i fun _ _ => True) v (w1.setRow g C) := by
  intro i v w1 hv
  simp only [List.getD_eq_getElem?_getD] at *
  cases e : Vs[i]? with
  | none => simp
  | some V =>
    rw [e] at hv
    exact h V (List.mem_of_getElem? e) v w1 hv

/-- An operation that adds. -/
theorem put_op {P : Program} {l : List Oper} {Q : Exit → Act → World → Prop} {i d : Nat} {o : Oper} {a : Act} {w : World} {V : Value → World → Prop} {X : World → Prop} (ho : l[i]? = some o) (hw : Region.wanted o (yielded l.toArray a.tmps) = true) (hd : o.dst = some d)
    (h : o.wp P a w (Grew o.dst V a w) Q) : wpOp P l.toArray Q i (fun a'' w'' => ∃ v, a'' = a.put (some d) v ∧ ((some d : Option Nat) = none → v = undef) ∧ V v w'' ∧ (Below w.heap.size w w'' ∨ X w'')) a w := by
  refine wpOp_mono ?_ (grow_op ho hw hd h)
  rintro a'' w'' ⟨v, h1, h2, h3⟩
  exact ⟨v, h1, fun h => by (exact nomatch h), h2, .inl h3⟩
/-- The operation that fills the row. -/
theorem put_store {P : Program} {l : List Oper} {Q : Exit → Act → World → Prop} {i : Nat} {o : Oper} {a : Act} {w : World} {V : Value → World → Prop} (ho : l[i]? = some o) (hw : Region.wanted o (yielded l.toArray a.tmps) = true) (ty : TypeId) (x y : Operand)
    (hop : o.op = .store ty x y) (hd : o.dst = none) (g : Nat) (C : Array Value) (hx : a.eval x = .pointer (some ⟨g, 0, none⟩)) (hy : a.eval y = .agg C) (T : TypeId) (hg : ∃ old, w.heap[g]? = some (.cells old T (0, 0)) ∧ old.size = C.size)
    (hi : (P.info? ty).map (·.size) = some C.size) (h1 : C.all (·.oneCell') = true) (hv : V undef (w.setRow g C)) :
    wpOp P l.toArray Q i (fun a'' w'' => ∃ v, a'' = a.put none v ∧ ((none : Option Nat) = none → v = undef) ∧ V v w'' ∧ (Below w.heap.size w w'' ∨ w'' = w.setRow g C)) a w := by
  obtain ⟨old, h2, h3⟩ := hg
  unfold wpOp
  rw [show l.toArray[i]? = some o by simpa using ho]
  simp only [hw, if_true]
  refine .inl (wp_store_row ty x y hop g C hx hy T old h2 hi h3 h1 ?_)
  rw [hd]
  exact ⟨undef, rfl, fun _ => rfl, hv, .inr rfl⟩
end Go.Proofs.Ytfcokdkbjajohaa
/- A statement whose order is open, whose operations add to the memory, and one of which fills a field of the call's own struct. -/
set_option linter.unusedVariables false
namespace Go.Proofs.Ytfcokdkbjajohaa
open Go.RowKit

theorem wp_region_putK {P : Program} {id : Nat} {l : List Oper} {Q : Exit → Act → World → Prop} {a : Act} {w : World} (hm : P.follows .mixedOrders = true)
    (hac : ((List.range l.length).all fun i => ((l[i]?).map fun o => o.after.all fun e => !Region.binds .any e || decide (e.on < i)).getD true) = true)
    (ds : List (Option Nat)) (hds : l.map (·.dst) = ds) (hnd : (ds.filterMap fun x => x).Nodup) (hlt : (ds.filterMap fun x => x).all (fun d => decide (d < a.tmps.size)) = true)
    (g : Nat) (T : TypeId) (C old0 : Array Value) (hg : w.heap[g]? = some (.cells old0 T (0, 0))) (K : Array Value → Prop) (hold : K old0) (hKC : K C) (B : Nat) (hB : B ≤ g)
    (V : Nat → Value → World → Prop) (hV1 : ∀ i v w1 w2, V i v w1 → Below w1.heap.size w1 w2 → V i v w2) (hV2 : ∀ i v w1, V i v w1 → V i v (w1.setRow g C))
    (step : ∀ i o, l[i]? = some o → ∀ a' w', Fr (ds.filterMap fun x => x) a a' → Below B w w' → (∃ old, w'.heap[g]? = some (.cells old T (0, 0)) ∧ K old) →
      (∀ j, (o.after.any fun e => Region.binds .any e && e.on == j) = true → V j (slotOf a' (ds.getD j none)) w') →
      wpOp P l.toArray Q i (fun a'' w'' => ∃ v, a'' = a'.put (ds.getD i none) v ∧ (ds.getD i none = none → v = undef) ∧ V i v w'' ∧ (Below w'.heap.size w' w'' ∨ w'' = w'.setRow g C)) a' w')
    (done : ∀ a' w', Fr (ds.filterMap fun x => x) a a' → Below B w w' → (∀ j, j < l.length → V j (slotOf a' (ds.getD j none)) w') → Q .normal a' w') :
    (Code.region id l.toArray true).wp P Q a w := by
  have hlen : l.length = ds.length := by rw [← hds]; simp
  have hgw : g < w.heap.size := (Array.getElem?_eq_some_iff.1 hg).1
  have hmem : ∀ j d, ds.getD j none = some d → d ∈ ds.filterMap fun x => x := by
    intro j d h
    rw [List.mem_filterMap]
    refine ⟨some d, ?_, rfl⟩
    rw [List.getD_eq_getElem?_getD] at h
    cases e : ds[j]? with
    | none => rw [e] at h; cases h
    | some x => rw [e] at h; simp only [Option.getD_some] at h; rw [← h]; exact List.mem_of_getElem? e
  have hinj : ∀ (L : List (Option Nat)), (L.filterMap fun x => x).Nodup → ∀ (i j : Nat) (d : Nat), L.getD i none = some d → L.getD j none = some d → i = j := by
    intro L
    induction L with
    | nil => intro _ i j d h; simp at h
    | cons x L ih =>
      intro hn i j d hi hj
      have hmem' : ∀ k, L.getD k none = some d → d ∈ L.filterMap fun x => x := by
        intro k h
        rw [List.mem_filterMap]
        refine ⟨some d, ?_, rfl⟩
        rw [List.getD_eq_getElem?_getD] at h
        cases e : L[k]? with
        | none => rw [e] at h; cases h
        | some y => rw [e] at h; simp only [Option.getD_some] at h; rw [← h]; exact List.mem_of_getElem? e
      cases x with
      | none =>
        have hn' : (L.filterMap fun x => x).Nodup := by simpa using hn
        cases i with
        | zero => simp at hi
        | succ i =>
          cases j with
          | zero => simp at hj
          | succ j => rw [ih hn' i j d (by simpa using hi) (by simpa using hj)]
      | some y =>
        have hn' : y ∉ (L.filterMap fun x => x) ∧ (L.filterMap fun x => x).Nodup := by simpa using hn
        cases i with
        | zero =>
          have hy : y = d := by simpa using hi
          subst hy
          cases j with
          | zero => rfl
          | succ j => exact absurd (hmem' j (by simpa using hj)) hn'.1
        | succ i =>
          cases j with
          | zero =>
            have hy : y = d := by simpa using hj
            subst hy
            exact absurd (hmem' i (by simpa using hi)) hn'.1
          | succ j => rw [ih hn'.2 i j d (by simpa using hi) (by simpa using hj)]
  refine wp_region_inv hm hac (fun b a' w' => Fr (ds.filterMap fun x => x) a a' ∧ Below B w w' ∧ (∃ old, w'.heap[g]? = some (.cells old T (0, 0)) ∧ K old) ∧ ∀ j, j < l.length → b j = true → V j (slotOf a' (ds.getD j none)) w') ?_ ?_ ?_
  · exact ⟨Fr.refl _ _, (Below.refl _ _).drew, ⟨old0, hg, hold⟩, fun j _ h => by cases h⟩
  · rintro b a' w' ⟨hf, hb, hgo, hall⟩ i o ho hbi hpre
    have hil : i < l.length := (List.getElem?_eq_some_iff.1 ho).1
    obtain ⟨old, ho1, ho2⟩ := hgo
    have hgw' : g < w'.heap.size := (Array.getElem?_eq_some_iff.1 ho1).1
    refine wpOp_mono ?_ (step i o ho a' w' hf hb ⟨old, ho1, ho2⟩ ?_)
    · rintro a'' w'' ⟨v, rfl, hno, hv, hb'⟩
      have hst : ∀ j v, V j v w' → V j v w'' := by
        intro j v hj
        rcases hb' with hb' | rfl
        · exact hV1 _ _ _ _ hj hb'
        · exact hV2 _ _ _ hj
      have hbw : Below B w w'' := by
        rcases hb' with hb' | rfl
        · exact hb.trans (hb'.mono (by omega))
        · exact below_setRow hb hB C
      have hgo' : ∃ old, w''.heap[g]? = some (.cells old T (0, 0)) ∧ K old := by
        rcases hb' with hb' | rfl
        · exact ⟨old, (hb'.block g hgw').trans ho1, ho2⟩
        · exact ⟨C, setRow_at ho1, hKC⟩
      refine ⟨?_, hbw, hgo', fun j hj hbj => ?_⟩
      · cases e : ds.getD i none with
        | none => exact hf
        | some d => exact hf.put (hmem i d e) v
      · by_cases e : j = i
        · subst e
          cases ed : ds.getD j none with
          | none => rw [hno ed] at hv; exact hv
          | some d =>
            show V j ((a'.put (some d) v).tmps.getD d undef) w''
            rw [put_at]
            · exact hv
            · rw [hf.size]
              have := (List.all_eq_true.1 hlt) _ (hmem j d ed)
              simpa using this
        · simp only [e, if_false] at hbj
          have hvj := hst j _ (hall j hj hbj)
          cases ed : ds.getD j none with
          | none => rw [ed] at hvj; exact hvj
          | some d =>
            rw [ed] at hvj
            show V j ((a'.put (ds.getD i none) v).tmps.getD d undef) w''
            cases ei : ds.getD i none with
            | none => exact hvj
            | some d' =>
              rw [put_other _ _ _ _ (fun e' => e (hinj ds hnd j i d ed (by rw [ei, e'])))]
              exact hvj
    · intro j hj
      obtain ⟨k, hk, hj⟩ := Array.any_eq_true.1 hj
      obtain ⟨e, he, e1⟩ : ∃ e, e ∈ o.after ∧ e = o.after[k] := ⟨_, Array.getElem_mem hk, rfl⟩
      rw [← e1] at hj
      simp only [Bool.and_eq_true, beq_iff_eq] at hj
      obtain ⟨hbd, rfl⟩ := hj
      have h1 : b e.on = true := by
        simp only [Array.all_eq_true_iff_forall_mem] at hpre
        have := hpre e he
        rw [hbd] at this
        simpa using this
      have h2 : e.on < i := by
        have hac' := (List.all_eq_true.1 hac) i (List.mem_range.2 hil)
        simp only [ho, Option.map_some, Option.getD_some, Array.all_eq_true_iff_forall_mem] at hac'
        have := hac' e he
        rw [hbd] at this
        simpa using this
      exact hall e.on (by omega) h1
  · rintro b a' w' ⟨hf, hb, _, hall⟩ hdone
    exact done a' w' hf hb fun j hj => hall j hj (hdone j hj)


theorem setCell_row {w : World} {g k : Nat} {x : Value} {old C : Array Value} {T : TypeId} {fr : Nat × Nat} (h : w.heap[g]? = some (.cells old T fr)) (hC : old.setIfInBounds k x = C) : w.setCell ⟨g, k, none⟩ x = w.setRow g C := by
  unfold World.setCell World.setRow
  congr 1
  apply Array.ext_getElem?
  intro i
  rw [Array.getElem?_modify, Array.getElem?_modify]
  by_cases e : g = i
  · subst e
    rw [if_pos rfl, if_pos rfl, h]
    simp [hC]
  · rw [if_neg e, if_neg e]
/-- The operation that fills a field. -/
theorem put_field {P : Program} {l : List Oper} {Q : Exit → Act → World → Prop} {i : Nat} {o : Oper} {a : Act} {w : World} {V : Value → World → Prop} (ho : l[i]? = some o) (hw : Region.wanted o (yielded l.toArray a.tmps) = true) (hd : o.dst = none)
    (g k : Nat) (X : Value) (C : Array Value) (T : TypeId) (hg : ∃ old, w.heap[g]? = some (.cells old T (0, 0)) ∧ old.setIfInBounds k X = C) (h : (execOp a.eval o).run P w = .ok .skip (w.setCell ⟨g, k, none⟩ X)) (hv : V undef (w.setRow g C)) :
    wpOp P l.toArray Q i (fun a'' w'' => ∃ v, a'' = a.put none v ∧ ((none : Option Nat) = none → v = undef) ∧ V v w'' ∧ (Below w.heap.size w w'' ∨ w'' = w.setRow g C)) a w := by
  obtain ⟨old, h1, h2⟩ := hg
  have e := setCell_row (k := k) h1 h2
  unfold wpOp
  rw [show l.toArray[i]? = some o by simpa using ho]
  simp only [hw, if_true]
  refine .inl ?_
  unfold Oper.wp
  rw [h, e]
  show ∃ v, a.put o.dst undef = a.put none v ∧ _
  rw [hd]
  exact ⟨undef, rfl, fun _ => rfl, hv, .inr rfl⟩
/-- A block of five cells, or of three, below. -/
theorem five_at {B x : Nat} {w w' : World} {a b c d e : Value} {T : TypeId} {fr : Nat × Nat} (h : w.heap[x]? = some (.cells #[a, b, c, d, e] T fr)) (hb : Below B w w') (hx : x < B) :
    w'.cell? ⟨x, 0, none⟩ = some a ∧ w'.cell? ⟨x, 1, none⟩ = some b ∧ w'.cell? ⟨x, 2, none⟩ = some c ∧ w'.cell? ⟨x, 3, none⟩ = some d ∧ w'.cell? ⟨x, 4, none⟩ = some e := by
  have hx := (hb.block x hx).trans h
  refine ⟨?_, ?_, ?_, ?_, ?_⟩ <;> (rw [Lib.cell_of_heap hx]; rfl)
theorem three_at {B x : Nat} {w w' : World} {a b c : Value} {T : TypeId} {fr : Nat × Nat} (h : w.heap[x]? = some (.cells #[a, b, c] T fr)) (hb : Below B w w') (hx : x < B) :
    w'.cell? ⟨x, 0, none⟩ = some a ∧ w'.cell? ⟨x, 1, none⟩ = some b ∧ w'.cell? ⟨x, 2, none⟩ = some c := by
  have hx := (hb.block x hx).trans h
  refine ⟨?_, ?_, ?_⟩ <;> (rw [Lib.cell_of_heap hx]; rfl)
theorem three_stored {w : World} {g : Nat} {x0 x1 x2 : Value} {T : TypeId} {fr : Nat × Nat} (h : w.heap[g]? = some (.cells #[x0, x1, x2] T fr)) (a b c : Value) :
    (((w.setCell ⟨g, 0, none⟩ a).setCell ⟨g, 1, none⟩ b).setCell ⟨g, 2, none⟩ c).heap[g]? = some (.cells #[a, b, c] T fr) := by
  simp [World.setCell, Array.getElem?_modify, h]
theorem below_three {B g : Nat} {w0 w : World} (h : Below B w0 w) (hg : B ≤ g) (a b c : Value) : Below B w0 (((w.setCell ⟨g, 0, none⟩ a).setCell ⟨g, 1, none⟩ b).setCell ⟨g, 2, none⟩ c) := by
  have s1 : ∀ (w : World) (i : Nat) (v : Value), Below B w0 w → Below B w0 (w.setCell ⟨g, i, none⟩ v) := fun w i v h => h.setCell hg _
  exact s1 _ _ _ (s1 _ _ _ (s1 _ _ _ h))
end Go.Proofs.Ytfcokdkbjajohaa
/- With. -/
set_option linter.unusedVariables false
namespace Go.Proofs.Ytfcokdkbjajohaa
open Go.RowKit

theorem none_mem {ok : Nat → Prop} {w : World} {a : Option Addr} {m : List (List UInt8 × JV)} {cm : List (List Value)} (h3 : RdO ok w a (memCells m cm)) (h4 : RepsM ok w cm m) (ha : a = none) : m.length = 0 := by
  have hl := mem6_len h4
  rcases h3 with h | ⟨b, off, e, _⟩
  · rw [h] at hl
    simp only [List.length_nil] at hl
    omega
  · rw [ha] at e
    cases e
theorem four_alloc (w : World) (o0 o1 o2 o3 : Obj) : Below w.heap.size w ((((w.alloc o0).alloc o1).alloc o2).alloc o3) ∧ ((((w.alloc o0).alloc o1).alloc o2).alloc o3).heap[w.heap.size]? = some o0 ∧ ((((w.alloc o0).alloc o1).alloc o2).alloc o3).heap[w.heap.size + 1]? = some o1 ∧ ((((w.alloc o0).alloc o1).alloc o2).alloc o3).heap[w.heap.size + 1 + 1]? = some o2 ∧ ((((w.alloc o0).alloc o1).alloc o2).alloc o3).heap[w.heap.size + 1 + 1 + 1]? = some o3 := by
  have s1 : (w.alloc o0).heap.size = w.heap.size + 1 := by simp
  have s2 : ((w.alloc o0).alloc o1).heap.size = w.heap.size + 1 + 1 := by simp
  have s3 : (((w.alloc o0).alloc o1).alloc o2).heap.size = w.heap.size + 1 + 1 + 1 := by simp
  have h1 := heap_alloc_new (w.alloc o0) o1
  have h2 := heap_alloc_new ((w.alloc o0).alloc o1) o2
  have h3 := heap_alloc_new (((w.alloc o0).alloc o1).alloc o2) o3
  rw [s1] at h1
  rw [s2] at h2
  rw [s3] at h3
  exact ⟨((((Below.refl _ _).alloc (Nat.le_refl _) _).alloc (by simp) _).alloc (by simp; omega) _).alloc (by simp; omega) _, block_alloc (block_alloc (block_alloc (heap_alloc_new w _) _) _) _, block_alloc (block_alloc h1 _) _, block_alloc h2 _, h3⟩
theorem five_else (w : World) (gr : Nat) (a b c d e : Value) : ∀ k, k ≠ gr → (((((w.setCell ⟨gr, 0, none⟩ a).setCell ⟨gr, 1, none⟩ b).setCell ⟨gr, 2, none⟩ c).setCell ⟨gr, 3, none⟩ d).setCell ⟨gr, 4, none⟩ e).heap[k]? = w.heap[k]? := fun k hk => by
  rw [Below.heap_setCell _ _ _ _ hk, Below.heap_setCell _ _ _ _ hk, Below.heap_setCell _ _ _ _ hk, Below.heap_setCell _ _ _ _ hk, Below.heap_setCell _ _ _ _ hk]
theorem five_put {w : World} {g p : Nat} {cur : Array Value} {T : TypeId} {fr : Nat × Nat} (h : w.heap[g]? = some (.cells cur T fr)) (hp : p + 5 ≤ cur.size) (a b c d e : Value) :
    (∀ k, k ≠ g → (((((w.setCell ⟨g, p, none⟩ a).setCell ⟨g, p + 1, none⟩ b).setCell ⟨g, p + 2, none⟩ c).setCell ⟨g, p + 3, none⟩ d).setCell ⟨g, p + 4, none⟩ e).heap[k]? = w.heap[k]?) ∧
    (∀ q, ¬ (p ≤ q ∧ q < p + 5) → (((((w.setCell ⟨g, p, none⟩ a).setCell ⟨g, p + 1, none⟩ b).setCell ⟨g, p + 2, none⟩ c).setCell ⟨g, p + 3, none⟩ d).setCell ⟨g, p + 4, none⟩ e).cell? ⟨g, q, none⟩ = w.cell? ⟨g, q, none⟩) ∧
    (∀ i, i < 5 → (((((w.setCell ⟨g, p, none⟩ a).setCell ⟨g, p + 1, none⟩ b).setCell ⟨g, p + 2, none⟩ c).setCell ⟨g, p + 3, none⟩ d).setCell ⟨g, p + 4, none⟩ e).cell? ⟨g, p + i, none⟩ = [a, b, c, d, e][i]?) ∧
    (((((w.setCell ⟨g, p, none⟩ a).setCell ⟨g, p + 1, none⟩ b).setCell ⟨g, p + 2, none⟩ c).setCell ⟨g, p + 3, none⟩ d).setCell ⟨g, p + 4, none⟩ e).heap.size = w.heap.size := by
  have hh : (((((w.setCell ⟨g, p, none⟩ a).setCell ⟨g, p + 1, none⟩ b).setCell ⟨g, p + 2, none⟩ c).setCell ⟨g, p + 3, none⟩ d).setCell ⟨g, p + 4, none⟩ e).heap[g]? = some (.cells (((((cur.setIfInBounds p a).setIfInBounds (p + 1) b).setIfInBounds (p + 2) c).setIfInBounds (p + 3) d).setIfInBounds (p + 4) e) T fr) := by
    simp [World.setCell, Array.getElem?_modify, h]
  refine ⟨fun k hk => ?_, fun q hq => ?_, fun i hi => ?_, by simp [World.setCell]⟩
  · rw [Below.heap_setCell _ _ _ _ hk, Below.heap_setCell _ _ _ _ hk, Below.heap_setCell _ _ _ _ hk, Below.heap_setCell _ _ _ _ hk, Below.heap_setCell _ _ _ _ hk]
  · rw [Lib.cell_of_heap hh, Lib.cell_of_heap h, Array.getElem?_setIfInBounds_ne (by omega), Array.getElem?_setIfInBounds_ne (by omega), Array.getElem?_setIfInBounds_ne (by omega), Array.getElem?_setIfInBounds_ne (by omega), Array.getElem?_setIfInBounds_ne (by omega)]
  · rw [Lib.cell_of_heap hh]
    have q0 : p < cur.size := by omega
    have q1 : p + 1 < cur.size := by omega
    have q2 : p + 2 < cur.size := by omega
    have q3 : p + 3 < cur.size := by omega
    have q4 : p + 4 < cur.size := by omega
    match i, hi with
    | 0, _ =>
      rw [Array.getElem?_setIfInBounds_ne (by omega), Array.getElem?_setIfInBounds_ne (by omega), Array.getElem?_setIfInBounds_ne (by omega), Array.getElem?_setIfInBounds_ne (by omega)]
      simp [q0]
    | 1, _ =>
      rw [Array.getElem?_setIfInBounds_ne (by omega), Array.getElem?_setIfInBounds_ne (by omega), Array.getElem?_setIfInBounds_ne (by omega)]
      simp [q1]
    | 2, _ =>
      rw [Array.getElem?_setIfInBounds_ne (by omega), Array.getElem?_setIfInBounds_ne (by omega)]
      simp [q2]
    | 3, _ =>
      rw [Array.getElem?_setIfInBounds_ne (by omega)]
      simp [q3]
    | 4, _ => simp [q4]
theorem field5 {w : World} {g : Nat} {x0 x1 x2 x3 x4 : Value} {T : TypeId} {fr : Nat × Nat} (h : w.heap[g]? = some (.cells #[x0, x1, x2, x3, x4] T fr)) (e : Value) : (w.setCell ⟨g, 4, none⟩ e).heap[g]? = some (.cells #[x0, x1, x2, x3, e] T fr) := by
  simp [World.setCell, Array.getElem?_modify, h]
set_option maxRecDepth 100000 in
set_option maxHeartbeats 16000000 in
theorem jwith_any (k : Int) (y : Bool) (t : List UInt8) (l : List JV) (m : List (List UInt8 × JV)) (n : List UInt8) (x : JV) (ok : Nat → Prop) (cs cx : List Value) (w : World) (h : Rep ok w cs (.mk k y t l m)) (hx : Rep ok w cx x) (hl : m.length ≤ 900000) :
    Calls Try.prog 23 #[.agg cs.toArray, .string ⟨n.toArray⟩, .agg cx.toArray] w fun e w' => Below w.heap.size w w' ∧ ∃ cs', e = .returned (.agg cs'.toArray) ∧ Rep (fun b => (ok b ∧ b < w.heap.size) ∨ w.heap.size ≤ b) w' cs' (.mk k y t l (withM n x m)) := by
  have HX0 := Lib.hid hx.lt
  obtain ⟨xa, xc, xa', xc', _, _, rfl, -⟩ := hx.parts
  obtain ⟨a, c, a', c', cl, cm, rfl, h1, h2, h3, h4, hc, hc'⟩ := h.parts
  simp only [JV.list, JV.mem] at h1 h2 h3 h4 hc hc'
  obtain ⟨xk, xy, xt, xl, xm, e1, e2, e3, e4, e5⟩ : ∃ k y t l1 m1, x.kind = k ∧ x.yes = y ∧ (⟨x.text.toArray⟩ : ByteArray) = t ∧ x.list.length = l1 ∧ x.mem.length = m1 := ⟨_, _, _, _, _, rfl, rfl, rfl, rfl, rfl⟩
  unfold strV at *
  rw [e1, e2, e3, e4, e5] at HX0
  rw [e1, e2, e3, e4, e5]
  simp only [JV.kind, JV.yes, JV.text, JV.list, JV.mem]
  clear h hx e1 e2 e3 e4 e5
  have hl6 := mem6_len h4
  have hone := h4.one
  have hnn := none_mem h3 h4
  have H1 := Lib.hid h1.lt
  have H2 := Lib.hid (show Reps (fun b => ok b ∧ b < w.heap.size) w cl l from Reps.lt h2)
  have H4 := Lib.hid (show RepsM (fun b => ok b ∧ b < w.heap.size) w cm m from RepsM.lt h4)
  have HC := Lib.hid (And.intro hc hc')
  have HRC := Lib.hid h3.rdc
  clear h1 h2 h3 h4 hc hc'
  obtain ⟨tt, htt⟩ : ∃ tt : ByteArray, (⟨t.toArray⟩ : ByteArray) = tt := ⟨_, rfl⟩
  have HTT := Lib.hid htt
  rw [htt]
  clear htt
  obtain ⟨ll, hll⟩ : ∃ ll : Nat, l.length = ll := ⟨_, rfl⟩
  have HLL := Lib.hid hll
  rw [hll]
  clear hll
  go_enter Try.func23, Try.ntmps23
  go_upto_region 1 with (fail)
  obtain ⟨hb, g0, g1, g2, g3⟩ := four_alloc w (.cells #[.int .i64 k, .bool y, .string tt, .slice a ll c, .slice a' m.length c'] 28) (.cells #[.string ⟨n.toArray⟩] 9) (.cells #[.int .i64 xk, .bool xy, .string xt, .slice xa xl xc, .slice xa' xm xc'] 28) (.cells #[.int .i64 0, .bool false, .string ⟨#[]⟩, .slice none 0 0, .slice none 0 0] 28)
  generalize (((w.alloc _).alloc _).alloc _).alloc _ = w1 at *
  obtain ⟨b0, hb0⟩ : ∃ b, w.heap.size = b := ⟨_, rfl⟩
  have hs1 : w.heap.size + 1 + 1 + 1 < w1.heap.size := (Array.getElem?_eq_some_iff.1 g3).1
  have HB1 := Lib.hid hb
  have HCL := Lib.hid (cloneM_any a' m.length c' (memCells m cm) w1 (HRC.out.below hb) hl6 hone (by omega) hnn)
  have G0 := Lib.hid g0
  have G1 := Lib.hid g1
  have G2 := Lib.hid g2
  have G3 := Lib.hid g3
  obtain ⟨v0, v1, v2, v3, v4⟩ := five_at g0 (Below.refl w1.heap.size w1) (by omega)
  clear hb g0 g1 g2 g3 hnn hone hb0
  go_wp2_with fail
  refine HCL.out.mono ?_
  rintro e w2 ⟨v, rfl, hown, hb2⟩
  have HB2 := Lib.hid (HB1.out.trans (hb2.mono HB1.out.size))
  have K0 := Lib.hid ((hb2.block _ (by omega)).trans G0.out)
  have K1 := Lib.hid ((hb2.block _ (by omega)).trans G1.out)
  have K2 := Lib.hid ((hb2.block _ (by omega)).trans G2.out)
  have K3 := Lib.hid ((hb2.block _ (by omega)).trans G3.out)
  obtain ⟨rb, rc, rfl, hrd, hrl⟩ := own_rd hown
  have HOW := Lib.hid hown
  have HRD := Lib.hid hrd
  have hs2 : w1.heap.size ≤ w2.heap.size := hb2.size
  have HCL' := Lib.hid hrl
  clear hb2 hown hrd hrl v0 v1 v2 v3 v4 HCL G0 G1 G2 G3
  obtain ⟨v0, v1, v2, v3, v4⟩ := five_at K0.out (Below.refl w2.heap.size w2) (by omega)
  have f4 := Lib.frozen_of_heap K0.out 4
  go_upto_region 2 with (fail)
  have hL0 := field5 K0.out (.slice rb m.length rc)
  have hot : ∀ k, k ≠ w.heap.size → (w2.setCell ⟨w.heap.size, 4, none⟩ (.slice rb m.length rc)).heap[k]? = w2.heap[k]? := fun k hk => Below.heap_setCell _ _ _ _ hk
  have hb3 := HB2.out.setCell (p := ⟨w.heap.size, 4, none⟩) (Nat.le_refl _) (.slice rb m.length rc)
  have hsz3 : (w2.setCell ⟨w.heap.size, 4, none⟩ (.slice rb m.length rc)).heap.size = w2.heap.size := by simp [World.setCell]
  have hgb : w2.grownBy (w2.setCell ⟨w.heap.size, 4, none⟩ (.slice rb m.length rc)) (some w.heap.size) := ⟨rfl, rfl, rfl, by rw [hsz3]; exact Nat.le_refl _, fun k _ hk => hot k (fun e => hk (by rw [e]))⟩
  clear v0 v1 v2 v3 v4 f4
  generalize w2.setCell ⟨w.heap.size, 4, none⟩ (.slice rb m.length rc) = w3 at *
  have HB3 := Lib.hid hb3
  have L0 := Lib.hid hL0
  have L1 := Lib.hid ((hot _ (by omega)).trans K1.out)
  have L2 := Lib.hid ((hot _ (by omega)).trans K2.out)
  have L3 := Lib.hid ((hot _ (by omega)).trans K3.out)
  have HOW3 : Hid (w3.ownsRow w1.heap.size 38 6 (.slice rb m.length rc) m.length (memCells m cm)) := Lib.hid (World.ownsRow.kept (row := some w.heap.size) HOW.out hgb (by
    cases e : Value.ownBlock (.slice rb m.length rc) with
    | none => exact .inl rfl
    | some q =>
      have := (HOW.out.lt q e).1
      exact .inr (by intro h; injection h with h; omega)))
  have HRD3 : Hid (RdO (fun b => (ok b ∧ b < w.heap.size) ∨ w.heap.size ≤ b) w3 rb (memCells m cm)) := Lib.hid ((HRD.out.keep fun q hq _ => hot q (by omega)).mono fun q hq => .inr (by omega))
  have HM3 : Hid (RepsM (fun b => (ok b ∧ b < w.heap.size) ∨ w.heap.size ≤ b) w3 cm m) := Lib.hid ((H4.out.keep fun q hq _ => HB3.out.block q hq.2).mono fun q hq => .inl hq)
  have hs3 : w2.heap.size = w3.heap.size := hsz3.symm
  have hq1 : w3.cell? ⟨w.heap.size + 1, 0, none⟩ = some (.string ⟨n.toArray⟩) := by rw [Lib.cell_of_heap L1.out]; rfl
  have HIX := Lib.hid (wix_any n ⟨w.heap.size + 1, 0, none⟩ _ rb rc m cm w3 HRD3.out HM3.out hq1 (by omega))
  obtain ⟨R, hR⟩ : ∃ R : Int, (if idxM n m < m.length then (idxM n m : Int) else -1) = R := ⟨_, rfl⟩
  rw [hR] at HIX
  have HR := Lib.hid hR
  have hmf : ∀ (fn : Fn) (first cap : Array Value) (w : World), (Instr.makeFunc fn first cap).run Try.prog w = .ok (.func fn first cap) w := fun _ _ _ _ => rfl
  clear hL0 hot hb3 hsz3 hgb K0 K1 K2 K3 HB2 HB1 HOW HRD hR hq1
  obtain ⟨v0, v1, v2, v3, v4⟩ := five_at L0.out (Below.refl w3.heap.size w3) (by omega)
  go_wp2_with fail
  refine HIX.out.mono ?_
  rintro e w4 ⟨hb4, rfl⟩
  have HB4 := Lib.hid (HB3.out.trans (hb4.mono HB3.out.size))
  have J0 := Lib.hid ((hb4.block _ (by omega)).trans L0.out)
  have J1 := Lib.hid ((hb4.block _ (by omega)).trans L1.out)
  have J2 := Lib.hid ((hb4.block _ (by omega)).trans L2.out)
  have J3 := Lib.hid ((hb4.block _ (by omega)).trans L3.out)
  have HOW4 : Hid (w4.ownsRow w1.heap.size 38 6 (.slice rb m.length rc) m.length (memCells m cm)) := Lib.hid (World.ownsRow.kept (row := none) HOW3.out ⟨hb4.os, hb4.tape, hb4.output, hb4.size, fun k hk _ => hb4.block k hk⟩ (by cases Value.ownBlock (.slice rb m.length rc) <;> simp))
  have HM4 := Lib.hid (HM3.out.under hb4)
  have HRD4 := Lib.hid (HRD3.out.keep fun q _ hq => hb4.block q hq)
  have hs4 : w3.heap.size ≤ w4.heap.size := hb4.size
  clear hb4 v0 v1 v2 v3 v4 HIX L0 L1 L2 L3 HOW3 HM3 HRD3 HB3 hmf
  obtain ⟨v0, v1, v2, v3, v4⟩ := five_at J0.out (Below.refl w4.heap.size w4) (by omega)
  obtain ⟨x0, x1, x2, x3, x4⟩ := five_at J2.out (Below.refl w4.heap.size w4) (by omega)
  have n0 : w4.cell? ⟨w.heap.size + 1, 0, none⟩ = some (.string ⟨n.toArray⟩) := by rw [Lib.cell_of_heap J1.out]; rfl
  by_cases hi : idxM n m < m.length
  · have hRi : R = (idxM n m : Int) := by rw [← HR.out, if_pos hi]
    subst hRi
    have HW := Lib.hid (withM_at n x m hi)
    have HNM := Lib.hid (idxM_name n m hi)
    obtain ⟨g, off, k2, y2, t2, a2, l2, c2, a3, l3, c3, ea, -, i0, i1, i2, i3, i4, i5⟩ := mem_cells' HRD4.out HM4.out (idxM n m) hi
    obtain ⟨j, hj⟩ : ∃ j, idxM n m = j := ⟨_, rfl⟩
    rcases HOW4.out.2 with ⟨_, h0⟩ | ⟨g', cap, cur, er, hgB, hgg, hle, hcm, hsz, htk⟩
    · omega
    subst ea
    simp only [Value.slice.injEq, Option.some.injEq, Addr.mk.injEq] at er
    obtain ⟨⟨rfl, rfl, -⟩, -, rfl⟩ := er
    have HPUT := Lib.hid (fun (h5 : ∀ r ∈ cm, r.length = 5) (w' : World) hc ho hn => (show RdO (fun b => (ok b ∧ b < w.heap.size) ∨ w.heap.size ≤ b) w' (some ⟨g, 0, none⟩) (memCells (withM n x m) (cm.set (idxM n m) [.int .i64 xk, .bool xy, .string xt, .slice xa xl xc, .slice xa' xm xc'])) from by
      have h := rdo_put (w' := w') (v := x) (cs := [.int .i64 xk, .bool xy, .string xt, .slice xa xl xc, .slice xa' xm xc']) HRD4.out H4.out.1 h5 hi hc ho hn
      rw [idxM_name n m hi, ← withM_at n x m hi] at h
      exact h))
    have HREP := Lib.hid (fun (w' : World) (hb : Below w.heap.size w w') => (show RepsM (fun b => (ok b ∧ b < w.heap.size) ∨ w.heap.size ≤ b) w' (cm.set (idxM n m) [.int .i64 xk, .bool xy, .string xt, .slice xa xl xc, .slice xa' xm xc']) (withM n x m) from by
      have h := RepsM.put (RepsM.mono (H4.out.keep fun q hq _ => hb.block q hq.2) fun q hq => (.inl hq : (ok q ∧ q < w.heap.size) ∨ w.heap.size ≤ q)) hi ((HX0.out.keep fun q hq _ => hb.block q hq.2).mono fun q hq => (.inl hq : (ok q ∧ q < w.heap.size) ∨ w.heap.size ≤ q))
      rw [idxM_name n m hi, ← withM_at n x m hi] at h
      exact h))
    have HWL : Hid ((withM n x m).length = m.length) := Lib.hid (by rw [withM_at n x m hi, List.length_set])
    have hgl : g < w4.heap.size := (Array.getElem?_eq_some_iff.1 hgg).1
    have hjI : (idxM n m : Int) < (m.length : Int) := by omega
    have hfr := fun q => Lib.frozen_of_heap hgg q
    simp only [hj] at i0 i1 i2 i3 i4 i5 hi hjI ⊢
    have hcsz : j * 6 + 6 ≤ cur.size := by omega
    have dd : ∀ q, q < 5 → ∃ u, w4.cell? ⟨g, j * 6 + 1 + q, none⟩ = some u := fun q hq => by
      rw [Lib.cell_of_heap hgg]
      exact ⟨_, Array.getElem?_eq_getElem (by omega)⟩
    obtain ⟨u0, d0⟩ := dd 0 (by decide)
    obtain ⟨u1, d1⟩ := dd 1 (by decide)
    obtain ⟨u2, d2⟩ := dd 2 (by decide)
    obtain ⟨u3, d3⟩ := dd 3 (by decide)
    obtain ⟨u4, d4⟩ := dd 4 (by decide)
    simp only [Nat.add_zero] at d0
    have f0 := hfr (j * 6 + 1)
    have f1 := hfr (j * 6 + 1 + 1)
    have f2 := hfr (j * 6 + 1 + 2)
    have f3 := hfr (j * 6 + 1 + 3)
    have f4 := hfr (j * 6 + 1 + 4)
    have HGG := Lib.hid hgg
    clear i0 i1 i2 i3 i4 i5 dd hfr hgg htk
    go_upto_region 7 with (fail)
    obtain ⟨hot, hold, hnew, hsz5⟩ := five_put HGG.out (p := j * 6 + 1) (by omega) (.int .i64 xk) (.bool xy) (.string xt) (.slice xa xl xc) (.slice xa' xm xc')
    have hb5 : Below w.heap.size w4 (((((w4.setCell ⟨g, j * 6 + 1, none⟩ (.int .i64 xk)).setCell ⟨g, j * 6 + 1 + 1, none⟩ (.bool xy)).setCell ⟨g, j * 6 + 1 + 2, none⟩ (.string xt)).setCell ⟨g, j * 6 + 1 + 3, none⟩ (.slice xa xl xc)).setCell ⟨g, j * 6 + 1 + 4, none⟩ (.slice xa' xm xc')) := ⟨rfl, rfl, rfl, by rw [hsz5]; exact Nat.le_refl _, fun q hq => hot q (by omega)⟩
    clear v0 v1 v2 v3 v4 x0 x1 x2 x3 x4 n0 d0 d1 d2 d3 d4 f0 f1 f2 f3 f4
    generalize ((((w4.setCell _ _).setCell _ _).setCell _ _).setCell _ _).setCell _ _ = w5 at *
    have HB5 := Lib.hid (HB4.out.trans hb5)
    have M0 := Lib.hid ((hot w.heap.size (by omega)).trans J0.out)
    have M3 := Lib.hid ((hot (w.heap.size + 1 + 1 + 1) (by omega)).trans J3.out)
    have hput := HPUT.out (fun r hr => by obtain ⟨i, hi2, rfl⟩ := List.mem_iff_getElem.1 hr; exact (H4.out.2 i hi2 (by rw [← H4.out.1]; exact hi2)).len) w5 rfl
    simp only [hj, Nat.zero_add] at hput
    have HRD5 := Lib.hid (hput (fun q hq => hold q (by omega)) (fun i hi2 => hnew i hi2))
    have hs5 : w4.heap.size = w5.heap.size := hsz5.symm
    clear hot hold hnew hsz5 hb5 hput J0 J1 J2 J3 HOW4 HM4 HRD4 HB4 HPUT HGG
    obtain ⟨v0, v1, v2, v3, v4⟩ := five_at M0.out (Below.refl w5.heap.size w5) (by omega)
    obtain ⟨r0, r1, r2, r3, r4⟩ := five_at M3.out (Below.refl w5.heap.size w5) (by omega)
    have f0 := Lib.frozen_of_heap M3.out 0
    have f1 := Lib.frozen_of_heap M3.out 1
    have f2 := Lib.frozen_of_heap M3.out 2
    have f3 := Lib.frozen_of_heap M3.out 3
    have f4 := Lib.frozen_of_heap M3.out 4
    go_wp2_with fail
    have hst := value_stored M3.out (.int .i64 k) (.bool y) (.string tt) (.slice a ll c) (.slice (some ⟨g, 0, none⟩) m.length rc)
    have hot := five_else w5 (w.heap.size + 1 + 1 + 1) (.int .i64 k) (.bool y) (.string tt) (.slice a ll c) (.slice (some ⟨g, 0, none⟩) m.length rc)
    have hbe := zero_stored (gv := w.heap.size + 1 + 1 + 1) HB5.out (by omega) (.int .i64 k) (.bool y) (.string tt) (.slice a ll c) (.slice (some ⟨g, 0, none⟩) m.length rc)
    clear v0 v1 v2 v3 v4 r0 r1 r2 r3 r4 f0 f1 f2 f3 f4
    generalize ((((w5.setCell _ _).setCell _ _).setCell _ _).setCell _ _).setCell _ _ = w7 at *
    have e0 := Lib.cell_of_heap hst 0
    have e1 := Lib.cell_of_heap hst 1
    have e2 := Lib.cell_of_heap hst 2
    have e3 := Lib.cell_of_heap hst 3
    have e4 := Lib.cell_of_heap hst 4
    simp only [List.getElem?_toArray] at e0 e1 e2 e3 e4
    refine bodyPost_ret (v := .agg #[.int .i64 k, .bool y, .string tt, .slice a ll c, .slice (some ⟨g, 0, none⟩) m.length rc]) (by simp [results, Try.results23, go_sem, e0, e1, e2, e3, e4]) rfl ?_
    refine ⟨hbe, [.int .i64 k, .bool y, .string tt, .slice a ll c, .slice (some ⟨g, 0, none⟩) m.length rc], rfl, ?_⟩
    have hrow : RdO (fun b => (ok b ∧ b < w.heap.size) ∨ w.heap.size ≤ b) w7 (some ⟨g, 0, none⟩) (memCells (withM n x m) (cm.set j [.int .i64 xk, .bool xy, .string xt, .slice xa xl xc, .slice xa' xm xc'])) := by
      refine RdO.mono (ok := fun b => b = g) ?_ fun q hq => .inr (by omega)
      rcases HRD5.out with h | ⟨b', off', e, _, h⟩
      · exact .inl h
      · cases e
        refine .inr ⟨g, 0, rfl, rfl, fun i u hu => ?_⟩
        have := h i u hu
        unfold World.cell? at this ⊢
        rw [hot g (by omega)]
        exact this
    have hreps := HREP.out w7 hbe
    rw [hj] at hreps
    have hres := rep_of (k := k) (y := y) (t := t) (l := l) (m := withM n x m) (a := a) (a' := some ⟨g, 0, none⟩) (c := c) (c' := rc) ((H1.out.keep fun q hq _ => hbe.block q hq.2).mono fun q hq => .inl hq) ((Reps.keep H2.out fun q hq _ => hbe.block q hq.2).mono fun q hq => .inl hq) hrow hreps HC.out.1 (by rw [HWL.out]; exact HCL'.out)
    unfold strV at hres
    rw [HTT.out, HLL.out, HWL.out] at hres
    exact hres
  · have hRi : R = -1 := by rw [← HR.out, if_neg hi]
    subst hRi
    have HW := Lib.hid (withM_new n x m hi)
    clear hi
    go_wp2_with (at_builtin; refine wpList_append_rows rfl (.tmp 19) (.tmp 23) 26 rfl w1.heap.size 38 6 96 Try.underlying26 (by kernel_rfl) (by decide) _ m.length (memCells m cm) rfl (HOW4.out.alloc _) ⟨w4.heap.size, 0, none⟩ 1 1 [.string ⟨n.toArray⟩, .int .i64 xk, .bool xy, .string xt, .slice xa xl xc, .slice xa' xm xc'] rfl rfl ?c1 ?c2 ?c3 ?c4 ?c5 ?_)
    case c1 =>
      intro j u hu
      rw [Addr.add_lit, Lib.cell_of_heap (heap_alloc_new w4 _)]
      simpa using hu
    case c2 => intro u hu; simp only [List.mem_cons, List.mem_nil_iff, or_false] at hu; rcases hu with rfl | rfl | rfl | rfl | rfl | rfl <;> rfl
    case c3 => omega
    case c4 => omega
    case c5 => simp; omega
    intro v' w5 hown' hgrow _
    have hne : ∀ q, q < w1.heap.size → some q ≠ Value.ownBlock (.slice rb m.length rc) := fun q hq e => by
      have := (HOW4.out.lt q e.symm).1
      omega
    have hal := (Below.refl w4.heap.size w4).alloc (Nat.le_refl _) (.cells #[.string ⟨n.toArray⟩, .int .i64 xk, .bool xy, .string xt, .slice xa xl xc, .slice xa' xm xc'] 38)
    have hbk5 : ∀ q, q < w1.heap.size → w5.heap[q]? = w4.heap[q]? := fun q hq => (hgrow.block q (Nat.lt_of_lt_of_le (by omega) hal.size) (hne q hq)).trans (hal.block q (by omega))
    have hb5 : Below w.heap.size w4 w5 := ⟨hgrow.os.trans hal.os, hgrow.tape.trans hal.tape, hgrow.output.trans hal.output, Nat.le_trans hal.size hgrow.size, fun q hq => hbk5 q (by omega)⟩
    have HB5 := Lib.hid (HB4.out.trans hb5)
    have hs5 : w4.heap.size ≤ w5.heap.size := hb5.size
    obtain ⟨rb5, rc5, rfl, hrd5, hle5⟩ := own_rd hown'
    have M0 := Lib.hid ((hbk5 w.heap.size (by omega)).trans J0.out)
    have M3 := Lib.hid ((hbk5 (w.heap.size + 1 + 1 + 1) (by omega)).trans J3.out)
    have hrd5' : RdO (fun b => (ok b ∧ b < w.heap.size) ∨ w1.heap.size ≤ b) w5 rb5 (memCells (m ++ [(n, x)]) (cm ++ [[.int .i64 xk, .bool xy, .string xt, .slice xa xl xc, .slice xa' xm xc']])) := by
      rw [memCells_snoc m cm n x _ H4.out.1]
      exact hrd5.mono fun b hb => .inr hb.1
    have HRD5 := Lib.hid hrd5'
    have HLE := Lib.hid hle5
    clear hne hal hbk5 hb5 hown' hgrow hrd5 hrd5' hle5 v0 v1 v2 v3 v4 x0 x1 x2 x3 x4 n0 J0 J1 J2 J3 HOW4 HM4 HRD4 HB4
    obtain ⟨v0, v1, v2, v3, v4⟩ := five_at M0.out (Below.refl w5.heap.size w5) (by omega)
    have f4 := Lib.frozen_of_heap M0.out 4
    go_upto_region 5 with (fail)
    have hN0 := field5 M0.out (.slice rb5 (m.length + 1) rc5)
    have hot : ∀ k, k ≠ w.heap.size → (w5.setCell ⟨w.heap.size, 4, none⟩ (.slice rb5 (m.length + 1) rc5)).heap[k]? = w5.heap[k]? := fun k hk => Below.heap_setCell _ _ _ _ hk
    have hb6 := HB5.out.setCell (p := ⟨w.heap.size, 4, none⟩) (Nat.le_refl _) (.slice rb5 (m.length + 1) rc5)
    have hsz6 : (w5.setCell ⟨w.heap.size, 4, none⟩ (.slice rb5 (m.length + 1) rc5)).heap.size = w5.heap.size := by simp [World.setCell]
    clear v0 v1 v2 v3 v4 f4
    generalize w5.setCell ⟨w.heap.size, 4, none⟩ (.slice rb5 (m.length + 1) rc5) = w6 at *
    have HB6 := Lib.hid hb6
    have N0 := Lib.hid hN0
    have N3 := Lib.hid ((hot _ (by omega)).trans M3.out)
    have HRD6 := Lib.hid (HRD5.out.keep fun q hq _ => hot q (by rcases hq with hq | hq <;> omega))
    have hs6 : w5.heap.size = w6.heap.size := hsz6.symm
    clear hN0 hot hb6 hsz6 M0 M3 HRD5 HB5
    obtain ⟨v0, v1, v2, v3, v4⟩ := five_at N0.out (Below.refl w6.heap.size w6) (by omega)
    obtain ⟨r0, r1, r2, r3, r4⟩ := five_at N3.out (Below.refl w6.heap.size w6) (by omega)
    have f0 := Lib.frozen_of_heap N3.out 0
    have f1 := Lib.frozen_of_heap N3.out 1
    have f2 := Lib.frozen_of_heap N3.out 2
    have f3 := Lib.frozen_of_heap N3.out 3
    have f4 := Lib.frozen_of_heap N3.out 4
    go_wp2_with fail
    have hst := value_stored N3.out (.int .i64 k) (.bool y) (.string tt) (.slice a ll c) (.slice rb5 (m.length + 1) rc5)
    have hot := five_else w6 (w.heap.size + 1 + 1 + 1) (.int .i64 k) (.bool y) (.string tt) (.slice a ll c) (.slice rb5 (m.length + 1) rc5)
    have hbe := zero_stored (gv := w.heap.size + 1 + 1 + 1) HB6.out (by omega) (.int .i64 k) (.bool y) (.string tt) (.slice a ll c) (.slice rb5 (m.length + 1) rc5)
    clear v0 v1 v2 v3 v4 r0 r1 r2 r3 r4 f0 f1 f2 f3 f4
    generalize ((((w6.setCell _ _).setCell _ _).setCell _ _).setCell _ _).setCell _ _ = w7 at *
    have e0 := Lib.cell_of_heap hst 0
    have e1 := Lib.cell_of_heap hst 1
    have e2 := Lib.cell_of_heap hst 2
    have e3 := Lib.cell_of_heap hst 3
    have e4 := Lib.cell_of_heap hst 4
    simp only [List.getElem?_toArray] at e0 e1 e2 e3 e4
    refine bodyPost_ret (v := .agg #[.int .i64 k, .bool y, .string tt, .slice a ll c, .slice rb5 (m.length + 1) rc5]) (by simp [results, Try.results23, go_sem, e0, e1, e2, e3, e4]) rfl ?_
    refine ⟨hbe, [.int .i64 k, .bool y, .string tt, .slice a ll c, .slice rb5 (m.length + 1) rc5], rfl, ?_⟩
    have hrow : RdO (fun b => (ok b ∧ b < w.heap.size) ∨ w.heap.size ≤ b) w7 rb5 (memCells (m ++ [(n, x)]) (cm ++ [[.int .i64 xk, .bool xy, .string xt, .slice xa xl xc, .slice xa' xm xc']])) := (HRD6.out.keep fun q hq _ => hot q (by rcases hq with hq | hq <;> omega)).mono fun q hq => hq.imp id fun h => by omega
    have hreps : RepsM (fun b => (ok b ∧ b < w.heap.size) ∨ w.heap.size ≤ b) w7 (cm ++ [[.int .i64 xk, .bool xy, .string xt, .slice xa xl xc, .slice xa' xm xc']]) (m ++ [(n, x)]) :=
      RepsM.snoc ((H4.out.keep fun q hq _ => hbe.block q hq.2).mono fun q hq => .inl hq) ((HX0.out.keep fun q hq _ => hbe.block q hq.2).mono fun q hq => .inl hq)
    have hres := rep_of (k := k) (y := y) (t := t) (l := l) (m := m ++ [(n, x)]) (a := a) (a' := rb5) (c := c) (c' := rc5) ((H1.out.keep fun q hq _ => hbe.block q hq.2).mono fun q hq => .inl hq) ((Reps.keep H2.out fun q hq _ => hbe.block q hq.2).mono fun q hq => .inl hq) hrow hreps HC.out.1 (by have := HLE.out; simpa using this)
    unfold strV at hres
    rw [HTT.out, HLL.out, List.length_append] at hres
    rw [HW.out]
    exact hres
end Go.Proofs.Ytfcokdkbjajohaa
/- A whole member stored in a row of members: cells, no program (for Without's DeleteFunc, and for a row whose members change places). -/
set_option linter.unusedVariables false
namespace Go.Proofs.Ytfcokdkbjajohaa
open Go.RowKit

theorem memCells_row (p : List UInt8 × JV) (cs : List Value) (hc : cs.length = 5) : ∀ (m : List (List UInt8 × JV)) (cm : List (List Value)) (j : Nat) (hj : j < m.length), cm.length = m.length → (∀ r ∈ cm, r.length = 5) → ∀ q : Nat,
    (memCells (m.set j p) (cm.set j cs))[q]? = if j * 6 ≤ q ∧ q < j * 6 + 6 then (strV p.1 :: cs)[q - j * 6]? else (memCells m cm)[q]?
  | [], _, _, hj, _, _, _ => by simp at hj
  | _ :: _, [], _, _, hl, _, _ => by simp at hl
  | (k, u) :: m, r :: cm, 0, hj, hl, h5, q => by
    have hr := h5 r (by simp)
    simp only [List.set_cons_zero, memCells]
    cases q with
    | zero => simp
    | succ q =>
      simp only [List.getElem?_cons_succ]
      by_cases hq : q < 5
      · rw [if_pos (by omega), List.getElem?_append_left (by omega), show q + 1 - 0 * 6 = q + 1 by omega, List.getElem?_cons_succ]
      · rw [if_neg (by omega), List.getElem?_append_right (by omega), List.getElem?_append_right (by omega), hc, hr]
  | (k, u) :: m, r :: cm, j + 1, hj, hl, h5, q => by
    have hr := h5 r (by simp)
    have ih := memCells_row p cs hc m cm j (by simpa using hj) (by simpa using hl) (fun x hx => h5 x (by simp [hx]))
    simp only [List.set_cons_succ, memCells]
    cases q with
    | zero =>
      rw [if_neg (by omega)]
      simp
    | succ q =>
      simp only [List.getElem?_cons_succ]
      by_cases hq : q < 5
      · rw [if_neg (by omega), List.getElem?_append_left (by omega), List.getElem?_append_left (by omega)]
      · rw [List.getElem?_append_right (by omega), List.getElem?_append_right (by omega), hr, ih (q - 5)]
        by_cases h2 : j * 6 ≤ q - 5 ∧ q - 5 < j * 6 + 6
        · rw [if_pos h2, if_pos (by omega)]
          congr 1
          omega
        · rw [if_neg h2, if_neg (by omega)]
/-- Six stores in a row's midst. -/
theorem six_put {w : World} {g p : Nat} {cur : Array Value} {T : TypeId} {fr : Nat × Nat} (h : w.heap[g]? = some (.cells cur T fr)) (hp : p + 6 ≤ cur.size) (x a b c d e : Value) :
    ∃ cur', ((((((w.setCell ⟨g, p, none⟩ x).setCell ⟨g, p + 1, none⟩ a).setCell ⟨g, p + 2, none⟩ b).setCell ⟨g, p + 3, none⟩ c).setCell ⟨g, p + 4, none⟩ d).setCell ⟨g, p + 5, none⟩ e).heap[g]? = some (.cells cur' T fr) ∧ cur'.size = cur.size ∧
      (∀ q : Nat, ¬ (p ≤ q ∧ q < p + 6) → cur'[q]? = cur[q]?) ∧ (∀ i : Nat, i < 6 → cur'[p + i]? = [x, a, b, c, d, e][i]?) := by
  refine ⟨(((((cur.setIfInBounds p x).setIfInBounds (p + 1) a).setIfInBounds (p + 2) b).setIfInBounds (p + 3) c).setIfInBounds (p + 4) d).setIfInBounds (p + 5) e, ?_, by simp, fun q hq => ?_, fun i hi => ?_⟩
  · simp [World.setCell, Array.getElem?_modify, h]
  · rw [Array.getElem?_setIfInBounds_ne (by omega), Array.getElem?_setIfInBounds_ne (by omega), Array.getElem?_setIfInBounds_ne (by omega), Array.getElem?_setIfInBounds_ne (by omega), Array.getElem?_setIfInBounds_ne (by omega), Array.getElem?_setIfInBounds_ne (by omega)]
  · have q0 : p < cur.size := by omega
    have q1 : p + 1 < cur.size := by omega
    have q2 : p + 2 < cur.size := by omega
    have q3 : p + 3 < cur.size := by omega
    have q4 : p + 4 < cur.size := by omega
    have q5 : p + 5 < cur.size := by omega
    match i, hi with
    | 0, _ =>
      rw [Array.getElem?_setIfInBounds_ne (by omega), Array.getElem?_setIfInBounds_ne (by omega), Array.getElem?_setIfInBounds_ne (by omega), Array.getElem?_setIfInBounds_ne (by omega), Array.getElem?_setIfInBounds_ne (by omega)]
      simp [q0]
    | 1, _ =>
      rw [Array.getElem?_setIfInBounds_ne (by omega), Array.getElem?_setIfInBounds_ne (by omega), Array.getElem?_setIfInBounds_ne (by omega), Array.getElem?_setIfInBounds_ne (by omega)]
      simp [q1]
    | 2, _ =>
      rw [Array.getElem?_setIfInBounds_ne (by omega), Array.getElem?_setIfInBounds_ne (by omega), Array.getElem?_setIfInBounds_ne (by omega)]
      simp [q2]
    | 3, _ =>
      rw [Array.getElem?_setIfInBounds_ne (by omega), Array.getElem?_setIfInBounds_ne (by omega)]
      simp [q3]
    | 4, _ =>
      rw [Array.getElem?_setIfInBounds_ne (by omega)]
      simp [q4]
    | 5, _ => simp [q5]
end Go.Proofs.Ytfcokdkbjajohaa
