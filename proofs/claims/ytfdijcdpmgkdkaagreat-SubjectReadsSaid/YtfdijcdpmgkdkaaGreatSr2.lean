/- Merged: Su10, SuQ, RfQ, JsWw, JsPr, Su11, OpnS. -/
import Derived.WideShapes
import Derived.ChangeMaps
import Derived.Test.YtfdijcdpmgkdkaaGreatMg1
import Derived.Test.YtfdijcdpmgkdkaaGreatMg2
import Derived.Test.YtfdijcdpmgkdkaaGreatMg3
import Derived.Test.YtfdijcdpmgkdkaaGreatMg4
import Derived.Test.YtfdijcdpmgkdkaaGreatMg5
import Derived.Test.YtfdijcdpmgkdkaaGreatSr1
/- subject: texts, Value. -/
set_option linter.unusedVariables false
namespace Go.Proofs.YtfdijcdpmgkdkaaGreat
open Go.RowKit

theorem ent_names : ∀ args w, (callFunc 33 args).run Tryz.prog w = .ok (.enter 33 args) w := run_enters Tryz.func33 (by kernel_rfl) rfl
theorem ent_jstr : ∀ args w, (callFunc 31 args).run Tryz.prog w = .ok (.enter 31 args) w := run_enters Tryz.func31 (by kernel_rfl) rfl
/-- A row of texts; a place that holds a value; a block of a member. -/
def VRowS (l : List (List UInt8)) : Value → World → Prop := fun v w => ∃ a c, v = .slice a l.length c ∧ RdC w a (l.map strV)
theorem VRowS.stab (l : List (List UInt8)) : Stab (VRowS l) := fun v w1 w2 ⟨a, c, e, h⟩ hb => ⟨a, c, e, h.below hb⟩
def VPt (x : Value) : Value → World → Prop := fun v w => ∃ b o, v = .pointer (some ⟨b, o, none⟩) ∧ w.cell? ⟨b, o, none⟩ = some x
theorem VPt.stab (x : Value) : Stab (VPt x) := fun v w1 w2 ⟨b, o, e, h⟩ hb => ⟨b, o, e, (hb.cell (World.block_lt_of_cell? _ _ h)).trans h⟩
def VBlk (cs : Array Value) : Value → World → Prop := fun v w => ∃ g, v = .slice (some ⟨g, 0, none⟩) 1 1 ∧ w.heap[g]? = some (.cells cs 47 (0, 0))
theorem VBlk.stab (cs : Array Value) : Stab (VBlk cs) := fun v w1 w2 ⟨g, e, h⟩ hb => ⟨g, e, (hb.block g (Array.getElem?_eq_some_iff.1 h).1).trans h⟩
/-- A string's member in memory. -/
def leafC (t : List UInt8) : List Value := [.int .i64 4, .bool false, .string ⟨t.toArray⟩, .slice none 0 0, .slice none 0 0]
def leafM (n t : List UInt8) : List Value := [.string ⟨n.toArray⟩, .int .i64 4, .bool false, .string ⟨t.toArray⟩, .slice none 0 0, .slice none 0 0]
def strsM (l : List (List UInt8 × List UInt8)) : List (List UInt8 × JV) := l.map fun p => (p.1, jstr p.2)
theorem strs_cells : ∀ l : List (List UInt8 × List UInt8), memCells (strsM l) (l.map fun p => leafC p.2) = l.flatMap fun p => leafM p.1 p.2
  | [] => rfl
  | p :: l => by
    have ih := strs_cells l
    unfold strsM at ih ⊢
    simp only [List.map_cons, memCells, List.flatMap_cons, ih]
    rfl
theorem strs_reps (ok : Nat → Prop) (w : World) (l : List (List UInt8 × List UInt8)) : RepsM ok w (l.map fun p => leafC p.2) (strsM l) := by
  unfold strsM
  refine ⟨by simp, fun i hi hj => ?_⟩
  simp only [List.getElem_map]
  exact Rep.leaf ok w 4 false _
def textsS (f i s : List UInt8) : List (List UInt8) := if f = issB then [s, i] else [i]
def pairsS (f i s : List UInt8) : List (List UInt8 × List UInt8) := (fmtB, f) :: (namesS f).zip (textsS f i s)
theorem pairs_val {f i s : List UInt8} (h : f = opaB ∨ f = emaB ∨ f = issB) : jobj (strsM (pairsS f i s)) = valS f i s ∧ (namesS f).length = (textsS f i s).length := by
  unfold valS memsS pairsS textsS namesS strsM
  rcases h with rfl | rfl | rfl
  · rw [if_pos rfl, if_neg (by decide), if_neg (by decide), if_neg (by decide)]
    exact ⟨rfl, rfl⟩
  · rw [if_neg (by decide), if_pos rfl, if_neg (by decide), if_neg (by decide), if_pos rfl]
    exact ⟨rfl, rfl⟩
  · rw [if_neg (by decide), if_neg (by decide), if_pos rfl, if_pos rfl, if_pos rfl]
    exact ⟨rfl, rfl⟩
theorem rdo_new {B : Nat} (w : World) (xs : List Value) (T : TypeId) (hB : B ≤ w.heap.size) : RdO (B ≤ ·) (w.alloc (.cells xs.toArray T)) (some ⟨w.heap.size, 0, none⟩) xs := by
  refine .inr ⟨w.heap.size, 0, rfl, hB, fun i u hu => ?_⟩
  rw [Lib.cell_of_heap (heap_alloc_new w _)]
  simpa using hu
set_option maxRecDepth 100000 in
set_option maxHeartbeats 8000000 in
theorem texts_any (f i s : List UInt8) (w : World) :
    Calls Tryz.prog 32 #[.agg #[.string ⟨f.toArray⟩, .string ⟨i.toArray⟩, .string ⟨s.toArray⟩]] w fun e w' => (∃ a c, e = .returned (.slice a (textsS f i s).length c) ∧ RdO (w.heap.size ≤ ·) w' a ((textsS f i s).map strV)) ∧ Below w.heap.size w w' := by
  have hb1 : Below w.heap.size w (w.alloc (.cells #[.string ⟨f.toArray⟩, .string ⟨i.toArray⟩, .string ⟨s.toArray⟩] 34)) := (Below.refl _ _).alloc (Nat.le_refl _) _
  have HB1 := Lib.hid hb1
  by_cases h3 : f = issB
  · subst h3
    have HT : Hid (textsS issB i s = [s, i]) := Lib.hid (by unfold textsS; rw [if_pos rfl])
    clear hb1
    go_enter Tryz.func32, Tryz.ntmps32
    unfold issB at HB1 ⊢
    go_wp2_with fail
    generalize hw1 : w.alloc (.cells #[.string ⟨#[105, 115, 115, 95, 115, 117, 98]⟩, .string ⟨i.toArray⟩, .string ⟨s.toArray⟩] 34) = w1 at *
    refine bodyPost_ret (results_tmp rfl _ _ _) rfl ?_
    have HT' : textsS [105, 115, 115, 95, 115, 117, 98] i s = [s, i] := HT.out
    rw [HT']
    have hsz : w1.heap.size = w.heap.size + 1 := by rw [← hw1]; simp
    rw [← hsz]
    exact ⟨⟨_, _, rfl, rdo_new w1 _ _ HB1.out.size⟩, HB1.out.alloc HB1.out.size _⟩
  · have q3 : (f == [105, 115, 115, 95, 115, 117, 98]) = false := beq_false_of_ne h3
    have HT : Hid (textsS f i s = [i]) := Lib.hid (by unfold textsS; rw [if_neg h3])
    clear h3 hb1
    go_enter Tryz.func32, Tryz.ntmps32
    go_wp2_with fail
    generalize hw1 : w.alloc (.cells #[.string ⟨f.toArray⟩, .string ⟨i.toArray⟩, .string ⟨s.toArray⟩] 34) = w1 at *
    refine bodyPost_ret (results_tmp rfl _ _ _) rfl ?_
    rw [HT.out]
    have hsz : w1.heap.size = w.heap.size + 1 := by rw [← hw1]; simp
    rw [← hsz]
    exact ⟨⟨_, _, rfl, rdo_new w1 _ _ HB1.out.size⟩, HB1.out.alloc HB1.out.size _⟩
set_option maxRecDepth 100000 in
set_option maxHeartbeats 16000000 in
theorem svalue_any (f i s : List UInt8) (w : World) (hfl : f.length ≤ 1000000) (hi : i.length ≤ 1000000) (hs : s.length ≤ 1000000) :
    Calls Tryz.prog 12 #[.agg #[.string ⟨f.toArray⟩, .string ⟨i.toArray⟩, .string ⟨s.toArray⟩]] w fun e w' => Below w.heap.size w w' ∧ ∃ cs, e = .returned (.tuple #[.agg cs.toArray, .int .i64 (if rightS f i s then 0 else 10)]) ∧ Rep (w.heap.size ≤ ·) w' cs (if rightS f i s then valS f i s else .zero) := by
  have HSR := Lib.hid (fun w' => sright_any f i s w' hi hs)
  have HTX := Lib.hid (fun w' => texts_any f i s w')
  have hpv : rightS f i s = true → jobj (strsM (pairsS f i s)) = valS f i s ∧ (namesS f).length = (textsS f i s).length := fun h => pairs_val (right_fmt h)
  have HPV := Lib.hid hpv
  clear hpv hfl hi hs
  generalize rightS f i s = R at *
  generalize valS f i s = VS at *
  go_enter Tryz.func12, Tryz.ntmps12
  go_upto_region 1 with (fail)
  generalize hw1 : (w.alloc _).alloc _ = w1
  have hb1 : Below w.heap.size w w1 := by rw [← hw1]; exact ((Below.refl _ _).alloc (Nat.le_refl _) _).alloc (by simp) _
  have hx1 : w1.heap[w.heap.size]? = some (.cells #[.string ⟨f.toArray⟩, .string ⟨i.toArray⟩, .string ⟨s.toArray⟩] 34 (0, 0)) := by rw [← hw1]; exact block_alloc (heap_alloc_new w _) _
  have hz1 : w1.heap[w.heap.size + 1]? = some (.cells zero5.toArray 28 (0, 0)) := by
    rw [← hw1]
    have e : w.heap.size + 1 = (w.alloc (.cells #[.string ⟨f.toArray⟩, .string ⟨i.toArray⟩, .string ⟨s.toArray⟩] 34)).heap.size := by simp
    rw [e]
    exact heap_alloc_new _ _
  have hs1 : w.heap.size + 1 < w1.heap.size := (Array.getElem?_eq_some_iff.1 hz1).1
  have HB1 := Lib.hid hb1
  have HX1 := Lib.hid hx1
  have HZ1 := Lib.hid hz1
  obtain ⟨v0, v1, v2⟩ := three_at hx1 (Below.refl w1.heap.size w1) (by omega)
  clear hw1 hb1 hx1 hz1
  go_wp2_with fail
  refine (HSR.out w1).mono ?_
  rintro e w2 ⟨rfl, hb2⟩
  have HB2 := Lib.hid (HB1.out.trans (hb2.mono HB1.out.size))
  have HX2 := Lib.hid ((hb2.block _ (by omega)).trans HX1.out)
  have HZ2 := Lib.hid ((hb2.block _ hs1).trans HZ1.out)
  have hs2 : w.heap.size + 1 < w2.heap.size := Nat.lt_of_lt_of_le hs1 hb2.size
  clear hb2 v0 v1 v2 HSR HX1 HZ1 HB1
  cases R with
  | false =>
    have d0 : w2.cell? ⟨w.heap.size + 1, 0, none⟩ = some (.int .i64 0) := by rw [Lib.cell_of_heap HZ2.out]; rfl
    have d1 : w2.cell? ⟨w.heap.size + 1, 1, none⟩ = some (.bool false) := by rw [Lib.cell_of_heap HZ2.out]; rfl
    have d2 : w2.cell? ⟨w.heap.size + 1, 2, none⟩ = some (.string ⟨#[]⟩) := by rw [Lib.cell_of_heap HZ2.out]; rfl
    have d3 : w2.cell? ⟨w.heap.size + 1, 3, none⟩ = some (.slice none 0 0) := by rw [Lib.cell_of_heap HZ2.out]; rfl
    have d4 : w2.cell? ⟨w.heap.size + 1, 4, none⟩ = some (.slice none 0 0) := by rw [Lib.cell_of_heap HZ2.out]; rfl
    have f0 := Lib.frozen_of_heap HZ2.out 0
    have f1 := Lib.frozen_of_heap HZ2.out 1
    have f2 := Lib.frozen_of_heap HZ2.out 2
    have f3 := Lib.frozen_of_heap HZ2.out 3
    have f4 := Lib.frozen_of_heap HZ2.out 4
    go_wp2_with fail
    have hst := value_stored HZ2.out (.int .i64 0) (.bool false) (.string ⟨#[]⟩) (.slice none 0 0) (.slice none 0 0)
    have hbe := zero_stored HB2.out (Nat.le_succ _) (.int .i64 0) (.bool false) (.string ⟨#[]⟩) (.slice none 0 0) (.slice none 0 0)
    have e0 := Lib.cell_of_heap hst 0
    have e1 := Lib.cell_of_heap hst 1
    have e2 := Lib.cell_of_heap hst 2
    have e3 := Lib.cell_of_heap hst 3
    have e4 := Lib.cell_of_heap hst 4
    simp only [List.getElem?_toArray] at e0 e1 e2 e3 e4
    refine bodyPost_ret (v := .tuple #[.agg #[.int .i64 0, .bool false, .string ⟨#[]⟩, .slice none 0 0, .slice none 0 0], .int .i64 10]) (by simp [results, Tryz.results12, go_sem, e0, e1, e2, e3, e4]) rfl ?_
    exact ⟨hbe, zero5, rfl, Rep.leaf _ _ 0 false []⟩
  | true =>
  obtain ⟨hVS, hNL⟩ := HPV.out rfl
  obtain ⟨v0, v1, v2⟩ := three_at HX2.out (Below.refl w2.heap.size w2) (by omega)
  clear HPV
  go_wp2_with fail
  refine (jstr_fn f w2).mono ?_
  rintro e w3 ⟨rfl, hb3⟩
  have HB3 := Lib.hid (HB2.out.trans (hb3.mono HB2.out.size))
  have HX3 := Lib.hid ((hb3.block _ (by omega)).trans HX2.out)
  have HZ3 := Lib.hid ((hb3.block _ hs2).trans HZ2.out)
  have hs3 : w.heap.size + 1 < w3.heap.size := Nat.lt_of_lt_of_le hs2 hb3.size
  clear hb3 v0 v1 v2 HX2 HZ2 HB2
  go_upto_region 4 with (fail)
  generalize hw4 : w3.alloc _ = w4
  have hb4 : Below w3.heap.size w3 w4 := by rw [← hw4]; exact (Below.refl _ _).alloc (Nat.le_refl _) _
  have hg4 : w4.heap[w3.heap.size]? = some (.cells (leafM fmtB f).toArray 47 (0, 0)) := by rw [← hw4]; exact heap_alloc_new _ _
  have hown4 : w4.ownsRow w3.heap.size 47 6 (.slice (some ⟨w3.heap.size, 0, none⟩) 1 1) 1 (leafM fmtB f) := ⟨rfl, .inr ⟨w3.heap.size, 1, _, rfl, Nat.le_refl _, hg4, Nat.le_refl _, by decide, rfl, rfl⟩⟩
  have HB4 := Lib.hid (HB3.out.trans (hb4.mono HB3.out.size))
  have HX4 := Lib.hid ((hb4.block _ (by omega)).trans HX3.out)
  have HZ4 := Lib.hid ((hb4.block _ hs3).trans HZ3.out)
  have hs4 : w.heap.size + 1 < w4.heap.size := Nat.lt_of_lt_of_le hs3 hb4.size
  have HO4 := Lib.hid hown4
  have hs34 : w3.heap.size < w4.heap.size := (Array.getElem?_eq_some_iff.1 hg4).1
  obtain ⟨v0, v1, v2⟩ := three_at HX4.out (Below.refl w4.heap.size w4) (by omega)
  clear hw4 hb4 hg4 hown4 HX3 HZ3
  go_wp2_with fail
  refine (HTX.out w4).mono ?_
  rintro e w5 ⟨⟨ta, tc, rfl, htr⟩, hb5⟩
  have HB5 := Lib.hid (HB4.out.trans (hb5.mono HB4.out.size))
  have HX := Lib.hid ((hb5.block _ (by omega)).trans HX4.out)
  have HZ5 := Lib.hid ((hb5.block _ hs4).trans HZ4.out)
  have HO5 := Lib.hid (own_below HO4.out hb5)
  have hs5 : w.heap.size + 1 < w5.heap.size := Nat.lt_of_lt_of_le hs4 hb5.size
  have hs35 : w3.heap.size < w5.heap.size := Nat.lt_of_lt_of_le hs34 hb5.size
  have HTR := Lib.hid htr
  have HVS := Lib.hid hVS
  have HNL := Lib.hid hNL
  have HPS : Hid (pairsS f i s = (fmtB, f) :: (namesS f).zip (textsS f i s)) := Lib.hid rfl
  have hTL : (textsS f i s).length ≤ 2 := by unfold textsS; split <;> simp
  generalize textsS f i s = TX at *
  generalize pairsS f i s = PS at *
  clear hb5 v0 v1 v2 htr hVS hNL HX4 HZ4 HO4 HB4 HTX
  go_wp2_with fail
  go_loopg [4, 19] TX.length (fun k rv iv wr => ∃ j : Nat, iv = .int .i64 (j : Int) ∧ j + k = TX.length ∧ Hid (wr.ownsRow w3.heap.size 47 6 rv (j + 1) ((PS.take (j + 1)).flatMap fun p => leafM p.1 p.2)) ∧ Hid (But w3.heap.size w5 wr) ∧ Hid (∀ g, rv.ownBlock = some g → g = w3.heap.size ∨ w5.heap.size ≤ g))
  case atStart => exact ⟨0, rfl, by omega, Lib.hid (by rw [HPS.out]; simpa using HO5.out), Lib.hid (But.refl _ _), Lib.hid (fun g hg => .inl (by simpa [Value.ownBlock] using hg.symm))⟩
  case round =>
    obtain ⟨j, rfl, hj, HW, HK, HOB⟩ := hrel
    have HXR := Lib.hid ((HK.out.block _ (by omega) (by omega)).trans HX.out)
    have hszr : w5.heap.size ≤ wr.heap.size := HK.out.size
    obtain ⟨ra, rc, hrv, hrd, hrc⟩ := own_rd HW.out
    subst hrv
    have HRD := Lib.hid hrd
    clear hrd
    by_cases hlt : j < TX.length
    · have hltI : (j : Int) < (TX.length : Int) := by omega
      have hltN : (j : Int) < ((namesS f).length : Int) := by have := HNL.out; omega
      obtain ⟨tx, htx⟩ : ∃ tx, TX[j] = tx := ⟨_, rfl⟩
      obtain ⟨nm, hnm⟩ : ∃ nm, (namesS f)[j]? = some nm := ⟨_, List.getElem?_eq_getElem (by have := HNL.out; omega)⟩
      have HNM : Hid (((namesS f).map strV)[j]? = some (.string ⟨nm.toArray⟩)) := Lib.hid (by rw [List.getElem?_map, hnm]; rfl)
      have HNE : Hid ((namesS f).map strV ≠ []) := Lib.hid (by intro e; have h0 := HNM.out; rw [e] at h0; simp at h0)
      have htk : PS.take (j + 2) = PS.take (j + 1) ++ [(nm, tx)] := by
        have hz : PS[j + 1]? = some (nm, tx) := by
          rw [HPS.out, List.getElem?_cons_succ, List.getElem?_zip_eq_some]
          exact ⟨hnm, by rw [List.getElem?_eq_getElem hlt, htx]⟩
        obtain ⟨hz1, hz2⟩ := List.getElem?_eq_some_iff.1 hz
        rw [List.take_succ_eq_append_getElem hz1, hz2]
      have HTK := Lib.hid htk
      have htr := HTR.out
      rcases htr with h0 | ⟨tb, toff, rfl, htb, hcell⟩
      · simp at h0
        rw [h0] at hlt
        simp at hlt
      have hc0 := hcell j (.string ⟨tx.toArray⟩) (by rw [List.getElem?_map, List.getElem?_eq_getElem hlt, htx]; rfl)
      have hctx : wr.cell? ⟨tb, toff + j, none⟩ = some (.string ⟨tx.toArray⟩) := by
        have hlb : tb < w5.heap.size := World.block_lt_of_cell? _ _ hc0
        have htb' : w4.heap.size ≤ tb := htb
        rw [← hc0]
        unfold World.cell?
        rw [HK.out.block tb hlb (by omega)]
      clear hcell hc0 htk htx hnm
      obtain ⟨x0, x1, x2⟩ := three_at HXR.out (Below.refl wr.heap.size wr) (by omega)
      go_upto_region 7 with (fail)
      have HXO := HX
      clear HX
      have HX := HXR
      have hxg : w.heap.size < wr.heap.size := by omega
      clear x0 x1 x2 hctx
      refine wp_region_grow_tail 11 (by kernel_rfl) (by kernel_rfl) (by decide) (by kernel_rfl) [24, 25, 26, 27, 28, 29, 30, 31, 32, 33, 34] rfl (by decide) (by kernel_rfl) (fun iX => [VIs (.slice ra (j + 1) rc), VIs (.pointer (some ⟨w.heap.size, 0, none⟩)), VIs (.string ⟨f.toArray⟩), VRowS (namesS f), VIs (.int .i64 (j : Int)), VPt (.string ⟨nm.toArray⟩), VIs (.string ⟨nm.toArray⟩), VIs (.string ⟨tx.toArray⟩), VIs ((.agg #[.int .i64 4, .bool false, .string ⟨tx.toArray⟩, .slice none 0 0, .slice none 0 0])), VIs (.agg #[.string ⟨nm.toArray⟩, .int .i64 4, .bool false, .string ⟨tx.toArray⟩, .slice none 0 0, .slice none 0 0]), VBlk (leafM nm tx).toArray].getD iX fun _ _ => True) (stab_list _ ?_) ?_ ?_
      · skip
        intro V hV
        simp only [List.mem_cons, List.mem_nil_iff, or_false] at hV
        rcases hV with rfl | rfl | rfl | rfl | rfl | rfl | rfl | rfl | rfl | rfl | rfl <;> first | exact VIs.stab _ | exact VBytes.stab _ | exact VStr.stab _ | exact VParts.stab _ | exact VRow.stab _ | exact VRow8.stab _ _ | exact VRowS.stab _ | exact VPt.stab _ | exact VBlk.stab _
      · intro iX o ho a' w' hf hb hd
        rcases iX with _ | _ | _ | _ | _ | _ | _ | _ | _ | _ | _ | iX
        · cases ho
          refine grow_op rfl rfl rfl (grow_move rfl ?_)
          exact (hf.same 4 (by decide)).trans rfl
        · cases ho
          refine grow_op rfl rfl rfl ?_
          have f1 : a'.tmps.getD 1 undef = .pointer (some ⟨w.heap.size, 0, none⟩) := (hf.same 1 (by decide)).trans rfl
          refine grow_value (v := .pointer (some ⟨w.heap.size, 0, none⟩)) (w' := w') ?_ rfl (Below.refl _ _)
          simp only [execOp, Act.eval]
          go_simp
        · cases ho
          refine grow_op rfl rfl rfl ?_
          have e1 : a'.tmps.getD 25 undef = .pointer (some ⟨w.heap.size, 0, none⟩) := hd 1 (by kernel_rfl)
          obtain ⟨x0, x1, x2⟩ := three_at HX.out hb hxg
          refine grow_value (v := .string ⟨f.toArray⟩) (w' := w') ?_ rfl (Below.refl _ _)
          simp only [execOp, Act.eval, e1]
          go_simp
        · cases ho
          refine grow_op rfl rfl rfl ?_
          have e2 : a'.tmps.getD 26 undef = .string ⟨f.toArray⟩ := hd 2 (by kernel_rfl)
          refine grow_call ent_names rfl ?_
          simp only [List.map_toArray, List.map_cons, List.map_nil, Act.eval, e2]
          exact (names_any f w').mono (fun e w'' ⟨⟨a, c, h1, h2⟩, h3⟩ => ⟨_, h1, ⟨a, c, rfl, h2⟩, h3⟩)
        · cases ho
          refine grow_op rfl rfl rfl (grow_move rfl ?_)
          exact (hf.same 5 (by decide)).trans rfl
        · cases ho
          refine grow_op rfl rfl rfl ?_
          obtain ⟨a0, c0, e3, hr3⟩ : VRowS _ _ _ := hd 3 (by kernel_rfl)
          have e3' : a'.tmps.getD 27 undef = _ := e3
          have e4 : a'.tmps.getD 28 undef = .int .i64 (j : Int) := hd 4 (by kernel_rfl)
          obtain ⟨b0, o0, rfl, hc0⟩ := hr3.at HNE.out
          refine grow_value (v := .pointer (some ⟨b0, o0 + j, none⟩)) (w' := w') ?_ ⟨b0, o0 + j, rfl, hc0 j _ HNM.out⟩ (Below.refl _ _)
          simp only [execOp, Act.eval, e3', e4]
          go_simp
        · cases ho
          refine grow_op rfl rfl rfl ?_
          obtain ⟨b0, o0, e5, hc5⟩ : VPt _ _ _ := hd 5 (by kernel_rfl)
          have e5' : a'.tmps.getD 29 undef = _ := e5
          refine grow_value (v := .string ⟨nm.toArray⟩) (w' := w') ?_ rfl (Below.refl _ _)
          simp only [execOp, Act.eval, e5']
          go_simp
        · cases ho
          refine grow_op rfl rfl rfl (grow_move rfl ?_)
          exact (hf.same 6 (by decide)).trans rfl
        · cases ho
          refine grow_op rfl rfl rfl ?_
          have e7 : a'.tmps.getD 31 undef = .string ⟨tx.toArray⟩ := hd 7 (by kernel_rfl)
          refine grow_call ent_jstr rfl ?_
          simp only [List.map_toArray, List.map_cons, List.map_nil, Act.eval, e7]
          exact ((jstr_fn _ w').mono (fun e w'' ⟨h1, h2⟩ => ⟨_, h1, rfl, h2⟩))
        · cases ho
          refine grow_op rfl rfl rfl ?_
          have e6 : a'.tmps.getD 30 undef = .string ⟨nm.toArray⟩ := hd 6 (by kernel_rfl)
          have e8 : a'.tmps.getD 32 undef = (.agg #[.int .i64 4, .bool false, .string ⟨tx.toArray⟩, .slice none 0 0, .slice none 0 0]) := hd 8 (by kernel_rfl)
          refine grow_value (v := .agg #[.string ⟨nm.toArray⟩, .int .i64 4, .bool false, .string ⟨tx.toArray⟩, .slice none 0 0, .slice none 0 0]) (w' := w') ?_ rfl (Below.refl _ _)
          simp only [execOp, Act.eval, List.map_toArray, List.map_cons, List.map_nil, e6, e8]
          go_simp
          try rfl
        · cases ho
          refine grow_op rfl rfl rfl ?_
          have e9 : a'.tmps.getD 33 undef = .agg #[.string ⟨nm.toArray⟩, .int .i64 4, .bool false, .string ⟨tx.toArray⟩, .slice none 0 0, .slice none 0 0] := hd 9 (by kernel_rfl)
          refine grow_value (v := .slice (some ⟨w'.heap.size, 0, none⟩) 1 1) (w' := w'.alloc (.cells (leafM nm tx).toArray 47)) ?_ ⟨_, rfl, heap_alloc_new _ _⟩ ((Below.refl _ _).alloc (Nat.le_refl _) _)
          simp only [execOp, Act.eval, List.map_toArray, List.map_cons, List.map_nil, e9]
          go_simp
          try rfl
        · simp at ho
      · intro a' w' hf hb hd
        obtain ⟨na, nc, hv27, -⟩ := hd 3 (by decide)
        obtain ⟨pb, po, hv29, -⟩ := hd 5 (by decide)
        have hv30 := hd 6 (by decide)
        obtain ⟨gb, hv34, hbk⟩ := hd 10 (by decide)
        obtain rfl := hf.eq [Value.slice ra (j + 1) rc, Value.pointer (some ⟨w.heap.size, 0, none⟩), Value.string ⟨f.toArray⟩, Value.slice na (namesS f).length nc, Value.int IntKind.i64 (j : Int), Value.pointer (some ⟨pb, po, none⟩), Value.string ⟨nm.toArray⟩, Value.string ⟨tx.toArray⟩, (.agg #[.int IntKind.i64 4, .bool false, .string ⟨tx.toArray⟩, .slice none 0 0, .slice none 0 0]), Value.agg #[.string ⟨nm.toArray⟩, .int IntKind.i64 4, .bool false, .string ⟨tx.toArray⟩, .slice none 0 0, .slice none 0 0], Value.slice (some ⟨gb, 0, none⟩) 1 1] (fun j hj => match j, hj with
          | 0, _ => hd 0 (by decide)
          | 1, _ => hd 1 (by decide)
          | 2, _ => hd 2 (by decide)
          | 3, _ => hv27
          | 4, _ => hd 4 (by decide)
          | 5, _ => hv29
          | 6, _ => hv30
          | 7, _ => hd 7 (by decide)
          | 8, _ => hd 8 (by decide)
          | 9, _ => hd 9 (by decide)
          | 10, _ => hv34
          | k + 11, h => absurd h (by simp)) (by decide) (by kernel_rfl) rfl
        simp only [List.zip_cons_cons, List.zip_nil_right, List.foldl_cons, List.foldl_nil, Act.put, List.setIfInBounds_toArray, List.set_cons_succ, List.set_cons_zero]
        have HB7 := Lib.hid hb
        clear hd hf hb hv27 hv29 hv30 hv34
        refine wpList_append_rows rfl (.tmp 24) (.tmp 34) 26 rfl w3.heap.size 47 6 96 Tryz.underlying26 (by kernel_rfl) (by decide) (.slice ra (j + 1) rc) (j + 1) _ rfl (own_below HW.out HB7.out) ⟨gb, 0, none⟩ 1 1 (leafM nm tx) rfl rfl ?c1 ?c2 ?c3 ?c4 ?c5 ?_
        case c1 =>
          intro q u hu
          rw [Addr.add_lit, Nat.zero_add, Lib.cell_of_heap hbk]
          simpa using hu
        case c2 => intro u hu; simp [leafM] at hu; rcases hu with rfl | rfl | rfl | rfl | rfl | rfl <;> rfl
        case c3 => omega
        case c4 => omega
        case c5 => have := HB7.out.size; omega
        intro v' w6 hown' hgrow hinfo
        have hwz := HB7.out.size
        have HW6 : Hid (w6.ownsRow w3.heap.size 47 6 v' (j + 1 + 1) ((PS.take (j + 1 + 1)).flatMap fun p => leafM p.1 p.2)) := Lib.hid (by
          rw [show j + 1 + 1 = j + 2 from rfl, HTK.out, List.flatMap_append]
          simpa using hown')
        have HK6 : Hid (But w3.heap.size w5 w6) := Lib.hid (by
          have hb := HB7.out
          refine ⟨hgrow.os.trans (hb.os.trans HK.out.os), hgrow.tape.trans (hb.tape.trans HK.out.tape), hgrow.output.trans (hb.output.trans HK.out.output), by have := hgrow.size; omega, fun k hk hne => ?_⟩
          rw [hgrow.block k (by omega) (fun e => by rcases HOB.out k e.symm with h | h <;> omega), hb.block k (by omega), HK.out.block k hk hne])
        have HOB6 : Hid (∀ g, v'.ownBlock = some g → g = w3.heap.size ∨ w5.heap.size ≤ g) := Lib.hid (fun g hg => by
          rcases hinfo with h | h
          · rw [h] at hg; exact HOB.out g hg
          · rw [h] at hg; simp only [Option.some.injEq] at hg; exact .inr (by omega))
        clear hown' hgrow hinfo hwz
        go_wp2_with fail
        go_roundg (gk - 1)
        case measure => omega
        case rel => exact ⟨j + 1, by first | rfl | (congr 1), by omega, HW6, HK6, HOB6⟩
    · have hge : ¬ (j : Int) < (TX.length : Int) := by omega
      obtain rfl : j = TX.length := by omega
      have hpl : PS.length = TX.length + 1 := by rw [HPS.out, List.length_cons, List.length_zip, HNL.out, Nat.min_self]
      have hrd := HRD.out
      rw [List.take_of_length_le (by omega), ← strs_cells PS] at hrd
      have hlen : (strsM PS).length = TX.length + 1 := by unfold strsM; rw [List.length_map, hpl]
      have hob := obj_any _ ra rc (strsM PS) (PS.map fun p => leafC p.2) wr hrd (strs_reps _ wr PS) (by omega) (fun e => by
        subst e
        rcases hrd with h0 | ⟨_, _, h0, _⟩
        · have h6 := mem6_len (strs_reps (fun _ => True) wr PS)
          rw [h0] at h6
          simp at h6
          omega
        · cases h0)
      rw [hlen, HVS.out] at hob
      have HO := Lib.hid hob
      have HZR := Lib.hid ((HK.out.block _ (by omega) (by omega)).trans HZ5.out)
      have HBR : Hid (Below w.heap.size w wr) := Lib.hid (HB5.out.trans ⟨HK.out.os, HK.out.tape, HK.out.output, HK.out.size, fun k hk => HK.out.block k (by omega) (by omega)⟩)
      clear hob hrd HTR
      go_wp2_with fail
      refine HO.out.mono ?_
      rintro e w7 ⟨hb7, cs7, rfl, hrep⟩
      have HB7 := Lib.hid (HBR.out.trans (hb7.mono HBR.out.size))
      have HZ7 := Lib.hid ((hb7.block _ (by omega)).trans HZR.out)
      have hrep2 := hrep.mono (ok' := fun b => w3.heap.size ≤ b) (fun b hb => by rcases hb with h | h <;> omega)
      obtain ⟨a1, c1, a2, c2, _, _, rfl, -⟩ := hrep.parts
      unfold strV at *
      have HRP := Lib.hid hrep2
      clear hb7 hrep hrep2 HO
      obtain ⟨k, y, t, l1, m1, hk, hy, ht, hl1, hm1⟩ : ∃ k y t l1 m1, VS.kind = k ∧ VS.yes = y ∧ (⟨VS.text.toArray⟩ : ByteArray) = t ∧ VS.list.length = l1 ∧ VS.mem.length = m1 := ⟨_, _, _, _, _, rfl, rfl, rfl, rfl, rfl⟩
      rw [hk, hy, ht, hl1, hm1] at HRP
      rw [hk, hy, ht, hl1, hm1]
      clear hk hy ht hl1 hm1
      have d0 : w7.cell? ⟨w.heap.size + 1, 0, none⟩ = some (.int .i64 0) := by rw [Lib.cell_of_heap HZ7.out]; rfl
      have d1 : w7.cell? ⟨w.heap.size + 1, 1, none⟩ = some (.bool false) := by rw [Lib.cell_of_heap HZ7.out]; rfl
      have d2 : w7.cell? ⟨w.heap.size + 1, 2, none⟩ = some (.string ⟨#[]⟩) := by rw [Lib.cell_of_heap HZ7.out]; rfl
      have d3 : w7.cell? ⟨w.heap.size + 1, 3, none⟩ = some (.slice none 0 0) := by rw [Lib.cell_of_heap HZ7.out]; rfl
      have d4 : w7.cell? ⟨w.heap.size + 1, 4, none⟩ = some (.slice none 0 0) := by rw [Lib.cell_of_heap HZ7.out]; rfl
      have f0 := Lib.frozen_of_heap HZ7.out 0
      have f1 := Lib.frozen_of_heap HZ7.out 1
      have f2 := Lib.frozen_of_heap HZ7.out 2
      have f3 := Lib.frozen_of_heap HZ7.out 3
      have f4 := Lib.frozen_of_heap HZ7.out 4
      go_wp2_with fail
      have hst := value_stored HZ7.out (.int .i64 k) (.bool y) (.string t) (.slice a1 l1 c1) (.slice a2 m1 c2)
      have hbe := zero_stored HB7.out (Nat.le_succ _) (.int .i64 k) (.bool y) (.string t) (.slice a1 l1 c1) (.slice a2 m1 c2)
      have hot := fun q (hq : q ≠ w.heap.size + 1) => five_other w7 (w.heap.size + 1) (.int .i64 k) (.bool y) (.string t) (.slice a1 l1 c1) (.slice a2 m1 c2) q hq
      have e0 := Lib.cell_of_heap hst 0
      have e1 := Lib.cell_of_heap hst 1
      have e2 := Lib.cell_of_heap hst 2
      have e3 := Lib.cell_of_heap hst 3
      have e4 := Lib.cell_of_heap hst 4
      simp only [List.getElem?_toArray] at e0 e1 e2 e3 e4
      refine bodyPost_ret (v := .tuple #[.agg #[.int .i64 k, .bool y, .string t, .slice a1 l1 c1, .slice a2 m1 c2], .int .i64 0]) (by simp [results, Tryz.results12, go_sem, e0, e1, e2, e3, e4]) rfl ?_
      exact ⟨hbe, [.int .i64 k, .bool y, .string t, .slice a1 l1 c1, .slice a2 m1 c2], rfl, (HRP.out.keep fun q hq _ => hot q (by omega)).mono fun q hq => by omega⟩
end Go.Proofs.YtfdijcdpmgkdkaaGreat
/- Whom an event is about, plain: a value's text, the subject of a value. -/
set_option linter.unusedVariables false
namespace Go.Proofs.YtfdijcdpmgkdkaaGreat
open Go.RowKit

/-- What stands behind the format in a subject's text. -/
def restS (f i s : List UInt8) : List UInt8 :=
  if f = opaB then [44, 34, 105, 100, 34, 58] ++ quoteL i else if f = emaB then [44, 34, 101, 109, 97, 105, 108, 34, 58] ++ quoteL i
  else [44, 34, 105, 115, 115, 34, 58] ++ quoteL s ++ [44, 34, 115, 117, 98, 34, 58] ++ quoteL i
theorem plain_val {f i s : List UInt8} (h : f = opaB ∨ f = emaB ∨ f = issB) : plainJ (valS f i s) = [123, 34, 102, 111, 114, 109, 97, 116, 34, 58] ++ quoteL f ++ restS f i s ++ [125] := by
  have p6 : ∀ m, plainJ (jobj m) = 123 :: (plainM true m ++ [125]) := by
    intro m
    simp [jobj, plainJ]
  have q1 : quoteL fmtB = [34, 102, 111, 114, 109, 97, 116, 34] := by decide +kernel
  have q2 : quoteL idB = [34, 105, 100, 34] := by decide +kernel
  have q3 : quoteL emaB = [34, 101, 109, 97, 105, 108, 34] := by decide +kernel
  have q4 : quoteL isB = [34, 105, 115, 115, 34] := by decide +kernel
  have q5 : quoteL subB = [34, 115, 117, 98, 34] := by decide +kernel
  unfold valS memsS restS
  rw [p6]
  rcases h with rfl | rfl | rfl
  · rw [if_neg (by decide), if_neg (by decide), if_pos rfl]
    simp [plainM, plain_str, q1, q2]
  · rw [if_neg (by decide), if_pos rfl, if_neg (by decide), if_pos rfl]
    simp [plainM, plain_str, q1, q3]
  · rw [if_pos rfl, if_neg (by decide), if_neg (by decide)]
    simp [plainM, plain_str, q1, q4, q5]
theorem right_iss {f i s : List UInt8} (h : rightS f i s = true) (hf : f ≠ issB) : s = [] := by
  rcases right_fmt h with rfl | rfl | rfl
  · unfold rightS at h
    rw [if_pos rfl] at h
    simp at h
    exact h.2
  · unfold rightS at h
    rw [if_neg (by decide), if_pos rfl] at h
    simp at h
    exact h.2.2
  · exact absurd rfl hf
theorem of_val {f i s : List UInt8} (h : rightS f i s = true) : ofS (valS f i s) = ((f, i, s), 0) := by
  have hr := val_right h
  have hs := fun hf => right_iss h hf
  have n1 : fmtB ≠ idB := by decide
  have n2 : fmtB ≠ emaB := by decide
  have n3 : fmtB ≠ isB := by decide
  have n4 : fmtB ≠ subB := by decide
  have n5 : isB ≠ subB := by decide
  rcases right_fmt h with rfl | rfl | rfl
  · obtain rfl := hs (by decide)
    have hv : valS opaB i [] = jobj [(fmtB, jstr opaB), (idB, jstr i)] := by unfold valS memsS; rw [if_neg (by decide), if_neg (by decide)]
    rw [hv] at hr ⊢
    have s1 : strM fmtB (jobj [(fmtB, jstr opaB), (idB, jstr i)]) = (opaB, true) := by
      unfold strM getJ
      simp [jobj, JV.kind, JV.mem, getM, jstr, JV.text]
    have s2 : strM idB (jobj [(fmtB, jstr opaB), (idB, jstr i)]) = (i, true) := by
      unfold strM getJ
      simp [jobj, JV.kind, JV.mem, getM, jstr, JV.text, n1]
    have s3 : (jobj [(fmtB, jstr opaB), (idB, jstr i)]).mem.length = 2 := rfl
    have s4 : namesS opaB = [idB] := by decide
    unfold ofS
    rw [s1, hr, s3, s4, if_neg (by decide), if_neg (by decide), if_neg (by decide), if_neg (by decide), if_neg (by decide : ¬ (opaB = emaB)), s2, h]
    rfl
  · obtain rfl := hs (by decide)
    have hv : valS emaB i [] = jobj [(fmtB, jstr emaB), (emaB, jstr i)] := by unfold valS memsS; rw [if_neg (by decide), if_pos rfl]
    rw [hv] at hr ⊢
    have s1 : strM fmtB (jobj [(fmtB, jstr emaB), (emaB, jstr i)]) = (emaB, true) := by
      unfold strM getJ
      simp [jobj, JV.kind, JV.mem, getM, jstr, JV.text]
    have s2 : strM emaB (jobj [(fmtB, jstr emaB), (emaB, jstr i)]) = (i, true) := by
      unfold strM getJ
      simp [jobj, JV.kind, JV.mem, getM, jstr, JV.text, n2]
    have s3 : (jobj [(fmtB, jstr emaB), (emaB, jstr i)]).mem.length = 2 := rfl
    have s4 : namesS emaB = [emaB] := by decide
    unfold ofS
    rw [s1, hr, s3, s4, if_neg (by decide), if_neg (by decide), if_neg (by decide), if_neg (by decide), if_pos rfl, s2, h]
    rfl
  · have hv : valS issB i s = jobj [(fmtB, jstr issB), (isB, jstr s), (subB, jstr i)] := by unfold valS memsS; rw [if_pos rfl]
    rw [hv] at hr ⊢
    have s1 : strM fmtB (jobj [(fmtB, jstr issB), (isB, jstr s), (subB, jstr i)]) = (issB, true) := by
      unfold strM getJ
      simp [jobj, JV.kind, JV.mem, getM, jstr, JV.text]
    have s2 : strM isB (jobj [(fmtB, jstr issB), (isB, jstr s), (subB, jstr i)]) = (s, true) := by
      unfold strM getJ
      simp [jobj, JV.kind, JV.mem, getM, jstr, JV.text, n3]
    have s5 : strM subB (jobj [(fmtB, jstr issB), (isB, jstr s), (subB, jstr i)]) = (i, true) := by
      unfold strM getJ
      simp [jobj, JV.kind, JV.mem, getM, jstr, JV.text, n4, n5]
    have s3 : (jobj [(fmtB, jstr issB), (isB, jstr s), (subB, jstr i)]).mem.length = 3 := rfl
    have s4 : namesS issB = [isB, subB] := by decide
    unfold ofS
    rw [s1, hr, s3, s4, if_neg (by decide), if_neg (by decide), if_neg (by decide), if_pos rfl, s2, s5, h]
    rfl
theorem val_size (f i s : List UInt8) : sizeJ (valS f i s) ≤ 100 + f.length + i.length + s.length := by
  unfold valS memsS
  have h1 := size_str f
  have h2 := size_str i
  have h3 := size_str s
  have e0 : fmtB.length = 6 := rfl
  have e1 : idB.length = 2 := rfl
  have e2 : emaB.length = 5 := rfl
  have e3 : isB.length = 3 := rfl
  have e4 : subB.length = 3 := rfl
  by_cases hi : f = issB
  · rw [if_pos hi]
    simp only [jobj, sizeJ, sizeM, sizeL, h1, h2, h3, e0, e3, e4, List.length_nil]
    omega
  · rw [if_neg hi]
    by_cases he : f = emaB
    · rw [if_pos he]
      simp only [jobj, sizeJ, sizeM, sizeL, h1, h2, e0, e2, List.length_nil]
      omega
    · rw [if_neg he]
      simp only [jobj, sizeJ, sizeM, sizeL, h1, h2, e0, e1, List.length_nil]
      omega
end Go.Proofs.YtfdijcdpmgkdkaaGreat
/- The document's Quote. -/
set_option linter.unusedVariables false
namespace Go.Proofs.YtfdijcdpmgkdkaaGreat
open Go.RowKit

def shortsL : List UInt8 := [98, 102, 110, 114, 116, 34, 92]
def meansL : List UInt8 := [8, 12, 10, 13, 9, 34, 92]
/-- A byte's text, when k of the short ones have been looked at. -/
def stK (c : UInt8) : Nat → List UInt8
  | 0 => if c.toNat < 32 then [92, 117, 48, 48, lowL (c.toNat / 16), lowL (c.toNat % 16)] else [c]
  | k + 1 => if meansL.getD k 0 = c then [92, shortsL.getD k 0] else stK c k
theorem stK7 : ∀ c, stK c 7 = quoteC c := u8_all _ (by decide +kernel)
theorem short_at (c : UInt8) (j : Nat) (hj : j < 7) : ∃ mj sj : UInt8, (∀ w, (Instr.index 9 (.string ⟨#[8, 12, 10, 13, 9, 34, 92]⟩) (.int .i64 (j : Int))).run Tryz.prog w = .ok (.int .u8 (mj.toNat : Nat)) w) ∧
    (∀ w, (Instr.slice 9 (.string ⟨#[98, 102, 110, 114, 116, 34, 92]⟩) (some (.int .i64 (j : Int))) (some (.int .i64 ((j : Int) + 1))) none).run Tryz.prog w = .ok (.string ⟨#[sj]⟩) w) ∧
    stK c (j + 1) = if mj = c then [92, sj] else stK c j := by
  have h1 : j < meansL.length := hj
  have h2 : j < shortsL.length := hj
  refine ⟨meansL[j], shortsL[j], fun w => str_at meansL j h1 w, fun w => st_one shortsL j h2 w, ?_⟩
  show (if meansL.getD j 0 = c then [92, shortsL.getD j 0] else stK c j) = _
  rw [List.getD_eq_getElem?_getD, List.getD_eq_getElem?_getD, List.getElem?_eq_getElem h1, List.getElem?_eq_getElem h2]
  rfl
set_option maxRecDepth 100000 in
set_option maxHeartbeats 8000000 in
theorem refquote_any (s : List UInt8) (w : World) (hs : s.length ≤ 1000000) :
    Calls Tryz.prog 15 #[.string ⟨s.toArray⟩] w fun e w' => e = .returned (.string ⟨(quoteL s).toArray⟩) ∧ Below w.heap.size w w' := by
  go_enter Tryz.func15, Tryz.ntmps15
  go_wp2_with fail
  go_loopg [5, 6] s.length (fun k out iv wr => ∃ i : Nat, out = .string ⟨(34 :: (s.take i).flatMap quoteC).toArray⟩ ∧ iv = .int .i64 (i : Int) ∧ i + k = s.length ∧ Hid (Below w.heap.size w wr))
  case atStart => exact ⟨0, rfl, rfl, by omega, Lib.hid (Below.refl _ _)⟩
  case round =>
    obtain ⟨i, rfl, rfl, hi, HB⟩ := hrel
    by_cases hlt : i < s.length
    · have hltI : (i : Int) < (s.length : Int) := by omega
      have hix := fun w => str_at s i hlt w
      have hsl := fun w => st_one s i hlt w
      have HT : Hid ((s.take (i + 1)).flatMap quoteC = (s.take i).flatMap quoteC ++ quoteC s[i]) := Lib.hid (by rw [List.take_succ_eq_append_getElem hlt, List.flatMap_append]; simp [List.flatMap_cons])
      generalize s[i] = c at *
      have hc256 := UInt8.toNat_lt c
      obtain ⟨E, hE⟩ : ∃ E, 34 :: (s.take i).flatMap quoteC = E := ⟨_, rfl⟩
      have hel : E.length ≤ 6000001 := by
        rw [← hE, List.length_cons]
        have h1 := quote_len6 (s.take i)
        have h2 : (s.take i).length ≤ s.length := by rw [List.length_take]; omega
        omega
      rw [hE]
      have HE := Lib.hid hE
      clear hE
      obtain ⟨gO, hgO⟩ : ∃ x : Nat, x = gk := ⟨_, rfl⟩
      by_cases hlo : c.toNat < 32
      · have hloI : decide (((c.toNat : Nat) : Int) < 32) = true := decide_eq_true (by omega)
        have HS0 : Hid ([92, 117, 48, 48, lowL (c.toNat / 16), lowL (c.toNat % 16)] = stK c 0) := Lib.hid (by unfold stK; rw [if_pos hlo])
        have hs1 := fun w => lows_slice8 (c.toNat / 16) (by omega) (((c.toNat : Nat) : Int) / 16) (((c.toNat : Nat) : Int) / 16 + 1) (by omega) (by omega) w
        have hs2 := fun w => lows_slice8 (c.toNat % 16) (by omega) (((c.toNat : Nat) : Int) % 16) (((c.toNat : Nat) : Int) % 16 + 1) (by omega) (by omega) w
        go_upto_region 9 with (fail)
        go_quiet (fail)
        go_wp2_with fail
        go_loopg [7, 8] 7 (fun k cv kv wr2 => ∃ j : Nat, cv = .string ⟨(stK c j).toArray⟩ ∧ kv = .int .i64 (j : Int) ∧ j + k = 7 ∧ Hid (Below w.heap.size w wr2))
        case atStart => exact ⟨0, by rw [← HS0.out]; rfl, rfl, by omega, Lib.hid (below_drewN HB.out _)⟩
        case round =>
          obtain ⟨j, rfl, rfl, hj, HB2⟩ := hrel
          by_cases hlt2 : j < 7
          · have hltJ : (j : Int) < 7 := by omega
            obtain ⟨mj, sj, hmx, hsx, hm⟩ := short_at c j hlt2
            have HM := Lib.hid hm
            clear hm
            by_cases e : mj = c
            · subst e
              have HN : Hid (stK mj (j + 1) = [92, sj]) := Lib.hid (by rw [HM.out, if_pos rfl])
              have qb : (((mj.toNat : Nat) : Int) == ((mj.toNat : Nat) : Int)) = true := by simp
              clear HM
              go_wp2_with fail
              go_quiet (fail)
              go_wp2_with fail
              go_roundg (gk - 1)
              case measure => omega
              case rel => exact ⟨j + 1, by rw [HN.out]; rfl, rfl, by omega, Lib.hid (below_drewN HB2.out _)⟩
            · have HN : Hid (stK c (j + 1) = stK c j) := Lib.hid (by rw [HM.out, if_neg e])
              have qb : (((mj.toNat : Nat) : Int) == ((c.toNat : Nat) : Int)) = false := by
                rw [beq_eq_false_iff_ne]
                exact fun h => e (UInt8.toNat_inj.1 (by omega))
              clear HM
              go_wp2_with fail
              go_quiet (fail)
              go_wp2_with fail
              go_roundg (gk - 1)
              case measure => omega
              case rel => exact ⟨j + 1, by rw [HN.out], rfl, by omega, Lib.hid (below_drewN HB2.out _)⟩
          · have hgeJ : ¬ (j : Int) < 7 := by omega
            obtain rfl : j = 7 := by omega
            obtain ⟨T, hT⟩ : ∃ T, stK c 7 = T := ⟨_, rfl⟩
            have htl : T.length ≤ 6 := by rw [← hT, stK7]; exact quoteC_six c
            have HX : Hid (E ++ T = 34 :: (s.take (i + 1)).flatMap quoteC) := Lib.hid (by rw [HT.out, ← HE.out, ← hT, stK7]; rfl)
            rw [hT]
            clear hT
            go_wp2_with fail
            go_roundg (gO - 1)
            case measure => omega
            case rel => exact ⟨i + 1, by rw [← HX.out]; exact congrArg Value.string (st_cat E T), rfl, by omega, HB2⟩
      · have hloI : decide (((c.toNat : Nat) : Int) < 32) = false := decide_eq_false (by omega)
        have HS0 : Hid ([c] = stK c 0) := Lib.hid (by unfold stK; rw [if_neg hlo])
        go_wp2_with fail
        go_loopg [7, 8] 7 (fun k cv kv wr2 => ∃ j : Nat, cv = .string ⟨(stK c j).toArray⟩ ∧ kv = .int .i64 (j : Int) ∧ j + k = 7 ∧ Hid (Below w.heap.size w wr2))
        case atStart => exact ⟨0, by rw [← HS0.out], rfl, by omega, HB⟩
        case round =>
          obtain ⟨j, rfl, rfl, hj, HB2⟩ := hrel
          by_cases hlt2 : j < 7
          · have hltJ : (j : Int) < 7 := by omega
            obtain ⟨mj, sj, hmx, hsx, hm⟩ := short_at c j hlt2
            have HM := Lib.hid hm
            clear hm
            by_cases e : mj = c
            · subst e
              have HN : Hid (stK mj (j + 1) = [92, sj]) := Lib.hid (by rw [HM.out, if_pos rfl])
              have qb : (((mj.toNat : Nat) : Int) == ((mj.toNat : Nat) : Int)) = true := by simp
              clear HM
              go_wp2_with fail
              go_quiet (fail)
              go_wp2_with fail
              go_roundg (gk - 1)
              case measure => omega
              case rel => exact ⟨j + 1, by rw [HN.out]; rfl, rfl, by omega, Lib.hid (below_drewN HB2.out _)⟩
            · have HN : Hid (stK c (j + 1) = stK c j) := Lib.hid (by rw [HM.out, if_neg e])
              have qb : (((mj.toNat : Nat) : Int) == ((c.toNat : Nat) : Int)) = false := by
                rw [beq_eq_false_iff_ne]
                exact fun h => e (UInt8.toNat_inj.1 (by omega))
              clear HM
              go_wp2_with fail
              go_quiet (fail)
              go_wp2_with fail
              go_roundg (gk - 1)
              case measure => omega
              case rel => exact ⟨j + 1, by rw [HN.out], rfl, by omega, Lib.hid (below_drewN HB2.out _)⟩
          · have hgeJ : ¬ (j : Int) < 7 := by omega
            obtain rfl : j = 7 := by omega
            obtain ⟨T, hT⟩ : ∃ T, stK c 7 = T := ⟨_, rfl⟩
            have htl : T.length ≤ 6 := by rw [← hT, stK7]; exact quoteC_six c
            have HX : Hid (E ++ T = 34 :: (s.take (i + 1)).flatMap quoteC) := Lib.hid (by rw [HT.out, ← HE.out, ← hT, stK7]; rfl)
            rw [hT]
            clear hT
            go_wp2_with fail
            go_roundg (gO - 1)
            case measure => omega
            case rel => exact ⟨i + 1, by rw [← HX.out]; exact congrArg Value.string (st_cat E T), rfl, by omega, HB2⟩
    · have hge : ¬ (i : Int) < (s.length : Int) := by omega
      obtain ⟨E, hE⟩ : ∃ E, 34 :: (s.take i).flatMap quoteC = E := ⟨_, rfl⟩
      have hel : E.length ≤ 6000001 := by
        rw [← hE, List.length_cons]
        have h1 := quote_len6 (s.take i)
        have h2 : (s.take i).length ≤ s.length := by rw [List.length_take]; omega
        omega
      have HX : Hid (E ++ [34] = quoteL s) := Lib.hid (by rw [← hE, List.take_of_length_le (by omega)]; rfl)
      rw [hE]
      clear hE
      go_wp2_with fail
      refine bodyPost_ret (results_tmp rfl _ _ _) rfl ?_
      exact ⟨by rw [← HX.out]; exact congrArg (fun x => Ending.returned (Value.string x)) (st_cat E [34]), HB.out⟩
end Go.Proofs.YtfdijcdpmgkdkaaGreat
/- json: write, of any value; depth. -/
set_option linter.unusedVariables false
namespace Go.Proofs.YtfdijcdpmgkdkaaGreat
open Go.RowKit

theorem jwrite_any (b : Nat) : ∀ (N : Nat) (v : JV), SizeOf.sizeOf v ≤ N → WriteC b v := by
  intro N
  induction N with
  | zero =>
    intro v h
    obtain ⟨k, y, t, l, m⟩ := v
    simp at h
  | succ N ih =>
    intro v h
    obtain ⟨k, y, t, l, m⟩ := v
    have hs : SizeOf.sizeOf (JV.mk k y t l m) = 1 + SizeOf.sizeOf k + SizeOf.sizeOf y + SizeOf.sizeOf t + SizeOf.sizeOf l + SizeOf.sizeOf m := by simp
    by_cases h5 : k = 5
    · subst h5
      exact jwrite_arr b y t l m fun x hx => ih x (by have := sizeOf_list hx; omega)
    by_cases h6 : k = 6
    · subst h6
      exact jwrite_obj b y t l m fun x hx => ih x.2 (by have := sizeOf_mem hx; omega)
    exact jwrite_leaf b k y t l m h5 h6
theorem jwrite (b : Nat) (v : JV) : WriteC b v := jwrite_any b _ v (Nat.le_refl _)
end Go.Proofs.YtfdijcdpmgkdkaaGreat
/- json: Print. -/
set_option linter.unusedVariables false
namespace Go.Proofs.YtfdijcdpmgkdkaaGreat
open Go.RowKit

set_option maxRecDepth 100000 in
set_option maxHeartbeats 16000000 in
theorem jprint_any (v : JV) (hv : RightC v) (ok : Nat → Prop) (cs : List Value) (w : World) (h : Rep ok w cs v) (hl : (plainJ v).length ≤ 100000) :
    Calls Tryz.prog 16 #[.agg cs.toArray] w fun e w' => e = .returned (.tuple #[.string ⟨(if rightJ v then plainJ v else []).toArray⟩, .int .i64 (if rightJ v then 0 else 10)]) ∧ Below w.heap.size w w' := by
  obtain ⟨a, c, a', c', cl, cm, rfl, -⟩ := h.parts
  unfold strV at *
  have HR0 := Lib.hid h.lt
  have HV := Lib.hid hv
  clear h hv
  go_enter Tryz.func16, Tryz.ntmps16
  go_upto_region 1 with (fail)
  have hb1 : Below w.heap.size w (w.alloc (.cells #[.int .i64 v.kind, .bool v.yes, .string ⟨v.text.toArray⟩, .slice a v.list.length c, .slice a' v.mem.length c'] 28)) := (Below.refl _ _).alloc (Nat.le_refl _) _
  have hx1 := heap_alloc_new w (.cells #[.int .i64 v.kind, .bool v.yes, .string ⟨v.text.toArray⟩, .slice a v.list.length c, .slice a' v.mem.length c'] 28)
  generalize w.alloc _ = w1 at *
  have HB1 := Lib.hid hb1
  have HX1 := Lib.hid hx1
  have hs1 : w.heap.size < w1.heap.size := (Array.getElem?_eq_some_iff.1 hx1).1
  have HR1 := Lib.hid (HR0.out.under hb1)
  have v0 : w1.cell? ⟨w.heap.size, 0, none⟩ = some (.int .i64 v.kind) := by rw [Lib.cell_of_heap hx1]; rfl
  have v1 : w1.cell? ⟨w.heap.size, 1, none⟩ = some (.bool v.yes) := by rw [Lib.cell_of_heap hx1]; rfl
  have v2 : w1.cell? ⟨w.heap.size, 2, none⟩ = some (.string ⟨v.text.toArray⟩) := by rw [Lib.cell_of_heap hx1]; rfl
  have v3 : w1.cell? ⟨w.heap.size, 3, none⟩ = some (.slice a v.list.length c) := by rw [Lib.cell_of_heap hx1]; rfl
  have v4 : w1.cell? ⟨w.heap.size, 4, none⟩ = some (.slice a' v.mem.length c') := by rw [Lib.cell_of_heap hx1]; rfl
  clear hb1 hx1 HR0
  go_wp2_with fail
  refine (HV.out _ _ w1 HR1.out).mono ?_
  rintro e w2 ⟨rfl, hb2⟩
  have HB2 := Lib.hid (HB1.out.trans (hb2.mono HB1.out.size))
  have HX2 := Lib.hid ((hb2.block _ hs1).trans HX1.out)
  have hs2 : w.heap.size < w2.heap.size := Nat.lt_of_lt_of_le hs1 hb2.size
  have HR2 := Lib.hid (HR1.out.under hb2)
  clear hb2 v0 v1 v2 v3 v4 HR1 HX1 HB1
  cases hr : rightJ v with
  | false =>
    go_wp2_with fail
    all_goals (refine bodyPost_ret (v := .tuple #[.string ⟨#[]⟩, .int .i64 10]) (by simp [results, Tryz.results16, go_sem]) rfl ?_; exact ⟨rfl, HB2.out⟩)
  | true =>
    go_upto_region 4 with (fail)
    have HBN := Lib.hid (BldZ.fresh w2)
    have hb3 : Below w2.heap.size w2 (w2.alloc (.cells #[.pointer none, .slice none 0 0] 69 (0, 0))) := (Below.refl _ _).alloc (Nat.le_refl _) _
    generalize w2.alloc _ = w3 at *
    have HX3 := Lib.hid ((hb3.block _ hs2).trans HX2.out)
    have HB3 := Lib.hid (HB2.out.trans (hb3.mono HB2.out.size))
    have HR3 := Lib.hid ((HR2.out.under hb3).mono fun k hk => (show k < w2.heap.size by have := hk.2; omega))
    have v0 : w3.cell? ⟨w.heap.size, 0, none⟩ = some (.int .i64 v.kind) := by rw [Lib.cell_of_heap HX3.out]; rfl
    have v1 : w3.cell? ⟨w.heap.size, 1, none⟩ = some (.bool v.yes) := by rw [Lib.cell_of_heap HX3.out]; rfl
    have v2 : w3.cell? ⟨w.heap.size, 2, none⟩ = some (.string ⟨v.text.toArray⟩) := by rw [Lib.cell_of_heap HX3.out]; rfl
    have v3 : w3.cell? ⟨w.heap.size, 3, none⟩ = some (.slice a v.list.length c) := by rw [Lib.cell_of_heap HX3.out]; rfl
    have v4 : w3.cell? ⟨w.heap.size, 4, none⟩ = some (.slice a' v.mem.length c') := by rw [Lib.cell_of_heap HX3.out]; rfl
    clear hb3
    go_wp2_with fail
    refine (jwrite w2.heap.size v _ [] w3 HR3.out HBN.out (by simpa using hl)).mono ?_
    rintro e w4 ⟨rfl, hb4, hf4⟩
    have HB4 := Lib.hid hb4
    have HF4 := Lib.hid (HB3.out.trans (hf4.below.mono (Nat.le_of_lt hs2)))
    clear hb4 hf4
    go_wp2_with fail
    refine (BString_any w2.heap.size _ w4 HB4.out.bld).mono ?_
    rintro e w5 ⟨rfl, _, hb5, _⟩
    have HB5 := Lib.hid (HF4.out.trans (hb5.mono (Nat.le_of_lt hs2)))
    clear hb5
    go_wp2_with fail
    refine bodyPost_ret (v := .tuple #[.string ⟨(plainJ v).toArray⟩, .int .i64 0]) (by simp [results, Tryz.results16, go_sem]) rfl ?_
    exact ⟨rfl, HB5.out⟩
end Go.Proofs.YtfdijcdpmgkdkaaGreat
/- The walk of SubjectRights. -/
set_option linter.unusedVariables false
namespace Go.Proofs.YtfdijcdpmgkdkaaGreat
open Go.RowKit

theorem ent_rquote : ∀ args w, (callFunc 15 args).run Tryz.prog w = .ok (.enter 15 args) w := run_enters Tryz.func15 (by kernel_rfl) rfl
set_option maxRecDepth 100000 in
set_option maxHeartbeats 16000000 in
theorem subjectRights_walk (f i s : List UInt8) (w : World) (hA : f.length ≤ maxLen ∧ i.length ≤ maxLen ∧ s.length ≤ maxLen) :
    Calls Tryz.prog 4 #[.agg #[.string ⟨f.toArray⟩, .string ⟨i.toArray⟩, .string ⟨s.toArray⟩]] w fun e w' => e = .returned (.bool true) ∧ Below w.heap.size w w' := by
  unfold maxLen at hA
  obtain ⟨a1, a2, a3⟩ := hA
  go_enter Tryz.func4, Tryz.ntmps4
  go_upto_region 1 with (fail)
  have hb1 : Below w.heap.size w (w.alloc (.cells #[.string ⟨f.toArray⟩, .string ⟨i.toArray⟩, .string ⟨s.toArray⟩] 34)) := (Below.refl _ _).alloc (Nat.le_refl _) _
  have hx1 := heap_alloc_new w (.cells #[.string ⟨f.toArray⟩, .string ⟨i.toArray⟩, .string ⟨s.toArray⟩] 34)
  generalize w.alloc _ = w1 at *
  have hs1 : w.heap.size < w1.heap.size := (Array.getElem?_eq_some_iff.1 hx1).1
  have HB1 := Lib.hid hb1
  have HX1 := Lib.hid hx1
  clear hb1 hx1
  go_wp2_with fail
  refine (anchor12_any w1).mono ?_
  rintro e w2 ⟨rfl, hb2⟩
  have HB2 := Lib.hid (HB1.out.trans (hb2.mono HB1.out.size))
  have HX2 := Lib.hid ((hb2.block _ hs1).trans HX1.out)
  have hs2 : w.heap.size < w2.heap.size := Nat.lt_of_lt_of_le hs1 hb2.size
  obtain ⟨v0, v1, v2⟩ := three_at HX2.out (Below.refl w2.heap.size w2) hs2
  clear hb2 HX1 HB1
  by_cases g1 : i.length ≤ 400
  case neg =>
    have j1 : (400 : Int) < ((i.length : Nat) : Int) := by omega
    go_wp2_with fail
    refine bodyPost_ret (results_tmp rfl _ _ _) rfl ?_
    exact ⟨rfl, HB2.out⟩
  have j1 : ¬ (400 : Int) < ((i.length : Nat) : Int) := by omega
  by_cases g2 : s.length ≤ 400
  case neg =>
    have j2 : (400 : Int) < ((s.length : Nat) : Int) := by omega
    go_wp2_with fail
    refine bodyPost_ret (results_tmp rfl _ _ _) rfl ?_
    exact ⟨rfl, HB2.out⟩
  have j2 : ¬ (400 : Int) < ((s.length : Nat) : Int) := by omega
  by_cases g3 : f.length ≤ 100
  case neg =>
    have j3 : (100 : Int) < ((f.length : Nat) : Int) := by omega
    go_wp2_with fail
    refine bodyPost_ret (results_tmp rfl _ _ _) rfl ?_
    exact ⟨rfl, HB2.out⟩
  have j3 : ¬ (100 : Int) < ((f.length : Nat) : Int) := by omega
  have HSV := Lib.hid (svalue_any f i s w2 (by omega) (by omega) (by omega))
  have HRR := Lib.hid (fun w' => refright_any f i s w' (by omega) (by omega))
  rw [ref_right] at HRR
  have HSR := Lib.hid (fun w' => sright_any f i s w' (by omega) (by omega))
  go_wp2_with fail
  refine HSV.out.mono ?_
  rintro e w3 ⟨hb3, cs, rfl, hrep⟩
  have HB3 := Lib.hid (HB2.out.trans (hb3.mono HB2.out.size))
  have HX3 := Lib.hid ((hb3.block _ hs2).trans HX2.out)
  have hs3 : w.heap.size < w3.heap.size := Nat.lt_of_lt_of_le hs2 hb3.size
  obtain ⟨a, c, ma, mc, _, _, rfl, -⟩ := hrep.parts
  unfold strV at *
  have HR3 := Lib.hid hrep
  clear hb3 hrep v0 v1 v2 HX2 HSV a1 a2 a3 j1 j2 j3
  have hof : rightS f i s = true → ofS (valS f i s) = ((f, i, s), 0) := fun h => of_val h
  have hpl : rightS f i s = true → plainJ (valS f i s) = [123, 34, 102, 111, 114, 109, 97, 116, 34, 58] ++ quoteL f ++ restS f i s ++ [125] := fun h => plain_val (right_fmt h)
  have hvr : rightS f i s = true → rightJ (valS f i s) = true := fun h => val_right h
  have hfm : rightS f i s = true → f = opaB ∨ f = emaB ∨ f = issB := fun h => right_fmt h
  have hvs := val_size f i s
  have HOF := Lib.hid hof
  have HPL := Lib.hid hpl
  have HVR := Lib.hid hvr
  have HFM := Lib.hid hfm
  clear hof hpl hvr hfm
  generalize rightS f i s = R at *
  obtain ⟨V, hV⟩ : ∃ V, (if R = true then valS f i s else JV.zero) = V := ⟨_, rfl⟩
  obtain ⟨E, hE⟩ : ∃ E : Int, (if R = true then (0 : Int) else 10) = E := ⟨_, rfl⟩
  rw [hV] at HR3 ⊢
  rw [hE]
  obtain ⟨k, y, t, l1, m1, hk, hy, ht, hl1, hm1⟩ : ∃ k y t l1 m1, V.kind = k ∧ V.yes = y ∧ (⟨V.text.toArray⟩ : ByteArray) = t ∧ V.list.length = l1 ∧ V.mem.length = m1 := ⟨_, _, _, _, _, rfl, rfl, rfl, rfl, rfl⟩
  rw [hk, hy, ht, hl1, hm1] at HR3
  rw [hk, hy, ht, hl1, hm1]
  go_upto_region 6 with (fail)
  generalize hw4 : w3.alloc _ = w4
  have hb4 : Below w3.heap.size w3 w4 := by rw [← hw4]; exact (Below.refl _ _).alloc (Nat.le_refl _) _
  have hy4 : w4.heap[w3.heap.size]? = some (.cells #[.int .i64 k, .bool y, .string t, .slice a l1 c, .slice ma m1 mc] 28 (0, 0)) := by rw [← hw4]; exact heap_alloc_new _ _
  have HB4 := Lib.hid (HB3.out.trans (hb4.mono HB3.out.size))
  have HX4 := Lib.hid ((hb4.block _ hs3).trans HX3.out)
  have HY4 := Lib.hid hy4
  have HR4 := Lib.hid (HR3.out.under hb4)
  have hs4 : w3.heap.size < w4.heap.size := (Array.getElem?_eq_some_iff.1 hy4).1
  obtain ⟨v0, v1, v2⟩ := three_at HX4.out (Below.refl w4.heap.size w4) (by omega)
  have hy' := hy
  have hm' := hm1
  clear hw4 hb4 hy4 HX3 HR3 HB3 hy' hm' hy ht hl1 hm1
  have HKK := Lib.hid hk
  have HEE := Lib.hid hE
  have HVV := Lib.hid hV
  clear hk hE hV
  go_wp2_with fail
  refine (HRR.out w4).mono ?_
  rintro e w5 ⟨rfl, hb5⟩
  have HB5 := Lib.hid (HB4.out.trans (hb5.mono HB4.out.size))
  have HX5 := Lib.hid ((hb5.block _ (by omega)).trans HX4.out)
  have HY5 := Lib.hid ((hb5.block _ hs4).trans HY4.out)
  have HR5 := Lib.hid (HR4.out.under hb5)
  have hs5 : w3.heap.size < w5.heap.size := Nat.lt_of_lt_of_le hs4 hb5.size
  clear hb5 v0 v1 v2 HX4 HY4 HR4 HB4 HRR
  obtain ⟨v0, v1, v2⟩ := three_at HX5.out (Below.refl w5.heap.size w5) (by omega)
  go_wp2_with fail
  refine (HSR.out w5).mono ?_
  rintro e w6 ⟨rfl, hb6⟩
  have HB6 := Lib.hid (HB5.out.trans (hb6.mono HB5.out.size))
  have HX6 := Lib.hid ((hb6.block _ (by omega)).trans HX5.out)
  have HY6 := Lib.hid ((hb6.block _ hs5).trans HY5.out)
  have HR6 := Lib.hid (HR5.out.under hb6)
  have hs6 : w3.heap.size < w6.heap.size := Nat.lt_of_lt_of_le hs5 hb6.size
  clear hb6 v0 v1 v2 HX5 HY5 HR5 HB5 HSR
  cases R with
  | false =>
    obtain rfl : 10 = E := HEE.out
    obtain rfl : 0 = k := by
      have h1 := HVV.out
      have h2 := HKK.out
      rw [← h1] at h2
      exact h2
    have y0 : w6.cell? ⟨w3.heap.size, 0, none⟩ = some (.int .i64 0) := by rw [Lib.cell_of_heap HY6.out]; rfl
    go_wp2_with fail
    refine bodyPost_ret (results_tmp rfl _ _ _) rfl ?_
    exact ⟨rfl, HB6.out⟩
  | true =>
  obtain rfl : 0 = E := HEE.out
  have hV := HVV.out
  have hVe : valS f i s = V := hV
  have hof := HOF.out rfl
  have hpl := HPL.out rfl
  have hvr := HVR.out rfl
  have hff := HFM.out rfl
  rw [hVe] at hof hpl hvr hvs
  clear hV hVe HOF HPL HVR HFM HVV HKK HEE
  have HOF := Lib.hid (of_any V (by omega))
  have HPR := Lib.hid (jprint_any V (jright V (by omega)))
  have hpz := plain_size V
  rw [hof] at HOF
  rw [hvr] at HPR
  simp only [if_true] at HPR
  have HPE := Lib.hid hpl
  have hQF := Lib.hid (fun w' => refquote_any f w' (by omega))
  have HQI := Lib.hid (fun w' => refquote_any i w' (by omega))
  have HQS := Lib.hid (fun w' => refquote_any s w' (by omega))
  have l1 := quoteL_len6 f
  have l2 := quoteL_len6 i
  have l3 := quoteL_len6 s
  have HRE : Hid (restS f i s = if f = opaB then [44, 34, 105, 100, 34, 58] ++ quoteL i else if f = emaB then [44, 34, 101, 109, 97, 105, 108, 34, 58] ++ quoteL i else [44, 34, 105, 115, 115, 34, 58] ++ quoteL s ++ [44, 34, 115, 117, 98, 34, 58] ++ quoteL i) := Lib.hid rfl
  generalize restS f i s = RS at *
  generalize quoteL f = QF at *
  generalize quoteL i = QI at *
  generalize quoteL s = QS at *
  have lqf : QF.length ≤ 1000 := by omega
  have lqi : QI.length ≤ 3000 := by omega
  have lqs : QS.length ≤ 3000 := by omega
  clear l1 l2 l3 hof hpl hvr
  obtain ⟨v0, v1, v2⟩ := three_at HX6.out (Below.refl w6.heap.size w6) (by omega)
  go_wp2_with fail
  refine (hQF.out w6).mono ?_
  rintro e w7 ⟨rfl, hb7⟩
  have HB7 := Lib.hid (HB6.out.trans (hb7.mono HB6.out.size))
  have HX7 := Lib.hid ((hb7.block _ (by omega)).trans HX6.out)
  have HY7 := Lib.hid ((hb7.block _ hs6).trans HY6.out)
  have HR7 := Lib.hid (HR6.out.under hb7)
  have hs7 : w3.heap.size < w7.heap.size := Nat.lt_of_lt_of_le hs6 hb7.size
  clear hb7 v0 v1 v2 HX6 HY6 HR6 HB6 hQF
  obtain ⟨v0, v1, v2⟩ := three_at HX7.out (Below.refl w7.heap.size w7) (by omega)
  have hcu : (⟨#[123, 34, 102, 111, 114, 109, 97, 116, 34, 58]⟩ : ByteArray) ++ ⟨QF.toArray⟩ = ⟨([123, 34, 102, 111, 114, 109, 97, 116, 34, 58] ++ QF).toArray⟩ := st_cat [123, 34, 102, 111, 114, 109, 97, 116, 34, 58] QF
  have hUl : ([123, 34, 102, 111, 114, 109, 97, 116, 34, 58] ++ QF).length ≤ 2000 := by simp; omega
  obtain ⟨U, hU⟩ : ∃ U, [123, 34, 102, 111, 114, 109, 97, 116, 34, 58] ++ QF = U := ⟨_, rfl⟩
  rw [hU] at hcu hUl
  have hpe := HPE.out
  rw [hU] at hpe
  have HPE := Lib.hid hpe
  go_upto_region 12 with (fail)
  clear hcu hU hpe v0 v1 v2
  rcases hff with hfe | hfe | hfe
  · have hrs := HRE.out
    rw [if_pos hfe] at hrs
    rw [hrs] at HPE
    obtain ⟨v0, v1, v2⟩ := three_at HX7.out (Below.refl w7.heap.size w7) (by omega)
    clear hrs HRE
    subst hfe
    unfold opaB at *
    go_wp2_with fail
    refine (HQI.out w7).mono ?_
    rintro e w8 ⟨rfl, hb8⟩
    have HB8 := Lib.hid (HB7.out.trans (hb8.mono HB7.out.size))
    have HX8 := Lib.hid ((hb8.block _ (by omega)).trans HX7.out)
    have HY8 := Lib.hid ((hb8.block _ hs7).trans HY7.out)
    have HR8 := Lib.hid (HR7.out.under hb8)
    have hs8 : w3.heap.size < w8.heap.size := Nat.lt_of_lt_of_le hs7 hb8.size
    clear hb8 v0 v1 v2 HX7 HY7 HR7 HB7 HQI HQS
    obtain ⟨X1, hX1⟩ : ∃ X1, [44, 34, 105, 100, 34, 58] ++ QI = X1 := ⟨_, rfl⟩
    obtain ⟨T6, hT0⟩ : ∃ T6, U ++ X1 = T6 := ⟨_, rfl⟩
    have hc1 : (⟨#[44, 34, 105, 100, 34, 58]⟩ : ByteArray) ++ ⟨QI.toArray⟩ = ⟨X1.toArray⟩ := by rw [← hX1]; exact st_cat [44, 34, 105, 100, 34, 58] QI
    have hc2 : (⟨U.toArray⟩ : ByteArray) ++ ⟨X1.toArray⟩ = ⟨T6.toArray⟩ := by rw [← hT0]; exact st_cat U X1
    have hXl : X1.length ≤ 4000 := by rw [← hX1]; simp; omega
    have hTl : T6.length ≤ 9000 := by rw [← hT0]; simp; omega
    have hT6 := Lib.hid (show U ++ ([44, 34, 105, 100, 34, 58] ++ QI) = T6 by rw [hX1, hT0])
    clear hX1 hT0
    go_upto_region 18 with (fail)
    clear hc1 hc2 hXl
    replace hT6 := hT6.out
    have hcat : (⟨T6.toArray⟩ : ByteArray) ++ ⟨#[125]⟩ = ⟨(T6 ++ [125]).toArray⟩ := st_cat T6 [125]
    have hpe : plainJ V = T6 ++ [125] := by rw [HPE.out, ← hT6] <;> simp
    have hpl : (plainJ V).length ≤ 9001 := by rw [hpe]; simp; omega
    have HPT := Lib.hid (fun cs w' h => HPR.out (w.heap.size ≤ ·) cs w' h (by omega))
    rw [hpe] at HPT
    obtain ⟨PT, hPT⟩ : ∃ PT, T6 ++ [125] = PT := ⟨_, rfl⟩
    rw [hPT] at hcat HPT
    have HR8' := Lib.hid (HR8.out.mono (ok' := (w.heap.size ≤ ·)) (fun b hb => by have hb' : w2.heap.size ≤ b := hb; show w.heap.size ≤ b; omega))
    clear hpe hPT hpl HPE HPR hT6
    obtain ⟨y0, y1, y2, y3, y4⟩ := five_at HY8.out (Below.refl w8.heap.size w8) hs8
    go_wp2_with fail
    refine (HPT.out [.int .i64 k, .bool y, .string t, .slice a l1 c, .slice ma m1 mc] w8 HR8'.out).mono ?_
    rintro e w9 ⟨rfl, hb9⟩
    have HB9 := Lib.hid (HB8.out.trans (hb9.mono HB8.out.size))
    have HX9 := Lib.hid ((hb9.block _ (by omega)).trans HX8.out)
    have HY9 := Lib.hid ((hb9.block _ hs8).trans HY8.out)
    have HR9 := Lib.hid (HR8.out.under hb9)
    have hs9 : w3.heap.size < w9.heap.size := Nat.lt_of_lt_of_le hs8 hb9.size
    clear hb9 y0 y1 y2 y3 y4 HX8 HY8 HR8 HR8' HB8 HPT
    obtain ⟨y0, y1, y2, y3, y4⟩ := five_at HY9.out (Below.refl w9.heap.size w9) hs9
    go_wp2_with fail
    refine (HOF.out _ [.int .i64 k, .bool y, .string t, .slice a l1 c, .slice ma m1 mc] w9 HR9.out).mono ?_
    rintro e wA ⟨rfl, hbA⟩
    have HBA := Lib.hid (HB9.out.trans (hbA.mono HB9.out.size))
    have HXA := Lib.hid ((hbA.block _ (by omega)).trans HX9.out)
    have hsA : w3.heap.size < wA.heap.size := Nat.lt_of_lt_of_le hs9 hbA.size
    unfold OfIs
    clear hbA y0 y1 y2 y3 y4 HX9 HY9 HR9 HB9 HOF
    go_upto_region 20 with (fail)
    generalize hwB : wA.alloc _ = wB
    have hbB : Below wA.heap.size wA wB := by rw [← hwB]; exact (Below.refl _ _).alloc (Nat.le_refl _) _
    have hgB := heap_alloc_new wA (.cells #[.string ⟨#[111, 112, 97, 113, 117, 101]⟩, .string ⟨i.toArray⟩, .string ⟨s.toArray⟩] 34)
    rw [show wA.alloc (.cells #[.string ⟨#[111, 112, 97, 113, 117, 101]⟩, .string ⟨i.toArray⟩, .string ⟨s.toArray⟩] 34) = wB from hwB] at hgB
    have HBB := Lib.hid (HBA.out.trans (hbB.mono HBA.out.size))
    have hxB := (hbB.block _ (by omega)).trans HXA.out
    obtain ⟨z0, z1, z2⟩ := three_at hgB (Below.refl wB.heap.size wB) (Array.getElem?_eq_some_iff.1 hgB).1
    obtain ⟨u0, u1, u2⟩ := three_at hxB (Below.refl wB.heap.size wB) (Array.getElem?_eq_some_iff.1 hxB).1
    clear hwB hbB hgB hxB HXA HBA
    go_wp2_with fail
    refine bodyPost_ret (results_tmp rfl _ _ _) rfl ?_
    exact ⟨rfl, HBB.out⟩
  · have hrs := HRE.out
    rw [if_neg (by rw [hfe]; decide), if_pos hfe] at hrs
    rw [hrs] at HPE
    obtain ⟨v0, v1, v2⟩ := three_at HX7.out (Below.refl w7.heap.size w7) (by omega)
    clear hrs HRE
    subst hfe
    unfold emaB at *
    go_wp2_with fail
    refine (HQI.out w7).mono ?_
    rintro e w8 ⟨rfl, hb8⟩
    have HB8 := Lib.hid (HB7.out.trans (hb8.mono HB7.out.size))
    have HX8 := Lib.hid ((hb8.block _ (by omega)).trans HX7.out)
    have HY8 := Lib.hid ((hb8.block _ hs7).trans HY7.out)
    have HR8 := Lib.hid (HR7.out.under hb8)
    have hs8 : w3.heap.size < w8.heap.size := Nat.lt_of_lt_of_le hs7 hb8.size
    clear hb8 v0 v1 v2 HX7 HY7 HR7 HB7 HQI HQS
    obtain ⟨X1, hX1⟩ : ∃ X1, [44, 34, 101, 109, 97, 105, 108, 34, 58] ++ QI = X1 := ⟨_, rfl⟩
    obtain ⟨T6, hT0⟩ : ∃ T6, U ++ X1 = T6 := ⟨_, rfl⟩
    have hc1 : (⟨#[44, 34, 101, 109, 97, 105, 108, 34, 58]⟩ : ByteArray) ++ ⟨QI.toArray⟩ = ⟨X1.toArray⟩ := by rw [← hX1]; exact st_cat [44, 34, 101, 109, 97, 105, 108, 34, 58] QI
    have hc2 : (⟨U.toArray⟩ : ByteArray) ++ ⟨X1.toArray⟩ = ⟨T6.toArray⟩ := by rw [← hT0]; exact st_cat U X1
    have hXl : X1.length ≤ 4000 := by rw [← hX1]; simp; omega
    have hTl : T6.length ≤ 9000 := by rw [← hT0]; simp; omega
    have hT6 := Lib.hid (show U ++ ([44, 34, 101, 109, 97, 105, 108, 34, 58] ++ QI) = T6 by rw [hX1, hT0])
    clear hX1 hT0
    go_upto_region 18 with (fail)
    clear hc1 hc2 hXl
    replace hT6 := hT6.out
    have hcat : (⟨T6.toArray⟩ : ByteArray) ++ ⟨#[125]⟩ = ⟨(T6 ++ [125]).toArray⟩ := st_cat T6 [125]
    have hpe : plainJ V = T6 ++ [125] := by rw [HPE.out, ← hT6] <;> simp
    have hpl : (plainJ V).length ≤ 9001 := by rw [hpe]; simp; omega
    have HPT := Lib.hid (fun cs w' h => HPR.out (w.heap.size ≤ ·) cs w' h (by omega))
    rw [hpe] at HPT
    obtain ⟨PT, hPT⟩ : ∃ PT, T6 ++ [125] = PT := ⟨_, rfl⟩
    rw [hPT] at hcat HPT
    have HR8' := Lib.hid (HR8.out.mono (ok' := (w.heap.size ≤ ·)) (fun b hb => by have hb' : w2.heap.size ≤ b := hb; show w.heap.size ≤ b; omega))
    clear hpe hPT hpl HPE HPR hT6
    obtain ⟨y0, y1, y2, y3, y4⟩ := five_at HY8.out (Below.refl w8.heap.size w8) hs8
    go_wp2_with fail
    refine (HPT.out [.int .i64 k, .bool y, .string t, .slice a l1 c, .slice ma m1 mc] w8 HR8'.out).mono ?_
    rintro e w9 ⟨rfl, hb9⟩
    have HB9 := Lib.hid (HB8.out.trans (hb9.mono HB8.out.size))
    have HX9 := Lib.hid ((hb9.block _ (by omega)).trans HX8.out)
    have HY9 := Lib.hid ((hb9.block _ hs8).trans HY8.out)
    have HR9 := Lib.hid (HR8.out.under hb9)
    have hs9 : w3.heap.size < w9.heap.size := Nat.lt_of_lt_of_le hs8 hb9.size
    clear hb9 y0 y1 y2 y3 y4 HX8 HY8 HR8 HR8' HB8 HPT
    obtain ⟨y0, y1, y2, y3, y4⟩ := five_at HY9.out (Below.refl w9.heap.size w9) hs9
    go_wp2_with fail
    refine (HOF.out _ [.int .i64 k, .bool y, .string t, .slice a l1 c, .slice ma m1 mc] w9 HR9.out).mono ?_
    rintro e wA ⟨rfl, hbA⟩
    have HBA := Lib.hid (HB9.out.trans (hbA.mono HB9.out.size))
    have HXA := Lib.hid ((hbA.block _ (by omega)).trans HX9.out)
    have hsA : w3.heap.size < wA.heap.size := Nat.lt_of_lt_of_le hs9 hbA.size
    unfold OfIs
    clear hbA y0 y1 y2 y3 y4 HX9 HY9 HR9 HB9 HOF
    go_upto_region 20 with (fail)
    generalize hwB : wA.alloc _ = wB
    have hbB : Below wA.heap.size wA wB := by rw [← hwB]; exact (Below.refl _ _).alloc (Nat.le_refl _) _
    have hgB := heap_alloc_new wA (.cells #[.string ⟨#[101, 109, 97, 105, 108]⟩, .string ⟨i.toArray⟩, .string ⟨s.toArray⟩] 34)
    rw [show wA.alloc (.cells #[.string ⟨#[101, 109, 97, 105, 108]⟩, .string ⟨i.toArray⟩, .string ⟨s.toArray⟩] 34) = wB from hwB] at hgB
    have HBB := Lib.hid (HBA.out.trans (hbB.mono HBA.out.size))
    have hxB := (hbB.block _ (by omega)).trans HXA.out
    obtain ⟨z0, z1, z2⟩ := three_at hgB (Below.refl wB.heap.size wB) (Array.getElem?_eq_some_iff.1 hgB).1
    obtain ⟨u0, u1, u2⟩ := three_at hxB (Below.refl wB.heap.size wB) (Array.getElem?_eq_some_iff.1 hxB).1
    clear hwB hbB hgB hxB HXA HBA
    go_wp2_with fail
    refine bodyPost_ret (results_tmp rfl _ _ _) rfl ?_
    exact ⟨rfl, HBB.out⟩
  · have hrs := HRE.out
    rw [if_neg (by rw [hfe]; decide), if_neg (by rw [hfe]; decide)] at hrs
    rw [hrs] at HPE
    obtain ⟨v0, v1, v2⟩ := three_at HX7.out (Below.refl w7.heap.size w7) (by omega)
    clear hrs HRE
    subst hfe
    unfold issB at *
    go_upto_region 13 with (fail)
    have HX := HX7
    have hxg : w.heap.size < w7.heap.size := by omega
    clear v0 v1 v2
    obtain ⟨X1, hX1⟩ : ∃ X1, [44, 34, 105, 115, 115, 34, 58] ++ QS = X1 := ⟨_, rfl⟩
    obtain ⟨X2, hX2⟩ : ∃ X2, X1 ++ [44, 34, 115, 117, 98, 34, 58] = X2 := ⟨_, rfl⟩
    obtain ⟨X3, hX3⟩ : ∃ X3, X2 ++ QI = X3 := ⟨_, rfl⟩
    obtain ⟨T6, hT0⟩ : ∃ T6, U ++ X3 = T6 := ⟨_, rfl⟩
    have HC1 : Hid ((⟨#[44, 34, 105, 115, 115, 34, 58]⟩ : ByteArray) ++ ⟨QS.toArray⟩ = ⟨X1.toArray⟩) := Lib.hid (by rw [← hX1]; exact st_cat [44, 34, 105, 115, 115, 34, 58] QS)
    have HC2 : Hid ((⟨X1.toArray⟩ : ByteArray) ++ ⟨#[44, 34, 115, 117, 98, 34, 58]⟩ = ⟨X2.toArray⟩) := Lib.hid (by rw [← hX2]; exact st_cat X1 [44, 34, 115, 117, 98, 34, 58])
    have HC3 : Hid ((⟨X2.toArray⟩ : ByteArray) ++ ⟨QI.toArray⟩ = ⟨X3.toArray⟩) := Lib.hid (by rw [← hX3]; exact st_cat X2 QI)
    have HC4 : Hid ((⟨U.toArray⟩ : ByteArray) ++ ⟨X3.toArray⟩ = ⟨T6.toArray⟩) := Lib.hid (by rw [← hT0]; exact st_cat U X3)
    have lx1 : X1.length ≤ 3100 := by rw [← hX1]; simp; omega
    have lx2 : X2.length ≤ 3200 := by rw [← hX2]; simp; omega
    have lx3 : X3.length ≤ 6300 := by rw [← hX3]; simp; omega
    have hTl : T6.length ≤ 9000 := by rw [← hT0]; simp; omega
    have hT6 := Lib.hid (show U ++ ((([44, 34, 105, 115, 115, 34, 58] ++ QS) ++ [44, 34, 115, 117, 98, 34, 58]) ++ QI) = T6 by rw [hX1, hX2, hX3, hT0])
    clear hX1 hX2 hX3 hT0
    refine wp_region_grow_tail 11 (by kernel_rfl) (by kernel_rfl) (by decide) (by kernel_rfl) [66, 67, 68, 69, 70, 71, 72, 73, 74, 75, 76] rfl (by decide) (by kernel_rfl) (fun iX => [VIs (.string ⟨U.toArray⟩), VIs (.pointer (some ⟨w.heap.size, 2, none⟩)), VIs (.string ⟨s.toArray⟩), VIs ((.string ⟨QS.toArray⟩)), VIs (.string ⟨X1.toArray⟩), VIs (.string ⟨X2.toArray⟩), VIs (.pointer (some ⟨w.heap.size, 1, none⟩)), VIs (.string ⟨i.toArray⟩), VIs ((.string ⟨QI.toArray⟩)), VIs (.string ⟨X3.toArray⟩), VIs (.string ⟨T6.toArray⟩)].getD iX fun _ _ => True) (stab_list _ ?_) ?_ ?_
    · skip
      intro V hV
      simp only [List.mem_cons, List.mem_nil_iff, or_false] at hV
      rcases hV with rfl | rfl | rfl | rfl | rfl | rfl | rfl | rfl | rfl | rfl | rfl <;> first | exact VIs.stab _ | exact VBytes.stab _ | exact VStr.stab _ | exact VParts.stab _ | exact VRow.stab _ | exact VRow8.stab _ _ | exact VRowIs.stab _ _ _
    · intro iX o ho a' w' hf hb hd
      rcases iX with _ | _ | _ | _ | _ | _ | _ | _ | _ | _ | _ | iX
      · cases ho
        refine grow_op rfl rfl rfl (grow_move rfl ?_)
        exact (hf.same 6 (by decide)).trans rfl
      · cases ho
        refine grow_op rfl rfl rfl ?_
        have f1 : a'.tmps.getD 1 undef = .pointer (some ⟨w.heap.size, 0, none⟩) := (hf.same 1 (by decide)).trans rfl
        refine grow_value (v := .pointer (some ⟨w.heap.size, 2, none⟩)) (w' := w') ?_ rfl (Below.refl _ _)
        simp only [execOp, Act.eval]
        go_simp
      · cases ho
        refine grow_op rfl rfl rfl ?_
        have e1 : a'.tmps.getD 67 undef = .pointer (some ⟨w.heap.size, 2, none⟩) := hd 1 (by kernel_rfl)
        obtain ⟨x0, x1, x2⟩ := three_at HX.out hb hxg
        refine grow_value (v := .string ⟨s.toArray⟩) (w' := w') ?_ rfl (Below.refl _ _)
        simp only [execOp, Act.eval, e1]
        go_simp
      · cases ho
        refine grow_op rfl rfl rfl ?_
        have e2 : a'.tmps.getD 68 undef = .string ⟨s.toArray⟩ := hd 2 (by kernel_rfl)
        refine grow_call ent_rquote rfl ?_
        simp only [List.map_toArray, List.map_cons, List.map_nil, Act.eval, e2]
        exact ((HQS.out w').mono (fun e w'' ⟨h1, h2⟩ => ⟨_, h1, rfl, h2⟩))
      · cases ho
        refine grow_op rfl rfl rfl ?_
        have e3 : a'.tmps.getD 69 undef = (.string ⟨QS.toArray⟩) := hd 3 (by kernel_rfl)
        have hc := HC1.out
        have hl : 7 + QS.length ≤ 9223372036854775807 := by omega
        refine grow_value (v := .string ⟨X1.toArray⟩) (w' := w') ?_ rfl (Below.refl _ _)
        simp only [execOp, Act.eval, e3]
        go_simp
      · cases ho
        refine grow_op rfl rfl rfl ?_
        have e4 : a'.tmps.getD 70 undef = .string ⟨X1.toArray⟩ := hd 4 (by kernel_rfl)
        have hc := HC2.out
        have hl : X1.length + 7 ≤ 9223372036854775807 := by omega
        refine grow_value (v := .string ⟨X2.toArray⟩) (w' := w') ?_ rfl (Below.refl _ _)
        simp only [execOp, Act.eval, e4]
        go_simp
      · cases ho
        refine grow_op rfl rfl rfl ?_
        have f1 : a'.tmps.getD 1 undef = .pointer (some ⟨w.heap.size, 0, none⟩) := (hf.same 1 (by decide)).trans rfl
        refine grow_value (v := .pointer (some ⟨w.heap.size, 1, none⟩)) (w' := w') ?_ rfl (Below.refl _ _)
        simp only [execOp, Act.eval]
        go_simp
      · cases ho
        refine grow_op rfl rfl rfl ?_
        have e6 : a'.tmps.getD 72 undef = .pointer (some ⟨w.heap.size, 1, none⟩) := hd 6 (by kernel_rfl)
        obtain ⟨x0, x1, x2⟩ := three_at HX.out hb hxg
        refine grow_value (v := .string ⟨i.toArray⟩) (w' := w') ?_ rfl (Below.refl _ _)
        simp only [execOp, Act.eval, e6]
        go_simp
      · cases ho
        refine grow_op rfl rfl rfl ?_
        have e7 : a'.tmps.getD 73 undef = .string ⟨i.toArray⟩ := hd 7 (by kernel_rfl)
        refine grow_call ent_rquote rfl ?_
        simp only [List.map_toArray, List.map_cons, List.map_nil, Act.eval, e7]
        exact ((HQI.out w').mono (fun e w'' ⟨h1, h2⟩ => ⟨_, h1, rfl, h2⟩))
      · cases ho
        refine grow_op rfl rfl rfl ?_
        have e5 : a'.tmps.getD 71 undef = .string ⟨X2.toArray⟩ := hd 5 (by kernel_rfl)
        have e8 : a'.tmps.getD 74 undef = (.string ⟨QI.toArray⟩) := hd 8 (by kernel_rfl)
        have hc := HC3.out
        have hl : X2.length + QI.length ≤ 9223372036854775807 := by omega
        refine grow_value (v := .string ⟨X3.toArray⟩) (w' := w') ?_ rfl (Below.refl _ _)
        simp only [execOp, Act.eval, e5, e8]
        go_simp
      · cases ho
        refine grow_op rfl rfl rfl ?_
        have e0 : a'.tmps.getD 66 undef = .string ⟨U.toArray⟩ := hd 0 (by kernel_rfl)
        have e9 : a'.tmps.getD 75 undef = .string ⟨X3.toArray⟩ := hd 9 (by kernel_rfl)
        have hc := HC4.out
        have hl : U.length + X3.length ≤ 9223372036854775807 := by omega
        refine grow_value (v := .string ⟨T6.toArray⟩) (w' := w') ?_ rfl (Below.refl _ _)
        simp only [execOp, Act.eval, e0, e9]
        go_simp
      · simp at ho
    · intro a' w' hf hb hd
      obtain rfl := hf.eq [Value.string ⟨U.toArray⟩, Value.pointer (some ⟨w.heap.size, 2, none⟩), Value.string ⟨s.toArray⟩, (.string ⟨QS.toArray⟩), Value.string ⟨X1.toArray⟩, Value.string ⟨X2.toArray⟩, Value.pointer (some ⟨w.heap.size, 1, none⟩), Value.string ⟨i.toArray⟩, (.string ⟨QI.toArray⟩), Value.string ⟨X3.toArray⟩, Value.string ⟨T6.toArray⟩] (fun j hj => match j, hj with
        | 0, _ => hd 0 (by decide)
        | 1, _ => hd 1 (by decide)
        | 2, _ => hd 2 (by decide)
        | 3, _ => hd 3 (by decide)
        | 4, _ => hd 4 (by decide)
        | 5, _ => hd 5 (by decide)
        | 6, _ => hd 6 (by decide)
        | 7, _ => hd 7 (by decide)
        | 8, _ => hd 8 (by decide)
        | 9, _ => hd 9 (by decide)
        | 10, _ => hd 10 (by decide)
        | k + 11, h => absurd h (by simp)) (by decide) (by kernel_rfl) rfl
      simp only [List.zip_cons_cons, List.zip_nil_right, List.foldl_cons, List.foldl_nil, Act.put, List.setIfInBounds_toArray, List.set_cons_succ, List.set_cons_zero]
      obtain ⟨w8, rfl⟩ : ∃ x : World, x = w' := ⟨_, rfl⟩
      have HB8 := Lib.hid (HB7.out.trans (hb.mono HB7.out.size))
      have HX8 := Lib.hid ((hb.block _ (by omega)).trans HX7.out)
      have HY8 := Lib.hid ((hb.block _ hs7).trans HY7.out)
      have HR8 := Lib.hid (HR7.out.under hb)
      have hs8 : w3.heap.size < w8.heap.size := Nat.lt_of_lt_of_le hs7 hb.size
      clear hd hf hb HX7 HY7 HR7 HB7 HX HQI HQS HC1 HC2 HC3 HC4
      replace hT6 := hT6.out
      go_upto_region 18 with (fail)
      have hcat : (⟨T6.toArray⟩ : ByteArray) ++ ⟨#[125]⟩ = ⟨(T6 ++ [125]).toArray⟩ := st_cat T6 [125]
      have hpe : plainJ V = T6 ++ [125] := by rw [HPE.out, ← hT6] <;> simp
      have hpl : (plainJ V).length ≤ 9001 := by rw [hpe]; simp; omega
      have HPT := Lib.hid (fun cs w' h => HPR.out (w.heap.size ≤ ·) cs w' h (by omega))
      rw [hpe] at HPT
      obtain ⟨PT, hPT⟩ : ∃ PT, T6 ++ [125] = PT := ⟨_, rfl⟩
      rw [hPT] at hcat HPT
      have HR8' := Lib.hid (HR8.out.mono (ok' := (w.heap.size ≤ ·)) (fun b hb => by have hb' : w2.heap.size ≤ b := hb; show w.heap.size ≤ b; omega))
      clear hpe hPT hpl HPE HPR hT6
      obtain ⟨y0, y1, y2, y3, y4⟩ := five_at HY8.out (Below.refl w8.heap.size w8) hs8
      go_wp2_with fail
      refine (HPT.out [.int .i64 k, .bool y, .string t, .slice a l1 c, .slice ma m1 mc] w8 HR8'.out).mono ?_
      rintro e w9 ⟨rfl, hb9⟩
      have HB9 := Lib.hid (HB8.out.trans (hb9.mono HB8.out.size))
      have HX9 := Lib.hid ((hb9.block _ (by omega)).trans HX8.out)
      have HY9 := Lib.hid ((hb9.block _ hs8).trans HY8.out)
      have HR9 := Lib.hid (HR8.out.under hb9)
      have hs9 : w3.heap.size < w9.heap.size := Nat.lt_of_lt_of_le hs8 hb9.size
      clear hb9 y0 y1 y2 y3 y4 HX8 HY8 HR8 HR8' HB8 HPT
      obtain ⟨y0, y1, y2, y3, y4⟩ := five_at HY9.out (Below.refl w9.heap.size w9) hs9
      go_wp2_with fail
      refine (HOF.out _ [.int .i64 k, .bool y, .string t, .slice a l1 c, .slice ma m1 mc] w9 HR9.out).mono ?_
      rintro e wA ⟨rfl, hbA⟩
      have HBA := Lib.hid (HB9.out.trans (hbA.mono HB9.out.size))
      have HXA := Lib.hid ((hbA.block _ (by omega)).trans HX9.out)
      have hsA : w3.heap.size < wA.heap.size := Nat.lt_of_lt_of_le hs9 hbA.size
      unfold OfIs
      clear hbA y0 y1 y2 y3 y4 HX9 HY9 HR9 HB9 HOF
      go_upto_region 20 with (fail)
      generalize hwB : wA.alloc _ = wB
      have hbB : Below wA.heap.size wA wB := by rw [← hwB]; exact (Below.refl _ _).alloc (Nat.le_refl _) _
      have hgB := heap_alloc_new wA (.cells #[.string ⟨#[105, 115, 115, 95, 115, 117, 98]⟩, .string ⟨i.toArray⟩, .string ⟨s.toArray⟩] 34)
      rw [show wA.alloc (.cells #[.string ⟨#[105, 115, 115, 95, 115, 117, 98]⟩, .string ⟨i.toArray⟩, .string ⟨s.toArray⟩] 34) = wB from hwB] at hgB
      have HBB := Lib.hid (HBA.out.trans (hbB.mono HBA.out.size))
      have hxB := (hbB.block _ (by omega)).trans HXA.out
      obtain ⟨z0, z1, z2⟩ := three_at hgB (Below.refl wB.heap.size wB) (Array.getElem?_eq_some_iff.1 hgB).1
      obtain ⟨u0, u1, u2⟩ := three_at hxB (Below.refl wB.heap.size wB) (Array.getElem?_eq_some_iff.1 hxB).1
      clear hwB hbB hgB hxB HXA HBA
      go_wp2_with fail
      refine bodyPost_ret (results_tmp rfl _ _ _) rfl ?_
      exact ⟨rfl, HBB.out⟩
end Go.Proofs.YtfdijcdpmgkdkaaGreat
/- Subjects that come in. -/
set_option linter.unusedVariables false
namespace Go.Proofs.YtfdijcdpmgkdkaaGreat
open Go.RowKit Go.ChangeShapes

section
variable {H : Type} {enc : TypeId × Value → H} {w : World} {base : Nat} {spare : Nat → Bool} {held : Bool}
theorem cellsSub : Tryz.prog.cellsOf 34 = 3 := by kernel_rfl
theorem cellsStrS : Tryz.prog.cellsOf 9 = 1 := by kernel_rfl
set_option maxRecDepth 100000 in
theorem open_subject {fuel : Nat} {cs : Array Value} {x : DataW H × List MemPlace} (h : DataW.trod enc Tryz.prog w base spare held fuel 34 (Value.agg cs).cells.toList = some x) :
    ∃ f i s : List UInt8, cs = #[.string ⟨f.toArray⟩, .string ⟨i.toArray⟩, .string ⟨s.toArray⟩] ∧ f.length ≤ maxLen ∧ i.length ≤ maxLen ∧ s.length ≤ maxLen ∧ x.1 = .agg [.lit (.string f), .lit (.string i), .lit (.string s)] := by
  obtain ⟨ys, n, _, hxe, hlen, hyl, hf⟩ := DataW.trod_struct Tryz.underlying34 h
  rw [cellsSub] at hlen
  obtain ⟨l, hl⟩ : ∃ l, (Value.agg cs).cells.toList = l := ⟨_, rfl⟩
  have hcl : cs.toList = l := by rw [← hl]; simp [Value.cells]
  rw [hl] at hlen hf
  match l, hlen, hcl with
  | [c0, c1, c2], _, hcl =>
    have f0 : DataW.trod enc Tryz.prog w base spare held n 9 (([c0, c1, c2].drop 0).take (Tryz.prog.cellsOf 9)) = ys[0]? := hf 0 _ rfl
    have f1 : DataW.trod enc Tryz.prog w base spare held n 9 (([c0, c1, c2].drop 1).take (Tryz.prog.cellsOf 9)) = ys[1]? := hf 1 _ rfl
    have f2 : DataW.trod enc Tryz.prog w base spare held n 9 (([c0, c1, c2].drop 2).take (Tryz.prog.cellsOf 9)) = ys[2]? := hf 2 _ rfl
    rw [cellsStrS] at f0 f1 f2
    match ys, hyl with
    | [y0, y1, y2], _ =>
    have f0 : DataW.trod enc Tryz.prog w base spare held n 9 [c0] = some y0 := f0
    have f1 : DataW.trod enc Tryz.prog w base spare held n 9 [c1] = some y1 := f1
    have f2 : DataW.trod enc Tryz.prog w base spare held n 9 [c2] = some y2 := f2
    obtain ⟨s0, h0, k0, m0⟩ := DataW.trod_string Tryz.underlying9 f0
    obtain ⟨s1, h1, k1, m1⟩ := DataW.trod_string Tryz.underlying9 f1
    obtain ⟨s2, h2, k2, m2⟩ := DataW.trod_string Tryz.underlying9 f2
    simp at h0 h1 h2
    subst h0 h1 h2
    refine ⟨s0.data.toList, s1.data.toList, s2.data.toList, Array.ext' (by rw [hcl]), ?_, ?_, ?_, ?_⟩
    · simpa using m0
    · simpa using m1
    · simpa using m2
    · rw [hxe, k0, k1, k2]
      rfl
end
end Go.Proofs.YtfdijcdpmgkdkaaGreat
