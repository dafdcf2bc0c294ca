/- Merged: JsS6, JsMl. -/
import Derived.Test.YtfcokdkbjajohaaMg1
import Derived.Test.YtfcokdkbjajohaaMg2
import Derived.Test.YtfcokdkbjajohaaMg3
import Derived.Test.YtfcokdkbjajohaaMg4
import Derived.Test.YtfcokdkbjajohaaMg5
import Derived.Test.YtfcokdkbjajohaaMg6
import Derived.Test.YtfcokdkbjajohaaMg7
import Derived.Test.YtfcokdkbjajohaaMh1
/- json.Same, of greater values. -/
set_option linter.unusedVariables false
namespace Go.Proofs.Ytfcokdkbjajohaa
open Go.RowKit

mutual
theorem plain6_size : ∀ v : JV, (plainJ v).length + 1 ≤ 6 * sizeJ v
  | .mk k y t l m => by
    have h1 := plainL6_size l true
    have h2 := plainM6_size m true
    have h3 := quoteL_len6 t
    rw [plainJ, sizeJ]
    split
    · simp; omega
    split
    · split <;> simp <;> omega
    split
    · omega
    split
    · omega
    split
    · simp only [List.length_cons, List.length_append, List.length_nil]; omega
    split
    · simp only [List.length_cons, List.length_append, List.length_nil]; omega
    · simp; omega
theorem plainL6_size : ∀ (l : List JV) (f : Bool), (plainL f l).length ≤ 6 * sizeL l
  | [], f => by simp [plainL]
  | v :: l, f => by
    have h1 := plain6_size v
    have h2 := plainL6_size l false
    rw [plainL, sizeL]
    cases f <;> simp <;> omega
theorem plainM6_size : ∀ (l : List (List UInt8 × JV)) (f : Bool), (plainM f l).length ≤ 6 * sizeM l
  | [], f => by simp [plainM]
  | (n, v) :: l, f => by
    have h1 := plain6_size v
    have h2 := plainM6_size l false
    have h3 := quoteL_len6 n
    rw [plainM, sizeM]
    cases f <;> simp <;> omega
end
set_option maxRecDepth 100000 in
set_option maxHeartbeats 16000000 in
theorem jsame16_any (v u : JV) (ok ok' : Nat → Prop) (cs cs' : List Value) (w : World) (h : Rep ok w cs v) (h' : Rep ok' w cs' u) (hv : sizeJ v ≤ 16000) (hu : sizeJ u ≤ 16000) :
    Calls Try.prog 9 #[.agg cs.toArray, .agg cs'.toArray] w fun e w' => e = .returned (.bool (sameJ v u)) ∧ Below w.heap.size w w' := by
  have hpv := plain6_size v
  have hpu := plain6_size u
  have HR := Lib.hid h.lt
  have HR' := Lib.hid h'.lt
  obtain ⟨a, c, a', c', cl, cm, rfl, -⟩ := h.parts
  obtain ⟨xa, xc, xa', xc', xcl, xcm, rfl, -⟩ := h'.parts
  unfold strV at *
  have HP : Hid (∀ w1, Rep (fun b => ok b ∧ b < w.heap.size) w1 [.int .i64 v.kind, .bool v.yes, .string ⟨v.text.toArray⟩, .slice a v.list.length c, .slice a' v.mem.length c'] v → _) := Lib.hid fun w1 h1 => jprint_any v (jright v (by omega)) _ _ w1 h1 (by omega)
  have HP' : Hid (∀ w1, Rep (fun b => ok' b ∧ b < w.heap.size) w1 [.int .i64 u.kind, .bool u.yes, .string ⟨u.text.toArray⟩, .slice xa u.list.length xc, .slice xa' u.mem.length xc'] u → _) := Lib.hid fun w1 h1 => jprint_any u (jright u (by omega)) _ _ w1 h1 (by omega)
  have HSM : Hid (sameJ v u = (rightJ v && (rightJ u && ((if rightJ v then plainJ v else []) == (if rightJ u then plainJ u else []))))) := Lib.hid (by
    unfold sameJ
    cases rightJ v <;> cases rightJ u <;> rfl)
  clear h h' hpv hpu
  generalize sameJ v u = SM at *
  generalize v.kind = k1 at *
  generalize v.yes = y1 at *
  generalize v.text = t1 at *
  generalize v.list.length = l1 at *
  generalize v.mem.length = m1 at *
  generalize u.kind = k2 at *
  generalize u.yes = y2 at *
  generalize u.text = t2 at *
  generalize u.list.length = l2 at *
  generalize u.mem.length = m2 at *
  generalize hPV : (if rightJ v then plainJ v else []) = PV at *
  generalize hPU : (if rightJ u then plainJ u else []) = PU at *
  go_enter Try.func9, Try.ntmps9
  go_upto_region 1 with (fail)
  generalize hw1 : (w.alloc _).alloc _ = w1
  have hb1 : Below w.heap.size w w1 := by rw [← hw1]; exact ((Below.refl _ _).alloc (Nat.le_refl _) _).alloc (by simp) _
  have hx1 : w1.heap[w.heap.size]? = some (.cells #[.int .i64 k1, .bool y1, .string ⟨t1.toArray⟩, .slice a l1 c, .slice a' m1 c'] 28 (0, 0)) := by rw [← hw1]; exact block_alloc (heap_alloc_new w _) _
  have hx2 : w1.heap[w.heap.size + 1]? = some (.cells #[.int .i64 k2, .bool y2, .string ⟨t2.toArray⟩, .slice xa l2 xc, .slice xa' m2 xc'] 28 (0, 0)) := by
    rw [← hw1]
    have e : w.heap.size + 1 = (w.alloc (.cells #[.int .i64 k1, .bool y1, .string ⟨t1.toArray⟩, .slice a l1 c, .slice a' m1 c'] 28)).heap.size := by simp
    rw [e]
    exact heap_alloc_new _ _
  have HB1 := Lib.hid hb1
  have HX1 := Lib.hid hx1
  have HX2 := Lib.hid hx2
  have hs1 : w.heap.size + 1 < w1.heap.size := (Array.getElem?_eq_some_iff.1 hx2).1
  have v0 : w1.cell? ⟨w.heap.size, 0, none⟩ = some (.int .i64 k1) := by rw [Lib.cell_of_heap hx1]; rfl
  have v1 : w1.cell? ⟨w.heap.size, 1, none⟩ = some (.bool y1) := by rw [Lib.cell_of_heap hx1]; rfl
  have v2 : w1.cell? ⟨w.heap.size, 2, none⟩ = some (.string ⟨t1.toArray⟩) := by rw [Lib.cell_of_heap hx1]; rfl
  have v3 : w1.cell? ⟨w.heap.size, 3, none⟩ = some (.slice a l1 c) := by rw [Lib.cell_of_heap hx1]; rfl
  have v4 : w1.cell? ⟨w.heap.size, 4, none⟩ = some (.slice a' m1 c') := by rw [Lib.cell_of_heap hx1]; rfl
  clear hw1 hb1 hx1 hx2
  go_wp2_with fail
  refine (HP.out w1 (HR.out.keep fun b hb _ => HB1.out.block b hb.2)).mono ?_
  rintro e w2 ⟨rfl, hb2⟩
  have HB2 := Lib.hid (HB1.out.trans (hb2.mono HB1.out.size))
  have hx2 := (hb2.block _ hs1).trans HX2.out
  have u0 : w2.cell? ⟨w.heap.size + 1, 0, none⟩ = some (.int .i64 k2) := by rw [Lib.cell_of_heap hx2]; rfl
  have u1 : w2.cell? ⟨w.heap.size + 1, 1, none⟩ = some (.bool y2) := by rw [Lib.cell_of_heap hx2]; rfl
  have u2 : w2.cell? ⟨w.heap.size + 1, 2, none⟩ = some (.string ⟨t2.toArray⟩) := by rw [Lib.cell_of_heap hx2]; rfl
  have u3 : w2.cell? ⟨w.heap.size + 1, 3, none⟩ = some (.slice xa l2 xc) := by rw [Lib.cell_of_heap hx2]; rfl
  have u4 : w2.cell? ⟨w.heap.size + 1, 4, none⟩ = some (.slice xa' m2 xc') := by rw [Lib.cell_of_heap hx2]; rfl
  clear hb2 hx2 v0 v1 v2 v3 v4
  generalize rightJ v = r1 at *
  cases r1 <;>
  · go_wp2_with fail
    refine (HP'.out w2 (HR'.out.keep fun b hb _ => HB2.out.block b hb.2)).mono ?_
    rintro e w3 ⟨rfl, hb3⟩
    have HB3 := Lib.hid (HB2.out.trans (hb3.mono HB2.out.size))
    clear hb3 u0 u1 u2 u3 u4
    generalize rightJ u = r2 at *
    cases r2 <;>
    · go_wp2_with fail
      refine bodyPost_ret (results_tmp rfl _ _ _) rfl ?_
      exact ⟨by rw [HSM.out]; simp, HB3.out⟩
end Go.Proofs.Ytfcokdkbjajohaa
/- The walk of JsonMerges. -/
set_option linter.unusedVariables false
namespace Go.Proofs.Ytfcokdkbjajohaa
open Go.RowKit

theorem ent_jsamem : ∀ args w, (callFunc 9 args).run Try.prog w = .ok (.enter 9 args) w := run_enters Try.func9 (by kernel_rfl) rfl
/-- The members' row of a value's cells. -/
theorem rep_mems {ok : Nat → Prop} {w : World} {k : Int} {y : Bool} {t : ByteArray} {a a' : Option Addr} {n c n' c' : Nat} {v : JV} (h : Rep ok w [.int .i64 k, .bool y, .string t, .slice a n c, .slice a' n' c'] v) :
    ∃ cm, RdO ok w a' (memCells v.mem cm) ∧ RepsM ok w cm v.mem ∧ n' = v.mem.length ∧ v.kind = k := by
  obtain ⟨b, d, b', d', cl, cm, e, h1, h2, h3, h4, h5, h6⟩ := h.parts
  simp only [List.cons.injEq, Value.int.injEq, Value.slice.injEq, and_true, true_and] at e
  obtain ⟨rfl, -, -, -, rfl, rfl, rfl⟩ := e
  exact ⟨cm, h3, h4, rfl, rfl⟩
theorem tree_zero (l : List ND) : sizeJ ((treeV l).getD .zero) ≤ 6500 := by
  cases h : treeV l with
  | none => simp [JV.zero, sizeJ, sizeL, sizeM]
  | some v => exact tree_size h
theorem right_mem {v : JV} (h : rightJ v = true) : v.kind ≠ 6 → v.mem = [] := by
  intro hk
  rcases right_cases h with e | ⟨_, e⟩ | ⟨_, e, _⟩ | ⟨_, e, _⟩ | ⟨_, e, _⟩ | ⟨m, e, hm⟩ <;> subst e <;> first | rfl | exact absurd rfl hk
theorem right_getJ {v : JV} (h : rightJ v = true) (n : List UInt8) : getJ n v = getM n v.mem := by
  unfold getJ
  by_cases hk : v.kind = 6
  · rw [if_pos hk]
  · rw [if_neg hk, right_mem h hk]
    rfl
theorem right_mems {v : JV} (h : rightJ v = true) : rightM v.mem = true := by
  by_cases hk : v.kind = 6
  · exact (right_obj h hk).2
  · rw [right_mem h hk]
    rfl
theorem merge_right' {v u : JV} (hv : rightJ v = true) (hu : u.kind = 6) (hur : rightJ u = true) : mergeJ v u = jobj (mergeM v.mem u.mem) := by
  rw [(right_obj hur hu).1, mergeJ_obj]
  by_cases hk : v.kind = 6
  · rw [if_pos hk]
    rfl
  · rw [if_neg hk, right_mem hv hk]
    rfl
theorem same_selfM {v : JV} (h : rightJ v = true) : sameJ v v = true := by unfold sameJ; simp [h]
set_option maxRecDepth 100000 in
set_option maxHeartbeats 64000000 in
theorem jsonMerges_walk (a : Option Addr) (c : Nat) (l : List ND) (a' : Option Addr) (c' : Nat) (l' : List ND) (w : World) (hrl : RdC w a (l.flatMap ndCell) ∧ l.length ≤ maxLen) (hrl' : RdC w a' (l'.flatMap ndCell) ∧ l'.length ≤ maxLen) :
    Calls Try.prog 3 #[.slice a l.length c, .slice a' l'.length c'] w fun e w' => e = .returned (.bool true) ∧ Below w.heap.size w w' := by
  obtain ⟨hr, hlen⟩ := hrl
  obtain ⟨hr', hlen'⟩ := hrl'
  unfold maxLen at hlen hlen'
  have HR := Lib.hid hr
  have HR' := Lib.hid hr'
  have HL := Lib.hid (show l.length ≤ 9223372036854775807 by omega)
  have HL' := Lib.hid (show l'.length ≤ 9223372036854775807 by omega)
  clear hr hr' hlen hlen'
  go_enter Try.func3, Try.ntmps3
  go_wp2_with fail
  refine (anchor06_any w).mono ?_
  rintro e w1 ⟨rfl, hb1⟩
  have HB1 := Lib.hid hb1
  have HR1 := Lib.hid (HR.out.below hb1)
  have HR1' := Lib.hid (HR'.out.below hb1)
  clear hb1 HR HR'
  have HTV := Lib.hid (treeval_any a c l w1 HR1.out HL.out)
  have hsv := tree_zero l
  obtain ⟨O1, hO1⟩ : ∃ b, (treeV l).isSome = b := ⟨_, rfl⟩
  obtain ⟨V, hV⟩ : ∃ v, (treeV l).getD .zero = v := ⟨_, rfl⟩
  rw [hO1, hV] at HTV
  rw [hV] at hsv
  clear hO1 hV HR1 HL
  go_wp2_with fail
  refine HTV.out.mono ?_
  rintro e w2 ⟨hb2, cs, rfl, hrep⟩
  have HB2 := Lib.hid (HB1.out.trans (hb2.mono HB1.out.size))
  have HR2' := Lib.hid (HR1'.out.below hb2)
  obtain ⟨a1, c1, a1', c1', _, _, rfl, -⟩ := hrep.parts
  unfold strV at *
  obtain ⟨k1, y1, t1, n1, m1, hk, hy, ht, hn1, hn2⟩ : ∃ k y t n1 n2, (V).kind = k ∧ (V).yes = y ∧ (⟨(V).text.toArray⟩ : ByteArray) = t ∧ (V).list.length = n1 ∧ (V).mem.length = n2 := ⟨_, _, _, _, _, rfl, rfl, rfl, rfl, rfl⟩
  rw [hk, hy, ht, hn1, hn2] at hrep ⊢
  have HV2 := Lib.hid hrep
  clear hk hy ht hn1 hn2 hrep
  clear hb2 HB1 HR1' HTV
  obtain ⟨b5, hb5⟩ : ∃ b, w2.heap.size = b := ⟨_, rfl⟩
  go_upto_region 4 with (fail)
  generalize hww3 : w2.alloc _ = w3
  have hbw3 : Below w2.heap.size w2 w3 := by rw [← hww3]; exact (Below.refl _ _).alloc (Nat.le_refl _) _
  have hxw3 : w3.heap[b5]? = some (.cells #[.int .i64 k1, .bool y1, .string t1, .slice a1 n1 c1, .slice a1' m1 c1'] 28 (0, 0)) := by rw [← hww3, ← hb5]; exact heap_alloc_new _ _
  have hsb5 : b5 < w3.heap.size := (Array.getElem?_eq_some_iff.1 hxw3).1
  have HXb5w3 := Lib.hid hxw3
  clear hww3 hxw3 hb5
  have HB3 := Lib.hid (HB2.out.trans (hbw3.mono HB2.out.size))
  have HV3 : Hid (Rep (fun _ => True) w3 [.int .i64 k1, .bool y1, .string t1, .slice a1 n1 c1, .slice a1' m1 c1'] V) := Lib.hid ((HV2.out.under hbw3).mono fun _ _ => trivial)
  have HTU := Lib.hid (treeval_any a' c' l' w3 (HR2'.out.below hbw3) HL'.out)
  have hsu := tree_zero l'
  obtain ⟨O2, hO2⟩ : ∃ b, (treeV l').isSome = b := ⟨_, rfl⟩
  obtain ⟨U, hU⟩ : ∃ v, (treeV l').getD .zero = v := ⟨_, rfl⟩
  rw [hO2, hU] at HTU
  rw [hU] at hsu
  clear hO2 hU HL' hbw3 HB2 HR2' HV2
  go_wp2_with fail
  refine HTU.out.mono ?_
  rintro e w4 ⟨hb4, cs, rfl, hrep⟩
  have HB4 := Lib.hid (HB3.out.trans (hb4.mono HB3.out.size))
  have HX5w4 := Lib.hid ((hb4.block _ hsb5).trans HXb5w3.out)
  have HV4 := Lib.hid (HV3.out.under hb4)
  have hs54 : b5 < w4.heap.size := Nat.lt_of_lt_of_le hsb5 hb4.size
  obtain ⟨a2, c2, a2', c2', _, _, rfl, -⟩ := hrep.parts
  unfold strV at *
  obtain ⟨k2, y2, t2, n2, m2, hk, hy, ht, hn1, hn2⟩ : ∃ k y t n1 n2, (U).kind = k ∧ (U).yes = y ∧ (⟨(U).text.toArray⟩ : ByteArray) = t ∧ (U).list.length = n1 ∧ (U).mem.length = n2 := ⟨_, _, _, _, _, rfl, rfl, rfl, rfl, rfl⟩
  rw [hk, hy, ht, hn1, hn2] at hrep ⊢
  have HU4 := Lib.hid hrep
  clear hk hy ht hn1 hn2 hrep
  clear hb4 HB3 HTU HXb5w3 HV3 hsb5
  obtain ⟨b7, hb7⟩ : ∃ b, w4.heap.size = b := ⟨_, rfl⟩
  go_upto_region 5 with (fail)
  generalize hww5 : w4.alloc _ = w5
  have hbw5 : Below w4.heap.size w4 w5 := by rw [← hww5]; exact (Below.refl _ _).alloc (Nat.le_refl _) _
  have hxw5 : w5.heap[b7]? = some (.cells #[.int .i64 k2, .bool y2, .string t2, .slice a2 n2 c2, .slice a2' m2 c2'] 28 (0, 0)) := by rw [← hww5, ← hb7]; exact heap_alloc_new _ _
  have hsb7 : b7 < w5.heap.size := (Array.getElem?_eq_some_iff.1 hxw5).1
  have HXb7w5 := Lib.hid hxw5
  clear hww5 hxw5 hb7
  have HB5 := Lib.hid (HB4.out.trans (hbw5.mono HB4.out.size))
  have HX5 := Lib.hid ((hbw5.block _ hs54).trans HX5w4.out)
  have HX7 := HXb7w5
  have HV5 := Lib.hid (HV4.out.under hbw5)
  have HU5 : Hid (Rep (fun _ => True) w5 [.int .i64 k2, .bool y2, .string t2, .slice a2 n2 c2, .slice a2' m2 c2'] U) := Lib.hid ((HU4.out.under hbw5).mono fun _ _ => trivial)
  have hs5 : b5 < w5.heap.size := Nat.lt_of_lt_of_le hs54 hbw5.size
  clear hbw5 HB4 HX5w4 HV4 HU4 hs54 HXb7w5
  cases O1 with
  | false =>
    go_wp2_with fail
    refine bodyPost_ret (results_tmp rfl _ _ _) rfl ?_
    exact ⟨rfl, HB5.out⟩
  | true =>
  cases O2 with
  | false =>
    go_wp2_with fail
    refine bodyPost_ret (results_tmp rfl _ _ _) rfl ?_
    exact ⟨rfl, HB5.out⟩
  | true =>
  obtain ⟨x0, x1, x2, x3, x4⟩ := five_at HX5.out (Below.refl w5.heap.size w5) hs5
  have HRV := Lib.hid (jright V (by omega) _ [.int .i64 k1, .bool y1, .string t1, .slice a1 n1 c1, .slice a1' m1 c1'] w5 HV5.out)
  go_wp2_with fail
  refine HRV.out.mono ?_
  rintro e w6 ⟨rfl, hb6⟩
  have HC6 := Lib.hid hb6
  clear hb6 HRV x0 x1 x2 x3 x4
  cases hrv : rightJ V with
  | false =>
    have HBZ := Lib.hid (HB5.out.trans (HC6.out.mono HB5.out.size))
    clear hrv
    go_wp2_with fail
    refine bodyPost_ret (results_tmp rfl _ _ _) rfl ?_
    exact ⟨rfl, HBZ.out⟩
  | true =>
  have HRTV := Lib.hid hrv
  clear hrv
  obtain ⟨x0, x1, x2, x3, x4⟩ := five_at HX7.out HC6.out hsb7
  have HRU := Lib.hid (jright U (by omega) _ [.int .i64 k2, .bool y2, .string t2, .slice a2 n2 c2, .slice a2' m2 c2'] w6 (HU5.out.under HC6.out))
  go_wp2_with fail
  refine HRU.out.mono ?_
  rintro e w7 ⟨rfl, hb7⟩
  have HC7 := Lib.hid (HC6.out.trans (hb7.mono HC6.out.size))
  clear hb7 HRU x0 x1 x2 x3 x4 HC6
  cases hru : rightJ U with
  | false =>
    have HBZ := Lib.hid (HB5.out.trans (HC7.out.mono HB5.out.size))
    clear hru
    go_wp2_with fail
    refine bodyPost_ret (results_tmp rfl _ _ _) rfl ?_
    exact ⟨rfl, HBZ.out⟩
  | true =>
  have HRTU := Lib.hid hru
  clear hru
  have HPR := Lib.hid (fun w' hb => jprint_any V (jright V (by omega)) _ [.int .i64 k1, .bool y1, .string t1, .slice a1 n1 c1, .slice a1' m1 c1'] w' (HV5.out.under (hb : Below w5.heap.size w5 w')) (by have := plain_size V; omega))
  rw [HRTV.out] at HPR
  simp only [if_true] at HPR
  obtain ⟨PV, hPV⟩ : ∃ p, plainJ V = p := ⟨_, rfl⟩
  rw [hPV] at HPR
  clear hPV
  obtain ⟨x0, x1, x2, x3, x4⟩ := five_at HX5.out HC7.out hs5
  go_wp2_with fail
  refine (HPR.out w7 HC7.out).mono ?_
  rintro e w8 ⟨rfl, hb8⟩
  have HC8 := Lib.hid (HC7.out.trans (hb8.mono HC7.out.size))
  clear hb8 x0 x1 x2 x3 x4 HC7
  have HMG := Lib.hid (jmerge_any U V (fun _ => True) [.int .i64 k1, .bool y1, .string t1, .slice a1 n1 c1, .slice a1' m1 c1'] [.int .i64 k2, .bool y2, .string t2, .slice a2 n2 c2, .slice a2' m2 c2'] w8 (HV5.out.under HC8.out) (HU5.out.under HC8.out) (.inl HRTV.out) HRTU.out (by omega))
  have HGR := Lib.hid (mergeJ_right U V (.inl HRTV.out) HRTU.out)
  have hgs := mergeJ_size U V
  have hgs2 : sizeJ (mergeJ V U) ≤ 13000 := by
    split at hgs <;> omega
  clear hgs
  obtain ⟨G, hG⟩ : ∃ g, mergeJ V U = g := ⟨_, rfl⟩
  rw [hG] at HMG HGR hgs2
  have HG := Lib.hid hG
  clear hG
  obtain ⟨x0, x1, x2, x3, x4⟩ := five_at HX5.out HC8.out hs5
  obtain ⟨z0, z1, z2, z3, z4⟩ := five_at HX7.out HC8.out hsb7
  go_wp2_with fail
  refine HMG.out.mono ?_
  rintro e w9 ⟨hb9, cs, rfl, hrep⟩
  have HC9 := Lib.hid (HC8.out.trans (hb9.mono HC8.out.size))
  obtain ⟨a3, c3, a3', c3', _, _, rfl, -⟩ := hrep.parts
  unfold strV at *
  obtain ⟨k3, y3, t3, n3, m3, hk, hy, ht, hn1, hn2⟩ : ∃ k y t n1 n2, (G).kind = k ∧ (G).yes = y ∧ (⟨(G).text.toArray⟩ : ByteArray) = t ∧ (G).list.length = n1 ∧ (G).mem.length = n2 := ⟨_, _, _, _, _, rfl, rfl, rfl, rfl, rfl⟩
  rw [hk, hy, ht, hn1, hn2] at hrep ⊢
  have HG9 := Lib.hid hrep
  clear hk hy ht hn1 hn2 hrep
  clear hb9 x0 x1 x2 x3 x4 z0 z1 z2 z3 z4 HC8 HMG
  obtain ⟨b11, hb11⟩ : ∃ b, w9.heap.size = b := ⟨_, rfl⟩
  go_upto_region 9 with (fail)
  generalize hwwA : w9.alloc _ = wA
  have hbwA : Below w9.heap.size w9 wA := by rw [← hwwA]; exact (Below.refl _ _).alloc (Nat.le_refl _) _
  have hxwA : wA.heap[b11]? = some (.cells #[.int .i64 k3, .bool y3, .string t3, .slice a3 n3 c3, .slice a3' m3 c3'] 28 (0, 0)) := by rw [← hwwA, ← hb11]; exact heap_alloc_new _ _
  have hsb11 : b11 < wA.heap.size := (Array.getElem?_eq_some_iff.1 hxwA).1
  have HXb11wA := Lib.hid hxwA
  clear hwwA hxwA hb11
  have HCA := Lib.hid (HC9.out.trans (hbwA.mono HC9.out.size))
  have HGA : Hid (Rep (fun _ => True) wA [.int .i64 k3, .bool y3, .string t3, .slice a3 n3 c3, .slice a3' m3 c3'] G) := Lib.hid ((HG9.out.under hbwA).mono fun _ _ => trivial)
  have HX11 := HXb11wA
  clear hbwA HC9 HG9 HXb11wA
  obtain ⟨x0, x1, x2, x3, x4⟩ := five_at HX5.out HCA.out hs5
  go_wp2_with fail
  refine (HPR.out wA HCA.out).mono ?_
  rintro e wB ⟨rfl, hbB⟩
  have HDB := Lib.hid hbB
  clear hbB x0 x1 x2 x3 x4 HPR
  have hpp : (PV != PV) = false := by simp
  have HRG := Lib.hid (jright G (by omega) _ [.int .i64 k3, .bool y3, .string t3, .slice a3 n3 c3, .slice a3' m3 c3'] wB (HGA.out.under HDB.out))
  rw [HGR.out] at HRG
  obtain ⟨x0, x1, x2, x3, x4⟩ := five_at HX11.out HDB.out hsb11
  go_wp2_with fail
  refine HRG.out.mono ?_
  rintro e wC ⟨rfl, hbC⟩
  have HDC := Lib.hid (HDB.out.trans (hbC.mono HDB.out.size))
  clear hbC HRG HDB x0 x1 x2 x3 x4 hpp
  -- from here on: the worlds lie behind wA
  obtain ⟨cmv, hrdV, hmV, hnV, hkV⟩ := rep_mems HV5.out
  obtain ⟨cmu, hrdU, hmU, hnU, hkU⟩ := rep_mems HU5.out
  obtain ⟨cmg, hrdG, hmG, hnG, hkG⟩ := rep_mems HGA.out
  have HKU := Lib.hid hkU
  have HY5 := Lib.hid ((HCA.out.block _ hs5).trans HX5.out)
  have HY7 := Lib.hid ((HCA.out.block _ hsb7).trans HX7.out)
  have hu5 : b5 < wA.heap.size := Nat.lt_of_lt_of_le hs5 HCA.out.size
  have hu7 : b7 < wA.heap.size := Nat.lt_of_lt_of_le hsb7 HCA.out.size
  have HVA := Lib.hid (HV5.out.under HCA.out)
  have HUA := Lib.hid (HU5.out.under HCA.out)
  have HMV := Lib.hid (hrdV.keep fun b _ hlt => HCA.out.block b hlt)
  have HMV2 := Lib.hid (hmV.under HCA.out)
  have HMU := Lib.hid (hrdU.keep fun b _ hlt => HCA.out.block b hlt)
  have HMU2 := Lib.hid (hmU.under HCA.out)
  have HMG := Lib.hid hrdG
  have HMG2 := Lib.hid hmG
  have HBA := Lib.hid (HB5.out.trans (HCA.out.mono HB5.out.size))
  have HNV := Lib.hid hnV
  have HNU := Lib.hid hnU
  have HNG := Lib.hid hnG
  have HKG := Lib.hid hkG
  clear hrdV hmV hnV hkV hrdU hmU hnU hkU hrdG hmG hnG hkG HX5 HX7 HV5 HU5 HB5 HCA hs5 hsb7
  obtain ⟨z0, z1, z2, z3, z4⟩ := five_at HY7.out HDC.out hu7
  by_cases hk6 : k2 = 6
  case neg =>
    have hkb : (k2 != 6) = true := by simp [hk6]
    have hGU : G = U := by rw [← HG.out]; exact mergeJ_not (by rw [HKU.out]; exact hk6)
    have HSA := Lib.hid (jsame16_any G U _ _ [.int .i64 k3, .bool y3, .string t3, .slice a3 n3 c3, .slice a3' m3 c3'] [.int .i64 k2, .bool y2, .string t2, .slice a2 n2 c2, .slice a2' m2 c2'] wC (HGA.out.under HDC.out) (HUA.out.under HDC.out) (by omega) (by omega))
    rw [show sameJ G U = true by rw [hGU]; exact same_selfM HRTU.out] at HSA
    obtain ⟨x0, x1, x2, x3, x4⟩ := five_at HX11.out HDC.out hsb11
    clear hGU hk6
    go_wp2_with fail
    refine HSA.out.mono ?_
    rintro e wD ⟨rfl, hbD⟩
    have HBZ := Lib.hid (HBA.out.trans ((HDC.out.trans (hbD.mono HDC.out.size)).mono HBA.out.size))
    clear hbD
    go_wp2_with fail
    refine bodyPost_ret (results_tmp rfl _ _ _) rfl ?_
    exact ⟨rfl, HBZ.out⟩
  have hkb : (k2 != 6) = false := by simp [hk6]
  have hGO : G = jobj (mergeM V.mem U.mem) := by rw [← HG.out]; exact merge_right' HRTV.out (HKU.out.trans hk6) HRTU.out
  clear hk6
  have HKB := Lib.hid (by rw [← HKG.out, hGO]; rfl : k3 = 6)
  obtain ⟨O, hO⟩ : ∃ o, V.mem = o := ⟨_, rfl⟩
  obtain ⟨M, hM⟩ : ∃ o, U.mem = o := ⟨_, rfl⟩
  have HGETU := Lib.hid (right_getJ HRTU.out)
  have HGETV := Lib.hid (right_getJ HRTV.out)
  have HRO := Lib.hid (right_mems HRTV.out)
  have HRM := Lib.hid (right_mems HRTU.out)
  have hgm : G.mem = mergeM V.mem U.mem := by rw [hGO]; rfl
  rw [hgm] at HMG HMG2 HNG
  have hrg : rightM (mergeM V.mem U.mem) = true := mergeM_right _ _ HRO.out HRM.out
  have hsO : sizeM V.mem ≤ 6500 := by
    have := hsv
    generalize V = v at *
    obtain ⟨k, y, t, l, mm⟩ := v
    rw [sizeJ] at this
    show sizeM mm ≤ _
    omega
  have hsM : sizeM U.mem ≤ 6500 := by
    have := hsu
    generalize U = v at *
    obtain ⟨k, y, t, l, mm⟩ := v
    rw [sizeJ] at this
    show sizeM mm ≤ _
    omega
  have hsG : sizeM (mergeM V.mem U.mem) ≤ 13000 := by
    rw [← hgm]
    have := hgs2
    generalize G = v at *
    obtain ⟨k, y, t, l, mm⟩ := v
    rw [sizeJ] at this
    show sizeM mm ≤ _
    omega
  rw [hO] at HMV HMV2 HNV HGETV HRO hrg hsO hsG HMG HMG2 HNG
  rw [hM] at HMU HMU2 HNU HGETU HRM hrg hsM hsG HMG HMG2 HNG
  have HRG := Lib.hid hrg
  have hlO := lenM_size O
  have hlM := lenM_size M
  have hm1 : m1 ≤ 6500 := by have := HNV.out; omega
  have hm2 : m2 ≤ 6500 := by have := HNU.out; omega
  have hVL : V.mem.length ≤ 6500 := by rw [hO]; omega
  have hUL : U.mem.length ≤ 6500 := by rw [hM]; omega
  clear hO hM hgm hrg hGO z0 z1 z2 z3 z4 HKG HG
  obtain ⟨x0, x1, x2, x3, x4⟩ := five_at HY5.out HDC.out hu5
  obtain ⟨z0, z1, z2, z3, z4⟩ := five_at HY7.out HDC.out hu7
  go_wp2_with fail
  clear x0 x1 x2 x3 x4 z0 z1 z2 z3 z4
  go_loopg [14, 88] m1 (fun k x14 x88 wr => ∃ (j : Nat) (rv : Value) (nl : List (List UInt8)), x14 = rv ∧ x88 = .int .i64 (j : Int) ∧ j + k = m1 ∧ Hid (nl = ((O.take j).map Prod.fst).filter (keepM M)) ∧ nl.length ≤ j ∧ Hid (wr.ownsRow wA.heap.size 9 1 rv nl.length (nl.map strV)) ∧ Hid (Below wA.heap.size wA wr))
  case atStart => exact ⟨0, .slice none 0 0, [], rfl, rfl, by omega, Lib.hid rfl, by simp, Lib.hid (World.ownsRow_nil _ _ _ _), HDC⟩
  case round =>
    obtain ⟨j, rv, nl, rfl, rfl, hjk, HNL, hnl, HOW, HBR⟩ := hrel
    obtain ⟨ro, rc, hro, -, -⟩ := RdC.of_own HOW.out
    subst hro
    by_cases hlt : j < m1
    · have hltI : (j : Int) < (m1 : Int) := by omega
      have hjO : j < O.length := by rw [← HNV.out]; exact hlt
      obtain ⟨gv, ov, k7, y7, t7, a7, n7, c7, a7', m7, c7', ev, hrv, z0, z1, z2, z3, z4, z5⟩ := mem_cells' HMV.out HMV2.out j hjO
      subst ev
      obtain ⟨nm, hnm⟩ : ∃ x, (O[j]'hjO).1 = x := ⟨_, rfl⟩
      rw [hnm] at z0
      have hkk := rep_kind hrv
      have dv : ∀ q u, wA.cell? ⟨gv, q, none⟩ = some u → wr.cell? ⟨gv, q, none⟩ = some u := fun q u h => (HBR.out.cell (World.block_lt_of_cell? _ _ h)).trans h
      have d0 := dv _ _ z0
      have d1 := dv _ _ z1
      have d2 := dv _ _ z2
      have d3 := dv _ _ z3
      have d4 := dv _ _ z4
      have d5 := dv _ _ z5
      have HRVV := Lib.hid hrv
      have HKK := Lib.hid hkk
      have HNM := Lib.hid hnm
      clear dv z0 z1 z2 z3 z4 z5 hrv hkk hnm
      obtain ⟨b16, hb16⟩ : ∃ b, wr.heap.size = b := ⟨_, rfl⟩
      go_upto_region 18 with (fail)
      generalize hww2 : wr.alloc _ = w2
      have hbw2 : Below wr.heap.size wr w2 := by rw [← hww2]; exact (Below.refl _ _).alloc (Nat.le_refl _) _
      have hxw2 : w2.heap[b16]? = some (.cells #[.string ⟨nm.toArray⟩, .int .i64 k7, .bool y7, .string ⟨t7⟩, .slice a7 n7 c7, .slice a7' m7 c7'] 38 (0, 0)) := by rw [← hww2, ← hb16]; exact heap_alloc_new _ _
      have hsb16 : b16 < w2.heap.size := (Array.getElem?_eq_some_iff.1 hxw2).1
      have HBw2 := Lib.hid (HBR.out.trans (hbw2.mono HBR.out.size))
      have HMw2 := Lib.hid hxw2
      clear hww2 hxw2 hb16
      have HOW2 := Lib.hid (own_below HOW.out hbw2)
      clear hbw2 d0 d1 d2 d3 d4 d5 HBR HOW
      have HGE := Lib.hid (get_any _ [.int .i64 k2, .bool y2, .string t2, .slice a2 n2 c2, .slice a2' m2 c2'] U nm w2 (HUA.out.under HBw2.out) (by omega))
      rw [HGETU.out nm] at HGE
      obtain ⟨TH, hTH⟩ : ∃ b, (getM nm M).isSome = b := ⟨_, rfl⟩
      obtain ⟨X, hX⟩ : ∃ x, (getM nm M).getD .zero = x := ⟨_, rfl⟩
      rw [hTH, hX] at HGE
      have HTH := Lib.hid hTH
      have HX := Lib.hid hX
      clear hTH hX
      obtain ⟨x0, x1, x2, x3, x4⟩ := five_at HY7.out HBw2.out hu7
      obtain ⟨q0, q1, q2, q3, q4, q5⟩ := six_atM HMw2.out (Below.refl w2.heap.size w2) hsb16
      go_wp2_with fail
      refine HGE.out.mono ?_
      rintro e w3 ⟨hb3, cs, rfl, hrep⟩
      have HB3 := Lib.hid (HBw2.out.trans (hb3.mono HBw2.out.size))
      have HM3 := Lib.hid ((hb3.block _ hsb16).trans HMw2.out)
      have hs163 : b16 < w3.heap.size := Nat.lt_of_lt_of_le hsb16 hb3.size
      have HOW3 := Lib.hid (own_below HOW2.out hb3)
      obtain ⟨a8, c8, a8', c8', _, _, rfl, -⟩ := hrep.parts
      unfold strV at *
      obtain ⟨k8, y8, t8, n8, m8, hk8, hy8, ht8, hn8, hm8⟩ : ∃ k y t n1 n2, (X).kind = k ∧ (X).yes = y ∧ (⟨(X).text.toArray⟩ : ByteArray) = t ∧ (X).list.length = n1 ∧ (X).mem.length = n2 := ⟨_, _, _, _, _, rfl, rfl, rfl, rfl, rfl⟩
      rw [hk8, hy8, ht8, hn8, hm8]
      have HK8 := Lib.hid hk8
      clear hk8 hy8 ht8 hn8 hm8 hrep hb3 HGE x0 x1 x2 x3 x4 q0 q1 q2 q3 q4 q5 HBw2 HMw2 hsb16 HOW2
      obtain ⟨b17, hb17⟩ : ∃ b, w3.heap.size = b := ⟨_, rfl⟩
      go_upto_region 19 with (fail)
      generalize hww4 : w3.alloc _ = w4
      have hbw4 : Below w3.heap.size w3 w4 := by rw [← hww4]; exact (Below.refl _ _).alloc (Nat.le_refl _) _
      have hxw4 : w4.heap[b17]? = some (.cells #[.int .i64 k8, .bool y8, .string t8, .slice a8 n8 c8, .slice a8' m8 c8'] 28 (0, 0)) := by rw [← hww4, ← hb17]; exact heap_alloc_new _ _
      have hsb17 : b17 < w4.heap.size := (Array.getElem?_eq_some_iff.1 hxw4).1
      have HXb17w4 := Lib.hid hxw4
      clear hww4 hxw4 hb17
      have HB4 := Lib.hid (HB3.out.trans (hbw4.mono HB3.out.size))
      have HM4 := Lib.hid ((hbw4.block _ hs163).trans HM3.out)
      have hs164 : b16 < w4.heap.size := Nat.lt_of_lt_of_le hs163 hbw4.size
      have HOW4 := Lib.hid (own_below HOW3.out hbw4)
      clear hbw4 HB3 HM3 hs163 HOW3
      have hkp : keepM M nm = (!TH || (k8 != 1)) := by
        unfold keepM
        rw [← HTH.out]
        cases hg : getM nm M with
        | none => rfl
        | some u =>
          have h8 : X = u := by rw [← HX.out, hg]; rfl
          rw [← HK8.out, h8]
          rfl
      obtain ⟨KP, hKP⟩ : ∃ b, keepM M nm = b := ⟨_, rfl⟩
      rw [hKP] at hkp
      have HKP := Lib.hid hKP
      have HKV := Lib.hid hkp
      clear hKP hkp
      obtain ⟨y0, y1', y2', y3', y4'⟩ := five_at HXb17w4.out (Below.refl w4.heap.size w4) hsb17
      obtain ⟨q0, q1, q2, q3, q4, q5⟩ := six_atM HM4.out (Below.refl w4.heap.size w4) hs164
      go_cut [105] (fun x wc => x = .bool KP ∧ w4 = wc)
      case first =>
        cases TH with
        | false =>
          go_wp2_with fail
          go_meet
          exact ⟨by rw [HKV.out]; rfl, rfl⟩
        | true =>
          go_wp2_with fail
          go_meet
          exact ⟨by rw [HKV.out]; rfl, rfl⟩
      case rest =>
      obtain ⟨rfl, rfl⟩ := hcut
      clear y0 y1' y2' y3' y4'
      go_upto_if 105 with (fail)
      have htk : O.take (j + 1) = O.take j ++ [O[j]'hjO] := List.take_succ_eq_append_getElem hjO
      cases KP with
      | false =>
        have HNX : Hid (nl = ((O.take (j + 1)).map Prod.fst).filter (keepM M)) := Lib.hid (by
          rw [htk]
          rw [List.map_append, List.filter_append, ← HNL.out]
          simp [HNM.out, HKP.out])
        clear htk
        clear q0 q1 q2 q3 q4 q5
        go_wp2_with fail
        go_roundg (gk - 1)
        case measure => omega
        case rel => exact ⟨j + 1, _, nl, rfl, by first | rfl | (congr 1), by omega, HNX, by omega, HOW4, HB4⟩
      | true =>
        have HNX : Hid (nl ++ [nm] = ((O.take (j + 1)).map Prod.fst).filter (keepM M)) := Lib.hid (by
          rw [htk]
          rw [List.map_append, List.filter_append, ← HNL.out]
          simp [HNM.out, HKP.out])
        clear htk
        have hs4w : wA.heap.size ≤ w4.heap.size := HB4.out.size
        go_wp2_with (at_builtin; refine wpList_append_rows rfl (.tmp 106) (.tmp 109) 36 rfl wA.heap.size 9 1 16 Try.underlying36 (by kernel_rfl) (by decide) _ nl.length (nl.map strV) rfl (HOW4.out.alloc _) ⟨w4.heap.size, 0, none⟩ 1 1 [.string ⟨nm.toArray⟩] rfl rfl ?c1 ?c2 ?c3 ?c4 ?c5 ?_)
        case c1 =>
          intro j u hu
          rw [Addr.add_lit, Lib.cell_of_heap (heap_alloc_new w4 _)]
          simpa using hu
        case c2 => intro u hu; simp only [List.mem_cons, List.mem_nil_iff, or_false] at hu; rcases hu with rfl; rfl
        case c3 => omega
        case c4 => omega
        case c5 => simp; omega
        intro v' w5 hown' hgrow _
        have HB5 := Lib.hid (below_own (HB4.out.alloc hs4w _) (HOW4.out.alloc _) hgrow (by simp; omega))
        have HOW5 : Hid (w5.ownsRow wA.heap.size 9 1 v' (nl ++ [nm]).length ((nl ++ [nm]).map strV)) := Lib.hid (by
          rw [List.length_append, List.map_append]
          exact hown')
        clear hown' hgrow
        clear q0 q1 q2 q3 q4 q5
        go_wp2_with fail
        go_roundg (gk - 1)
        case measure => omega
        case rel => exact ⟨j + 1, _, nl ++ [nm], rfl, by first | rfl | (congr 1), by omega, HNX, by rw [List.length_append]; simp; omega, HOW5, HB5⟩
    · have hje : m1 = j := by omega
      subst hje
      have hltI : ¬ (m1 : Int) < (m1 : Int) := by omega
      have htk : O.take m1 = O := by rw [HNV.out]; exact List.take_length
      rw [htk] at HNL
      obtain ⟨NL1, rfl⟩ : ∃ x, x = nl := ⟨_, rfl⟩
      have HOW0 := HOW
      have HBR0 := HBR
      have HNL1 := HNL
      clear htk hjk HOW HBR HNL
      obtain ⟨z0, z1, z2, z3, z4⟩ := five_at HY7.out HBR0.out hu7
      go_wp2_with fail
      clear z0 z1 z2 z3 z4 hlt hltI
      go_loopg [14, 115] m2 (fun k x14 x88 wr => ∃ (j : Nat) (rv : Value) (nl : List (List UInt8)), x14 = rv ∧ x88 = .int .i64 (j : Int) ∧ j + k = m2 ∧ Hid (nl = NL1 ++ ((M.take j).filter (newM (O.map Prod.fst))).map Prod.fst) ∧ nl.length ≤ NL1.length + j ∧ Hid (wr.ownsRow wA.heap.size 9 1 rv nl.length (nl.map strV)) ∧ Hid (Below wA.heap.size wA wr))
      case atStart => exact ⟨0, _, NL1, rfl, rfl, by omega, Lib.hid (by simp), by simp, HOW0, HBR0⟩
      case round =>
        obtain ⟨j, rv, nl, rfl, rfl, hjk, HNL, hnl, HOW, HBR⟩ := hrel
        obtain ⟨ro, rc, hro, hrd, -⟩ := RdC.of_own HOW.out
        have HRD := Lib.hid hrd
        clear hrd
        subst hro
        by_cases hlt : j < m2
        · have hltI : (j : Int) < (m2 : Int) := by omega
          have hjO : j < M.length := by rw [← HNU.out]; exact hlt
          obtain ⟨gv, ov, k7, y7, t7, a7, n7, c7, a7', m7, c7', ev, hrv, z0, z1, z2, z3, z4, z5⟩ := mem_cells' HMU.out HMU2.out j hjO
          subst ev
          obtain ⟨nm, hnm⟩ : ∃ x, (M[j]'hjO).1 = x := ⟨_, rfl⟩
          rw [hnm] at z0
          have hkk := rep_kind hrv
          have dv : ∀ q u, wA.cell? ⟨gv, q, none⟩ = some u → wr.cell? ⟨gv, q, none⟩ = some u := fun q u h => (HBR.out.cell (World.block_lt_of_cell? _ _ h)).trans h
          have d0 := dv _ _ z0
          have d1 := dv _ _ z1
          have d2 := dv _ _ z2
          have d3 := dv _ _ z3
          have d4 := dv _ _ z4
          have d5 := dv _ _ z5
          have HRVV := Lib.hid hrv
          have HKK := Lib.hid hkk
          have HNM := Lib.hid hnm
          clear dv z0 z1 z2 z3 z4 z5 hrv hkk hnm
          obtain ⟨b20, hb20⟩ : ∃ b, wr.heap.size = b := ⟨_, rfl⟩
          go_upto_region 25 with (fail)
          generalize hww2 : wr.alloc _ = w2
          have hbw2 : Below wr.heap.size wr w2 := by rw [← hww2]; exact (Below.refl _ _).alloc (Nat.le_refl _) _
          have hxw2 : w2.heap[b20]? = some (.cells #[.string ⟨nm.toArray⟩, .int .i64 k7, .bool y7, .string ⟨t7⟩, .slice a7 n7 c7, .slice a7' m7 c7'] 38 (0, 0)) := by rw [← hww2, ← hb20]; exact heap_alloc_new _ _
          have hsb20 : b20 < w2.heap.size := (Array.getElem?_eq_some_iff.1 hxw2).1
          have HBw2 := Lib.hid (HBR.out.trans (hbw2.mono HBR.out.size))
          have HMw2 := Lib.hid hxw2
          clear hww2 hxw2 hb20
          have HOW2 := Lib.hid (own_below HOW.out hbw2)
          clear hbw2 d0 d1 d2 d3 d4 d5 HBR HOW
          have HGE := Lib.hid (get_any _ [.int .i64 k1, .bool y1, .string t1, .slice a1 n1 c1, .slice a1' m1 c1'] V nm w2 (HVA.out.under HBw2.out) (by omega))
          rw [HGETV.out nm] at HGE
          obtain ⟨TH, hTH⟩ : ∃ b, (getM nm O).isSome = b := ⟨_, rfl⟩
          obtain ⟨X, hX⟩ : ∃ x, (getM nm O).getD .zero = x := ⟨_, rfl⟩
          rw [hTH, hX] at HGE
          have HTH := Lib.hid hTH
          have HX := Lib.hid hX
          clear hTH hX
          obtain ⟨x0, x1, x2, x3, x4⟩ := five_at HY5.out HBw2.out hu5
          obtain ⟨q0, q1, q2, q3, q4, q5⟩ := six_atM HMw2.out (Below.refl w2.heap.size w2) hsb20
          go_wp2_with fail
          refine HGE.out.mono ?_
          rintro e w3 ⟨hb3, cs, rfl, hrep⟩
          have HB3 := Lib.hid (HBw2.out.trans (hb3.mono HBw2.out.size))
          have HM3 := Lib.hid ((hb3.block _ hsb20).trans HMw2.out)
          have hs163 : b20 < w3.heap.size := Nat.lt_of_lt_of_le hsb20 hb3.size
          have HOW3 := Lib.hid (own_below HOW2.out hb3)
          obtain ⟨a8, c8, a8', c8', _, _, rfl, -⟩ := hrep.parts
          unfold strV at *
          obtain ⟨k8, y8, t8, n8, m8, hk8, hy8, ht8, hn8, hm8⟩ : ∃ k y t n1 n2, (X).kind = k ∧ (X).yes = y ∧ (⟨(X).text.toArray⟩ : ByteArray) = t ∧ (X).list.length = n1 ∧ (X).mem.length = n2 := ⟨_, _, _, _, _, rfl, rfl, rfl, rfl, rfl⟩
          rw [hk8, hy8, ht8, hn8, hm8]
          have HK8 := Lib.hid hk8
          clear hk8 hy8 ht8 hn8 hm8 hrep hb3 HGE x0 x1 x2 x3 x4 q0 q1 q2 q3 q4 q5 HBw2 HMw2 hsb20 HOW2
          obtain ⟨b21, hb21⟩ : ∃ b, w3.heap.size = b := ⟨_, rfl⟩
          go_upto_region 26 with (fail)
          generalize hww4 : w3.alloc _ = w4
          have hbw4 : Below w3.heap.size w3 w4 := by rw [← hww4]; exact (Below.refl _ _).alloc (Nat.le_refl _) _
          have hxw4 : w4.heap[b21]? = some (.cells #[.int .i64 k8, .bool y8, .string t8, .slice a8 n8 c8, .slice a8' m8 c8'] 28 (0, 0)) := by rw [← hww4, ← hb21]; exact heap_alloc_new _ _
          have hsb21 : b21 < w4.heap.size := (Array.getElem?_eq_some_iff.1 hxw4).1
          have HXb21w4 := Lib.hid hxw4
          clear hww4 hxw4 hb21
          have HB4 := Lib.hid (HB3.out.trans (hbw4.mono HB3.out.size))
          have HM4 := Lib.hid ((hbw4.block _ hs163).trans HM3.out)
          have hs164 : b20 < w4.heap.size := Nat.lt_of_lt_of_le hs163 hbw4.size
          have HOW4 := Lib.hid (own_below HOW3.out hbw4)
          clear hbw4 HB3 HM3 hs163 HOW3
          have hkp : newM (O.map Prod.fst) (M[j]'hjO) = (!TH && (k7 != 1)) := by
            unfold newM
            rw [← HKK.out, HNM.out, ← HTH.out]
            have h3 := get_iff nm O
            by_cases hc : nm ∈ O.map Prod.fst
            · have h4 : getM nm O ≠ none := fun e => (h3.1 e) hc
              cases hg : getM nm O with
              | none => exact absurd hg h4
              | some x => simp [hc]
            · rw [h3.2 hc]
              simp [hc]
          obtain ⟨KP, hKP⟩ : ∃ b, newM (O.map Prod.fst) (M[j]'hjO) = b := ⟨_, rfl⟩
          rw [hKP] at hkp
          have HKP := Lib.hid hKP
          have HKV := Lib.hid hkp
          clear hKP hkp
          obtain ⟨y0, y1', y2', y3', y4'⟩ := five_at HXb21w4.out (Below.refl w4.heap.size w4) hsb21
          obtain ⟨q0, q1, q2, q3, q4, q5⟩ := six_atM HM4.out (Below.refl w4.heap.size w4) hs164
          go_cut [133] (fun x wc => x = .bool KP ∧ w4 = wc)
          case first =>
            cases TH with
            | true =>
              go_wp2_with fail
              go_meet
              exact ⟨by rw [HKV.out]; rfl, rfl⟩
            | false =>
              go_wp2_with fail
              go_meet
              exact ⟨by rw [HKV.out]; rfl, rfl⟩
          case rest =>
          obtain ⟨rfl, rfl⟩ := hcut
          clear y0 y1' y2' y3' y4'
          go_upto_if 133 with (fail)
          have htk : M.take (j + 1) = M.take j ++ [M[j]'hjO] := List.take_succ_eq_append_getElem hjO
          cases KP with
          | false =>
            have HNX : Hid (nl = NL1 ++ ((M.take (j + 1)).filter (newM (O.map Prod.fst))).map Prod.fst) := Lib.hid (by
              rw [htk]
              rw [List.filter_append, List.map_append, ← List.append_assoc, ← HNL.out]
              simp [HKP.out])
            clear htk
            clear q0 q1 q2 q3 q4 q5
            go_wp2_with fail
            go_roundg (gk - 1)
            case measure => omega
            case rel => exact ⟨j + 1, _, nl, rfl, by first | rfl | (congr 1), by omega, HNX, by omega, HOW4, HB4⟩
          | true =>
            have HNX : Hid (nl ++ [nm] = NL1 ++ ((M.take (j + 1)).filter (newM (O.map Prod.fst))).map Prod.fst) := Lib.hid (by
              rw [htk]
              rw [List.filter_append, List.map_append, ← List.append_assoc, ← HNL.out]
              simp [HKP.out, HNM.out])
            clear htk
            have hs4w : wA.heap.size ≤ w4.heap.size := HB4.out.size
            go_wp2_with (at_builtin; refine wpList_append_rows rfl (.tmp 134) (.tmp 137) 36 rfl wA.heap.size 9 1 16 Try.underlying36 (by kernel_rfl) (by decide) _ nl.length (nl.map strV) rfl (HOW4.out.alloc _) ⟨w4.heap.size, 0, none⟩ 1 1 [.string ⟨nm.toArray⟩] rfl rfl ?c1 ?c2 ?c3 ?c4 ?c5 ?_)
            case c1 =>
              intro j u hu
              rw [Addr.add_lit, Lib.cell_of_heap (heap_alloc_new w4 _)]
              simpa using hu
            case c2 => intro u hu; simp only [List.mem_cons, List.mem_nil_iff, or_false] at hu; rcases hu with rfl; rfl
            case c3 => omega
            case c4 => omega
            case c5 => simp; omega
            intro v' w5 hown' hgrow _
            have HB5 := Lib.hid (below_own (HB4.out.alloc hs4w _) (HOW4.out.alloc _) hgrow (by simp; omega))
            have HOW5 : Hid (w5.ownsRow wA.heap.size 9 1 v' (nl ++ [nm]).length ((nl ++ [nm]).map strV)) := Lib.hid (by
              rw [List.length_append, List.map_append]
              exact hown')
            clear hown' hgrow
            clear q0 q1 q2 q3 q4 q5
            go_wp2_with fail
            go_roundg (gk - 1)
            case measure => omega
            case rel => exact ⟨j + 1, _, nl ++ [nm], rfl, by first | rfl | (congr 1), by omega, HNX, by rw [List.length_append]; simp; omega, HOW5, HB5⟩
        · have hje : m2 = j := by omega
          subst hje
          have hltI : ¬ (m2 : Int) < (m2 : Int) := by omega
          have htk : M.take m2 = M := by rw [HNU.out]; exact List.take_length
          rw [htk] at HNL
          have hnam : nl = (mergeM O M).map Prod.fst := by
            rw [merge_names M O (right_nodup HRM.out), HNL.out, HNL1.out]
          have hml : nl.length = m3 := by rw [hnam, List.length_map, HNG.out]
          have HNAM := Lib.hid hnam
          have hk3 : (k3 != 6) = false := by rw [HKB.out]; rfl
          obtain ⟨wN, rfl⟩ : ∃ x : World, x = wr := ⟨_, rfl⟩
          have HAN := Lib.hid (fun (x : World) (h : Below wN.heap.size wN x) => HBR.out.trans (h.mono HBR.out.size))
          rw [hml]
          obtain ⟨x0, x1, x2, x3, x4⟩ := five_at HX11.out HBR.out hsb11
          clear htk hnam hml hjk hlt hltI HNL HNL1 HOW hnl HBR0 HOW0 hkb HMV HMV2 HMU HMU2
          go_wp2_with fail
          clear x0 x1 x2 x3 x4 hk3
          have hm3 : m3 ≤ 13000 := by
            have h1 := lenM_size (mergeM O M)
            have h2 := HNG.out
            omega
          go_loopg [154] m3 (fun k x154 wr => ∃ j : Nat, x154 = .int .i64 (j : Int) ∧ j + k = m3 ∧ Hid (Below wN.heap.size wN wr))
          case atStart => exact ⟨0, rfl, by omega, Lib.hid (Below.refl _ _)⟩
          case round =>
            obtain ⟨j, rfl, hjk, HBQ⟩ := hrel
            by_cases hlt : j < m3
            · have hltI : (j : Int) < (m3 : Int) := by omega
              have hjG : j < (mergeM O M).length := by rw [← HNG.out]; exact hlt
              obtain ⟨gv, ov, k7, y7, t7, a7, n7, c7, a7', m7, c7', ev, hrv, z0, z1, z2, z3, z4, z5⟩ := mem_cells' HMG.out HMG2.out j hjG
              subst ev
              obtain ⟨nm, hnm⟩ : ∃ x, ((mergeM O M)[j]'hjG).1 = x := ⟨_, rfl⟩
              obtain ⟨gx, hgx⟩ : ∃ x, ((mergeM O M)[j]'hjG).2 = x := ⟨_, rfl⟩
              rw [hnm] at z0
              rw [hgx] at hrv
              have hgg : getM nm (mergeM O M) = some gx := by rw [← hnm, ← hgx]; exact get_at (right_nodup HRG.out) j hjG
              have hgz : sizeJ gx ≤ 13000 := Nat.le_trans (get_size hgg) hsG
              have hgr : rightJ gx = true := get_right HRG.out hgg
              have hidx : (nl.map strV)[j]? = some (strV nm) := by
                rw [HNAM.out, List.getElem?_map, List.getElem?_map, List.getElem?_eq_getElem hjG]
                simp only [Option.map_some]
                rw [hnm]
              obtain ⟨rb, rof, hro, hrc⟩ := HRD.out.at (by intro h; rw [h] at hidx; simp at hidx)
              subst hro
              have hnc := hrc j _ hidx
              rw [strV] at hnc
              have HNC := Lib.hid hnc
              clear hrc hidx hnc
              have dv : ∀ q u, wA.cell? ⟨gv, q, none⟩ = some u → wr.cell? ⟨gv, q, none⟩ = some u := fun q u h => ((HAN.out _ HBQ.out).cell (World.block_lt_of_cell? _ _ h)).trans h
              have d0 := dv _ _ z0
              have d1 := dv _ _ z1
              have d2 := dv _ _ z2
              have d3 := dv _ _ z3
              have d4 := dv _ _ z4
              have d5 := dv _ _ z5
              have HRVV := Lib.hid hrv
              have HGG := Lib.hid hgg
              have HGR2 := Lib.hid hgr
              clear dv z0 z1 z2 z3 z4 z5 hrv hnm hgx hgg hgr
              obtain ⟨b24, hb24⟩ : ∃ b, wr.heap.size = b := ⟨_, rfl⟩
              go_upto_region 34 with (fail)
              generalize hww2 : wr.alloc _ = w2
              have hbw2 : Below wr.heap.size wr w2 := by rw [← hww2]; exact (Below.refl _ _).alloc (Nat.le_refl _) _
              have hxw2 : w2.heap[b24]? = some (.cells #[.string ⟨nm.toArray⟩, .int .i64 k7, .bool y7, .string ⟨t7⟩, .slice a7 n7 c7, .slice a7' m7 c7'] 38 (0, 0)) := by rw [← hww2, ← hb24]; exact heap_alloc_new _ _
              have hsb24 : b24 < w2.heap.size := (Array.getElem?_eq_some_iff.1 hxw2).1
              have HBw2 := Lib.hid (HBQ.out.trans (hbw2.mono HBQ.out.size))
              have HMw2 := Lib.hid hxw2
              clear hww2 hxw2 hb24 hbw2 d0 d1 d2 d3 d4 d5 HBQ
              have HGE := Lib.hid (get_any _ [.int .i64 k1, .bool y1, .string t1, .slice a1 n1 c1, .slice a1' m1 c1'] V nm w2 (HVA.out.under (HAN.out _ HBw2.out)) (by omega))
              rw [HGETV.out nm] at HGE
              obtain ⟨TH8, hTH⟩ : ∃ b, (getM nm O).isSome = b := ⟨_, rfl⟩
              obtain ⟨X, hX⟩ : ∃ x, (getM nm O).getD .zero = x := ⟨_, rfl⟩
              rw [hTH, hX] at HGE
              have HTH8 := Lib.hid hTH
              have HX8 := Lib.hid hX
              clear hTH hX
              obtain ⟨x0, x1, x2, x3, x4⟩ := five_at HY5.out (HAN.out _ HBw2.out) hu5
              obtain ⟨q0, q1, q2, q3, q4, q5⟩ := six_atM HMw2.out (Below.refl w2.heap.size w2) hsb24
              go_wp2_with fail
              refine HGE.out.mono ?_
              rintro e w3 ⟨hb3, cs, rfl, hrep⟩
              have HB3 := Lib.hid (HBw2.out.trans (hb3.mono HBw2.out.size))
              have HM3 := Lib.hid ((hb3.block _ hsb24).trans HMw2.out)
              have hs243 : b24 < w3.heap.size := Nat.lt_of_lt_of_le hsb24 hb3.size
              obtain ⟨a8, c8, a8', c8', _, _, rfl, -⟩ := hrep.parts
              unfold strV at *
              obtain ⟨k8, y8, t8, n8, m8, hk, hy, ht, hn1, hn2⟩ : ∃ k y t n1 n2, (X).kind = k ∧ (X).yes = y ∧ (⟨(X).text.toArray⟩ : ByteArray) = t ∧ (X).list.length = n1 ∧ (X).mem.length = n2 := ⟨_, _, _, _, _, rfl, rfl, rfl, rfl, rfl⟩
              rw [hk, hy, ht, hn1, hn2] at hrep ⊢
              have HR83 := Lib.hid hrep
              clear hk hy ht hn1 hn2 hrep
              clear hb3 HGE x0 x1 x2 x3 x4 q0 q1 q2 q3 q4 q5 HBw2 HMw2 hsb24
              obtain ⟨b25, hb25⟩ : ∃ b, w3.heap.size = b := ⟨_, rfl⟩
              go_upto_region 35 with (fail)
              generalize hww4 : w3.alloc _ = w4
              have hbw4 : Below w3.heap.size w3 w4 := by rw [← hww4]; exact (Below.refl _ _).alloc (Nat.le_refl _) _
              have hxw4 : w4.heap[b25]? = some (.cells #[.int .i64 k8, .bool y8, .string t8, .slice a8 n8 c8, .slice a8' m8 c8'] 28 (0, 0)) := by rw [← hww4, ← hb25]; exact heap_alloc_new _ _
              have hsb25 : b25 < w4.heap.size := (Array.getElem?_eq_some_iff.1 hxw4).1
              have HXb25w4 := Lib.hid hxw4
              clear hww4 hxw4 hb25
              have HB4 := Lib.hid (HB3.out.trans (hbw4.mono HB3.out.size))
              have HM4 := Lib.hid ((hbw4.block _ hs243).trans HM3.out)
              have hs244 : b24 < w4.heap.size := Nat.lt_of_lt_of_le hs243 hbw4.size
              have HR84 := Lib.hid (HR83.out.under hbw4)
              clear hbw4 HB3 HM3 hs243 HR83
              have HGE := Lib.hid (get_any _ [.int .i64 k2, .bool y2, .string t2, .slice a2 n2 c2, .slice a2' m2 c2'] U nm w4 (HUA.out.under (HAN.out _ HB4.out)) (by omega))
              rw [HGETU.out nm] at HGE
              obtain ⟨TH, hTH⟩ : ∃ b, (getM nm M).isSome = b := ⟨_, rfl⟩
              obtain ⟨Y, hY⟩ : ∃ x, (getM nm M).getD .zero = x := ⟨_, rfl⟩
              rw [hTH, hY] at HGE
              have HTH9 := Lib.hid hTH
              have HX9 := Lib.hid hY
              clear hTH hY
              obtain ⟨x0, x1, x2, x3, x4⟩ := five_at HY7.out (HAN.out _ HB4.out) hu7
              obtain ⟨q0, q1, q2, q3, q4, q5⟩ := six_atM HM4.out (Below.refl w4.heap.size w4) hs244
              go_wp2_with fail
              refine HGE.out.mono ?_
              rintro e w5 ⟨hb5, cs, rfl, hrep⟩
              have HB5 := Lib.hid (HB4.out.trans (hb5.mono HB4.out.size))
              have HM5 := Lib.hid ((hb5.block _ hs244).trans HM4.out)
              have hs245 : b24 < w5.heap.size := Nat.lt_of_lt_of_le hs244 hb5.size
              have HX255 := Lib.hid ((hb5.block _ hsb25).trans HXb25w4.out)
              have hs255 : b25 < w5.heap.size := Nat.lt_of_lt_of_le hsb25 hb5.size
              have HR85 := Lib.hid (HR84.out.under hb5)
              obtain ⟨a9, c9, a9', c9', _, _, rfl, -⟩ := hrep.parts
              unfold strV at *
              obtain ⟨k9, y9, t9, n9, m9, hk, hy, ht, hn1, hn2⟩ : ∃ k y t n1 n2, (Y).kind = k ∧ (Y).yes = y ∧ (⟨(Y).text.toArray⟩ : ByteArray) = t ∧ (Y).list.length = n1 ∧ (Y).mem.length = n2 := ⟨_, _, _, _, _, rfl, rfl, rfl, rfl, rfl⟩
              rw [hk, hy, ht, hn1, hn2] at hrep ⊢
              have HR95 := Lib.hid hrep
              clear hk hy ht hn1 hn2 hrep
              clear hb5 HGE x0 x1 x2 x3 x4 q0 q1 q2 q3 q4 q5 HB4 HM4 hs244 HXb25w4 hsb25 HR84
              obtain ⟨b27, hb27⟩ : ∃ b, w5.heap.size = b := ⟨_, rfl⟩
              go_upto_region 36 with (fail)
              generalize hww6 : w5.alloc _ = w6
              have hbw6 : Below w5.heap.size w5 w6 := by rw [← hww6]; exact (Below.refl _ _).alloc (Nat.le_refl _) _
              have hxw6 : w6.heap[b27]? = some (.cells #[.int .i64 k9, .bool y9, .string t9, .slice a9 n9 c9, .slice a9' m9 c9'] 28 (0, 0)) := by rw [← hww6, ← hb27]; exact heap_alloc_new _ _
              have hsb27 : b27 < w6.heap.size := (Array.getElem?_eq_some_iff.1 hxw6).1
              have HXb27w6 := Lib.hid hxw6
              clear hww6 hxw6 hb27
              have HB6 := Lib.hid (HB5.out.trans (hbw6.mono HB5.out.size))
              have HM6 := Lib.hid ((hbw6.block _ hs245).trans HM5.out)
              have hs246 : b24 < w6.heap.size := Nat.lt_of_lt_of_le hs245 hbw6.size
              have HX256 := Lib.hid ((hbw6.block _ hs255).trans HX255.out)
              have hs256 : b25 < w6.heap.size := Nat.lt_of_lt_of_le hs255 hbw6.size
              have HR86 := Lib.hid (HR85.out.under hbw6)
              have HR96 := Lib.hid (HR95.out.under hbw6)
              clear hbw6 HB5 HM5 hs245 HX255 hs255 HR85 HR95
              obtain ⟨x0, x1, x2, x3, x4⟩ := five_at HX256.out (Below.refl w6.heap.size w6) hs256
              obtain ⟨b29, hb29⟩ : ∃ b, w6.heap.size = b := ⟨_, rfl⟩
              go_upto_region 37 with (fail)
              generalize hww7 : w6.alloc _ = w7
              have hbw7 : Below w6.heap.size w6 w7 := by rw [← hww7]; exact (Below.refl _ _).alloc (Nat.le_refl _) _
              have hxw7 : w7.heap[b29]? = some (.cells #[.int .i64 k8, .bool y8, .string t8, .slice a8 n8 c8, .slice a8' m8 c8'] 28 (0, 0)) := by rw [← hww7, ← hb29]; exact heap_alloc_new _ _
              have hs29 : b29 < w7.heap.size := (Array.getElem?_eq_some_iff.1 hxw7).1
              have HR87 : Hid (Rep (· ≠ b29) w7 [.int .i64 k8, .bool y8, .string t8, .slice a8 n8 c8, .slice a8' m8 c8'] X) := Lib.hid ((HR86.out.lt.under hbw7).mono fun b h e => by rw [e, ← hb29] at h; exact absurd h.2 (Nat.lt_irrefl _))
              have HR97 : Hid (Rep (· ≠ b29) w7 [.int .i64 k9, .bool y9, .string t9, .slice a9 n9 c9, .slice a9' m9 c9'] Y) := Lib.hid ((HR96.out.lt.under hbw7).mono fun b h e => by rw [e, ← hb29] at h; exact absurd h.2 (Nat.lt_irrefl _))
              have HX297 := Lib.hid hxw7
              have HX257 := Lib.hid ((hbw7.block _ hs256).trans HX256.out)
              have HX277 := Lib.hid ((hbw7.block _ hsb27).trans HXb27w6.out)
              have HB67 := Lib.hid hbw7
              have hle29 : w6.heap.size ≤ b29 := by omega
              have hs257 : b25 < w7.heap.size := Nat.lt_of_lt_of_le hs256 hbw7.size
              have hs277 : b27 < w7.heap.size := Nat.lt_of_lt_of_le hsb27 hbw7.size
              clear hww7 hxw7 hb29 hbw7 x0 x1 x2 x3 x4 HX256 HXb27w6 HR86 HR96
              have hwant : gx = if TH = true then mergeJ X Y else X := by
                have h1 := HGG.out
                rw [merge_get M O nm (right_nodup HRM.out)] at h1
                rw [← HTH9.out, ← HX8.out, ← HX9.out]
                cases hg : getM nm M with
                | none =>
                  rw [hg] at h1
                  simp [h1]
                | some u =>
                  rw [hg] at h1
                  simp only at h1
                  split at h1
                  · exact absurd h1 (by simp)
                  · simp [Option.some.inj h1]
              have HWT := Lib.hid hwant
              clear hwant
              go_upto_if 174 with (fail)
              go_cut [] (fun wc => ∃ (k6 : Int) (y6 : Bool) (t6 : ByteArray) (a6 : Option Addr) (n6 c6 : Nat) (a6' : Option Addr) (m6 c6' : Nat), Hid (wc.heap[b29]? = some (.cells #[.int .i64 k6, .bool y6, .string t6, .slice a6 n6 c6, .slice a6' m6 c6'] 28 (0, 0))) ∧ Hid (Rep (· ≠ b29) wc [.int .i64 k6, .bool y6, .string t6, .slice a6 n6 c6, .slice a6' m6 c6'] gx) ∧ Hid (Below w6.heap.size w6 wc))
              case first =>
                cases TH with
                | false =>
                  have hw := HWT.out
                  rw [if_neg (by simp)] at hw
                  subst hw
                  go_wp2_with fail
                  go_meet
                  exact ⟨_, _, _, _, _, _, _, _, _, HX297, HR87, HB67⟩
                | true =>
                  have hw := HWT.out
                  rw [if_pos rfl] at hw
                  have HW := Lib.hid hw
                  clear hw
                  have hsx : sizeJ X ≤ 6600 := by
                    rw [← HX8.out]
                    cases hg : getM nm O with
                    | none => simp [JV.zero, sizeJ, sizeL, sizeM]
                    | some x =>
                      have := get_size hg
                      show sizeJ x ≤ _
                      omega
                  have hrx : rightJ X = true ∨ X.kind ≠ 6 := by
                    rw [← HX8.out]
                    cases hg : getM nm O with
                    | none => exact .inr (by simp [JV.zero, JV.kind])
                    | some x => exact .inl (get_right HRO.out hg)
                  obtain ⟨u, hu⟩ : ∃ u, getM nm M = some u := Option.isSome_iff_exists.1 HTH9.out
                  have hyu : Y = u := by rw [← HX9.out, hu]; rfl
                  have hsy : sizeJ Y ≤ 6600 := by
                    have := get_size hu
                    rw [hyu]
                    omega
                  have hry : rightJ Y = true := by rw [hyu]; exact get_right HRM.out hu
                  have HMC := Lib.hid (jmerge_any Y X (· ≠ b29) [.int .i64 k8, .bool y8, .string t8, .slice a8 n8 c8, .slice a8' m8 c8'] [.int .i64 k9, .bool y9, .string t9, .slice a9 n9 c9, .slice a9' m9 c9'] w7 HR87.out HR97.out hrx hry (by omega))
                  clear hsx hrx hu hyu hsy hry
                  obtain ⟨x0, x1, x2, x3, x4⟩ := five_at HX257.out (Below.refl w7.heap.size w7) hs257
                  obtain ⟨z0, z1, z2, z3, z4⟩ := five_at HX277.out (Below.refl w7.heap.size w7) hs277
                  go_wp2_with fail
                  refine HMC.out.mono ?_
                  rintro e w8 ⟨hb8, cs, rfl, hrep⟩
                  rw [← HW.out] at hrep
                  obtain ⟨a6, c6, a6', c6', _, _, rfl, -⟩ := hrep.parts
                  unfold strV at *
                  obtain ⟨k6, y6, t6, n6, m6, hk, hy, ht, hn1, hn2⟩ : ∃ k y t n1 n2, (gx).kind = k ∧ (gx).yes = y ∧ (⟨(gx).text.toArray⟩ : ByteArray) = t ∧ (gx).list.length = n1 ∧ (gx).mem.length = n2 := ⟨_, _, _, _, _, rfl, rfl, rfl, rfl, rfl⟩
                  rw [hk, hy, ht, hn1, hn2] at hrep ⊢
                  have HR6 := Lib.hid hrep
                  clear hk hy ht hn1 hn2 hrep
                  have HX298 := Lib.hid ((hb8.block _ hs29).trans HX297.out)
                  have HR68 : Hid (Rep (· ≠ b29) w8 [.int .i64 k6, .bool y6, .string t6, .slice a6 n6 c6, .slice a6' m6 c6'] gx) := Lib.hid (HR6.out.mono fun b h => h.elim (·.1) fun h e => by rw [e] at h; exact absurd hs29 (Nat.not_lt.2 h))
                  have HB68 := Lib.hid (HB67.out.trans (hb8.mono HB67.out.size))
                  have hs298 : b29 < w8.heap.size := Nat.lt_of_lt_of_le hs29 hb8.size
                  clear hb8 HR6 HMC x0 x1 x2 x3 x4 z0 z1 z2 z3 z4
                  obtain ⟨x0, x1, x2, x3, x4⟩ := five_at HX298.out (Below.refl w8.heap.size w8) hs298
                  have f0 := Lib.frozen_of_heap HX298.out 0
                  have f1 := Lib.frozen_of_heap HX298.out 1
                  have f2 := Lib.frozen_of_heap HX298.out 2
                  have f3 := Lib.frozen_of_heap HX298.out 3
                  have f4 := Lib.frozen_of_heap HX298.out 4
                  go_wp2_with fail
                  go_meet
                  exact ⟨k6, y6, t6, a6, n6, c6, a6', m6, c6', Lib.hid (value_stored HX298.out _ _ _ _ _), Lib.hid (HR68.out.keep fun k hk _ => by
                    rw [Below.heap_setCell _ _ _ _ hk, Below.heap_setCell _ _ _ _ hk, Below.heap_setCell _ _ _ _ hk, Below.heap_setCell _ _ _ _ hk, Below.heap_setCell _ _ _ _ hk]), Lib.hid (zero_stored HB68.out hle29 _ _ _ _ _)⟩
              case rest =>
              obtain ⟨k6, y6, t6, a6, n6, c6, a6', m6, c6', HXC, HRC, HBC⟩ := hcut
              have HBNC := Lib.hid (HB6.out.trans (HBC.out.mono HB6.out.size))
              have HAC := Lib.hid (HAN.out _ HBNC.out)
              have hsC : b29 < wc.heap.size := (Array.getElem?_eq_some_iff.1 HXC.out).1
              have HSAM := Lib.hid (fun ok ok' cs cs' w' h h' => jsame16_any gx gx ok ok' cs cs' w' h h' (by omega) (by omega))
              rw [show sameJ gx gx = true from same_selfM HGR2.out] at HSAM
              have hnn : (nm != nm) = false := by simp
              clear HX257 HX277 HX297 HR87 HR97 HB67 hs29 hs257 hs277 hle29 HWT HTH8 HTH9 HX8 HX9
              go_upto_region 39 with (fail)
              refine wp_region_grow (by kernel_rfl) (by kernel_rfl) [178, 179, 180, 181, 182, 183, 184, 185, 186, 187, 188, 189, 190, 191] rfl (by decide) (by kernel_rfl) (fun iX => [VIs (.pointer (some ⟨b24, 0, none⟩)), VIs (.string ⟨nm.toArray⟩), VIs (.slice (some ⟨rb, rof, none⟩) m3 rc), VIs (.int .i64 (j : Int)), VIs (.pointer (some ⟨rb, rof + j, none⟩)), VIs (.string ⟨nm.toArray⟩), VIs (.bool false), VIs (.bool false), VIs (.pointer (some ⟨b24, 1, none⟩)), VIs (.agg #[.int .i64 k7, .bool y7, .string ⟨t7⟩, .slice a7 n7 c7, .slice a7' m7 c7']), VIs (.agg #[.int .i64 k6, .bool y6, .string t6, .slice a6 n6 c6, .slice a6' m6 c6']), VIs ((.bool true)), VIs (.bool false), VIs (.bool false)].getD iX fun _ _ => True) (stab_list _ ?_) ?_ ?_
              · skip
                intro V hV
                simp only [List.mem_cons, List.mem_nil_iff, or_false] at hV
                rcases hV with rfl | rfl | rfl | rfl | rfl | rfl | rfl | rfl | rfl | rfl | rfl | rfl | rfl | rfl <;> first | exact VIs.stab _ | exact VBytes.stab _ | exact VStr.stab _ | exact VParts.stab _ | exact VRow.stab _ | exact VRow8.stab _ _ | exact VRowIs.stab _ _ _
              · intro iX o ho a' w' hf hb hd
                rcases iX with _ | _ | _ | _ | _ | _ | _ | _ | _ | _ | _ | _ | _ | _ | iX
                · cases ho
                  refine grow_op rfl rfl rfl ?_
                  have f24 : a'.tmps.getD 24 undef = .pointer (some ⟨b24, 0, none⟩) := (hf.same 24 (by decide)).trans rfl
                  refine grow_value (v := .pointer (some ⟨b24, 0, none⟩)) (w' := w') ?_ rfl (Below.refl _ _)
                  simp only [execOp, Act.eval]
                  go_simp
                · cases ho
                  refine grow_op rfl rfl rfl ?_
                  have e0 : a'.tmps.getD 178 undef = .pointer (some ⟨b24, 0, none⟩) := hd 0 (by kernel_rfl)
                  obtain ⟨u0, u1, u2, u3, u4, u5⟩ := six_atM HM6.out (HBC.out.trans (hb.mono HBC.out.size)) hs246
                  refine grow_value (v := .string ⟨nm.toArray⟩) (w' := w') ?_ rfl (Below.refl _ _)
                  simp only [execOp, Act.eval, e0]
                  go_simp
                · cases ho
                  refine grow_op rfl rfl rfl (grow_move rfl ?_)
                  exact (hf.same 14 (by decide)).trans rfl
                · cases ho
                  refine grow_op rfl rfl rfl (grow_move rfl ?_)
                  exact (hf.same 23 (by decide)).trans rfl
                · cases ho
                  refine grow_op rfl rfl rfl ?_
                  have e2 : a'.tmps.getD 180 undef = .slice (some ⟨rb, rof, none⟩) m3 rc := hd 2 (by kernel_rfl)
                  have e3 : a'.tmps.getD 181 undef = .int .i64 (j : Int) := hd 3 (by kernel_rfl)
                  refine grow_value (v := .pointer (some ⟨rb, rof + j, none⟩)) (w' := w') ?_ rfl (Below.refl _ _)
                  simp only [execOp, Act.eval, e2, e3]
                  go_simp
                · cases ho
                  refine grow_op rfl rfl rfl ?_
                  have e4 : a'.tmps.getD 182 undef = .pointer (some ⟨rb, rof + j, none⟩) := hd 4 (by kernel_rfl)
                  have c0 := ((HBNC.out.trans (hb.mono HBNC.out.size)).cell (World.block_lt_of_cell? _ _ HNC.out)).trans HNC.out
                  refine grow_value (v := .string ⟨nm.toArray⟩) (w' := w') ?_ rfl (Below.refl _ _)
                  simp only [execOp, Act.eval, e4]
                  go_simp
                · cases ho
                  refine grow_op rfl rfl rfl ?_
                  have e1 : a'.tmps.getD 179 undef = .string ⟨nm.toArray⟩ := hd 1 (by kernel_rfl)
                  have e5 : a'.tmps.getD 183 undef = .string ⟨nm.toArray⟩ := hd 5 (by kernel_rfl)
                  refine grow_value (v := .bool false) (w' := w') ?_ rfl (Below.refl _ _)
                  simp only [execOp, Act.eval, e1, e5]
                  go_simp
                · cases ho
                  refine grow_op rfl rfl rfl (grow_move rfl ?_)
                  exact hd 6 (by kernel_rfl)
                · cases ho
                  have hg : a'.tmps.getD 185 undef = .bool false := hd 7 (by kernel_rfl)
                  refine grow_op rfl (grow_wanted rfl rfl hg) rfl ?_
                  have f24 : a'.tmps.getD 24 undef = .pointer (some ⟨b24, 0, none⟩) := (hf.same 24 (by decide)).trans rfl
                  refine grow_value (v := .pointer (some ⟨b24, 1, none⟩)) (w' := w') ?_ rfl (Below.refl _ _)
                  simp only [execOp, Act.eval]
                  go_simp
                · cases ho
                  have hg : a'.tmps.getD 185 undef = .bool false := hd 7 (by kernel_rfl)
                  refine grow_op rfl (grow_wanted rfl rfl hg) rfl ?_
                  have e8 : a'.tmps.getD 186 undef = .pointer (some ⟨b24, 1, none⟩) := hd 8 (by kernel_rfl)
                  obtain ⟨u0, u1, u2, u3, u4, u5⟩ := six_atM HM6.out (HBC.out.trans (hb.mono HBC.out.size)) hs246
                  refine grow_value (v := .agg #[.int .i64 k7, .bool y7, .string ⟨t7⟩, .slice a7 n7 c7, .slice a7' m7 c7']) (w' := w') ?_ rfl (Below.refl _ _)
                  simp only [execOp, Act.eval, e8]
                  go_simp
                · cases ho
                  have hg : a'.tmps.getD 185 undef = .bool false := hd 7 (by kernel_rfl)
                  refine grow_op rfl (grow_wanted rfl rfl hg) rfl ?_
                  have f29 : a'.tmps.getD 29 undef = .pointer (some ⟨b29, 0, none⟩) := (hf.same 29 (by decide)).trans rfl
                  obtain ⟨u0, u1, u2, u3, u4⟩ := five_at HXC.out hb hsC
                  refine grow_value (v := .agg #[.int .i64 k6, .bool y6, .string t6, .slice a6 n6 c6, .slice a6' m6 c6']) (w' := w') ?_ rfl (Below.refl _ _)
                  simp only [execOp, Act.eval]
                  go_simp
                · cases ho
                  have hg : a'.tmps.getD 185 undef = .bool false := hd 7 (by kernel_rfl)
                  refine grow_op rfl (grow_wanted rfl rfl hg) rfl ?_
                  have e9 : a'.tmps.getD 187 undef = .agg #[.int .i64 k7, .bool y7, .string ⟨t7⟩, .slice a7 n7 c7, .slice a7' m7 c7'] := hd 9 (by kernel_rfl)
                  have e10 : a'.tmps.getD 188 undef = .agg #[.int .i64 k6, .bool y6, .string t6, .slice a6 n6 c6, .slice a6' m6 c6'] := hd 10 (by kernel_rfl)
                  refine grow_call ent_jsamem rfl ?_
                  simp only [List.map_toArray, List.map_cons, List.map_nil, Act.eval, e9, e10]
                  exact ((HSAM.out _ _ [.int .i64 k7, .bool y7, .string ⟨t7⟩, .slice a7 n7 c7, .slice a7' m7 c7'] [.int .i64 k6, .bool y6, .string t6, .slice a6 n6 c6, .slice a6' m6 c6'] w' (HRVV.out.under (HAC.out.trans (hb.mono HAC.out.size))) (HRC.out.under hb)).mono (fun e w'' ⟨h1, h2⟩ => ⟨_, h1, rfl, h2⟩))
                · cases ho
                  have hg : a'.tmps.getD 185 undef = .bool false := hd 7 (by kernel_rfl)
                  refine grow_op rfl (grow_wanted rfl rfl hg) rfl ?_
                  have e11 : a'.tmps.getD 189 undef = (.bool true) := hd 11 (by kernel_rfl)
                  refine grow_value (v := .bool false) (w' := w') ?_ rfl (Below.refl _ _)
                  simp only [execOp, Act.eval, e11]
                  go_simp
                · cases ho
                  refine grow_op rfl rfl rfl ?_
                  have e7 : a'.tmps.getD 185 undef = .bool false := hd 7 (by kernel_rfl)
                  have e12 : a'.tmps.getD 190 undef = .bool false := hd 12 (by kernel_rfl)
                  refine grow_value (v := .bool false) (w' := w') ?_ rfl (Below.refl _ _)
                  simp only [execOp, Act.eval, e7, e12]
                  go_simp
                · simp at ho
              · intro a' w' hf hb hd
                obtain rfl := hf.eq [Value.pointer (some ⟨b24, 0, none⟩), Value.string ⟨nm.toArray⟩, Value.slice (some ⟨rb, rof, none⟩) m3 rc, Value.int IntKind.i64 (j : Int), Value.pointer (some ⟨rb, rof + j, none⟩), Value.string ⟨nm.toArray⟩, Value.bool false, Value.bool false, Value.pointer (some ⟨b24, 1, none⟩), Value.agg #[.int IntKind.i64 k7, .bool y7, .string ⟨t7⟩, .slice a7 n7 c7, .slice a7' m7 c7'], Value.agg #[.int IntKind.i64 k6, .bool y6, .string t6, .slice a6 n6 c6, .slice a6' m6 c6'], (.bool true), Value.bool false, Value.bool false] (fun j hj => match j, hj with
                  | 0, _ => hd 0 (by decide)
                  | 1, _ => hd 1 (by decide)
                  | 2, _ => hd 2 (by decide)
                  | 3, _ => hd 3 (by decide)
                  | 4, _ => hd 4 (by decide)
                  | 5, _ => hd 5 (by decide)
                  | 6, _ => hd 6 (by decide)
                  | 7, _ => hd 7 (by decide)
                  | 8, _ => hd 8 (by decide)
                  | 9, _ => hd 9 (by decide)
                  | 10, _ => hd 10 (by decide)
                  | 11, _ => hd 11 (by decide)
                  | 12, _ => hd 12 (by decide)
                  | 13, _ => hd 13 (by decide)
                  | k + 14, h => absurd h (by simp)) (by decide) (by kernel_rfl) rfl
                simp only [List.zip_cons_cons, List.zip_nil_right, List.foldl_cons, List.foldl_nil, Act.put, List.setIfInBounds_toArray, List.set_cons_succ, List.set_cons_zero]
                obtain ⟨wR, rfl⟩ : ∃ x : World, x = w' := ⟨_, rfl⟩
                have HBR2 := Lib.hid (HBNC.out.trans (hb.mono HBNC.out.size))
                clear hd hf hb
                go_wp2_with fail
                go_roundg (gk - 1)
                case measure => omega
                case rel => exact ⟨j + 1, by first | rfl | (congr 1), by omega, HBR2⟩
            · have hje : m3 = j := by omega
              subst hje
              have hltI : ¬ (m3 : Int) < (m3 : Int) := by omega
              have HBZ := Lib.hid (HBA.out.trans ((HAN.out _ HBQ.out).mono HBA.out.size))
              go_wp2_with fail
              refine bodyPost_ret (results_tmp rfl _ _ _) rfl ?_
              exact ⟨rfl, HBZ.out⟩
end Go.Proofs.Ytfcokdkbjajohaa
