/- Merged: JsDp, JsWw, JsPr, JsAn, JsSm, TrP, OpnN, TrM, TrV, RfP, RfN. -/
import Derived.Lib.SlBytesConst
import Derived.Deep.Slices
import Derived.ChangeSame
import Derived.Test.YtgcfikiajingcaaGreatMg1
import Derived.Test.YtgcfikiajingcaaGreatMg2
import Derived.Test.YtgcfikiajingcaaGreatMg3
import Derived.Test.YtgcfikiajingcaaGreatMg4
import Derived.Test.YtgcfikiajingcaaGreatMg5
/- json: Depth. -/
set_option linter.unusedVariables false
namespace Go.Proofs.YtgcfikiajingcaaGreat
open Go.RowKit

/-- What Depth says of a value. -/
def DepthC (v : JV) : Prop := ∀ (ok : Nat → Prop) cs w, Rep ok w cs v → Calls Tryz.prog 12 #[.agg cs.toArray] w fun e w' => e = .returned (.int .i64 (depthJ v : Nat)) ∧ Below w.heap.size w w'
theorem depthL_take {l : List JV} {j : Nat} (h : j < l.length) : depthL (l.take (j + 1)) = max (depthL (l.take j)) (depthJ l[j]) := by
  have key : ∀ (a : List JV) (v : JV), depthL (a ++ [v]) = max (depthL a) (depthJ v) := by
    intro a v
    induction a with
    | nil => simp [depthL]
    | cons x a ih =>
      simp only [List.cons_append, depthL, ih]
      omega
  rw [List.take_succ_eq_append_getElem h, key]
theorem depthM_take {l : List (List UInt8 × JV)} {j : Nat} (h : j < l.length) : depthM (l.take (j + 1)) = max (depthM (l.take j)) (depthJ l[j].2) := by
  have key : ∀ (a : List (List UInt8 × JV)) (v : List UInt8 × JV), depthM (a ++ [v]) = max (depthM a) (depthJ v.2) := by
    intro a v
    induction a with
    | nil => simp [depthM]
    | cons x a ih =>
      simp only [List.cons_append, depthM, ih]
      omega
  rw [List.take_succ_eq_append_getElem h, key]
set_option maxRecDepth 100000 in
set_option maxHeartbeats 16000000 in
theorem jdepth_leaf (k : Int) (y : Bool) (t : List UInt8) (l : List JV) (m : List (List UInt8 × JV)) (h5 : k ≠ 5) (h6 : k ≠ 6) : DepthC (.mk k y t l m) := by
  intro ok cs w h
  obtain ⟨a, c, a', c', cl, cm, rfl, -⟩ := h.parts
  simp only [JV.kind, JV.yes, JV.text, JV.list, JV.mem, strV] at *
  have HW : Hid (∀ ob, Below w.heap.size w (w.alloc ob)) := Lib.hid fun ob => (Below.refl _ _).alloc (Nat.le_refl _) _
  have q5 : (k == 5) = false := by simp [h5]
  have q6 : (k == 6) = false := by simp [h6]
  have HD : Hid (depthJ (.mk k y t l m) = 1) := Lib.hid (by rw [depthJ, if_neg h5, if_neg h6])
  clear h h5 h6
  go_enter Tryz.func12, Tryz.ntmps12
  go_wp2_with fail
  refine bodyPost_ret (results_tmp rfl _ _ _) rfl ?_
  exact ⟨by rw [HD.out]; rfl, HW.out _⟩
set_option maxRecDepth 100000 in
set_option maxHeartbeats 16000000 in
theorem jdepth_arr (y : Bool) (t : List UInt8) (l : List JV) (m : List (List UInt8 × JV)) (hv : ∀ x ∈ l, DepthC x) (hl : sizeL l ≤ 1000000) : DepthC (.mk 5 y t l m) := by
  intro ok cs w h
  obtain ⟨a, c, a', c', cl, cm, rfl, h1, h2, -⟩ := h.parts
  simp only [JV.kind, JV.yes, JV.text, JV.list, JV.mem, strV] at *
  have H1 := Lib.hid h1.lt
  have H2 := Lib.hid h2.lt
  have HV := Lib.hid hv
  have hll : l.length ≤ 1000000 := by have := len_size l; omega
  have HSL := Lib.hid hl
  have HD : Hid (depthJ (.mk 5 y t l m) = depthL l + 1) := Lib.hid (by rw [depthJ, if_pos rfl])
  clear h h1 h2 hv hl
  go_enter Tryz.func12, Tryz.ntmps12
  go_upto_region 2 with (fail)
  have hb1 : Below w.heap.size w (w.alloc (.cells #[.int .i64 5, .bool y, .string ⟨t.toArray⟩, .slice a l.length c, .slice a' m.length c'] 28)) := (Below.refl _ _).alloc (Nat.le_refl _) _
  have hx1 := heap_alloc_new w (.cells #[.int .i64 5, .bool y, .string ⟨t.toArray⟩, .slice a l.length c, .slice a' m.length c'] 28)
  generalize w.alloc _ = w1 at *
  have HB1 := Lib.hid hb1
  have HX1 := Lib.hid hx1
  have hs1 : w.heap.size < w1.heap.size := (Array.getElem?_eq_some_iff.1 hx1).1
  have v0 : w1.cell? ⟨w.heap.size, 0, none⟩ = some (.int .i64 5) := by rw [Lib.cell_of_heap hx1]; rfl
  have v3 : w1.cell? ⟨w.heap.size, 3, none⟩ = some (.slice a l.length c) := by rw [Lib.cell_of_heap hx1]; rfl
  clear hb1 hx1
  go_wp2_with fail
  go_loopg [3, 14] l.length (fun k acc iv wr => ∃ j d : Nat, acc = .int .i64 (d : Int) ∧ iv = .int .i64 (j : Int) ∧ j + k = l.length ∧ d ≤ 1000000 ∧ Hid (d = depthL (l.take j)) ∧ Hid (Below w1.heap.size w1 wr))
  case atStart => exact ⟨0, 0, rfl, rfl, by omega, by omega, Lib.hid rfl, Lib.hid (Below.refl _ _)⟩
  case round =>
    obtain ⟨j, d, rfl, rfl, hj, hd, HDD, HB⟩ := hrel
    have HBW := Lib.hid (HB1.out.trans (HB.out.mono (Nat.le_of_lt hs1)))
    by_cases hlt : j < l.length
    · have hltI : (j : Int) < (l.length : Int) := by omega
      obtain ⟨br, off, k2, y2, t2, a2, l2, c2, a3, l3, c3, ea, hrep, i0, i1, i2, i3, i4⟩ := list_cells (H1.out.keep fun b hb _ => HBW.out.block b hb.2) (H2.out.keep fun b hb _ => HBW.out.block b hb.2) j hlt
      subst ea
      have HREP := Lib.hid hrep
      have HC := Lib.hid (HV.out l[j] (List.getElem_mem hlt))
      have HT := Lib.hid (depthL_take hlt)
      have hdx : depthJ l[j] ≤ 1000000 := by
        have h1 := depth_size l[j]
        have h2 := size_list (List.getElem_mem hlt)
        have := HSL.out
        omega
      generalize l[j] = x at *
      clear hrep v0 v3
      go_upto_region 6 with (fail)
      have hb4 : Below wr.heap.size wr (wr.alloc (.cells #[.int .i64 k2, .bool y2, .string ⟨t2⟩, .slice a2 l2 c2, .slice a3 l3 c3] 28)) := (Below.refl _ _).alloc (Nat.le_refl _) _
      have hx4 := heap_alloc_new wr (.cells #[.int .i64 k2, .bool y2, .string ⟨t2⟩, .slice a2 l2 c2, .slice a3 l3 c3] 28)
      generalize wr.alloc (.cells #[.int .i64 k2, .bool y2, .string ⟨t2⟩, .slice a2 l2 c2, .slice a3 l3 c3] 28) = w4 at *
      have HB4 := Lib.hid (HB.out.trans (hb4.mono HB.out.size))
      have HREP4 := Lib.hid (HREP.out.under hb4)
      have v0 : w4.cell? ⟨wr.heap.size, 0, none⟩ = some (.int .i64 k2) := by rw [Lib.cell_of_heap hx4]; rfl
      have v1 : w4.cell? ⟨wr.heap.size, 1, none⟩ = some (.bool y2) := by rw [Lib.cell_of_heap hx4]; rfl
      have v2 : w4.cell? ⟨wr.heap.size, 2, none⟩ = some (.string ⟨t2⟩) := by rw [Lib.cell_of_heap hx4]; rfl
      have v3 : w4.cell? ⟨wr.heap.size, 3, none⟩ = some (.slice a2 l2 c2) := by rw [Lib.cell_of_heap hx4]; rfl
      have v4 : w4.cell? ⟨wr.heap.size, 4, none⟩ = some (.slice a3 l3 c3) := by rw [Lib.cell_of_heap hx4]; rfl
      clear hb4 hx4 i0 i1 i2 i3 i4
      go_wp2_with fail
      refine (HC.out _ _ w4 HREP4.out).mono ?_
      rintro e w5 ⟨rfl, hb5⟩
      have HB5 := Lib.hid (HB4.out.trans (hb5.mono HB4.out.size))
      obtain ⟨dx, hdx2⟩ : ∃ dx, depthJ x = dx := ⟨_, rfl⟩
      rw [hdx2] at HT hdx ⊢
      clear hb5 hdx2 v0 v1 v2 v3 v4
      go_wp2_with fail
      go_roundg (gk - 1)
      case measure => omega
      case rel => exact ⟨j + 1, max d dx, by first | rfl | (congr 1; omega), by first | rfl | (congr 1), by omega, by omega, Lib.hid (by rw [HT.out, ← HDD.out]), HB5⟩
    · have hge : ¬ (j : Int) < (l.length : Int) := by omega
      have HE : Hid (depthL l = d) := Lib.hid (by rw [HDD.out, List.take_of_length_le (by omega)])
      have c0 : wr.cell? ⟨w.heap.size, 0, none⟩ = some (.int .i64 5) := by rw [Lib.cell_of_heap ((HB.out.block _ hs1).trans HX1.out)]; rfl
      clear v0 v3
      go_wp2_with fail
      refine bodyPost_ret (results_tmp rfl _ _ _) rfl ?_
      exact ⟨by rw [HD.out, HE.out]; first | rfl | (congr 1), HBW.out⟩
set_option maxRecDepth 100000 in
set_option maxHeartbeats 16000000 in
theorem jdepth_obj (y : Bool) (t : List UInt8) (l : List JV) (m : List (List UInt8 × JV)) (hv : ∀ x ∈ m, DepthC x.2) (hl : sizeM m ≤ 1000000) : DepthC (.mk 6 y t l m) := by
  intro ok cs w h
  obtain ⟨a, c, a', c', cl, cm, rfl, -, -, h1, h2, -⟩ := h.parts
  simp only [JV.kind, JV.yes, JV.text, JV.list, JV.mem, strV] at *
  have H1 := Lib.hid h1.lt
  have H2 := Lib.hid h2.lt
  have HV := Lib.hid hv
  have hll : m.length ≤ 1000000 := by have := lenM_size m; omega
  have HSL := Lib.hid hl
  have HD : Hid (depthJ (.mk 6 y t l m) = depthM m + 1) := Lib.hid (by rw [depthJ, if_neg (by decide), if_pos rfl])
  clear h h1 h2 hv hl
  go_enter Tryz.func12, Tryz.ntmps12
  go_upto_region 2 with (fail)
  have hb1 : Below w.heap.size w (w.alloc (.cells #[.int .i64 6, .bool y, .string ⟨t.toArray⟩, .slice a l.length c, .slice a' m.length c'] 28)) := (Below.refl _ _).alloc (Nat.le_refl _) _
  have hx1 := heap_alloc_new w (.cells #[.int .i64 6, .bool y, .string ⟨t.toArray⟩, .slice a l.length c, .slice a' m.length c'] 28)
  generalize w.alloc _ = w1 at *
  have HB1 := Lib.hid hb1
  have hs1 : w.heap.size < w1.heap.size := (Array.getElem?_eq_some_iff.1 hx1).1
  have v0 : w1.cell? ⟨w.heap.size, 0, none⟩ = some (.int .i64 6) := by rw [Lib.cell_of_heap hx1]; rfl
  have v4 : w1.cell? ⟨w.heap.size, 4, none⟩ = some (.slice a' m.length c') := by rw [Lib.cell_of_heap hx1]; rfl
  clear hb1 hx1
  go_wp2_with fail
  go_loopg [3, 29] m.length (fun k acc iv wr => ∃ j d : Nat, acc = .int .i64 (d : Int) ∧ iv = .int .i64 (j : Int) ∧ j + k = m.length ∧ d ≤ 1000000 ∧ Hid (d = depthM (m.take j)) ∧ Hid (Below w1.heap.size w1 wr))
  case atStart => exact ⟨0, 0, rfl, rfl, by omega, by omega, Lib.hid rfl, Lib.hid (Below.refl _ _)⟩
  case round =>
    obtain ⟨j, d, rfl, rfl, hj, hd, HDD, HB⟩ := hrel
    have HBW := Lib.hid (HB1.out.trans (HB.out.mono (Nat.le_of_lt hs1)))
    by_cases hlt : j < m.length
    · have hltI : (j : Int) < (m.length : Int) := by omega
      obtain ⟨br, off, k2, y2, t2, a2, l2, c2, a3, l3, c3, ea, hrep, i0, i1, i2, i3, i4, i5⟩ := mem_cells' (H1.out.keep fun b hb _ => HBW.out.block b hb.2) (H2.out.keep fun b hb _ => HBW.out.block b hb.2) j hlt
      subst ea
      have HREP := Lib.hid hrep
      have HC := Lib.hid (HV.out m[j] (List.getElem_mem hlt))
      have HT := Lib.hid (depthM_take hlt)
      have hdx : depthJ m[j].2 ≤ 1000000 := by
        have h1 := depth_size m[j].2
        have h2 := size_mem (List.getElem_mem hlt)
        have := HSL.out
        omega
      generalize m[j] = x at *
      obtain ⟨nm, x⟩ := x
      simp only at HREP HC HT hdx i0
      clear hrep v0 v4
      go_upto_region 12 with (fail)
      have hb4 : Below wr.heap.size wr (wr.alloc (.cells #[.string ⟨nm.toArray⟩, .int .i64 k2, .bool y2, .string ⟨t2⟩, .slice a2 l2 c2, .slice a3 l3 c3] 54)) := (Below.refl _ _).alloc (Nat.le_refl _) _
      have hx4 := heap_alloc_new wr (.cells #[.string ⟨nm.toArray⟩, .int .i64 k2, .bool y2, .string ⟨t2⟩, .slice a2 l2 c2, .slice a3 l3 c3] 54)
      generalize wr.alloc (.cells #[.string ⟨nm.toArray⟩, .int .i64 k2, .bool y2, .string ⟨t2⟩, .slice a2 l2 c2, .slice a3 l3 c3] 54) = w4 at *
      have HB4 := Lib.hid (HB.out.trans (hb4.mono HB.out.size))
      have HREP4 := Lib.hid (HREP.out.under hb4)
      have v0 : w4.cell? ⟨wr.heap.size, 1, none⟩ = some (.int .i64 k2) := by rw [Lib.cell_of_heap hx4]; rfl
      have v1 : w4.cell? ⟨wr.heap.size, 2, none⟩ = some (.bool y2) := by rw [Lib.cell_of_heap hx4]; rfl
      have v2 : w4.cell? ⟨wr.heap.size, 3, none⟩ = some (.string ⟨t2⟩) := by rw [Lib.cell_of_heap hx4]; rfl
      have v3 : w4.cell? ⟨wr.heap.size, 4, none⟩ = some (.slice a2 l2 c2) := by rw [Lib.cell_of_heap hx4]; rfl
      have v4 : w4.cell? ⟨wr.heap.size, 5, none⟩ = some (.slice a3 l3 c3) := by rw [Lib.cell_of_heap hx4]; rfl
      clear hb4 hx4 i0 i1 i2 i3 i4 i5
      go_wp2_with fail
      refine (HC.out _ _ w4 HREP4.out).mono ?_
      rintro e w5 ⟨rfl, hb5⟩
      have HB5 := Lib.hid (HB4.out.trans (hb5.mono HB4.out.size))
      obtain ⟨dx, hdx2⟩ : ∃ dx, depthJ x = dx := ⟨_, rfl⟩
      rw [hdx2] at HT hdx ⊢
      clear hb5 hdx2 v0 v1 v2 v3 v4
      go_wp2_with fail
      go_roundg (gk - 1)
      case measure => omega
      case rel => exact ⟨j + 1, max d dx, by first | rfl | (congr 1; omega), by first | rfl | (congr 1), by omega, by omega, Lib.hid (by rw [HT.out, ← HDD.out]), HB5⟩
    · have hge : ¬ (j : Int) < (m.length : Int) := by omega
      have HE : Hid (depthM m = d) := Lib.hid (by rw [HDD.out, List.take_of_length_le (by omega)])
      clear v0 v4
      go_wp2_with fail
      refine bodyPost_ret (results_tmp rfl _ _ _) rfl ?_
      exact ⟨by rw [HD.out, HE.out]; first | rfl | (congr 1), HBW.out⟩
theorem jdepth_size : ∀ (N : Nat) (v : JV), sizeJ v ≤ N → sizeJ v ≤ 1000000 → DepthC v := by
  intro N
  induction N with
  | zero => intro v h; have := size_pos v; omega
  | succ N ih =>
    intro v h hb
    obtain ⟨k, y, t, l, m⟩ := v
    have hs : sizeJ (.mk k y t l m) = 1 + t.length + sizeL l + sizeM m := by rw [sizeJ]
    by_cases h5 : k = 5
    · subst h5
      refine jdepth_arr y t l m (fun x hx => ?_) (by omega)
      have := size_list hx
      exact ih x (by omega) (by omega)
    by_cases h6 : k = 6
    · subst h6
      refine jdepth_obj y t l m (fun x hx => ?_) (by omega)
      have := size_mem hx
      exact ih x.2 (by omega) (by omega)
    exact jdepth_leaf k y t l m h5 h6
theorem jdepth (v : JV) (h : sizeJ v ≤ 1000000) : DepthC v := jdepth_size _ v (Nat.le_refl _) h
end Go.Proofs.YtgcfikiajingcaaGreat
/- json: write, of any value; depth. -/
set_option linter.unusedVariables false
namespace Go.Proofs.YtgcfikiajingcaaGreat
open Go.RowKit

theorem jwrite_any (b : Nat) : ∀ (N : Nat) (v : JV), SizeOf.sizeOf v ≤ N → WriteC b v := by
  intro N
  induction N with
  | zero =>
    intro v h
    obtain ⟨k, y, t, l, m⟩ := v
    simp at h
  | succ N ih =>
    intro v h
    obtain ⟨k, y, t, l, m⟩ := v
    have hs : SizeOf.sizeOf (JV.mk k y t l m) = 1 + SizeOf.sizeOf k + SizeOf.sizeOf y + SizeOf.sizeOf t + SizeOf.sizeOf l + SizeOf.sizeOf m := by simp
    by_cases h5 : k = 5
    · subst h5
      exact jwrite_arr b y t l m fun x hx => ih x (by have := sizeOf_list hx; omega)
    by_cases h6 : k = 6
    · subst h6
      exact jwrite_obj b y t l m fun x hx => ih x.2 (by have := sizeOf_mem hx; omega)
    exact jwrite_leaf b k y t l m h5 h6
theorem jwrite (b : Nat) (v : JV) : WriteC b v := jwrite_any b _ v (Nat.le_refl _)
end Go.Proofs.YtgcfikiajingcaaGreat
/- json: Print. -/
set_option linter.unusedVariables false
namespace Go.Proofs.YtgcfikiajingcaaGreat
open Go.RowKit

set_option maxRecDepth 100000 in
set_option maxHeartbeats 16000000 in
theorem jprint_any (v : JV) (hv : RightC v) (ok : Nat → Prop) (cs : List Value) (w : World) (h : Rep ok w cs v) (hl : (plainJ v).length ≤ 100000) :
    Calls Tryz.prog 9 #[.agg cs.toArray] w fun e w' => e = .returned (.tuple #[.string ⟨(if rightJ v then plainJ v else []).toArray⟩, .int .i64 (if rightJ v then 0 else 10)]) ∧ Below w.heap.size w w' := by
  obtain ⟨a, c, a', c', cl, cm, rfl, -⟩ := h.parts
  unfold strV at *
  have HR0 := Lib.hid h.lt
  have HV := Lib.hid hv
  clear h hv
  go_enter Tryz.func9, Tryz.ntmps9
  go_upto_region 1 with (fail)
  have hb1 : Below w.heap.size w (w.alloc (.cells #[.int .i64 v.kind, .bool v.yes, .string ⟨v.text.toArray⟩, .slice a v.list.length c, .slice a' v.mem.length c'] 28)) := (Below.refl _ _).alloc (Nat.le_refl _) _
  have hx1 := heap_alloc_new w (.cells #[.int .i64 v.kind, .bool v.yes, .string ⟨v.text.toArray⟩, .slice a v.list.length c, .slice a' v.mem.length c'] 28)
  generalize w.alloc _ = w1 at *
  have HB1 := Lib.hid hb1
  have HX1 := Lib.hid hx1
  have hs1 : w.heap.size < w1.heap.size := (Array.getElem?_eq_some_iff.1 hx1).1
  have HR1 := Lib.hid (HR0.out.under hb1)
  have v0 : w1.cell? ⟨w.heap.size, 0, none⟩ = some (.int .i64 v.kind) := by rw [Lib.cell_of_heap hx1]; rfl
  have v1 : w1.cell? ⟨w.heap.size, 1, none⟩ = some (.bool v.yes) := by rw [Lib.cell_of_heap hx1]; rfl
  have v2 : w1.cell? ⟨w.heap.size, 2, none⟩ = some (.string ⟨v.text.toArray⟩) := by rw [Lib.cell_of_heap hx1]; rfl
  have v3 : w1.cell? ⟨w.heap.size, 3, none⟩ = some (.slice a v.list.length c) := by rw [Lib.cell_of_heap hx1]; rfl
  have v4 : w1.cell? ⟨w.heap.size, 4, none⟩ = some (.slice a' v.mem.length c') := by rw [Lib.cell_of_heap hx1]; rfl
  clear hb1 hx1 HR0
  go_wp2_with fail
  refine (HV.out _ _ w1 HR1.out).mono ?_
  rintro e w2 ⟨rfl, hb2⟩
  have HB2 := Lib.hid (HB1.out.trans (hb2.mono HB1.out.size))
  have HX2 := Lib.hid ((hb2.block _ hs1).trans HX1.out)
  have hs2 : w.heap.size < w2.heap.size := Nat.lt_of_lt_of_le hs1 hb2.size
  have HR2 := Lib.hid (HR1.out.under hb2)
  clear hb2 v0 v1 v2 v3 v4 HR1 HX1 HB1
  cases hr : rightJ v with
  | false =>
    go_wp2_with fail
    all_goals (refine bodyPost_ret (v := .tuple #[.string ⟨#[]⟩, .int .i64 10]) (by simp [results, Tryz.results9, go_sem]) rfl ?_; exact ⟨rfl, HB2.out⟩)
  | true =>
    go_upto_region 4 with (fail)
    have HBN := Lib.hid (BldZ.fresh w2)
    have hb3 : Below w2.heap.size w2 (w2.alloc (.cells #[.pointer none, .slice none 0 0] 59 (0, 0))) := (Below.refl _ _).alloc (Nat.le_refl _) _
    generalize w2.alloc _ = w3 at *
    have HX3 := Lib.hid ((hb3.block _ hs2).trans HX2.out)
    have HB3 := Lib.hid (HB2.out.trans (hb3.mono HB2.out.size))
    have HR3 := Lib.hid ((HR2.out.under hb3).mono fun k hk => (show k < w2.heap.size by have := hk.2; omega))
    have v0 : w3.cell? ⟨w.heap.size, 0, none⟩ = some (.int .i64 v.kind) := by rw [Lib.cell_of_heap HX3.out]; rfl
    have v1 : w3.cell? ⟨w.heap.size, 1, none⟩ = some (.bool v.yes) := by rw [Lib.cell_of_heap HX3.out]; rfl
    have v2 : w3.cell? ⟨w.heap.size, 2, none⟩ = some (.string ⟨v.text.toArray⟩) := by rw [Lib.cell_of_heap HX3.out]; rfl
    have v3 : w3.cell? ⟨w.heap.size, 3, none⟩ = some (.slice a v.list.length c) := by rw [Lib.cell_of_heap HX3.out]; rfl
    have v4 : w3.cell? ⟨w.heap.size, 4, none⟩ = some (.slice a' v.mem.length c') := by rw [Lib.cell_of_heap HX3.out]; rfl
    clear hb3
    go_wp2_with fail
    refine (jwrite w2.heap.size v _ [] w3 HR3.out HBN.out (by simpa using hl)).mono ?_
    rintro e w4 ⟨rfl, hb4, hf4⟩
    have HB4 := Lib.hid hb4
    have HF4 := Lib.hid (HB3.out.trans (hf4.below.mono (Nat.le_of_lt hs2)))
    clear hb4 hf4
    go_wp2_with fail
    refine (BString_any w2.heap.size _ w4 HB4.out.bld).mono ?_
    rintro e w5 ⟨rfl, _, hb5, _⟩
    have HB5 := Lib.hid (HF4.out.trans (hb5.mono (Nat.le_of_lt hs2)))
    clear hb5
    go_wp2_with fail
    refine bodyPost_ret (v := .tuple #[.string ⟨(plainJ v).toArray⟩, .int .i64 0]) (by simp [results, Tryz.results9, go_sem]) rfl ?_
    exact ⟨rfl, HB5.out⟩
end Go.Proofs.YtgcfikiajingcaaGreat
/- The anchor of klaxonlaw06. -/
set_option linter.unusedVariables false
namespace Go.Proofs.YtgcfikiajingcaaGreat
open Go.RowKit

def ancB : List UInt8 := [123, 32, 34, 97, 34, 32, 58, 32, 91, 49, 44, 32, 45, 48, 46, 53, 101, 51, 44, 32, 34, 92, 117, 48, 48, 101, 57, 92, 110, 34, 93, 32, 125]
def ancC : Array Value := (Lib.byteCells ancB).toArray
def ancV : JV := jobj [([97], jarr [jnum [49], jnum [45, 48, 46, 53, 101, 51], jstr [195, 169, 10]])]
set_option maxRecDepth 100000 in
theorem anc_parse : parseL ancB 3 = (ancV, 0) := by kernel_rfl
theorem anc_right : rightJ ancV = true := by decide +kernel
theorem anc_plain : plainJ ancV = [123, 34, 97, 34, 58, 91, 49, 44, 45, 48, 46, 53, 101, 51, 44, 34, 195, 169, 92, 110, 34, 93, 125] := by decide +kernel
theorem anc_depth : depthJ ancV = 3 := by decide +kernel
theorem anc_size : sizeJ ancV ≤ 1000 := by decide +kernel
set_option maxRecDepth 100000 in
set_option maxHeartbeats 16000000 in
theorem anchor06_any (w : World) : Calls Tryz.prog 7 #[] w fun e w' => e = .returned (.bool true) ∧ Below w.heap.size w w' := by
  have kc := fun (w : World) (C : Array Value) (n c : Nat) => Lib.run_convert_bytes_const (P := Tryz.prog) w 39 5 C n c Tryz.underlying39 Tryz.underlying5
  go_enter Tryz.func7, Tryz.ntmps7
  go_wp2_with fail
  generalize hw1 : w.alloc _ = w1
  have hA : Rd w1 (some ⟨w.heap.size, 0, none⟩) ancB := by rw [← hw1]; exact Rd.of_lit (T := 5) (fr := (33, 34)) _ (by rw [heap_alloc_new]; rfl)
  have HB1 : Hid (Below w.heap.size w w1) := Lib.hid (by rw [← hw1]; exact (Below.refl _ _).alloc (Nat.le_refl _) _)
  clear kc hw1
  refine (parse_any ancB (some ⟨w.heap.size, 0, none⟩) 33 3 w1 hA (by decide)).mono ?_
  rw [anc_parse]
  rintro e w2 ⟨hb2, cs, A, rfl, hrep⟩
  have HB2 := Lib.hid (HB1.out.trans (hb2.mono HB1.out.size))
  have HR2 := Lib.hid hrep
  obtain ⟨a, c, a', c', cl, cm, rfl, -⟩ := hrep.parts
  unfold strV at *
  clear hb2 hrep hA HB1
  generalize ancV.text = tx at *
  generalize ancV.kind = kx at *
  generalize ancV.yes = yx at *
  generalize ancV.list.length = lx at *
  generalize ancV.mem.length = mx at *
  go_upto_region 2 with (fail)
  generalize hw3 : w2.alloc _ = w3
  have hb3 : Below w2.heap.size w2 w3 := by rw [← hw3]; exact (Below.refl _ _).alloc (Nat.le_refl _) _
  have hx3 : w3.heap[w2.heap.size]? = some (.cells #[.int .i64 kx, .bool yx, .string ⟨tx.toArray⟩, .slice a lx c, .slice a' mx c'] 28 (0, 0)) := by rw [← hw3]; exact heap_alloc_new _ _
  have HB3 := Lib.hid (HB2.out.trans (hb3.mono HB2.out.size))
  have HR3 := Lib.hid (HR2.out.under hb3)
  have HX3 := Lib.hid hx3
  have hs3 : w2.heap.size < w3.heap.size := (Array.getElem?_eq_some_iff.1 hx3).1
  have v0 : w3.cell? ⟨w2.heap.size, 0, none⟩ = some (.int .i64 kx) := by rw [Lib.cell_of_heap hx3]; rfl
  have v1 : w3.cell? ⟨w2.heap.size, 1, none⟩ = some (.bool yx) := by rw [Lib.cell_of_heap hx3]; rfl
  have v2 : w3.cell? ⟨w2.heap.size, 2, none⟩ = some (.string ⟨tx.toArray⟩) := by rw [Lib.cell_of_heap hx3]; rfl
  have v3 : w3.cell? ⟨w2.heap.size, 3, none⟩ = some (.slice a lx c) := by rw [Lib.cell_of_heap hx3]; rfl
  have v4 : w3.cell? ⟨w2.heap.size, 4, none⟩ = some (.slice a' mx c') := by rw [Lib.cell_of_heap hx3]; rfl
  clear hw3 hb3 hx3 HR2 HB2
  go_wp2_with fail
  refine (jprint_any ancV (jright ancV (Nat.le_trans anc_size (by decide))) _ [.int .i64 kx, .bool yx, .string ⟨tx.toArray⟩, .slice a lx c, .slice a' mx c'] w3 HR3.out (by rw [anc_plain]; decide)).mono ?_
  rw [anc_right, anc_plain]
  rintro e w4 ⟨rfl, hb4⟩
  have HB4 := Lib.hid (HB3.out.trans (hb4.mono HB3.out.size))
  have HR4 := Lib.hid (HR3.out.under hb4)
  have hx4 := (hb4.block _ hs3).trans HX3.out
  have u0 : w4.cell? ⟨w2.heap.size, 0, none⟩ = some (.int .i64 kx) := by rw [Lib.cell_of_heap hx4]; rfl
  have u1 : w4.cell? ⟨w2.heap.size, 1, none⟩ = some (.bool yx) := by rw [Lib.cell_of_heap hx4]; rfl
  have u2 : w4.cell? ⟨w2.heap.size, 2, none⟩ = some (.string ⟨tx.toArray⟩) := by rw [Lib.cell_of_heap hx4]; rfl
  have u3 : w4.cell? ⟨w2.heap.size, 3, none⟩ = some (.slice a lx c) := by rw [Lib.cell_of_heap hx4]; rfl
  have u4 : w4.cell? ⟨w2.heap.size, 4, none⟩ = some (.slice a' mx c') := by rw [Lib.cell_of_heap hx4]; rfl
  clear hb4 hx4 v0 v1 v2 v3 v4 HX3 HR3 HB3 hs3
  go_wp2_with fail
  refine (jdepth ancV (Nat.le_trans anc_size (by decide)) _ _ w4 HR4.out).mono ?_
  rw [anc_depth]
  rintro e w5 ⟨rfl, hb5⟩
  have HB5 := Lib.hid (HB4.out.trans (hb5.mono HB4.out.size))
  clear hb5 u0 u1 u2 u3 u4
  go_wp2_with fail
  refine bodyPost_ret (results_tmp rfl _ _ _) rfl ?_
  exact ⟨rfl, HB5.out⟩
end Go.Proofs.YtgcfikiajingcaaGreat
/- json: Same. -/
set_option linter.unusedVariables false
namespace Go.Proofs.YtgcfikiajingcaaGreat
open Go.RowKit

def sameJ (v u : JV) : Bool := rightJ v && (rightJ u && (plainJ v == plainJ u))
theorem same_self {v : JV} (h : rightJ v = true) : sameJ v v = true := by simp [sameJ, h]
set_option maxRecDepth 100000 in
set_option maxHeartbeats 16000000 in
theorem jsame_any (v u : JV) (ok ok' : Nat → Prop) (cs cs' : List Value) (w : World) (h : Rep ok w cs v) (h' : Rep ok' w cs' u) (hv : sizeJ v ≤ 12000) (hu : sizeJ u ≤ 12000) :
    Calls Tryz.prog 15 #[.agg cs.toArray, .agg cs'.toArray] w fun e w' => e = .returned (.bool (sameJ v u)) ∧ Below w.heap.size w w' := by
  have hpv := plain_size v
  have hpu := plain_size u
  have HR := Lib.hid h.lt
  have HR' := Lib.hid h'.lt
  obtain ⟨a, c, a', c', cl, cm, rfl, -⟩ := h.parts
  obtain ⟨xa, xc, xa', xc', xcl, xcm, rfl, -⟩ := h'.parts
  unfold strV at *
  have HP : Hid (∀ w1, Rep (fun b => ok b ∧ b < w.heap.size) w1 [.int .i64 v.kind, .bool v.yes, .string ⟨v.text.toArray⟩, .slice a v.list.length c, .slice a' v.mem.length c'] v → _) := Lib.hid fun w1 h1 => jprint_any v (jright v (by omega)) _ _ w1 h1 (by omega)
  have HP' : Hid (∀ w1, Rep (fun b => ok' b ∧ b < w.heap.size) w1 [.int .i64 u.kind, .bool u.yes, .string ⟨u.text.toArray⟩, .slice xa u.list.length xc, .slice xa' u.mem.length xc'] u → _) := Lib.hid fun w1 h1 => jprint_any u (jright u (by omega)) _ _ w1 h1 (by omega)
  have HSM : Hid (sameJ v u = (rightJ v && (rightJ u && ((if rightJ v then plainJ v else []) == (if rightJ u then plainJ u else []))))) := Lib.hid (by
    unfold sameJ
    cases rightJ v <;> cases rightJ u <;> rfl)
  clear h h' hpv hpu
  generalize sameJ v u = SM at *
  generalize v.kind = k1 at *
  generalize v.yes = y1 at *
  generalize v.text = t1 at *
  generalize v.list.length = l1 at *
  generalize v.mem.length = m1 at *
  generalize u.kind = k2 at *
  generalize u.yes = y2 at *
  generalize u.text = t2 at *
  generalize u.list.length = l2 at *
  generalize u.mem.length = m2 at *
  generalize hPV : (if rightJ v then plainJ v else []) = PV at *
  generalize hPU : (if rightJ u then plainJ u else []) = PU at *
  go_enter Tryz.func15, Tryz.ntmps15
  go_upto_region 1 with (fail)
  generalize hw1 : (w.alloc _).alloc _ = w1
  have hb1 : Below w.heap.size w w1 := by rw [← hw1]; exact ((Below.refl _ _).alloc (Nat.le_refl _) _).alloc (by simp) _
  have hx1 : w1.heap[w.heap.size]? = some (.cells #[.int .i64 k1, .bool y1, .string ⟨t1.toArray⟩, .slice a l1 c, .slice a' m1 c'] 28 (0, 0)) := by rw [← hw1]; exact block_alloc (heap_alloc_new w _) _
  have hx2 : w1.heap[w.heap.size + 1]? = some (.cells #[.int .i64 k2, .bool y2, .string ⟨t2.toArray⟩, .slice xa l2 xc, .slice xa' m2 xc'] 28 (0, 0)) := by
    rw [← hw1]
    have e : w.heap.size + 1 = (w.alloc (.cells #[.int .i64 k1, .bool y1, .string ⟨t1.toArray⟩, .slice a l1 c, .slice a' m1 c'] 28)).heap.size := by simp
    rw [e]
    exact heap_alloc_new _ _
  have HB1 := Lib.hid hb1
  have HX1 := Lib.hid hx1
  have HX2 := Lib.hid hx2
  have hs1 : w.heap.size + 1 < w1.heap.size := (Array.getElem?_eq_some_iff.1 hx2).1
  have v0 : w1.cell? ⟨w.heap.size, 0, none⟩ = some (.int .i64 k1) := by rw [Lib.cell_of_heap hx1]; rfl
  have v1 : w1.cell? ⟨w.heap.size, 1, none⟩ = some (.bool y1) := by rw [Lib.cell_of_heap hx1]; rfl
  have v2 : w1.cell? ⟨w.heap.size, 2, none⟩ = some (.string ⟨t1.toArray⟩) := by rw [Lib.cell_of_heap hx1]; rfl
  have v3 : w1.cell? ⟨w.heap.size, 3, none⟩ = some (.slice a l1 c) := by rw [Lib.cell_of_heap hx1]; rfl
  have v4 : w1.cell? ⟨w.heap.size, 4, none⟩ = some (.slice a' m1 c') := by rw [Lib.cell_of_heap hx1]; rfl
  clear hw1 hb1 hx1 hx2
  go_wp2_with fail
  refine (HP.out w1 (HR.out.keep fun b hb _ => HB1.out.block b hb.2)).mono ?_
  rintro e w2 ⟨rfl, hb2⟩
  have HB2 := Lib.hid (HB1.out.trans (hb2.mono HB1.out.size))
  have hx2 := (hb2.block _ hs1).trans HX2.out
  have u0 : w2.cell? ⟨w.heap.size + 1, 0, none⟩ = some (.int .i64 k2) := by rw [Lib.cell_of_heap hx2]; rfl
  have u1 : w2.cell? ⟨w.heap.size + 1, 1, none⟩ = some (.bool y2) := by rw [Lib.cell_of_heap hx2]; rfl
  have u2 : w2.cell? ⟨w.heap.size + 1, 2, none⟩ = some (.string ⟨t2.toArray⟩) := by rw [Lib.cell_of_heap hx2]; rfl
  have u3 : w2.cell? ⟨w.heap.size + 1, 3, none⟩ = some (.slice xa l2 xc) := by rw [Lib.cell_of_heap hx2]; rfl
  have u4 : w2.cell? ⟨w.heap.size + 1, 4, none⟩ = some (.slice xa' m2 xc') := by rw [Lib.cell_of_heap hx2]; rfl
  clear hb2 hx2 v0 v1 v2 v3 v4
  generalize rightJ v = r1 at *
  cases r1 <;>
  · go_wp2_with fail
    refine (HP'.out w2 (HR'.out.keep fun b hb _ => HB2.out.block b hb.2)).mono ?_
    rintro e w3 ⟨rfl, hb3⟩
    have HB3 := Lib.hid (HB2.out.trans (hb3.mono HB2.out.size))
    clear hb3 u0 u1 u2 u3 u4
    generalize rightJ u = r2 at *
    cases r2 <;>
    · go_wp2_with fail
      refine bodyPost_ret (results_tmp rfl _ _ _) rfl ?_
      exact ⟨by rw [HSM.out]; simp, HB3.out⟩
end Go.Proofs.YtgcfikiajingcaaGreat
/- A value in a row, the last one open. Plain; its rows in memory. -/
set_option linter.unusedVariables false
namespace Go.Proofs.YtgcfikiajingcaaGreat
open Go.RowKit

structure ND where
  kind : Int
  kids : Int
  yes : Bool
  text : List UInt8
  name : List UInt8
def kidsN (kids : Int) (len : Nat) : Nat := (min (min (max kids 0) (len : Int)) 6).toNat
def cutN (x : ND) (o : Nat) : Nat := if x.kind = 5 ∨ x.kind = 6 then kidsN x.kids o else 0
theorem kidsN_le (k : Int) (o : Nat) : kidsN k o ≤ o ∧ kidsN k o ≤ 6 := by unfold kidsN; omega
theorem cutN_le (x : ND) (o : Nat) : cutN x o ≤ o ∧ cutN x o ≤ 6 := by
  unfold cutN
  split
  · exact kidsN_le _ _
  · omega
/-- A node's value, of those that stand open. -/
def nodeJ (x : ND) (ks : List (List UInt8 × JV)) : JV := .mk x.kind x.yes x.text (if x.kind = 5 then ks.map Prod.snd else []) (if x.kind = 5 then [] else ks)
def treeStep (o : List (List UInt8 × JV)) (x : ND) : List (List UInt8 × JV) :=
  o.take (o.length - cutN x o.length) ++ [(x.name, nodeJ x (o.drop (o.length - cutN x o.length)))]
def treeOpen (l : List ND) : List (List UInt8 × JV) := l.foldl treeStep []
def shortN (x : ND) : Bool := decide (x.text.length ≤ 100) && decide (x.name.length ≤ 60)
/-- Tree.Value: the value; none: there is none, or it is too great. -/
def treeV (l : List ND) : Option JV := if l.length ≤ 40 ∧ l.all shortN = true then (treeOpen l).getLast?.map Prod.snd else none
theorem sizeM_app : ∀ (a b : List (List UInt8 × JV)), sizeM (a ++ b) = sizeM a + sizeM b
  | [], b => by simp [sizeM]
  | (n, v) :: a, b => by
    have := sizeM_app a b
    simp only [List.cons_append, sizeM, this]
    omega
theorem sizeL_snd : ∀ (a : List (List UInt8 × JV)), sizeL (a.map Prod.snd) ≤ sizeM a
  | [] => by simp [sizeL]
  | (n, v) :: a => by
    have := sizeL_snd a
    simp only [List.map_cons, sizeL, sizeM]
    omega
theorem size_node (x : ND) (ks : List (List UInt8 × JV)) : sizeJ (nodeJ x ks) ≤ 1 + x.text.length + sizeM ks := by
  have := sizeL_snd ks
  unfold nodeJ
  rw [sizeJ]
  split
  · simp only [sizeM]; omega
  · simp only [sizeL]; omega
theorem size_step (o : List (List UInt8 × JV)) (x : ND) (h : shortN x = true) : sizeM (treeStep o x) ≤ sizeM o + 162 := by
  unfold shortN at h
  simp only [Bool.and_eq_true, decide_eq_true_eq] at h
  have h1 := size_node x (o.drop (o.length - cutN x o.length))
  have h2 := sizeM_app (o.take (o.length - cutN x o.length)) (o.drop (o.length - cutN x o.length))
  rw [List.take_append_drop] at h2
  unfold treeStep
  rw [sizeM_app]
  simp only [sizeM]
  omega
theorem size_fold : ∀ (l : List ND) (o : List (List UInt8 × JV)), l.all shortN = true → sizeM (l.foldl treeStep o) ≤ sizeM o + 162 * l.length
  | [], o, _ => by simp
  | x :: l, o, h => by
    simp only [List.all_cons, Bool.and_eq_true] at h
    have h1 := size_step o x h.1
    have h2 := size_fold l (treeStep o x) h.2
    simp only [List.foldl_cons, List.length_cons]
    omega
/-- A tree's value isn't great. -/
theorem tree_size {l : List ND} {v : JV} (h : treeV l = some v) : sizeJ v ≤ 6500 := by
  unfold treeV at h
  split at h
  · rename_i hc
    have h1 := size_fold l [] hc.2
    simp only [sizeM] at h1
    cases hg : (treeOpen l).getLast? with
    | none => rw [hg] at h; cases h
    | some p =>
      rw [hg] at h
      simp only [Option.map_some, Option.some.injEq] at h
      subst h
      have h2 := size_mem (List.mem_of_getLast? hg)
      unfold treeOpen at h2
      omega
  · cases h
theorem step_len (o : List (List UInt8 × JV)) (x : ND) : (treeStep o x).length ≤ o.length + 1 := by
  unfold treeStep
  simp only [List.length_append, List.length_take, List.length_cons, List.length_nil]
  omega
theorem open_take {l : List ND} {j : Nat} (h : j < l.length) : treeOpen (l.take (j + 1)) = treeStep (treeOpen (l.take j)) l[j] := by
  unfold treeOpen
  rw [List.take_succ_eq_append_getElem h, List.foldl_append]
  rfl
/-- A node's cells. -/
def ndCell (x : ND) : List Value := [.int .i64 x.kind, .int .i64 x.kids, .bool x.yes, strV x.text, strV x.name]
theorem memCells_take : ∀ (m : List (List UInt8 × JV)) (cm : List (List Value)) (k : Nat), cm.length = m.length → (∀ r ∈ cm, r.length = 5) → memCells (m.take k) (cm.take k) = (memCells m cm).take (k * 6)
  | m, cm, 0, h, _ => by cases m <;> cases cm <;> simp [memCells]
  | [], cm, k + 1, h, _ => by
    have : cm = [] := List.eq_nil_of_length_eq_zero h
    subst this
    simp [memCells]
  | p :: m, [], k + 1, h, _ => by simp at h
  | p :: m, r :: cm, k + 1, h, h5 => by
    have hr := h5 r (by simp)
    have ih := memCells_take m cm k (by simpa using h) (fun x hx => h5 x (by simp [hx]))
    simp only [List.take_succ_cons, memCells]
    rw [ih, show (k + 1) * 6 = (k * 6 + 5) + 1 by omega, List.take_succ_cons, List.take_append, List.take_of_length_le (l := r) (by omega), hr, show k * 6 + 5 - 5 = k * 6 by omega]
theorem reps_rows {ok : Nat → Prop} {w : World} {cm : List (List Value)} {m : List (List UInt8 × JV)} (h : RepsM ok w cm m) : ∀ r ∈ cm, r.length = 5 := by
  intro r hr
  obtain ⟨i, hi, rfl⟩ := List.mem_iff_getElem.1 hr
  exact (h.2 i hi (by rw [← h.1]; exact hi)).len
theorem RepsM.take {ok : Nat → Prop} {w : World} {cm : List (List Value)} {m : List (List UInt8 × JV)} (h : RepsM ok w cm m) (k : Nat) : RepsM ok w (cm.take k) (m.take k) := by
  refine ⟨by simp [h.1], fun i hi hj => ?_⟩
  simp only [List.length_take] at hi hj
  have := h.2 i (by omega) (by omega)
  simpa using this
theorem RepsM.drop {ok : Nat → Prop} {w : World} {cm : List (List Value)} {m : List (List UInt8 × JV)} (h : RepsM ok w cm m) (k : Nat) : RepsM ok w (cm.drop k) (m.drop k) := by
  refine ⟨by simp [h.1], fun i hi hj => ?_⟩
  simp only [List.length_drop] at hi hj
  have := h.2 (k + i) (by omega) (by omega)
  simpa using this
theorem RepsM.snd {ok : Nat → Prop} {w : World} {cm : List (List Value)} {m : List (List UInt8 × JV)} (h : RepsM ok w cm m) : Reps ok w cm (m.map Prod.snd) := by
  refine ⟨by simp [h.1], fun i hi hj => ?_⟩
  have := h.2 i hi (by simpa using hj)
  simpa using this
theorem own_cut {B : Nat} {E : TypeId} {sz : Nat} {w : World} {a : Option Addr} {n c : Nat} {xs : List Value} (h : w.ownsRow B E sz (.slice a n c) n xs) (k : Nat) (hk : k ≤ n) : w.ownsRow B E sz (.slice a k c) k (xs.take (k * sz)) := by
  have hmul : k * sz ≤ n * sz := Nat.mul_le_mul_right _ hk
  refine ⟨by rw [List.length_take, h.1]; omega, ?_⟩
  rcases h.2 with ⟨h1, h2⟩ | ⟨g, cap, cur, h1, hB, hg, h3, h4, h5, h6⟩
  · simp only [Value.slice.injEq] at h1
    obtain ⟨rfl, rfl, rfl⟩ := h1
    exact .inl ⟨by rw [show k = 0 by omega], by omega⟩
  · simp only [Value.slice.injEq, true_and] at h1
    obtain ⟨rfl, rfl⟩ := h1
    refine .inr ⟨g, c, cur, rfl, hB, hg, by omega, h4, h5, ?_⟩
    rw [← h6, List.take_take, Nat.min_eq_left hmul]
theorem wpList_append_at {ops : Array Oper} {rest : List Oper} {o : Oper} {a : Act} {w : World} {Q : Exit → Act → World → Prop} (hgd : o.guard = none) (s x : Operand) (t : TypeId)
    (ho : o.op = .call { callee := .builtin .append, args := #[s, x], argTypes := #[t, t] })
    (base : Nat) (e : TypeId) (size bytes : Nat) (ht : Tryz.prog.underlying t = some (.slice e)) (hinfo : ((Tryz.prog.info? e).bind fun i => i.zero.map fun z => (i.size, i.bytes, z.cells.size)) = some (size, bytes, size)) (hsz : 0 < size)
    (v : Value) (n : Nat) (xs : List Value) (hs : a.eval s = v) (hown : w.ownsRow base e size v n xs)
    (g c : Nat) (cs : Array Value) (T : TypeId) (fr : Nat × Nat) (hg : w.heap[g]? = some (.cells cs T fr)) (hx : a.eval x = .slice (some ⟨g, 0, none⟩) 1 c) (hl : cs.size = size) (h1 : ∀ u ∈ cs.toList, u.oneCell' = true)
    (hbytes : (n + 1) * bytes ≤ 140737488355328) (hn : n ≤ 140737488355328) (hbase : base ≤ w.heap.size)
    (h : ∀ v' w', w'.ownsRow base e size v' (n + 1) (xs ++ cs.toList) → w.grownBy w' v.ownBlock → (v'.ownBlock = v.ownBlock ∨ v'.ownBlock = some w.heap.size) → wpList Tryz.prog ops Q rest (a.put o.dst v') w') : wpList Tryz.prog ops Q (o :: rest) a w := by
  refine wpList_plain hgd fun K hK' => ?_
  refine op_append s x t ho base e size bytes ht hinfo hsz v n xs hs hown ⟨g, 0, none⟩ 1 c cs.toList hx (by simpa using hl) (fun j u hu => ?_) h1 (by unfold maxLen; omega) hbytes hbase fun v' w' h2 h3 h5 => hK' _ _ (h v' w' h2 h3 h5)
  rw [Addr.add_lit, Nat.zero_add, Lib.cell_of_heap hg, ← Array.getElem?_toList]
  exact hu
end Go.Proofs.YtgcfikiajingcaaGreat
/- A parameter that is a row of nodes, opened. -/
set_option linter.unusedVariables false
namespace Go.Proofs.YtgcfikiajingcaaGreat
open Go.RowKit

section
variable {H : Type} {enc : TypeId × Value → H} {w : World} {base : Nat} {spare : Nat → Bool} {held : Bool}
theorem cellsNode : Tryz.prog.cellsOf 56 = 5 := by kernel_rfl
theorem cellsStrN : Tryz.prog.cellsOf 9 = 1 := by kernel_rfl
theorem cellsIntN : Tryz.prog.cellsOf 3 = 1 := by kernel_rfl
theorem cellsBoolN : Tryz.prog.cellsOf 4 = 1 := by kernel_rfl
theorem ndCell_len (x : ND) : (ndCell x).length = 5 := rfl
set_option maxRecDepth 100000 in
/-- One node. -/
theorem open_node {fuel : Nat} {cs : List Value} {x : DataW H × List MemPlace} (h : DataW.trod enc Tryz.prog w base spare held fuel 56 cs = some x) :
    ∃ p : ND, cs = ndCell p := by
  obtain ⟨ys, n, _, _, hlen, _, hf⟩ := DataW.trod_struct Tryz.underlying56 h
  rw [cellsNode] at hlen
  match cs, hlen with
  | [c0, c1, c2, c3, c4], _ =>
    have f0 : DataW.trod enc Tryz.prog w base spare held n 3 (([c0, c1, c2, c3, c4].drop 0).take (Tryz.prog.cellsOf 3)) = ys[0]? := hf 0 _ rfl
    have f1 : DataW.trod enc Tryz.prog w base spare held n 3 (([c0, c1, c2, c3, c4].drop 1).take (Tryz.prog.cellsOf 3)) = ys[1]? := hf 1 _ rfl
    have f2 : DataW.trod enc Tryz.prog w base spare held n 4 (([c0, c1, c2, c3, c4].drop 2).take (Tryz.prog.cellsOf 4)) = ys[2]? := hf 2 _ rfl
    have f3 : DataW.trod enc Tryz.prog w base spare held n 9 (([c0, c1, c2, c3, c4].drop 3).take (Tryz.prog.cellsOf 9)) = ys[3]? := hf 3 _ rfl
    have f4 : DataW.trod enc Tryz.prog w base spare held n 9 (([c0, c1, c2, c3, c4].drop 4).take (Tryz.prog.cellsOf 9)) = ys[4]? := hf 4 _ rfl
    rw [cellsIntN] at f0 f1
    rw [cellsBoolN] at f2
    rw [cellsStrN] at f3 f4
    have g : ∀ i, i < 5 → ∃ y, ys[i]? = some y := by
      intro i hi
      cases e : ys[i]? with
      | some y => exact ⟨y, rfl⟩
      | none => exfalso; simp at e; simp_all; omega
    obtain ⟨y0, e0⟩ := g 0 (by omega)
    obtain ⟨y1, e1⟩ := g 1 (by omega)
    obtain ⟨y2, e2⟩ := g 2 (by omega)
    obtain ⟨y3, e3⟩ := g 3 (by omega)
    obtain ⟨y4, e4⟩ := g 4 (by omega)
    rw [e0] at f0
    rw [e1] at f1
    rw [e2] at f2
    rw [e3] at f3
    rw [e4] at f4
    obtain ⟨x0, h0, _, _⟩ := DataW.trod_int Tryz.underlying3 f0
    obtain ⟨x1, h1, _, _⟩ := DataW.trod_int Tryz.underlying3 f1
    obtain ⟨x2, h2, _⟩ := DataW.trod_bool Tryz.underlying4 f2
    obtain ⟨s3, h3, _, _⟩ := DataW.trod_string Tryz.underlying9 f3
    obtain ⟨s4, h4, _, _⟩ := DataW.trod_string Tryz.underlying9 f4
    simp at h0 h1 h2 h3 h4
    subst h0 h1 h2 h3 h4
    exact ⟨⟨x0, x1, x2, s3.data.toList, s4.data.toList⟩, rfl⟩
set_option maxRecDepth 100000 in
/-- A row of nodes. -/
theorem open_nodes {fuel : Nat} {a : Option Addr} {len cap : Nat} {x : DataW H × List MemPlace} (h : DataW.trod enc Tryz.prog w base spare held fuel 23 [.slice a len cap] = some x) :
    ∃ l : List ND, len = l.length ∧ RdC w a (l.flatMap ndCell) ∧ l.length ≤ maxLen := by
  rcases Go.Deep.open_slice Tryz.underlying23 h with ⟨h0, _⟩ | ⟨ad, len', cap', m, n, D, Pl, h0, hb, hl, hm, hmm, hx, hi⟩
  · simp at h0
    obtain ⟨rfl, rfl, rfl⟩ := h0
    exact ⟨[], rfl, .inl rfl, Nat.zero_le _⟩
  · simp at h0
    obtain ⟨rfl, rfl, rfl⟩ := h0
    have hml : len ≤ m := by rw [hmm]; split <;> omega
    rw [cellsNode] at hi
    have key : ∀ i, i < len → ∃ p : ND, ∀ j, j < 5 → w.cell? ((ad.add (i * 5)).add j) = some ((ndCell p).getD j undef) := by
      intro i hil
      obtain ⟨cs', hc, ht⟩ := hi i (by omega)
      obtain ⟨p, rfl⟩ := open_node ht
      obtain ⟨_, _, hat⟩ := World.cells?_some hc
      refine ⟨p, fun j hj => ?_⟩
      rw [hat j (by omega)]
      rw [List.getD_eq_getElem?_getD, List.getElem?_eq_getElem (by rw [ndCell_len]; exact hj)]
      rfl
    by_cases h0 : len = 0
    · subst h0
      exact ⟨[], rfl, .inl rfl, Nat.zero_le _⟩
    · have hsp : ad.spot = none := by
        obtain ⟨p, h1⟩ := key 0 (by omega)
        have h1 := h1 0 (by omega)
        obtain ⟨b, off, spot⟩ := ad
        cases spot with
        | none => rfl
        | some k =>
          have e0 : ((⟨b, off, some k⟩ : Addr).add (0 * 5)).add 0 = ⟨b, off, some k⟩ := by simp [Addr.add]
          rw [e0] at h1
          unfold World.cell? at h1
          split at h1 <;> simp at h1
      obtain ⟨b, off, spot⟩ := ad
      simp only at hsp
      subst hsp
      have key2 : ∀ i, ∃ p : ND, i < len → ∀ j, j < 5 → w.cell? ⟨b, off + i * 5 + j, none⟩ = some ((ndCell p).getD j undef) := by
        intro i
        by_cases h : i < len
        · obtain ⟨p, h2⟩ := key i h
          simp only [Addr.add_lit] at h2
          exact ⟨p, fun _ => h2⟩
        · exact ⟨⟨0, 0, false, [], []⟩, fun h' => absurd h' h⟩
      obtain ⟨f, hf⟩ : ∃ f : Nat → ND, ∀ i, i < len → ∀ j, j < 5 → w.cell? ⟨b, off + i * 5 + j, none⟩ = some ((ndCell (f i)).getD j undef) :=
        ⟨fun i => Classical.choose (key2 i), fun i => Classical.choose_spec (key2 i)⟩
      refine ⟨(List.range len).map f, by simp, .inr ⟨b, off, rfl, fun i u hu => ?_⟩, by simp; omega⟩
      have hlen := flat_len ndCell 5 ndCell_len ((List.range len).map f)
      simp only [List.length_map, List.length_range] at hlen
      have hi2 := (List.getElem?_eq_some_iff.1 hu).1
      rw [hlen] at hi2
      have hj : i / 5 < len := by omega
      have hg := flat_get ndCell 5 ndCell_len ((List.range len).map f) (i / 5) (i % 5) (by simpa using hj) (by omega)
      rw [show i / 5 * 5 + i % 5 = i by omega, hu] at hg
      simp only [List.getElem_map, List.getElem_range] at hg
      have k1 := hf (i / 5) hj (i % 5) (by omega)
      rw [List.getD_eq_getElem?_getD, ← hg] at k1
      rw [show off + i = off + i / 5 * 5 + i % 5 by omega, k1]
      rfl
end
end Go.Proofs.YtgcfikiajingcaaGreat
/- Rows of members: parts of them, and what lies behind. -/
set_option linter.unusedVariables false
namespace Go.Proofs.YtgcfikiajingcaaGreat
open Go.RowKit

theorem memCells_drop : ∀ (m : List (List UInt8 × JV)) (cm : List (List Value)) (k : Nat), cm.length = m.length → (∀ r ∈ cm, r.length = 5) → memCells (m.drop k) (cm.drop k) = (memCells m cm).drop (k * 6)
  | m, cm, 0, h, _ => by simp
  | [], cm, k + 1, h, _ => by
    have : cm = [] := List.eq_nil_of_length_eq_zero h
    subst this
    simp [memCells]
  | p :: m, [], k + 1, h, _ => by simp at h
  | p :: m, r :: cm, k + 1, h, h5 => by
    have hr := h5 r (by simp)
    have ih := memCells_drop m cm k (by simpa using h) (fun x hx => h5 x (by simp [hx]))
    simp only [List.drop_succ_cons, memCells]
    rw [ih, show (k + 1) * 6 = (k * 6 + 5) + 1 by omega, List.drop_succ_cons, List.drop_append, show List.drop (k * 6 + 5) r = [] from List.drop_eq_nil_of_le (by omega), hr, show k * 6 + 5 - 5 = k * 6 by omega, List.nil_append]
theorem memCells_len {m : List (List UInt8 × JV)} {cm : List (List Value)} (h : cm.length = m.length) (h5 : ∀ r ∈ cm, r.length = 5) : (memCells m cm).length = m.length * 6 := by
  induction m generalizing cm with
  | nil =>
    have : cm = [] := List.eq_nil_of_length_eq_zero h
    subst this
    rfl
  | cons p m ih =>
    cases cm with
    | nil => simp at h
    | cons r cm =>
      have hr := h5 r (by simp)
      have := ih (cm := cm) (by simpa using h) (fun x hx => h5 x (by simp [hx]))
      simp only [memCells, List.length_cons, List.length_append, hr, this]
      omega
theorem kids_rd {w : World} {ro : Option Addr} {rc q : Nat} {o : List (List UInt8 × JV)} {cm : List (List Value)} (h : RdC w ro (memCells o cm)) (hl : cm.length = o.length) (h5 : ∀ r ∈ cm, r.length = 5) (hq : q ≤ o.length) (hrc : o.length ≤ rc) :
    RdC w (if rc = q then ro else Option.map (fun x => x.add (q * 6)) ro) (memCells (o.drop q) (cm.drop q)) := by
  by_cases e : q = o.length
  · subst e
    left
    rw [List.drop_of_length_le (Nat.le_refl _), List.drop_of_length_le (by omega)]
    rfl
  · rw [if_neg (by omega)]
    rcases h with h | ⟨b, off, rfl, hc⟩
    · have := memCells_len hl h5
      rw [h] at this
      simp at this
      omega
    · refine .inr ⟨b, off + q * 6, by simp [Addr.add_lit], fun i u hu => ?_⟩
      rw [memCells_drop o cm q hl h5, List.getElem?_drop] at hu
      rw [Nat.add_assoc]
      exact hc _ u hu
theorem mem_row {ok : Nat → Prop} {w : World} {a' : Option Addr} {m : List (List UInt8 × JV)} {cm : List (List Value)} (h3 : RdC w a' (memCells m cm)) (h4 : RepsM ok w cm m) (j : Nat) (hj : j < m.length) :
    ∃ b off k2 y2 t2 a2 l2 c2 a3 l3 c3, a' = some ⟨b, off, none⟩ ∧ cm[j]? = some [.int .i64 k2, .bool y2, .string ⟨t2⟩, .slice a2 l2 c2, .slice a3 l3 c3] ∧ w.cell? ⟨b, off + j * 6, none⟩ = some (.string ⟨m[j].1.toArray⟩) ∧ w.cell? ⟨b, off + j * 6 + 1, none⟩ = some (.int .i64 k2) ∧ w.cell? ⟨b, off + j * 6 + 2, none⟩ = some (.bool y2) ∧ w.cell? ⟨b, off + j * 6 + 3, none⟩ = some (.string ⟨t2⟩) ∧ w.cell? ⟨b, off + j * 6 + 4, none⟩ = some (.slice a2 l2 c2) ∧ w.cell? ⟨b, off + j * 6 + 5, none⟩ = some (.slice a3 l3 c3) := by
  have hjc : j < cm.length := by rw [h4.1]; exact hj
  have hr := h4.2 j hjc hj
  obtain ⟨a2, c2, a3, c3, cl, cmm, hcs, _⟩ := hr.parts
  have hg := fun i hi => mem6_get h4 j hjc hj i hi
  rw [hcs] at hg
  unfold strV at hcs hg
  rcases h3 with h | ⟨b, off, e, hc⟩
  · have := mem6_len h4
    rw [h] at this
    simp only [List.length_nil] at this
    omega
  · exact ⟨b, off, _, _, _, _, _, _, _, _, _, e, by rw [List.getElem?_eq_getElem hjc, hcs], hc _ _ (hg 0 (by decide)), hc _ _ (hg 1 (by decide)), hc _ _ (hg 2 (by decide)), hc _ _ (hg 3 (by decide)), hc _ _ (hg 4 (by decide)), hc _ _ (hg 5 (by decide))⟩
theorem own_rdo {B : Nat} {E : TypeId} {sz : Nat} {w : World} {v : Value} {n : Nat} {xs : List Value} (h : w.ownsRow B E sz v n xs) : ∃ a c, v = .slice a n c ∧ RdO (fun b => B ≤ b ∧ b < w.heap.size ∧ v.ownBlock = some b) w a xs ∧ n ≤ c := by
  have h' := h
  rcases h.2 with ⟨rfl, rfl⟩ | ⟨g, cap, cur, rfl, hB, hg, hle, _, _, _⟩
  · exact ⟨none, 0, rfl, .inl (List.eq_nil_of_length_eq_zero (by rw [h.1]; simp)), Nat.le_refl _⟩
  · refine ⟨_, _, rfl, .inr ⟨g, 0, rfl, ⟨hB, (Array.getElem?_eq_some_iff.1 hg).1, rfl⟩, fun i u hu => ?_⟩, hle⟩
    have := World.ownsRow.cells h' (g := g) rfl i u hu
    rw [Addr.add_lit] at this
    exact this
/-- One member in a block of its own. -/
def VM (cs : Array Value) : Value → World → Prop := fun v w => ∃ g, v = .slice (some ⟨g, 0, none⟩) 1 1 ∧ w.heap[g]? = some (.cells cs 54 (0, 0))
theorem VM.stab (cs : Array Value) : Stab (VM cs) := fun v w1 w2 ⟨g, e, h⟩ hb => ⟨g, e, (hb.block _ (Array.getElem?_eq_some_iff.1 h).1).trans h⟩
theorem below_butv {B g : Nat} {w w' : World} (h : ButV B g g w w') {C : Nat} (hC : C ≤ B) (hg : C ≤ g) : Below C w w' := ⟨h.os, h.tape, h.output, h.size, fun k hk => h.block k (by omega) (by omega) (by omega)⟩
theorem butv_below {B g : Nat} {a w w' : World} (h : ButV B g g a w) (hb : Below B w w') : ButV B g g a w' :=
  h.trans ⟨hb.os, hb.tape, hb.output, hb.size, fun k hk _ _ => hb.block k hk⟩
end Go.Proofs.YtgcfikiajingcaaGreat
/- What the statements need: a value in a row. -/
set_option linter.unusedVariables false
namespace Go.Proofs.YtgcfikiajingcaaGreat
open Go.RowKit

theorem nd_cells {w : World} {a : Option Addr} {l : List ND} (h : RdC w a (l.flatMap ndCell)) (j : Nat) (hj : j < l.length) :
    ∃ b off, a = some ⟨b, off, none⟩ ∧ w.cell? ⟨b, off + j * 5, none⟩ = some (.int .i64 l[j].kind) ∧ w.cell? ⟨b, off + j * 5 + 1, none⟩ = some (.int .i64 l[j].kids) ∧ w.cell? ⟨b, off + j * 5 + 2, none⟩ = some (.bool l[j].yes) ∧ w.cell? ⟨b, off + j * 5 + 3, none⟩ = some (.string ⟨l[j].text.toArray⟩) ∧ w.cell? ⟨b, off + j * 5 + 4, none⟩ = some (.string ⟨l[j].name.toArray⟩) := by
  have hg := fun i hi => flat_get ndCell 5 (fun _ => rfl) l j i hj hi
  rcases h with h | ⟨b, off, e, hc⟩
  · have := flat_len ndCell 5 (fun _ => rfl) l
    rw [h] at this
    simp only [List.length_nil] at this
    omega
  · exact ⟨b, off, e, hc _ _ (hg 0 (by decide)), hc _ _ (hg 1 (by decide)), hc _ _ (hg 2 (by decide)), hc _ _ (hg 3 (by decide)), hc _ _ (hg 4 (by decide))⟩
theorem stored_other (w : World) (gv : Nat) (a b c d e : Value) {k : Nat} (h : k ≠ gv) :
    (((((w.setCell ⟨gv, 0, none⟩ a).setCell ⟨gv, 1, none⟩ b).setCell ⟨gv, 2, none⟩ c).setCell ⟨gv, 3, none⟩ d).setCell ⟨gv, 4, none⟩ e).heap[k]? = w.heap[k]? := by
  rw [Below.heap_setCell _ _ _ _ h, Below.heap_setCell _ _ _ _ h, Below.heap_setCell _ _ _ _ h, Below.heap_setCell _ _ _ _ h, Below.heap_setCell _ _ _ _ h]
set_option maxRecDepth 100000 in
set_option maxHeartbeats 64000000 in
theorem treeval_any (a : Option Addr) (c : Nat) (l : List ND) (w : World) (hr : RdC w a (l.flatMap ndCell)) (hlen : l.length ≤ 9223372036854775807) :
    Calls Tryz.prog 8 #[.slice a l.length c] w fun e w' => Below w.heap.size w w' ∧ ∃ cs, e = .returned (.tuple #[.agg cs.toArray, .bool (treeV l).isSome]) ∧ Rep (w.heap.size ≤ ·) w' cs ((treeV l).getD .zero) := by
  have HR := Lib.hid hr
  have HTV : Hid (treeV l = if l.length ≤ 40 ∧ l.all shortN = true then (treeOpen l).getLast?.map Prod.snd else none) := Lib.hid rfl
  clear hr
  go_enter Tryz.func8, Tryz.ntmps8
  go_upto_region 1 with (fail)
  generalize hw1 : w.alloc _ = w1
  have hb1 : Below w.heap.size w w1 := by rw [← hw1]; exact (Below.refl _ _).alloc (Nat.le_refl _) _
  have hx1 : w1.heap[w.heap.size]? = some (.cells zero5.toArray 28 (0, 0)) := by rw [← hw1]; exact heap_alloc_new _ _
  have hs1 : w.heap.size < w1.heap.size := by rw [← hw1]; simp
  have HB1 := Lib.hid hb1
  have HX1 := Lib.hid hx1
  have HR1 := Lib.hid (HR.out.below hb1)
  clear hw1 hb1 hx1
  by_cases hl : l.length ≤ 40
  · have hlI : ¬ (40 : Int) < (l.length : Int) := by omega
    go_wp2_with fail
    go_loopg [4, 18] l.length (fun k ov iv wr => ∃ (j : Nat) (rv : Value) (cm : List (List Value)), rv = ov ∧ iv = .int .i64 (j : Int) ∧ j + k = l.length ∧ (treeOpen (l.take j)).length ≤ j ∧ Hid ((l.take j).all shortN = true) ∧ Hid (wr.ownsRow w1.heap.size 54 6 rv (treeOpen (l.take j)).length (memCells (treeOpen (l.take j)) cm)) ∧ Hid (RepsM (fun b => w1.heap.size ≤ b ∧ rv.ownBlock ≠ some b) wr cm (treeOpen (l.take j))) ∧ Hid (Below w1.heap.size w1 wr))
    case atStart => exact ⟨0, _, [], rfl, rfl, by omega, by simp [treeOpen], Lib.hid rfl, Lib.hid (World.ownsRow_nil _ _ _ _), Lib.hid (RepsM.nil _ _), Lib.hid (Below.refl _ _)⟩
    case round =>
      obtain ⟨j, rv, cm, rfl, rfl, hj, hol, HSH, HW, HRM, HB⟩ := hrel
      obtain ⟨wo, rfl⟩ : ∃ x : World, x = wr := ⟨_, rfl⟩
      obtain ⟨gO, rfl⟩ : ∃ x : Nat, x = gk := ⟨_, rfl⟩
      have hszB : w1.heap.size ≤ wo.heap.size := HB.out.size
      obtain ⟨ro, rc, hrv, hro, hrc⟩ := RdC.of_own HW.out
      subst hrv
      have HRO := Lib.hid hro
      clear hro
      by_cases hlt : j < l.length
      · have hltI : (j : Int) < (l.length : Int) := by omega
        obtain ⟨nb, noff, ea, n0, n1, n2, n3, n4⟩ := nd_cells (HR1.out.below HB.out) j hlt
        subst ea
        have HTS := Lib.hid (open_take hlt)
        have HALL : Hid ((l.take (j + 1)).all shortN = ((l.take j).all shortN && shortN l[j])) := Lib.hid (by rw [List.take_succ_eq_append_getElem hlt, List.all_append]; simp)
        have HNO : Hid (shortN l[j] = false → treeV l = none) := Lib.hid (fun hf => by
          rw [HTV.out, if_neg]
          rintro ⟨_, hall⟩
          rw [List.all_eq_true.1 hall _ (List.getElem_mem hlt)] at hf
          cases hf)
        generalize l[j] = x at *
        obtain ⟨xk, xn, xy, xt, xm⟩ := x
        simp only at n0 n1 n2 n3 n4
        generalize treeOpen (l.take j) = o at *
        go_upto_region 7 with (fail)
        generalize hw2 : wo.alloc _ = w2
        have hb2 : Below wo.heap.size wo w2 := by rw [← hw2]; exact (Below.refl _ _).alloc (Nat.le_refl _) _
        have hx2 : w2.heap[wo.heap.size]? = some (.cells #[.int .i64 xk, .int .i64 xn, .bool xy, .string ⟨xt.toArray⟩, .string ⟨xm.toArray⟩] 56 (0, 0)) := by rw [← hw2]; exact heap_alloc_new _ _
        have hs2 : wo.heap.size < w2.heap.size := by rw [← hw2]; simp
        have HB2 := Lib.hid (HB.out.trans (hb2.mono hszB))
        have HX2 := Lib.hid hx2
        have HBX2 := Lib.hid hb2
        have HRZ := Lib.hid ((HB2.out.block w.heap.size (by omega)).trans HX1.out)
        have HBW := Lib.hid (HB1.out.trans (HB2.out.mono (by omega)))
        have HW2 := Lib.hid (own_below HW.out hb2)
        have HRM2 := Lib.hid (HRM.out.lt.keep fun b hb _ => hb2.block b hb.2)
        clear hw2 hb2 hx2 n0 n1 n2 n3 n4
        have m0 : w2.cell? ⟨wo.heap.size, 0, none⟩ = some (.int .i64 xk) := by rw [Lib.cell_of_heap HX2.out]; rfl
        have m1 : w2.cell? ⟨wo.heap.size, 1, none⟩ = some (.int .i64 xn) := by rw [Lib.cell_of_heap HX2.out]; rfl
        have m2 : w2.cell? ⟨wo.heap.size, 2, none⟩ = some (.bool xy) := by rw [Lib.cell_of_heap HX2.out]; rfl
        have m3 : w2.cell? ⟨wo.heap.size, 3, none⟩ = some (.string ⟨xt.toArray⟩) := by rw [Lib.cell_of_heap HX2.out]; rfl
        have m4 : w2.cell? ⟨wo.heap.size, 4, none⟩ = some (.string ⟨xm.toArray⟩) := by rw [Lib.cell_of_heap HX2.out]; rfl
        by_cases s1 : xt.length ≤ 100
        case neg =>
          have s1I : (100 : Int) < (xt.length : Int) := by omega
          have HNN : Hid (treeV l = none) := Lib.hid (HNO.out (by unfold shortN; simp only [decide_eq_false s1, Bool.false_and]))
          have d0 : w2.cell? ⟨w.heap.size, 0, none⟩ = some (.int .i64 0) := by rw [Lib.cell_of_heap HRZ.out]; rfl
          have d1 : w2.cell? ⟨w.heap.size, 1, none⟩ = some (.bool false) := by rw [Lib.cell_of_heap HRZ.out]; rfl
          have d2 : w2.cell? ⟨w.heap.size, 2, none⟩ = some (.string ⟨#[]⟩) := by rw [Lib.cell_of_heap HRZ.out]; rfl
          have d3 : w2.cell? ⟨w.heap.size, 3, none⟩ = some (.slice none 0 0) := by rw [Lib.cell_of_heap HRZ.out]; rfl
          have d4 : w2.cell? ⟨w.heap.size, 4, none⟩ = some (.slice none 0 0) := by rw [Lib.cell_of_heap HRZ.out]; rfl
          have f0 := Lib.frozen_of_heap HRZ.out 0
          have f1 := Lib.frozen_of_heap HRZ.out 1
          have f2 := Lib.frozen_of_heap HRZ.out 2
          have f3 := Lib.frozen_of_heap HRZ.out 3
          have f4 := Lib.frozen_of_heap HRZ.out 4
          go_wp2_with fail
          have hst := value_stored HRZ.out (.int .i64 0) (.bool false) (.string ⟨#[]⟩) (.slice none 0 0) (.slice none 0 0)
          have hbe := zero_stored HBW.out (Nat.le_refl _) (.int .i64 0) (.bool false) (.string ⟨#[]⟩) (.slice none 0 0) (.slice none 0 0)
          have e0 := Lib.cell_of_heap hst 0
          have e1 := Lib.cell_of_heap hst 1
          have e2 := Lib.cell_of_heap hst 2
          have e3 := Lib.cell_of_heap hst 3
          have e4 := Lib.cell_of_heap hst 4
          simp only [List.getElem?_toArray] at e0 e1 e2 e3 e4
          refine bodyPost_ret (v := .tuple #[.agg #[.int .i64 0, .bool false, .string ⟨#[]⟩, .slice none 0 0, .slice none 0 0], .bool false]) (by simp [results, Tryz.results8, go_sem, e0, e1, e2, e3, e4]) rfl ?_
          exact ⟨hbe, zero5, by rw [HNN.out]; rfl, by rw [HNN.out]; exact Rep.leaf _ _ 0 false []⟩
        by_cases s2 : xm.length ≤ 60
        case neg =>
          have s1I : ¬ (100 : Int) < (xt.length : Int) := by omega
          have s2I : (60 : Int) < (xm.length : Int) := by omega
          have HNN : Hid (treeV l = none) := Lib.hid (HNO.out (by unfold shortN; simp only [decide_eq_false s2, Bool.and_false]))
          have d0 : w2.cell? ⟨w.heap.size, 0, none⟩ = some (.int .i64 0) := by rw [Lib.cell_of_heap HRZ.out]; rfl
          have d1 : w2.cell? ⟨w.heap.size, 1, none⟩ = some (.bool false) := by rw [Lib.cell_of_heap HRZ.out]; rfl
          have d2 : w2.cell? ⟨w.heap.size, 2, none⟩ = some (.string ⟨#[]⟩) := by rw [Lib.cell_of_heap HRZ.out]; rfl
          have d3 : w2.cell? ⟨w.heap.size, 3, none⟩ = some (.slice none 0 0) := by rw [Lib.cell_of_heap HRZ.out]; rfl
          have d4 : w2.cell? ⟨w.heap.size, 4, none⟩ = some (.slice none 0 0) := by rw [Lib.cell_of_heap HRZ.out]; rfl
          have f0 := Lib.frozen_of_heap HRZ.out 0
          have f1 := Lib.frozen_of_heap HRZ.out 1
          have f2 := Lib.frozen_of_heap HRZ.out 2
          have f3 := Lib.frozen_of_heap HRZ.out 3
          have f4 := Lib.frozen_of_heap HRZ.out 4
          go_wp2_with fail
          have hst := value_stored HRZ.out (.int .i64 0) (.bool false) (.string ⟨#[]⟩) (.slice none 0 0) (.slice none 0 0)
          have hbe := zero_stored HBW.out (Nat.le_refl _) (.int .i64 0) (.bool false) (.string ⟨#[]⟩) (.slice none 0 0) (.slice none 0 0)
          have e0 := Lib.cell_of_heap hst 0
          have e1 := Lib.cell_of_heap hst 1
          have e2 := Lib.cell_of_heap hst 2
          have e3 := Lib.cell_of_heap hst 3
          have e4 := Lib.cell_of_heap hst 4
          simp only [List.getElem?_toArray] at e0 e1 e2 e3 e4
          refine bodyPost_ret (v := .tuple #[.agg #[.int .i64 0, .bool false, .string ⟨#[]⟩, .slice none 0 0, .slice none 0 0], .bool false]) (by simp [results, Tryz.results8, go_sem, e0, e1, e2, e3, e4]) rfl ?_
          exact ⟨hbe, zero5, by rw [HNN.out]; rfl, by rw [HNN.out]; exact Rep.leaf _ _ 0 false []⟩
        have s1I : ¬ (100 : Int) < (xt.length : Int) := by omega
        have s2I : ¬ (60 : Int) < (xm.length : Int) := by omega
        have HSN : Hid (shortN ⟨xk, xn, xy, xt, xm⟩ = true) := Lib.hid (by unfold shortN; simp only [decide_eq_true s1, decide_eq_true s2, Bool.and_self])
        go_upto_region 10 with (fail)
        generalize hw3 : w2.alloc _ = w3
        have hb3 : Below w2.heap.size w2 w3 := by rw [← hw3]; exact (Below.refl _ _).alloc (Nat.le_refl _) _
        have hx3 : w3.heap[w2.heap.size]? = some (.cells #[.int .i64 xk, .bool xy, .string ⟨xt.toArray⟩, .slice none 0 0, .slice none 0 0] 28 (0, 0)) := by rw [← hw3]; exact heap_alloc_new _ _
        have hs3 : w2.heap.size < w3.heap.size := by rw [← hw3]; simp
        have HB3 := Lib.hid (HB2.out.trans (hb3.mono (by omega)))
        have HX3 := Lib.hid hx3
        have HBX3 := Lib.hid (show Below wo.heap.size wo w3 from HBX2.out.trans (hb3.mono (by omega)))
        have HXN := Lib.hid ((hb3.block _ (by omega)).trans HX2.out)
        have HW3 := Lib.hid (own_below HW2.out hb3)
        have HRM3 := Lib.hid (HRM2.out.lt.keep fun b hb _ => hb3.block b hb.2)
        clear hw3 hb3 hx3 m0 m1 m2 m3 m4
        have m0 : w3.cell? ⟨wo.heap.size, 0, none⟩ = some (.int .i64 xk) := by rw [Lib.cell_of_heap HXN.out]; rfl
        have m1 : w3.cell? ⟨wo.heap.size, 1, none⟩ = some (.int .i64 xn) := by rw [Lib.cell_of_heap HXN.out]; rfl
        obtain ⟨n, hn⟩ : ∃ n, cutN ⟨xk, xn, xy, xt, xm⟩ o.length = n := ⟨_, rfl⟩
        have hno : n ≤ o.length := by rw [← hn]; exact (cutN_le _ _).1
        have hn6 : n ≤ 6 := by rw [← hn]; exact (cutN_le _ _).2
        have HN := Lib.hid hn
        have HOB : Hid (∀ b, (Value.slice ro o.length rc).ownBlock = some b → b < wo.heap.size) := Lib.hid fun b hb => (HW.out.lt b hb).2
        have hcs : xk = 5 ∨ xk = 6 ∨ (xk ≠ 5 ∧ xk ≠ 6) := by omega
        unfold cutN kidsN at hn
        obtain ⟨q, hq⟩ : ∃ q, o.length - n = q := ⟨_, rfl⟩
        have hqI : (o.length : Int) - (n : Int) = (q : Int) := by omega
        rcases hcs with hk5 | hk6 | ⟨hk5, hk6⟩
        · subst hk5
          rw [if_pos (.inl rfl)] at hn
          simp only at hn
          have hnn : (if (6 : Int) < (if (o.length : Int) < max xn 0 then (o.length : Int) else max xn 0) then (6 : Int) else if (o.length : Int) < max xn 0 then (o.length : Int) else max xn 0) = (n : Int) := by split <;> split <;> omega
          have hqn : o.length - q = n := by omega
          go_upto_region 14 with (fail)
          try simp only [hqn]
          have HKR := Lib.hid (kids_rd (q := q) HRO.out HRM.out.1 (reps_rows HRM.out) (by omega) hrc)
          generalize (if rc = q then ro else Option.map (fun x => x.add (q * 6)) ro) = KA at *
          have hdl : (o.drop q).length = n := by rw [List.length_drop]; exact hqn
          have HKM := Lib.hid (HRM.out.drop q)
          clear hnn m0 m1
          go_wp2_with fail
          go_loopg [62] n (fun k iv wr => ∃ (i : Nat) (LV : Value), iv = .int .i64 (i : Int) ∧ i + k = n ∧ Hid (wr.heap[w2.heap.size]? = some (.cells #[.int .i64 5, .bool xy, .string ⟨xt.toArray⟩, LV, .slice none 0 0] 28 (0, 0))) ∧ Hid (wr.ownsRow w3.heap.size 28 5 LV i (((cm.drop q).take i).flatten)) ∧ Hid (ButV w3.heap.size w2.heap.size w2.heap.size w3 wr))
          case atStart => exact ⟨0, .slice none 0 0, rfl, by omega, HX3, Lib.hid (by simpa [memCells] using World.ownsRow_nil _ _ _ _), Lib.hid (ButV.refl _ _ _ _)⟩
          case round =>
            obtain ⟨i, LV, rfl, hi, HVB, HLV, HBV⟩ := hrel
            have hsz2 : w3.heap.size ≤ wr.heap.size := HBV.out.size
            by_cases hin : i < n
            · have hinI : (i : Int) < (n : Int) := by omega
              have HBR := Lib.hid (show Below wo.heap.size wo wr from HBX3.out.trans (below_butv HBV.out (by omega) (by omega)))
              obtain ⟨kb, koff, k2, y2, t2, a2, l2, c2, a3, l3, c3, eka, hcmi, g0, g1, g2, g3, g4, g5⟩ := mem_row (HKR.out.below HBR.out) (HKM.out.lt.keep fun b hb _ => HBR.out.block b hb.2) i (by omega)
              subst eka
              have HROW : Hid (((cm.drop q).take (i + 1)).flatten = ((cm.drop q).take i).flatten ++ (#[.int .i64 k2, .bool y2, .string ⟨t2⟩, .slice a2 l2 c2, .slice a3 l3 c3]).toList) := Lib.hid (by
                rw [List.take_succ_eq_append_getElem (by rw [HKM.out.1]; omega), List.flatten_append]
                rw [List.getElem?_eq_getElem (by rw [HKM.out.1]; omega)] at hcmi
                simp only [Option.some.injEq] at hcmi
                rw [hcmi]
                simp)
              generalize ((o.drop q)[i]'(by omega)).1 = nm at *
              go_upto_region 17 with (fail)
              generalize hw4 : wr.alloc _ = w4
              have hb4 : Below wr.heap.size wr w4 := by rw [← hw4]; exact (Below.refl _ _).alloc (Nat.le_refl _) _
              have hx4 : w4.heap[wr.heap.size]? = some (.cells #[.string ⟨nm.toArray⟩, .int .i64 k2, .bool y2, .string ⟨t2⟩, .slice a2 l2 c2, .slice a3 l3 c3] 54 (0, 0)) := by rw [← hw4]; exact heap_alloc_new _ _
              have hs4 : wr.heap.size < w4.heap.size := by rw [← hw4]; simp
              have HBV4 := Lib.hid (butv_below HBV.out (hb4.mono hsz2))
              have HVB4 := Lib.hid ((hb4.block _ (by omega)).trans HVB.out)
              have HLV4 := Lib.hid (own_below HLV.out hb4)
              have HNB4 := Lib.hid ((HBV4.out.block wo.heap.size (by omega) (by omega) (by omega)).trans HXN.out)
              clear hw4 hb4 g0 g1 g2 g3 g4 g5
              have m0 : w4.cell? ⟨wo.heap.size, 0, none⟩ = some (.int .i64 5) := by rw [Lib.cell_of_heap HNB4.out]; rfl
              have z : w4.cell? ⟨w2.heap.size, 3, none⟩ = some LV := by rw [Lib.cell_of_heap HVB4.out]; rfl
              have x0 : w4.cell? ⟨wr.heap.size, 0, none⟩ = some (.string ⟨nm.toArray⟩) := by rw [Lib.cell_of_heap hx4]; rfl
              have x1 : w4.cell? ⟨wr.heap.size, 1, none⟩ = some (.int .i64 k2) := by rw [Lib.cell_of_heap hx4]; rfl
              have x2 : w4.cell? ⟨wr.heap.size, 2, none⟩ = some (.bool y2) := by rw [Lib.cell_of_heap hx4]; rfl
              have x3 : w4.cell? ⟨wr.heap.size, 3, none⟩ = some (.string ⟨t2⟩) := by rw [Lib.cell_of_heap hx4]; rfl
              have x4 : w4.cell? ⟨wr.heap.size, 4, none⟩ = some (.slice a2 l2 c2) := by rw [Lib.cell_of_heap hx4]; rfl
              have x5 : w4.cell? ⟨wr.heap.size, 5, none⟩ = some (.slice a3 l3 c3) := by rw [Lib.cell_of_heap hx4]; rfl
              clear hx4
              go_wp2_with (at_builtin; refine wpList_append_at rfl (.tmp 70) (.tmp 73) 25 rfl w3.heap.size 28 5 80 Tryz.underlying25 (by kernel_rfl) (by decide) LV i _ rfl (HLV4.out.alloc _) w4.heap.size 1 #[.int .i64 k2, .bool y2, .string ⟨t2⟩, .slice a2 l2 c2, .slice a3 l3 c3] 28 (0, 0) (heap_alloc_new _ _) rfl rfl ?c2 ?c3 ?c4 ?c5 ?_)
              case c2 => exact ⟨rfl, rfl, rfl, rfl, rfl⟩
              case c3 => omega
              case c4 => omega
              case c5 => omega
              intro v' w6 hown' hgrow _
              obtain ⟨va, vc, hva, -, -⟩ := RdC.of_own hown'
              subst hva
              have hBg : Below w3.heap.size w4 w6 := below_own ((Below.refl _ _).alloc (by omega) _) (HLV4.out.alloc _) hgrow (by simp; omega)
              have hvb6 := (hBg.block w2.heap.size (by omega)).trans HVB4.out
              have HBV6 := Lib.hid (butv_below HBV4.out hBg)
              have zc : w6.cell? ⟨w2.heap.size, 3, none⟩ = some LV := by rw [Lib.cell_of_heap hvb6]; rfl
              have zf := Lib.frozen_of_heap hvb6 3
              have HVB7 := Lib.hid (setCell_block hvb6 (o := 3) (v := .slice va (i + 1) vc))
              have hbut : But w2.heap.size w6 (w6.setCell ⟨w2.heap.size, 3, none⟩ (.slice va (i + 1) vc)) := But.setCell _ _ _ _
              have HLV7 := Lib.hid (own_butg hown' hbut (by omega))
              have HBV7 := Lib.hid (HBV6.out.trans ⟨hbut.os, hbut.tape, hbut.output, hbut.size, fun k hk h1 _ => hbut.block k (by have := HBV6.out.size; omega) h1⟩)
              clear hown' hgrow hBg hvb6 hbut m0 z x0 x1 x2 x3 x4 x5
              go_wp2_with fail
              go_roundg (gk - 1)
              case measure => omega
              case rel => exact ⟨i + 1, .slice va (i + 1) vc, by first | rfl | (congr 1), by omega, Lib.hid (by have := HVB7.out; simpa using this), Lib.hid (by rw [HROW.out]; exact HLV7.out), HBV7⟩
            · have hinI : ¬ (i : Int) < (n : Int) := by omega
              obtain rfl : i = n := by omega
              have HBRE := Lib.hid (show Below wo.heap.size wo wr from HBX3.out.trans (below_butv HBV.out (by omega) (by omega)))
              obtain ⟨la, lc, hLV, hld, hlc⟩ := own_rdo HLV.out
              subst hLV
              have HRP : Hid (Rep (fun b => w1.heap.size ≤ b ∧ (Value.slice ro o.length rc).ownBlock ≠ some b) wr [.int .i64 5, .bool xy, strV xt, .slice la i lc, .slice none 0 0] (nodeJ ⟨5, xn, xy, xt, xm⟩ (o.drop q))) := Lib.hid (by
                have hfl : (cm.drop q).take i = cm.drop q := List.take_of_length_le (by rw [HKM.out.1]; omega)
                rw [hfl] at hld
                have hkids := HKM.out.lt.keep fun b hb _ => (show wr.heap[b]? = wo.heap[b]? from HBRE.out.block b hb.2)
                have := rep_of (k := 5) (y := xy) (t := xt) (l := (o.drop q).map Prod.snd) (m := []) (c := lc) (c' := 0) (a' := none) (cm := []) (ok := fun b => w1.heap.size ≤ b ∧ (Value.slice ro o.length rc).ownBlock ≠ some b) (hld.mono fun b hb => ⟨by omega, fun e => by have := HOB.out b e; omega⟩) (RepsM.snd (hkids.mono fun b hb => hb.1)) (.inl rfl) (RepsM.nil _ _) (by rw [List.length_map]; omega) (Nat.le_refl _)
                unfold nodeJ
                rw [if_pos rfl, if_pos rfl]
                rw [List.length_map, hdl] at this
                exact this)
              have HNB8 := Lib.hid ((HBV.out.block wo.heap.size (by omega) (by omega) (by omega)).trans HXN.out)
              have HVB8 := Lib.hid HVB.out
              have HTQ : Hid (treeOpen (l.take (j + 1)) = o.take q ++ [(xm, nodeJ ⟨5, xn, xy, xt, xm⟩ (o.drop q))]) := Lib.hid (by
                rw [HTS.out]
                unfold treeStep
                rw [HN.out, hq])
              have HW8 := Lib.hid (own_cut (own_below HW.out HBRE.out) q (by omega))
              have HRT := Lib.hid ((HRM.out.lt.keep fun b hb _ => (HBRE.out).block b hb.2).take q)
              have HB8 := Lib.hid (HB.out.trans ((HBRE.out).mono hszB))
              have hsz8 : w1.heap.size ≤ wr.heap.size := HB8.out.size
              go_upto_region 21 with (fail)
              refine wp_region_grow_tail 11 (by kernel_rfl) (by kernel_rfl) (by decide) (by kernel_rfl) [83, 84, 85, 86, 87, 88, 89, 90, 91, 92, 93] rfl (by decide) (by kernel_rfl) (fun iX => [VIs (Value.slice ro o.length rc), VIs (Value.slice ro o.length rc), VIs (Value.int .i64 ((o.length : Nat) : Int)), VIs (Value.int .i64 ((i : Nat) : Int)), VIs (Value.int .i64 ((q : Nat) : Int)), VIs (Value.slice ro q rc), VIs (Value.pointer (some ⟨wo.heap.size, 4, none⟩)), VIs (Value.string ⟨xm.toArray⟩), VIs (Value.agg #[.int .i64 5, .bool xy, .string ⟨xt.toArray⟩, .slice la i lc, .slice none 0 0]), VIs (Value.agg #[.string ⟨xm.toArray⟩, .int .i64 5, .bool xy, .string ⟨xt.toArray⟩, .slice la i lc, .slice none 0 0]), VM #[.string ⟨xm.toArray⟩, .int .i64 5, .bool xy, .string ⟨xt.toArray⟩, .slice la i lc, .slice none 0 0]].getD iX fun _ _ => True) (stab_list _ ?_) ?_ ?_
              · skip
                intro V hV
                simp only [List.mem_cons, List.mem_nil_iff, or_false] at hV
                rcases hV with rfl | rfl | rfl | rfl | rfl | rfl | rfl | rfl | rfl | rfl | rfl <;> first | exact VIs.stab _ | exact VM.stab _
              · intro iX op ho ax w' hf hb hd
                rcases iX with _ | _ | _ | _ | _ | _ | _ | _ | _ | _ | _ | iX
                · cases ho
                  refine grow_op rfl rfl rfl (grow_move rfl ?_)
                  exact (hf.same 4 (by decide)).trans rfl
                · cases ho
                  refine grow_op rfl rfl rfl (grow_move rfl ?_)
                  exact (hf.same 4 (by decide)).trans rfl
                · cases ho
                  refine grow_op rfl rfl rfl ?_
                  have e1 : ax.tmps.getD 84 undef = .slice ro o.length rc := hd 1 (by kernel_rfl)
                  refine grow_value (v := Value.int .i64 ((o.length : Nat) : Int)) (w' := w') ?_ rfl (Below.refl _ _)
                  simp only [execOp, resolve, invoke, builtin]
                  go_simp
                · cases ho
                  refine grow_op rfl rfl rfl (grow_move rfl ?_)
                  exact (hf.same 8 (by decide)).trans rfl
                · cases ho
                  refine grow_op rfl rfl rfl ?_
                  have e2 : ax.tmps.getD 85 undef = Value.int .i64 ((o.length : Nat) : Int) := hd 2 (by kernel_rfl)
                  have e3 : ax.tmps.getD 86 undef = Value.int .i64 ((i : Nat) : Int) := hd 3 (by kernel_rfl)
                  refine grow_value (v := Value.int .i64 ((q : Nat) : Int)) (w' := w') ?_ rfl (Below.refl _ _)
                  simp only [execOp, Act.eval, e2, e3]
                  go_simp
                  first | exact IntWalk.i64_in _ (by omega) | (rw [IntWalk.i64_in _ (by omega)]; omega)
                · cases ho
                  refine grow_op rfl rfl rfl ?_
                  have e0 : ax.tmps.getD 83 undef = .slice ro o.length rc := hd 0 (by kernel_rfl)
                  have e4 : ax.tmps.getD 87 undef = Value.int .i64 ((q : Nat) : Int) := hd 4 (by kernel_rfl)
                  refine grow_value (v := Value.slice ro q rc) (w' := w') ?_ rfl (Below.refl _ _)
                  simp only [execOp, Act.eval, e0]
                  go_simp
                  try (intro hx; omega)
                · cases ho
                  refine grow_op rfl rfl rfl ?_
                  have e6 : ax.tmps.getD 6 undef = .pointer (some ⟨wo.heap.size, 0, none⟩) := (hf.same 6 (by decide)).trans rfl
                  refine grow_value (v := Value.pointer (some ⟨wo.heap.size, 4, none⟩)) (w' := w') ?_ rfl (Below.refl _ _)
                  simp only [execOp, Act.eval, e6]
                  go_simp
                · cases ho
                  refine grow_op rfl rfl rfl ?_
                  have e6 : ax.tmps.getD 89 undef = Value.pointer (some ⟨wo.heap.size, 4, none⟩) := hd 6 (by kernel_rfl)
                  have c4 : w'.cell? ⟨wo.heap.size, 4, none⟩ = some (.string ⟨xm.toArray⟩) := by rw [Lib.cell_of_heap ((hb.block _ (by omega)).trans HNB8.out)]; rfl
                  refine grow_value (v := Value.string ⟨xm.toArray⟩) (w' := w') ?_ rfl (Below.refl _ _)
                  simp only [execOp, Act.eval, e6]
                  go_simp
                · cases ho
                  refine grow_op rfl rfl rfl ?_
                  have e7 : ax.tmps.getD 7 undef = .pointer (some ⟨w2.heap.size, 0, none⟩) := (hf.same 7 (by decide)).trans (by first | rfl | rw [hs2])
                  have hvb := (hb.block _ (by omega)).trans HVB8.out
                  have c0 : w'.cell? ⟨w2.heap.size, 0, none⟩ = some (.int .i64 5) := by rw [Lib.cell_of_heap hvb]; rfl
                  have c1 : w'.cell? ⟨w2.heap.size, 1, none⟩ = some (.bool xy) := by rw [Lib.cell_of_heap hvb]; rfl
                  have c2 : w'.cell? ⟨w2.heap.size, 2, none⟩ = some (.string ⟨xt.toArray⟩) := by rw [Lib.cell_of_heap hvb]; rfl
                  have c3 : w'.cell? ⟨w2.heap.size, 3, none⟩ = some (.slice la i lc) := by rw [Lib.cell_of_heap hvb]; rfl
                  have c4 : w'.cell? ⟨w2.heap.size, 4, none⟩ = some (.slice none 0 0) := by rw [Lib.cell_of_heap hvb]; rfl
                  refine grow_value (v := Value.agg #[.int .i64 5, .bool xy, .string ⟨xt.toArray⟩, .slice la i lc, .slice none 0 0]) (w' := w') ?_ rfl (Below.refl _ _)
                  simp only [execOp, Act.eval, e7]
                  go_simp
                · cases ho
                  refine grow_op rfl rfl rfl ?_
                  have e7 : ax.tmps.getD 90 undef = Value.string ⟨xm.toArray⟩ := hd 7 (by kernel_rfl)
                  have e8 : ax.tmps.getD 91 undef = Value.agg #[.int .i64 5, .bool xy, .string ⟨xt.toArray⟩, .slice la i lc, .slice none 0 0] := hd 8 (by kernel_rfl)
                  refine grow_value (v := Value.agg #[.string ⟨xm.toArray⟩, .int .i64 5, .bool xy, .string ⟨xt.toArray⟩, .slice la i lc, .slice none 0 0]) (w' := w') ?_ rfl (Below.refl _ _)
                  simp only [execOp, Act.eval, List.map_toArray, List.map_cons, List.map_nil, e7, e8]
                  go_simp
                  try rfl
                · cases ho
                  refine grow_op rfl rfl rfl ?_
                  have e9 : ax.tmps.getD 92 undef = Value.agg #[.string ⟨xm.toArray⟩, .int .i64 5, .bool xy, .string ⟨xt.toArray⟩, .slice la i lc, .slice none 0 0] := hd 9 (by kernel_rfl)
                  refine grow_value (v := .slice (some ⟨w'.heap.size, 0, none⟩) 1 1) (w' := w'.alloc (.cells #[.string ⟨xm.toArray⟩, .int .i64 5, .bool xy, .string ⟨xt.toArray⟩, .slice la i lc, .slice none 0 0] 54)) ?_ ⟨_, rfl, heap_alloc_new _ _⟩ ((Below.refl _ _).alloc (Nat.le_refl _) _)
                  simp only [execOp, Act.eval, List.map_toArray, List.map_cons, List.map_nil, e9]
                  go_simp
                  try rfl
                · simp at ho
              · intro ax w' hf hb hd
                obtain ⟨gb, hv93, hbk⟩ := hd 10 (by decide)
                obtain rfl := hf.eq [Value.slice ro o.length rc, Value.slice ro o.length rc, Value.int .i64 ((o.length : Nat) : Int), Value.int .i64 ((i : Nat) : Int), Value.int .i64 ((q : Nat) : Int), Value.slice ro q rc, Value.pointer (some ⟨wo.heap.size, 4, none⟩), Value.string ⟨xm.toArray⟩, Value.agg #[.int .i64 5, .bool xy, .string ⟨xt.toArray⟩, .slice la i lc, .slice none 0 0], Value.agg #[.string ⟨xm.toArray⟩, .int .i64 5, .bool xy, .string ⟨xt.toArray⟩, .slice la i lc, .slice none 0 0], Value.slice (some ⟨gb, 0, none⟩) 1 1] (fun j hj => match j, hj with
                  | 0, _ => hd 0 (by decide)
                  | 1, _ => hd 1 (by decide)
                  | 2, _ => hd 2 (by decide)
                  | 3, _ => hd 3 (by decide)
                  | 4, _ => hd 4 (by decide)
                  | 5, _ => hd 5 (by decide)
                  | 6, _ => hd 6 (by decide)
                  | 7, _ => hd 7 (by decide)
                  | 8, _ => hd 8 (by decide)
                  | 9, _ => hd 9 (by decide)
                  | 10, _ => hv93
                  | k + 11, h => absurd h (by simp)) (by decide) (by kernel_rfl) rfl
                simp only [List.zip_cons_cons, List.zip_nil_right, List.foldl_cons, List.foldl_nil, Act.put, List.setIfInBounds_toArray, List.set_cons_succ, List.set_cons_zero]
                have HW9 := Lib.hid (own_below HW8.out hb)
                have HB9 := Lib.hid (HB8.out.trans (hb.mono hsz8))
                have HRT9 := Lib.hid (HRT.out.lt.keep fun b hb' _ => hb.block b hb'.2)
                have HRP9 := Lib.hid (HRP.out.lt.keep fun b hb' _ => hb.block b hb'.2)
                have HG9 := Lib.hid hbk
                have hsz9 : wr.heap.size ≤ w'.heap.size := hb.size
                clear hd hf hb hbk hv93
                (refine wpList_append_at rfl (.tmp 88) (.tmp 93) 26 rfl w1.heap.size 54 6 96 Tryz.underlying26 (by kernel_rfl) (by decide) (.slice ro q rc) q _ rfl HW9.out gb 1 #[.string ⟨xm.toArray⟩, .int .i64 5, .bool xy, .string ⟨xt.toArray⟩, .slice la i lc, .slice none 0 0] 54 (0, 0) HG9.out rfl rfl ?c2 ?c3 ?c4 ?c5 ?_)
                case c2 => intro u hu; simp at hu; rcases hu with rfl | rfl | rfl | rfl | rfl | rfl <;> rfl
                case c3 => omega
                case c4 => omega
                case c5 => omega
                intro v' w9 hown' hgrow hinfo
                have HOWN : Hid (w9.ownsRow w1.heap.size 54 6 v' (treeOpen (l.take (j + 1))).length (memCells (treeOpen (l.take (j + 1))) (cm.take q ++ [[.int .i64 5, .bool xy, strV xt, .slice la i lc, .slice none 0 0]]))) := Lib.hid (by
                  rw [HTQ.out, memCells_snoc _ _ _ _ _ (by simp [HRM.out.1]), memCells_take o cm q HRM.out.1 (reps_rows HRM.out)]
                  have e : (o.take q ++ [(xm, nodeJ ⟨5, xn, xy, xt, xm⟩ (o.drop q))]).length = q + 1 := by simp <;> omega
                  rw [e]
                  exact hown')
                have hkeep : ∀ b, b < w'.heap.size → (Value.slice ro q rc).ownBlock ≠ some b → w9.heap[b]? = w'.heap[b]? := fun b hb hne => hgrow.block b hb (fun e => hne e.symm)
                have hsame : (Value.slice ro q rc).ownBlock = (Value.slice ro o.length rc).ownBlock := by cases ro <;> rfl
                have hok : ∀ b, b < w'.heap.size → (Value.slice ro o.length rc).ownBlock ≠ some b → v'.ownBlock ≠ some b := by
                  intro b hb hne e
                  rcases hinfo with h | h
                  · rw [h, hsame] at e; exact hne e
                  · rw [h] at e; simp only [Option.some.injEq] at e; omega
                have HREPS : Hid (RepsM (fun b => w1.heap.size ≤ b ∧ v'.ownBlock ≠ some b) w9 (cm.take q ++ [[.int .i64 5, .bool xy, strV xt, .slice la i lc, .slice none 0 0]]) (treeOpen (l.take (j + 1)))) := Lib.hid (by
                  rw [HTQ.out]
                  refine RepsM.snoc ?_ ?_
                  · exact (HRT9.out.lt.keep fun b hb _ => hkeep b hb.2 (by rw [hsame]; exact hb.1.1.1.2)).mono fun b hb => ⟨hb.1.1.1.1, hok b hb.2 hb.1.1.1.2⟩
                  · exact (HRP9.out.lt.keep fun b hb _ => hkeep b hb.2 (by rw [hsame]; exact hb.1.1.2)).mono fun b hb => ⟨hb.1.1.1, hok b hb.2 hb.1.1.2⟩)
                have HBE := Lib.hid (below_own HB9.out HW9.out hgrow (by omega))
                have hlen9 : (treeOpen (l.take (j + 1))).length ≤ j + 1 := by rw [HTQ.out]; simp <;> omega
                have HALL2 : Hid ((l.take (j + 1)).all shortN = true) := Lib.hid (by rw [HALL.out, HSH.out, HSN.out]; rfl)
                clear hown' hgrow hinfo hkeep hok
                go_wp2_with fail
                go_roundg (gO - 1)
                case measure => omega
                case rel => exact ⟨j + 1, v', _, rfl, by first | rfl | (congr 1), by omega, hlen9, HALL2, HOWN, HREPS, HBE⟩
        · subst hk6
          rw [if_pos (.inr rfl)] at hn
          simp only at hn
          have hnn : (if (6 : Int) < (if (o.length : Int) < max xn 0 then (o.length : Int) else max xn 0) then (6 : Int) else if (o.length : Int) < max xn 0 then (o.length : Int) else max xn 0) = (n : Int) := by split <;> split <;> omega
          have hqn : o.length - q = n := by omega
          go_upto_region 14 with (fail)
          try simp only [hqn]
          have HKR := Lib.hid (kids_rd (q := q) HRO.out HRM.out.1 (reps_rows HRM.out) (by omega) hrc)
          generalize (if rc = q then ro else Option.map (fun x => x.add (q * 6)) ro) = KA at *
          have hdl : (o.drop q).length = n := by rw [List.length_drop]; exact hqn
          have HKM := Lib.hid (HRM.out.drop q)
          clear hnn m0 m1
          go_wp2_with fail
          go_loopg [62] n (fun k iv wr => ∃ (i : Nat) (LV : Value), iv = .int .i64 (i : Int) ∧ i + k = n ∧ Hid (wr.heap[w2.heap.size]? = some (.cells #[.int .i64 6, .bool xy, .string ⟨xt.toArray⟩, .slice none 0 0, LV] 28 (0, 0))) ∧ Hid (wr.ownsRow w3.heap.size 54 6 LV i (memCells ((o.drop q).take i) ((cm.drop q).take i))) ∧ Hid (ButV w3.heap.size w2.heap.size w2.heap.size w3 wr))
          case atStart => exact ⟨0, .slice none 0 0, rfl, by omega, HX3, Lib.hid (by simpa [memCells] using World.ownsRow_nil _ _ _ _), Lib.hid (ButV.refl _ _ _ _)⟩
          case round =>
            obtain ⟨i, LV, rfl, hi, HVB, HLV, HBV⟩ := hrel
            have hsz2 : w3.heap.size ≤ wr.heap.size := HBV.out.size
            by_cases hin : i < n
            · have hinI : (i : Int) < (n : Int) := by omega
              have HBR := Lib.hid (show Below wo.heap.size wo wr from HBX3.out.trans (below_butv HBV.out (by omega) (by omega)))
              obtain ⟨kb, koff, k2, y2, t2, a2, l2, c2, a3, l3, c3, eka, hcmi, g0, g1, g2, g3, g4, g5⟩ := mem_row (HKR.out.below HBR.out) (HKM.out.lt.keep fun b hb _ => HBR.out.block b hb.2) i (by omega)
              subst eka
              have HROW : Hid (memCells ((o.drop q).take (i + 1)) ((cm.drop q).take (i + 1)) = memCells ((o.drop q).take i) ((cm.drop q).take i) ++ (#[.string ⟨((o.drop q)[i]'(by omega)).1.toArray⟩, .int .i64 k2, .bool y2, .string ⟨t2⟩, .slice a2 l2 c2, .slice a3 l3 c3]).toList) := Lib.hid (by
                rw [List.take_succ_eq_append_getElem (by omega), List.take_succ_eq_append_getElem (by rw [HKM.out.1]; omega), memCells_snoc _ _ _ _ _ (by simp [HKM.out.1])]
                rw [List.getElem?_eq_getElem (by rw [HKM.out.1]; omega)] at hcmi
                simp only [Option.some.injEq] at hcmi
                rw [hcmi]
                rfl)
              generalize ((o.drop q)[i]'(by omega)).1 = nm at *
              go_upto_region 17 with (fail)
              generalize hw4 : wr.alloc _ = w4
              have hb4 : Below wr.heap.size wr w4 := by rw [← hw4]; exact (Below.refl _ _).alloc (Nat.le_refl _) _
              have hx4 : w4.heap[wr.heap.size]? = some (.cells #[.string ⟨nm.toArray⟩, .int .i64 k2, .bool y2, .string ⟨t2⟩, .slice a2 l2 c2, .slice a3 l3 c3] 54 (0, 0)) := by rw [← hw4]; exact heap_alloc_new _ _
              have hs4 : wr.heap.size < w4.heap.size := by rw [← hw4]; simp
              have HBV4 := Lib.hid (butv_below HBV.out (hb4.mono hsz2))
              have HVB4 := Lib.hid ((hb4.block _ (by omega)).trans HVB.out)
              have HLV4 := Lib.hid (own_below HLV.out hb4)
              have HNB4 := Lib.hid ((HBV4.out.block wo.heap.size (by omega) (by omega) (by omega)).trans HXN.out)
              clear hw4 hb4 g0 g1 g2 g3 g4 g5
              have m0 : w4.cell? ⟨wo.heap.size, 0, none⟩ = some (.int .i64 6) := by rw [Lib.cell_of_heap HNB4.out]; rfl
              have z : w4.cell? ⟨w2.heap.size, 4, none⟩ = some LV := by rw [Lib.cell_of_heap HVB4.out]; rfl
              have x0 : w4.cell? ⟨wr.heap.size, 0, none⟩ = some (.string ⟨nm.toArray⟩) := by rw [Lib.cell_of_heap hx4]; rfl
              have x1 : w4.cell? ⟨wr.heap.size, 1, none⟩ = some (.int .i64 k2) := by rw [Lib.cell_of_heap hx4]; rfl
              have x2 : w4.cell? ⟨wr.heap.size, 2, none⟩ = some (.bool y2) := by rw [Lib.cell_of_heap hx4]; rfl
              have x3 : w4.cell? ⟨wr.heap.size, 3, none⟩ = some (.string ⟨t2⟩) := by rw [Lib.cell_of_heap hx4]; rfl
              have x4 : w4.cell? ⟨wr.heap.size, 4, none⟩ = some (.slice a2 l2 c2) := by rw [Lib.cell_of_heap hx4]; rfl
              have x5 : w4.cell? ⟨wr.heap.size, 5, none⟩ = some (.slice a3 l3 c3) := by rw [Lib.cell_of_heap hx4]; rfl
              clear hx4
              go_wp2_with (at_builtin; refine wpList_append_at rfl (.tmp 77) (.tmp 79) 26 rfl w3.heap.size 54 6 96 Tryz.underlying26 (by kernel_rfl) (by decide) LV i _ rfl (HLV4.out.alloc _) w4.heap.size 1 #[.string ⟨nm.toArray⟩, .int .i64 k2, .bool y2, .string ⟨t2⟩, .slice a2 l2 c2, .slice a3 l3 c3] 54 (0, 0) (heap_alloc_new _ _) rfl rfl ?c2 ?c3 ?c4 ?c5 ?_)
              case c2 => exact ⟨rfl, rfl, rfl, rfl, rfl, rfl⟩
              case c3 => omega
              case c4 => omega
              case c5 => omega
              intro v' w6 hown' hgrow _
              obtain ⟨va, vc, hva, -, -⟩ := RdC.of_own hown'
              subst hva
              have hBg : Below w3.heap.size w4 w6 := below_own ((Below.refl _ _).alloc (by omega) _) (HLV4.out.alloc _) hgrow (by simp; omega)
              have hvb6 := (hBg.block w2.heap.size (by omega)).trans HVB4.out
              have HBV6 := Lib.hid (butv_below HBV4.out hBg)
              have zc : w6.cell? ⟨w2.heap.size, 4, none⟩ = some LV := by rw [Lib.cell_of_heap hvb6]; rfl
              have zf := Lib.frozen_of_heap hvb6 4
              have HVB7 := Lib.hid (setCell_block hvb6 (o := 4) (v := .slice va (i + 1) vc))
              have hbut : But w2.heap.size w6 (w6.setCell ⟨w2.heap.size, 4, none⟩ (.slice va (i + 1) vc)) := But.setCell _ _ _ _
              have HLV7 := Lib.hid (own_butg hown' hbut (by omega))
              have HBV7 := Lib.hid (HBV6.out.trans ⟨hbut.os, hbut.tape, hbut.output, hbut.size, fun k hk h1 _ => hbut.block k (by have := HBV6.out.size; omega) h1⟩)
              clear hown' hgrow hBg hvb6 hbut m0 z x0 x1 x2 x3 x4 x5
              go_wp2_with fail
              go_roundg (gk - 1)
              case measure => omega
              case rel => exact ⟨i + 1, .slice va (i + 1) vc, by first | rfl | (congr 1), by omega, Lib.hid (by have := HVB7.out; simpa using this), Lib.hid (by rw [HROW.out]; exact HLV7.out), HBV7⟩
            · have hinI : ¬ (i : Int) < (n : Int) := by omega
              obtain rfl : i = n := by omega
              have HBRE := Lib.hid (show Below wo.heap.size wo wr from HBX3.out.trans (below_butv HBV.out (by omega) (by omega)))
              obtain ⟨la, lc, hLV, hld, hlc⟩ := own_rdo HLV.out
              subst hLV
              have HRP : Hid (Rep (fun b => w1.heap.size ≤ b ∧ (Value.slice ro o.length rc).ownBlock ≠ some b) wr [.int .i64 6, .bool xy, strV xt, .slice none 0 0, .slice la i lc] (nodeJ ⟨6, xn, xy, xt, xm⟩ (o.drop q))) := Lib.hid (by
                have hfl : (cm.drop q).take i = cm.drop q := List.take_of_length_le (by rw [HKM.out.1]; omega)
                have hfo : (o.drop q).take i = o.drop q := List.take_of_length_le (by omega)
                rw [hfl, hfo] at hld
                have hkids := HKM.out.lt.keep fun b hb _ => (show wr.heap[b]? = wo.heap[b]? from HBRE.out.block b hb.2)
                have := rep_of (k := 6) (y := xy) (t := xt) (l := []) (m := o.drop q) (c := 0) (c' := lc) (a := none) (cl := []) (ok := fun b => w1.heap.size ≤ b ∧ (Value.slice ro o.length rc).ownBlock ≠ some b) (.inl rfl) (Reps.nil _ _) (hld.mono fun b hb => ⟨by omega, fun e => by have := HOB.out b e; omega⟩) (hkids.mono fun b hb => hb.1) (Nat.le_refl _) (by omega)
                unfold nodeJ
                rw [if_neg (show ¬ (6 : Int) = 5 by decide), if_neg (show ¬ (6 : Int) = 5 by decide)]
                rw [hdl] at this
                exact this)
              have HNB8 := Lib.hid ((HBV.out.block wo.heap.size (by omega) (by omega) (by omega)).trans HXN.out)
              have HVB8 := Lib.hid HVB.out
              have HTQ : Hid (treeOpen (l.take (j + 1)) = o.take q ++ [(xm, nodeJ ⟨6, xn, xy, xt, xm⟩ (o.drop q))]) := Lib.hid (by
                rw [HTS.out]
                unfold treeStep
                rw [HN.out, hq])
              have HW8 := Lib.hid (own_cut (own_below HW.out HBRE.out) q (by omega))
              have HRT := Lib.hid ((HRM.out.lt.keep fun b hb _ => (HBRE.out).block b hb.2).take q)
              have HB8 := Lib.hid (HB.out.trans ((HBRE.out).mono hszB))
              have hsz8 : w1.heap.size ≤ wr.heap.size := HB8.out.size
              go_upto_region 21 with (fail)
              refine wp_region_grow_tail 11 (by kernel_rfl) (by kernel_rfl) (by decide) (by kernel_rfl) [83, 84, 85, 86, 87, 88, 89, 90, 91, 92, 93] rfl (by decide) (by kernel_rfl) (fun iX => [VIs (Value.slice ro o.length rc), VIs (Value.slice ro o.length rc), VIs (Value.int .i64 ((o.length : Nat) : Int)), VIs (Value.int .i64 ((i : Nat) : Int)), VIs (Value.int .i64 ((q : Nat) : Int)), VIs (Value.slice ro q rc), VIs (Value.pointer (some ⟨wo.heap.size, 4, none⟩)), VIs (Value.string ⟨xm.toArray⟩), VIs (Value.agg #[.int .i64 6, .bool xy, .string ⟨xt.toArray⟩, .slice none 0 0, .slice la i lc]), VIs (Value.agg #[.string ⟨xm.toArray⟩, .int .i64 6, .bool xy, .string ⟨xt.toArray⟩, .slice none 0 0, .slice la i lc]), VM #[.string ⟨xm.toArray⟩, .int .i64 6, .bool xy, .string ⟨xt.toArray⟩, .slice none 0 0, .slice la i lc]].getD iX fun _ _ => True) (stab_list _ ?_) ?_ ?_
              · skip
                intro V hV
                simp only [List.mem_cons, List.mem_nil_iff, or_false] at hV
                rcases hV with rfl | rfl | rfl | rfl | rfl | rfl | rfl | rfl | rfl | rfl | rfl <;> first | exact VIs.stab _ | exact VM.stab _
              · intro iX op ho ax w' hf hb hd
                rcases iX with _ | _ | _ | _ | _ | _ | _ | _ | _ | _ | _ | iX
                · cases ho
                  refine grow_op rfl rfl rfl (grow_move rfl ?_)
                  exact (hf.same 4 (by decide)).trans rfl
                · cases ho
                  refine grow_op rfl rfl rfl (grow_move rfl ?_)
                  exact (hf.same 4 (by decide)).trans rfl
                · cases ho
                  refine grow_op rfl rfl rfl ?_
                  have e1 : ax.tmps.getD 84 undef = .slice ro o.length rc := hd 1 (by kernel_rfl)
                  refine grow_value (v := Value.int .i64 ((o.length : Nat) : Int)) (w' := w') ?_ rfl (Below.refl _ _)
                  simp only [execOp, resolve, invoke, builtin]
                  go_simp
                · cases ho
                  refine grow_op rfl rfl rfl (grow_move rfl ?_)
                  exact (hf.same 8 (by decide)).trans rfl
                · cases ho
                  refine grow_op rfl rfl rfl ?_
                  have e2 : ax.tmps.getD 85 undef = Value.int .i64 ((o.length : Nat) : Int) := hd 2 (by kernel_rfl)
                  have e3 : ax.tmps.getD 86 undef = Value.int .i64 ((i : Nat) : Int) := hd 3 (by kernel_rfl)
                  refine grow_value (v := Value.int .i64 ((q : Nat) : Int)) (w' := w') ?_ rfl (Below.refl _ _)
                  simp only [execOp, Act.eval, e2, e3]
                  go_simp
                  first | exact IntWalk.i64_in _ (by omega) | (rw [IntWalk.i64_in _ (by omega)]; omega)
                · cases ho
                  refine grow_op rfl rfl rfl ?_
                  have e0 : ax.tmps.getD 83 undef = .slice ro o.length rc := hd 0 (by kernel_rfl)
                  have e4 : ax.tmps.getD 87 undef = Value.int .i64 ((q : Nat) : Int) := hd 4 (by kernel_rfl)
                  refine grow_value (v := Value.slice ro q rc) (w' := w') ?_ rfl (Below.refl _ _)
                  simp only [execOp, Act.eval, e0]
                  go_simp
                  try (intro hx; omega)
                · cases ho
                  refine grow_op rfl rfl rfl ?_
                  have e6 : ax.tmps.getD 6 undef = .pointer (some ⟨wo.heap.size, 0, none⟩) := (hf.same 6 (by decide)).trans rfl
                  refine grow_value (v := Value.pointer (some ⟨wo.heap.size, 4, none⟩)) (w' := w') ?_ rfl (Below.refl _ _)
                  simp only [execOp, Act.eval, e6]
                  go_simp
                · cases ho
                  refine grow_op rfl rfl rfl ?_
                  have e6 : ax.tmps.getD 89 undef = Value.pointer (some ⟨wo.heap.size, 4, none⟩) := hd 6 (by kernel_rfl)
                  have c4 : w'.cell? ⟨wo.heap.size, 4, none⟩ = some (.string ⟨xm.toArray⟩) := by rw [Lib.cell_of_heap ((hb.block _ (by omega)).trans HNB8.out)]; rfl
                  refine grow_value (v := Value.string ⟨xm.toArray⟩) (w' := w') ?_ rfl (Below.refl _ _)
                  simp only [execOp, Act.eval, e6]
                  go_simp
                · cases ho
                  refine grow_op rfl rfl rfl ?_
                  have e7 : ax.tmps.getD 7 undef = .pointer (some ⟨w2.heap.size, 0, none⟩) := (hf.same 7 (by decide)).trans (by first | rfl | rw [hs2])
                  have hvb := (hb.block _ (by omega)).trans HVB8.out
                  have c0 : w'.cell? ⟨w2.heap.size, 0, none⟩ = some (.int .i64 6) := by rw [Lib.cell_of_heap hvb]; rfl
                  have c1 : w'.cell? ⟨w2.heap.size, 1, none⟩ = some (.bool xy) := by rw [Lib.cell_of_heap hvb]; rfl
                  have c2 : w'.cell? ⟨w2.heap.size, 2, none⟩ = some (.string ⟨xt.toArray⟩) := by rw [Lib.cell_of_heap hvb]; rfl
                  have c3 : w'.cell? ⟨w2.heap.size, 3, none⟩ = some (.slice none 0 0) := by rw [Lib.cell_of_heap hvb]; rfl
                  have c4 : w'.cell? ⟨w2.heap.size, 4, none⟩ = some (.slice la i lc) := by rw [Lib.cell_of_heap hvb]; rfl
                  refine grow_value (v := Value.agg #[.int .i64 6, .bool xy, .string ⟨xt.toArray⟩, .slice none 0 0, .slice la i lc]) (w' := w') ?_ rfl (Below.refl _ _)
                  simp only [execOp, Act.eval, e7]
                  go_simp
                · cases ho
                  refine grow_op rfl rfl rfl ?_
                  have e7 : ax.tmps.getD 90 undef = Value.string ⟨xm.toArray⟩ := hd 7 (by kernel_rfl)
                  have e8 : ax.tmps.getD 91 undef = Value.agg #[.int .i64 6, .bool xy, .string ⟨xt.toArray⟩, .slice none 0 0, .slice la i lc] := hd 8 (by kernel_rfl)
                  refine grow_value (v := Value.agg #[.string ⟨xm.toArray⟩, .int .i64 6, .bool xy, .string ⟨xt.toArray⟩, .slice none 0 0, .slice la i lc]) (w' := w') ?_ rfl (Below.refl _ _)
                  simp only [execOp, Act.eval, List.map_toArray, List.map_cons, List.map_nil, e7, e8]
                  go_simp
                  try rfl
                · cases ho
                  refine grow_op rfl rfl rfl ?_
                  have e9 : ax.tmps.getD 92 undef = Value.agg #[.string ⟨xm.toArray⟩, .int .i64 6, .bool xy, .string ⟨xt.toArray⟩, .slice none 0 0, .slice la i lc] := hd 9 (by kernel_rfl)
                  refine grow_value (v := .slice (some ⟨w'.heap.size, 0, none⟩) 1 1) (w' := w'.alloc (.cells #[.string ⟨xm.toArray⟩, .int .i64 6, .bool xy, .string ⟨xt.toArray⟩, .slice none 0 0, .slice la i lc] 54)) ?_ ⟨_, rfl, heap_alloc_new _ _⟩ ((Below.refl _ _).alloc (Nat.le_refl _) _)
                  simp only [execOp, Act.eval, List.map_toArray, List.map_cons, List.map_nil, e9]
                  go_simp
                  try rfl
                · simp at ho
              · intro ax w' hf hb hd
                obtain ⟨gb, hv93, hbk⟩ := hd 10 (by decide)
                obtain rfl := hf.eq [Value.slice ro o.length rc, Value.slice ro o.length rc, Value.int .i64 ((o.length : Nat) : Int), Value.int .i64 ((i : Nat) : Int), Value.int .i64 ((q : Nat) : Int), Value.slice ro q rc, Value.pointer (some ⟨wo.heap.size, 4, none⟩), Value.string ⟨xm.toArray⟩, Value.agg #[.int .i64 6, .bool xy, .string ⟨xt.toArray⟩, .slice none 0 0, .slice la i lc], Value.agg #[.string ⟨xm.toArray⟩, .int .i64 6, .bool xy, .string ⟨xt.toArray⟩, .slice none 0 0, .slice la i lc], Value.slice (some ⟨gb, 0, none⟩) 1 1] (fun j hj => match j, hj with
                  | 0, _ => hd 0 (by decide)
                  | 1, _ => hd 1 (by decide)
                  | 2, _ => hd 2 (by decide)
                  | 3, _ => hd 3 (by decide)
                  | 4, _ => hd 4 (by decide)
                  | 5, _ => hd 5 (by decide)
                  | 6, _ => hd 6 (by decide)
                  | 7, _ => hd 7 (by decide)
                  | 8, _ => hd 8 (by decide)
                  | 9, _ => hd 9 (by decide)
                  | 10, _ => hv93
                  | k + 11, h => absurd h (by simp)) (by decide) (by kernel_rfl) rfl
                simp only [List.zip_cons_cons, List.zip_nil_right, List.foldl_cons, List.foldl_nil, Act.put, List.setIfInBounds_toArray, List.set_cons_succ, List.set_cons_zero]
                have HW9 := Lib.hid (own_below HW8.out hb)
                have HB9 := Lib.hid (HB8.out.trans (hb.mono hsz8))
                have HRT9 := Lib.hid (HRT.out.lt.keep fun b hb' _ => hb.block b hb'.2)
                have HRP9 := Lib.hid (HRP.out.lt.keep fun b hb' _ => hb.block b hb'.2)
                have HG9 := Lib.hid hbk
                have hsz9 : wr.heap.size ≤ w'.heap.size := hb.size
                clear hd hf hb hbk hv93
                (refine wpList_append_at rfl (.tmp 88) (.tmp 93) 26 rfl w1.heap.size 54 6 96 Tryz.underlying26 (by kernel_rfl) (by decide) (.slice ro q rc) q _ rfl HW9.out gb 1 #[.string ⟨xm.toArray⟩, .int .i64 6, .bool xy, .string ⟨xt.toArray⟩, .slice none 0 0, .slice la i lc] 54 (0, 0) HG9.out rfl rfl ?c2 ?c3 ?c4 ?c5 ?_)
                case c2 => intro u hu; simp at hu; rcases hu with rfl | rfl | rfl | rfl | rfl | rfl <;> rfl
                case c3 => omega
                case c4 => omega
                case c5 => omega
                intro v' w9 hown' hgrow hinfo
                have HOWN : Hid (w9.ownsRow w1.heap.size 54 6 v' (treeOpen (l.take (j + 1))).length (memCells (treeOpen (l.take (j + 1))) (cm.take q ++ [[.int .i64 6, .bool xy, strV xt, .slice none 0 0, .slice la i lc]]))) := Lib.hid (by
                  rw [HTQ.out, memCells_snoc _ _ _ _ _ (by simp [HRM.out.1]), memCells_take o cm q HRM.out.1 (reps_rows HRM.out)]
                  have e : (o.take q ++ [(xm, nodeJ ⟨6, xn, xy, xt, xm⟩ (o.drop q))]).length = q + 1 := by simp <;> omega
                  rw [e]
                  exact hown')
                have hkeep : ∀ b, b < w'.heap.size → (Value.slice ro q rc).ownBlock ≠ some b → w9.heap[b]? = w'.heap[b]? := fun b hb hne => hgrow.block b hb (fun e => hne e.symm)
                have hsame : (Value.slice ro q rc).ownBlock = (Value.slice ro o.length rc).ownBlock := by cases ro <;> rfl
                have hok : ∀ b, b < w'.heap.size → (Value.slice ro o.length rc).ownBlock ≠ some b → v'.ownBlock ≠ some b := by
                  intro b hb hne e
                  rcases hinfo with h | h
                  · rw [h, hsame] at e; exact hne e
                  · rw [h] at e; simp only [Option.some.injEq] at e; omega
                have HREPS : Hid (RepsM (fun b => w1.heap.size ≤ b ∧ v'.ownBlock ≠ some b) w9 (cm.take q ++ [[.int .i64 6, .bool xy, strV xt, .slice none 0 0, .slice la i lc]]) (treeOpen (l.take (j + 1)))) := Lib.hid (by
                  rw [HTQ.out]
                  refine RepsM.snoc ?_ ?_
                  · exact (HRT9.out.lt.keep fun b hb _ => hkeep b hb.2 (by rw [hsame]; exact hb.1.1.1.2)).mono fun b hb => ⟨hb.1.1.1.1, hok b hb.2 hb.1.1.1.2⟩
                  · exact (HRP9.out.lt.keep fun b hb _ => hkeep b hb.2 (by rw [hsame]; exact hb.1.1.2)).mono fun b hb => ⟨hb.1.1.1, hok b hb.2 hb.1.1.2⟩)
                have HBE := Lib.hid (below_own HB9.out HW9.out hgrow (by omega))
                have hlen9 : (treeOpen (l.take (j + 1))).length ≤ j + 1 := by rw [HTQ.out]; simp <;> omega
                have HALL2 : Hid ((l.take (j + 1)).all shortN = true) := Lib.hid (by rw [HALL.out, HSH.out, HSN.out]; rfl)
                clear hown' hgrow hinfo hkeep hok
                go_wp2_with fail
                go_roundg (gO - 1)
                case measure => omega
                case rel => exact ⟨j + 1, v', _, rfl, by first | rfl | (congr 1), by omega, hlen9, HALL2, HOWN, HREPS, HBE⟩
        · have q5 : (xk == 5) = false := by simpa using hk5
          have q6 : (xk == 6) = false := by simpa using hk6
          rw [if_neg (by rintro (e | e); exact hk5 e; exact hk6 e)] at hn
          subst hn
          clear hq hqI q
          go_upto_region 14 with (fail)
          try simp only [Nat.sub_self]
          generalize (if rc = o.length then ro else Option.map (fun x => x.add (o.length * 6)) ro) = KA at *
          clear m0 m1
          go_wp2_with fail
          go_loopg [62] 0 (fun k iv wr => iv = .int .i64 0 ∧ wr = w3)
          case atStart => exact ⟨rfl, rfl⟩
          case round =>
            obtain ⟨rfl, rfl⟩ := hrel
            have HRP : Hid (Rep (fun b => w1.heap.size ≤ b ∧ (Value.slice ro o.length rc).ownBlock ≠ some b) wr [.int .i64 xk, .bool xy, strV xt, .slice none 0 0, .slice none 0 0] (nodeJ ⟨xk, xn, xy, xt, xm⟩ (o.drop o.length))) := Lib.hid (by
              rw [List.drop_of_length_le (Nat.le_refl _)]
              unfold nodeJ
              rw [if_neg hk5, if_neg hk5]
              exact Rep.leaf _ _ xk xy xt)
            have HNB8 := Lib.hid HXN.out
            have HVB8 := Lib.hid HX3.out
            have HTQ : Hid (treeOpen (l.take (j + 1)) = o.take o.length ++ [(xm, nodeJ ⟨xk, xn, xy, xt, xm⟩ (o.drop o.length))]) := Lib.hid (by
              rw [HTS.out]
              unfold treeStep
              rw [HN.out, Nat.sub_zero])
            have HW8 := Lib.hid (own_cut (own_below HW.out HBX3.out) o.length (by omega))
            have HRT := Lib.hid ((HRM.out.lt.keep fun b hb _ => (HBX3.out).block b hb.2).take o.length)
            have HB8 := Lib.hid (HB.out.trans ((HBX3.out).mono hszB))
            have hsz8 : w1.heap.size ≤ wr.heap.size := HB8.out.size
            go_upto_region 21 with (fail)
            refine wp_region_grow_tail 11 (by kernel_rfl) (by kernel_rfl) (by decide) (by kernel_rfl) [83, 84, 85, 86, 87, 88, 89, 90, 91, 92, 93] rfl (by decide) (by kernel_rfl) (fun iX => [VIs (Value.slice ro o.length rc), VIs (Value.slice ro o.length rc), VIs (Value.int .i64 ((o.length : Nat) : Int)), VIs (Value.int .i64 ((0 : Nat) : Int)), VIs (Value.int .i64 ((o.length : Nat) : Int)), VIs (Value.slice ro o.length rc), VIs (Value.pointer (some ⟨wo.heap.size, 4, none⟩)), VIs (Value.string ⟨xm.toArray⟩), VIs (Value.agg #[.int .i64 xk, .bool xy, .string ⟨xt.toArray⟩, .slice none 0 0, .slice none 0 0]), VIs (Value.agg #[.string ⟨xm.toArray⟩, .int .i64 xk, .bool xy, .string ⟨xt.toArray⟩, .slice none 0 0, .slice none 0 0]), VM #[.string ⟨xm.toArray⟩, .int .i64 xk, .bool xy, .string ⟨xt.toArray⟩, .slice none 0 0, .slice none 0 0]].getD iX fun _ _ => True) (stab_list _ ?_) ?_ ?_
            · skip
              intro V hV
              simp only [List.mem_cons, List.mem_nil_iff, or_false] at hV
              rcases hV with rfl | rfl | rfl | rfl | rfl | rfl | rfl | rfl | rfl | rfl | rfl <;> first | exact VIs.stab _ | exact VM.stab _
            · intro iX op ho ax w' hf hb hd
              rcases iX with _ | _ | _ | _ | _ | _ | _ | _ | _ | _ | _ | iX
              · cases ho
                refine grow_op rfl rfl rfl (grow_move rfl ?_)
                exact (hf.same 4 (by decide)).trans rfl
              · cases ho
                refine grow_op rfl rfl rfl (grow_move rfl ?_)
                exact (hf.same 4 (by decide)).trans rfl
              · cases ho
                refine grow_op rfl rfl rfl ?_
                have e1 : ax.tmps.getD 84 undef = .slice ro o.length rc := hd 1 (by kernel_rfl)
                refine grow_value (v := Value.int .i64 ((o.length : Nat) : Int)) (w' := w') ?_ rfl (Below.refl _ _)
                simp only [execOp, resolve, invoke, builtin]
                go_simp
              · cases ho
                refine grow_op rfl rfl rfl (grow_move rfl ?_)
                exact (hf.same 8 (by decide)).trans rfl
              · cases ho
                refine grow_op rfl rfl rfl ?_
                have e2 : ax.tmps.getD 85 undef = Value.int .i64 ((o.length : Nat) : Int) := hd 2 (by kernel_rfl)
                have e3 : ax.tmps.getD 86 undef = Value.int .i64 ((0 : Nat) : Int) := hd 3 (by kernel_rfl)
                refine grow_value (v := Value.int .i64 ((o.length : Nat) : Int)) (w' := w') ?_ rfl (Below.refl _ _)
                simp only [execOp, Act.eval, e2, e3]
                go_simp
                first | exact IntWalk.i64_in _ (by omega) | (rw [IntWalk.i64_in _ (by omega)]; omega)
              · cases ho
                refine grow_op rfl rfl rfl ?_
                have e0 : ax.tmps.getD 83 undef = .slice ro o.length rc := hd 0 (by kernel_rfl)
                have e4 : ax.tmps.getD 87 undef = Value.int .i64 ((o.length : Nat) : Int) := hd 4 (by kernel_rfl)
                refine grow_value (v := Value.slice ro o.length rc) (w' := w') ?_ rfl (Below.refl _ _)
                simp only [execOp, Act.eval, e0]
                go_simp
                try (intro hx; omega)
              · cases ho
                refine grow_op rfl rfl rfl ?_
                have e6 : ax.tmps.getD 6 undef = .pointer (some ⟨wo.heap.size, 0, none⟩) := (hf.same 6 (by decide)).trans rfl
                refine grow_value (v := Value.pointer (some ⟨wo.heap.size, 4, none⟩)) (w' := w') ?_ rfl (Below.refl _ _)
                simp only [execOp, Act.eval, e6]
                go_simp
              · cases ho
                refine grow_op rfl rfl rfl ?_
                have e6 : ax.tmps.getD 89 undef = Value.pointer (some ⟨wo.heap.size, 4, none⟩) := hd 6 (by kernel_rfl)
                have c4 : w'.cell? ⟨wo.heap.size, 4, none⟩ = some (.string ⟨xm.toArray⟩) := by rw [Lib.cell_of_heap ((hb.block _ (by omega)).trans HNB8.out)]; rfl
                refine grow_value (v := Value.string ⟨xm.toArray⟩) (w' := w') ?_ rfl (Below.refl _ _)
                simp only [execOp, Act.eval, e6]
                go_simp
              · cases ho
                refine grow_op rfl rfl rfl ?_
                have e7 : ax.tmps.getD 7 undef = .pointer (some ⟨w2.heap.size, 0, none⟩) := (hf.same 7 (by decide)).trans (by first | rfl | rw [hs2])
                have hvb := (hb.block _ (by omega)).trans HVB8.out
                have c0 : w'.cell? ⟨w2.heap.size, 0, none⟩ = some (.int .i64 xk) := by rw [Lib.cell_of_heap hvb]; rfl
                have c1 : w'.cell? ⟨w2.heap.size, 1, none⟩ = some (.bool xy) := by rw [Lib.cell_of_heap hvb]; rfl
                have c2 : w'.cell? ⟨w2.heap.size, 2, none⟩ = some (.string ⟨xt.toArray⟩) := by rw [Lib.cell_of_heap hvb]; rfl
                have c3 : w'.cell? ⟨w2.heap.size, 3, none⟩ = some (.slice none 0 0) := by rw [Lib.cell_of_heap hvb]; rfl
                have c4 : w'.cell? ⟨w2.heap.size, 4, none⟩ = some (.slice none 0 0) := by rw [Lib.cell_of_heap hvb]; rfl
                refine grow_value (v := Value.agg #[.int .i64 xk, .bool xy, .string ⟨xt.toArray⟩, .slice none 0 0, .slice none 0 0]) (w' := w') ?_ rfl (Below.refl _ _)
                simp only [execOp, Act.eval, e7]
                go_simp
              · cases ho
                refine grow_op rfl rfl rfl ?_
                have e7 : ax.tmps.getD 90 undef = Value.string ⟨xm.toArray⟩ := hd 7 (by kernel_rfl)
                have e8 : ax.tmps.getD 91 undef = Value.agg #[.int .i64 xk, .bool xy, .string ⟨xt.toArray⟩, .slice none 0 0, .slice none 0 0] := hd 8 (by kernel_rfl)
                refine grow_value (v := Value.agg #[.string ⟨xm.toArray⟩, .int .i64 xk, .bool xy, .string ⟨xt.toArray⟩, .slice none 0 0, .slice none 0 0]) (w' := w') ?_ rfl (Below.refl _ _)
                simp only [execOp, Act.eval, List.map_toArray, List.map_cons, List.map_nil, e7, e8]
                go_simp
                try rfl
              · cases ho
                refine grow_op rfl rfl rfl ?_
                have e9 : ax.tmps.getD 92 undef = Value.agg #[.string ⟨xm.toArray⟩, .int .i64 xk, .bool xy, .string ⟨xt.toArray⟩, .slice none 0 0, .slice none 0 0] := hd 9 (by kernel_rfl)
                refine grow_value (v := .slice (some ⟨w'.heap.size, 0, none⟩) 1 1) (w' := w'.alloc (.cells #[.string ⟨xm.toArray⟩, .int .i64 xk, .bool xy, .string ⟨xt.toArray⟩, .slice none 0 0, .slice none 0 0] 54)) ?_ ⟨_, rfl, heap_alloc_new _ _⟩ ((Below.refl _ _).alloc (Nat.le_refl _) _)
                simp only [execOp, Act.eval, List.map_toArray, List.map_cons, List.map_nil, e9]
                go_simp
                try rfl
              · simp at ho
            · intro ax w' hf hb hd
              obtain ⟨gb, hv93, hbk⟩ := hd 10 (by decide)
              obtain rfl := hf.eq [Value.slice ro o.length rc, Value.slice ro o.length rc, Value.int .i64 ((o.length : Nat) : Int), Value.int .i64 ((0 : Nat) : Int), Value.int .i64 ((o.length : Nat) : Int), Value.slice ro o.length rc, Value.pointer (some ⟨wo.heap.size, 4, none⟩), Value.string ⟨xm.toArray⟩, Value.agg #[.int .i64 xk, .bool xy, .string ⟨xt.toArray⟩, .slice none 0 0, .slice none 0 0], Value.agg #[.string ⟨xm.toArray⟩, .int .i64 xk, .bool xy, .string ⟨xt.toArray⟩, .slice none 0 0, .slice none 0 0], Value.slice (some ⟨gb, 0, none⟩) 1 1] (fun j hj => match j, hj with
                | 0, _ => hd 0 (by decide)
                | 1, _ => hd 1 (by decide)
                | 2, _ => hd 2 (by decide)
                | 3, _ => hd 3 (by decide)
                | 4, _ => hd 4 (by decide)
                | 5, _ => hd 5 (by decide)
                | 6, _ => hd 6 (by decide)
                | 7, _ => hd 7 (by decide)
                | 8, _ => hd 8 (by decide)
                | 9, _ => hd 9 (by decide)
                | 10, _ => hv93
                | k + 11, h => absurd h (by simp)) (by decide) (by kernel_rfl) rfl
              simp only [List.zip_cons_cons, List.zip_nil_right, List.foldl_cons, List.foldl_nil, Act.put, List.setIfInBounds_toArray, List.set_cons_succ, List.set_cons_zero]
              have HW9 := Lib.hid (own_below HW8.out hb)
              have HB9 := Lib.hid (HB8.out.trans (hb.mono hsz8))
              have HRT9 := Lib.hid (HRT.out.lt.keep fun b hb' _ => hb.block b hb'.2)
              have HRP9 := Lib.hid (HRP.out.lt.keep fun b hb' _ => hb.block b hb'.2)
              have HG9 := Lib.hid hbk
              have hsz9 : wr.heap.size ≤ w'.heap.size := hb.size
              clear hd hf hb hbk hv93
              (refine wpList_append_at rfl (.tmp 88) (.tmp 93) 26 rfl w1.heap.size 54 6 96 Tryz.underlying26 (by kernel_rfl) (by decide) (.slice ro o.length rc) o.length _ rfl HW9.out gb 1 #[.string ⟨xm.toArray⟩, .int .i64 xk, .bool xy, .string ⟨xt.toArray⟩, .slice none 0 0, .slice none 0 0] 54 (0, 0) HG9.out rfl rfl ?c2 ?c3 ?c4 ?c5 ?_)
              case c2 => intro u hu; simp at hu; rcases hu with rfl | rfl | rfl | rfl | rfl | rfl <;> rfl
              case c3 => omega
              case c4 => omega
              case c5 => omega
              intro v' w9 hown' hgrow hinfo
              have HOWN : Hid (w9.ownsRow w1.heap.size 54 6 v' (treeOpen (l.take (j + 1))).length (memCells (treeOpen (l.take (j + 1))) (cm.take o.length ++ [[.int .i64 xk, .bool xy, strV xt, .slice none 0 0, .slice none 0 0]]))) := Lib.hid (by
                rw [HTQ.out, memCells_snoc _ _ _ _ _ (by simp [HRM.out.1]), memCells_take o cm o.length HRM.out.1 (reps_rows HRM.out)]
                have e : (o.take o.length ++ [(xm, nodeJ ⟨xk, xn, xy, xt, xm⟩ (o.drop o.length))]).length = o.length + 1 := by simp <;> omega
                rw [e]
                exact hown')
              have hkeep : ∀ b, b < w'.heap.size → (Value.slice ro o.length rc).ownBlock ≠ some b → w9.heap[b]? = w'.heap[b]? := fun b hb hne => hgrow.block b hb (fun e => hne e.symm)
              have hsame : (Value.slice ro o.length rc).ownBlock = (Value.slice ro o.length rc).ownBlock := by cases ro <;> rfl
              have hok : ∀ b, b < w'.heap.size → (Value.slice ro o.length rc).ownBlock ≠ some b → v'.ownBlock ≠ some b := by
                intro b hb hne e
                rcases hinfo with h | h
                · rw [h, hsame] at e; exact hne e
                · rw [h] at e; simp only [Option.some.injEq] at e; omega
              have HREPS : Hid (RepsM (fun b => w1.heap.size ≤ b ∧ v'.ownBlock ≠ some b) w9 (cm.take o.length ++ [[.int .i64 xk, .bool xy, strV xt, .slice none 0 0, .slice none 0 0]]) (treeOpen (l.take (j + 1)))) := Lib.hid (by
                rw [HTQ.out]
                refine RepsM.snoc ?_ ?_
                · exact (HRT9.out.lt.keep fun b hb _ => hkeep b hb.2 (by rw [hsame]; exact hb.1.1.1.2)).mono fun b hb => ⟨hb.1.1.1.1, hok b hb.2 hb.1.1.1.2⟩
                · exact (HRP9.out.lt.keep fun b hb _ => hkeep b hb.2 (by rw [hsame]; exact hb.1.1.2)).mono fun b hb => ⟨hb.1.1.1, hok b hb.2 hb.1.1.2⟩)
              have HBE := Lib.hid (below_own HB9.out HW9.out hgrow (by omega))
              have hlen9 : (treeOpen (l.take (j + 1))).length ≤ j + 1 := by rw [HTQ.out]; simp <;> omega
              have HALL2 : Hid ((l.take (j + 1)).all shortN = true) := Lib.hid (by rw [HALL.out, HSH.out, HSN.out]; rfl)
              clear hown' hgrow hinfo hkeep hok
              go_wp2_with fail
              go_roundg (gO - 1)
              case measure => omega
              case rel => exact ⟨j + 1, v', _, rfl, by first | rfl | (congr 1), by omega, hlen9, HALL2, HOWN, HREPS, HBE⟩
      · have hge : ¬ (j : Int) < (l.length : Int) := by omega
        obtain rfl : j = l.length := by omega
        have hta : l.take l.length = l := List.take_of_length_le (Nat.le_refl _)
        have HTV2 : Hid (treeV l = (treeOpen (l.take l.length)).getLast?.map Prod.snd) := Lib.hid (by
          have h1 := HSH.out
          rw [hta] at h1
          rw [HTV.out, if_pos ⟨hl, h1⟩, hta])
        generalize treeOpen (l.take l.length) = o at *
        clear hta
        have HBW := Lib.hid (HB1.out.trans (HB.out.mono (by omega)))
        have HRZ := Lib.hid ((HB.out.block w.heap.size (by omega)).trans HX1.out)
        by_cases ho : o.length = 0
        · have HNN : Hid (treeV l = none) := Lib.hid (by
            rw [HTV2.out, List.eq_nil_of_length_eq_zero ho]; rfl)
          have hoI : ((o.length : Int) == 0) = true := by rw [ho]; rfl
          clear ho
          have d0 : wo.cell? ⟨w.heap.size, 0, none⟩ = some (.int .i64 0) := by rw [Lib.cell_of_heap HRZ.out]; rfl
          have d1 : wo.cell? ⟨w.heap.size, 1, none⟩ = some (.bool false) := by rw [Lib.cell_of_heap HRZ.out]; rfl
          have d2 : wo.cell? ⟨w.heap.size, 2, none⟩ = some (.string ⟨#[]⟩) := by rw [Lib.cell_of_heap HRZ.out]; rfl
          have d3 : wo.cell? ⟨w.heap.size, 3, none⟩ = some (.slice none 0 0) := by rw [Lib.cell_of_heap HRZ.out]; rfl
          have d4 : wo.cell? ⟨w.heap.size, 4, none⟩ = some (.slice none 0 0) := by rw [Lib.cell_of_heap HRZ.out]; rfl
          have f0 := Lib.frozen_of_heap HRZ.out 0
          have f1 := Lib.frozen_of_heap HRZ.out 1
          have f2 := Lib.frozen_of_heap HRZ.out 2
          have f3 := Lib.frozen_of_heap HRZ.out 3
          have f4 := Lib.frozen_of_heap HRZ.out 4
          go_wp2_with fail
          have hst := value_stored HRZ.out (.int .i64 0) (.bool false) (.string ⟨#[]⟩) (.slice none 0 0) (.slice none 0 0)
          have hbe := zero_stored HBW.out (Nat.le_refl _) (.int .i64 0) (.bool false) (.string ⟨#[]⟩) (.slice none 0 0) (.slice none 0 0)
          have e0 := Lib.cell_of_heap hst 0
          have e1 := Lib.cell_of_heap hst 1
          have e2 := Lib.cell_of_heap hst 2
          have e3 := Lib.cell_of_heap hst 3
          have e4 := Lib.cell_of_heap hst 4
          simp only [List.getElem?_toArray] at e0 e1 e2 e3 e4
          refine bodyPost_ret (v := .tuple #[.agg #[.int .i64 0, .bool false, .string ⟨#[]⟩, .slice none 0 0, .slice none 0 0], .bool false]) (by simp [results, Tryz.results8, go_sem, e0, e1, e2, e3, e4]) rfl ?_
          exact ⟨hbe, zero5, by rw [HNN.out]; rfl, by rw [HNN.out]; exact Rep.leaf _ _ 0 false []⟩
        · have hoI : ((o.length : Int) == 0) = false := by rw [beq_eq_false_iff_ne]; omega
          obtain ⟨m, hm⟩ : ∃ m, o.length = m + 1 := ⟨o.length - 1, by omega⟩
          have hmI : ((o.length : Nat) : Int) - 1 = (m : Int) := by omega
          obtain ⟨kb, koff, k2, y2, t2, a2, l2, c2, a3, l3, c3, ero, hcmi, g0, g1, g2, g3, g4, g5⟩ := mem_row HRO.out HRM.out m (by omega)
          subst ero
          have HSS : Hid (treeV l = some (o[m]'(by omega)).2) := Lib.hid (by
            rw [HTV2.out, List.getLast?_eq_getElem?, show o.length - 1 = m by omega, List.getElem?_eq_getElem (by omega)]
            rfl)
          have HREP : Hid (Rep (fun b => w1.heap.size ≤ b ∧ b < wo.heap.size) wo [.int .i64 k2, .bool y2, .string ⟨t2⟩, .slice a2 l2 c2, .slice a3 l3 c3] (o[m]'(by omega)).2) := Lib.hid (by
            have h1 := HRM.out.lt.2 m (by rw [HRM.out.1]; omega) (by omega)
            rw [List.getElem?_eq_getElem (by rw [HRM.out.1]; omega)] at hcmi
            simp only [Option.some.injEq] at hcmi
            rw [hcmi] at h1
            exact h1.mono fun b hb => ⟨hb.1.1, hb.2⟩)
          have hmo : m < o.length := by omega
          clear hcmi g0
          generalize (o[m]'(by omega)).2 = OV at HSS HREP
          clear ho hm
          have d0 : wo.cell? ⟨w.heap.size, 0, none⟩ = some (.int .i64 0) := by rw [Lib.cell_of_heap HRZ.out]; rfl
          have d1 : wo.cell? ⟨w.heap.size, 1, none⟩ = some (.bool false) := by rw [Lib.cell_of_heap HRZ.out]; rfl
          have d2 : wo.cell? ⟨w.heap.size, 2, none⟩ = some (.string ⟨#[]⟩) := by rw [Lib.cell_of_heap HRZ.out]; rfl
          have d3 : wo.cell? ⟨w.heap.size, 3, none⟩ = some (.slice none 0 0) := by rw [Lib.cell_of_heap HRZ.out]; rfl
          have d4 : wo.cell? ⟨w.heap.size, 4, none⟩ = some (.slice none 0 0) := by rw [Lib.cell_of_heap HRZ.out]; rfl
          have f0 := Lib.frozen_of_heap HRZ.out 0
          have f1 := Lib.frozen_of_heap HRZ.out 1
          have f2 := Lib.frozen_of_heap HRZ.out 2
          have f3 := Lib.frozen_of_heap HRZ.out 3
          have f4 := Lib.frozen_of_heap HRZ.out 4
          go_wp2_with fail
          have hst := value_stored HRZ.out (.int .i64 k2) (.bool y2) (.string ⟨t2⟩) (.slice a2 l2 c2) (.slice a3 l3 c3)
          have hbe := zero_stored HBW.out (Nat.le_refl _) (.int .i64 k2) (.bool y2) (.string ⟨t2⟩) (.slice a2 l2 c2) (.slice a3 l3 c3)
          have e0 := Lib.cell_of_heap hst 0
          have e1 := Lib.cell_of_heap hst 1
          have e2 := Lib.cell_of_heap hst 2
          have e3 := Lib.cell_of_heap hst 3
          have e4 := Lib.cell_of_heap hst 4
          simp only [List.getElem?_toArray] at e0 e1 e2 e3 e4
          refine bodyPost_ret (v := .tuple #[.agg #[.int .i64 k2, .bool y2, .string ⟨t2⟩, .slice a2 l2 c2, .slice a3 l3 c3], .bool true]) (by simp [results, Tryz.results8, go_sem, e0, e1, e2, e3, e4]) rfl ?_
          exact ⟨hbe, [.int .i64 k2, .bool y2, .string ⟨t2⟩, .slice a2 l2 c2, .slice a3 l3 c3], by rw [HSS.out]; rfl, by
            rw [HSS.out]
            refine (HREP.out.keep fun b hb hlt => ?_).mono fun b hb => (show w.heap.size ≤ b by omega)
            exact stored_other _ _ _ _ _ _ _ (by omega)⟩
  · have hlI : (40 : Int) < (l.length : Int) := by omega
    have HNN : Hid (treeV l = none) := Lib.hid (by rw [HTV.out, if_neg (fun h => hl h.1)])
    have HRZ := Lib.hid HX1.out
    have d0 : w1.cell? ⟨w.heap.size, 0, none⟩ = some (.int .i64 0) := by rw [Lib.cell_of_heap HRZ.out]; rfl
    have d1 : w1.cell? ⟨w.heap.size, 1, none⟩ = some (.bool false) := by rw [Lib.cell_of_heap HRZ.out]; rfl
    have d2 : w1.cell? ⟨w.heap.size, 2, none⟩ = some (.string ⟨#[]⟩) := by rw [Lib.cell_of_heap HRZ.out]; rfl
    have d3 : w1.cell? ⟨w.heap.size, 3, none⟩ = some (.slice none 0 0) := by rw [Lib.cell_of_heap HRZ.out]; rfl
    have d4 : w1.cell? ⟨w.heap.size, 4, none⟩ = some (.slice none 0 0) := by rw [Lib.cell_of_heap HRZ.out]; rfl
    have f0 := Lib.frozen_of_heap HRZ.out 0
    have f1 := Lib.frozen_of_heap HRZ.out 1
    have f2 := Lib.frozen_of_heap HRZ.out 2
    have f3 := Lib.frozen_of_heap HRZ.out 3
    have f4 := Lib.frozen_of_heap HRZ.out 4
    go_wp2_with fail
    have hst := value_stored HRZ.out (.int .i64 0) (.bool false) (.string ⟨#[]⟩) (.slice none 0 0) (.slice none 0 0)
    have hbe := zero_stored HB1.out (Nat.le_refl _) (.int .i64 0) (.bool false) (.string ⟨#[]⟩) (.slice none 0 0) (.slice none 0 0)
    have e0 := Lib.cell_of_heap hst 0
    have e1 := Lib.cell_of_heap hst 1
    have e2 := Lib.cell_of_heap hst 2
    have e3 := Lib.cell_of_heap hst 3
    have e4 := Lib.cell_of_heap hst 4
    simp only [List.getElem?_toArray] at e0 e1 e2 e3 e4
    refine bodyPost_ret (v := .tuple #[.agg #[.int .i64 0, .bool false, .string ⟨#[]⟩, .slice none 0 0, .slice none 0 0], .bool false]) (by simp [results, Tryz.results8, go_sem, e0, e1, e2, e3, e4]) rfl ?_
    exact ⟨hbe, zero5, by rw [HNN.out]; rfl, by rw [HNN.out]; exact Rep.leaf _ _ 0 false []⟩
end Go.Proofs.YtgcfikiajingcaaGreat
/- The document's numbers, by steps. Plain. -/
set_option linter.unusedVariables false
namespace Go.Proofs.YtgcfikiajingcaaGreat

/-- Does the byte c come? -/
def isP (S : List UInt8) (p : Nat) (e : Int) (c : UInt8) : Bool := decide (e = 0) && ((S.drop p).head? == some c)
def digP (S : List UInt8) (p : Nat) (e : Int) : Bool := decide (e = 0) && (match S.drop p with
  | [] => false
  | c :: _ => digB c)
/-- Where the reader stands, and its fault. -/
structure PS where
  p : Nat
  e : Int
def takeP (S : List UInt8) (s : PS) (c : UInt8) : PS := if isP S s.p s.e c then ⟨s.p + 1, s.e⟩ else s
def dgN (r : List UInt8) : Nat := (r.takeWhile digB).length
def digitsP (S : List UInt8) (s : PS) : PS := if digP S s.p s.e then ⟨s.p + dgN (S.drop s.p), s.e⟩ else ⟨s.p, if s.e = 0 then 31 else s.e⟩
def expP (S : List UInt8) (s : PS) : PS := digitsP S (if isP S s.p s.e 43 then takeP S s 43 else takeP S s 45)
def tailP (S : List UInt8) (s : PS) : PS :=
  if isP S s.p s.e 101 then expP S (takeP S s 101) else if isP S s.p s.e 69 then expP S (takeP S s 69) else s
def fracP (S : List UInt8) (s : PS) : PS := if isP S s.p s.e 46 then digitsP S (takeP S s 46) else s
def intP (S : List UInt8) (s : PS) : PS := if isP S s.p s.e 48 then takeP S s 48 else digitsP S s
def numP (S : List UInt8) (s : PS) : PS := tailP S (fracP S (intP S (takeP S s 45)))
theorem isP_dead {S : List UInt8} {p : Nat} {e : Int} {c : UInt8} (h : e ≠ 0) : isP S p e c = false := by simp [isP, h]
theorem isP_live {S : List UInt8} {p : Nat} {c : UInt8} : isP S p 0 c = ((S.drop p).head? == some c) := by simp [isP]
theorem digP_live {S : List UInt8} {p : Nat} : digP S p 0 = digB (peekL (S.drop p)) := by
  unfold digP peekL
  cases S.drop p with
  | nil => decide
  | cons c r => simp
/-- A dead reader stays so. -/
theorem take_dead {S : List UInt8} {s : PS} {c : UInt8} (h : s.e ≠ 0) : takeP S s c = s := by unfold takeP; rw [isP_dead h]; rfl
theorem digits_dead {S : List UInt8} {s : PS} (h : s.e ≠ 0) : digitsP S s = s := by
  unfold digitsP
  rw [show digP S s.p s.e = false by simp [digP, h]]
  simp [h]
theorem exp_dead {S : List UInt8} {s : PS} (h : s.e ≠ 0) : expP S s = s := by
  unfold expP
  rw [isP_dead h]
  simp only [Bool.false_eq_true, if_false]
  rw [take_dead h, digits_dead h]
theorem tail_dead {S : List UInt8} {s : PS} (h : s.e ≠ 0) : tailP S s = s := by
  unfold tailP
  rw [isP_dead h, isP_dead h]; rfl
theorem frac_dead {S : List UInt8} {s : PS} (h : s.e ≠ 0) : fracP S s = s := by
  unfold fracP
  rw [isP_dead h]; rfl
/-- The reader, as what is left. -/
def Same6 (S : List UInt8) (s : PS) (q : PR Unit) : Prop := s.p ≤ S.length ∧ match q with
  | .ok _ r => s.e = 0 ∧ S.drop s.p = r
  | .bad _ => s.e = 31
theorem take_hit {S : List UInt8} {p : Nat} {c : UInt8} (h : (S.drop p).head? = some c) : takeP S ⟨p, 0⟩ c = ⟨p + 1, 0⟩ ∧ S.drop (p + 1) = (S.drop p).tail ∧ p + 1 ≤ S.length := by
  have hlt : p < S.length := by
    rcases Nat.lt_or_ge p S.length with h' | h'
    · exact h'
    · rw [List.drop_eq_nil_of_le h'] at h; cases h
  refine ⟨?_, by simp, hlt⟩
  unfold takeP
  simp only [isP_live, h, BEq.rfl, if_true]
theorem take_miss {S : List UInt8} {p : Nat} {c : UInt8} (h : (S.drop p).head? ≠ some c) : takeP S ⟨p, 0⟩ c = ⟨p, 0⟩ := by
  unfold takeP
  simp only [isP_live]
  rw [if_neg (by simpa using h)]
theorem skip_same {S : List UInt8} {p : Nat} {c : UInt8} (hp : p ≤ S.length) : ∃ p', takeP S ⟨p, 0⟩ c = ⟨p', 0⟩ ∧ S.drop p' = skipL c (S.drop p) ∧ p' ≤ S.length := by
  unfold skipL
  by_cases h : (S.drop p).head? = some c
  · obtain ⟨h1, h2, h3⟩ := take_hit h
    exact ⟨p + 1, h1, by rw [if_pos h, h2], h3⟩
  · exact ⟨p, take_miss h, by rw [if_neg h], hp⟩
theorem drop_dg (r : List UInt8) : r.drop (dgN r) = r.dropWhile digB := by
  unfold dgN
  conv => lhs; rw [← List.takeWhile_append_dropWhile (p := digB) (l := r)]
  induction r with
  | nil => rfl
  | cons c r ih =>
    by_cases h : digB c = true
    · simp only [List.takeWhile_cons_of_pos h, List.dropWhile_cons_of_pos h, List.length_cons, List.cons_append, List.drop_succ_cons]
      exact ih
    · simp [List.takeWhile_cons_of_neg h, List.dropWhile_cons_of_neg h]
theorem digits_same {S : List UInt8} {p : Nat} (hp : p ≤ S.length) : Same6 S (digitsP S ⟨p, 0⟩) (digitsL (S.drop p)) := by
  unfold digitsP digitsL
  simp only [digP_live]
  split
  · refine ⟨?_, rfl, ?_⟩
    · have : dgN (S.drop p) ≤ (S.drop p).length := by unfold dgN; exact (List.takeWhile_sublist _).length_le
      rw [List.length_drop] at this
      show p + dgN (S.drop p) ≤ S.length
      omega
    · show S.drop (p + dgN (S.drop p)) = _
      rw [← List.drop_drop, drop_dg]
  · exact ⟨hp, rfl⟩
theorem exp_same {S : List UInt8} {p : Nat} (hp : p ≤ S.length) : Same6 S (expP S ⟨p, 0⟩) (digitsL (if (S.drop p).head? = some 43 then (S.drop p).tail else skipL 45 (S.drop p))) := by
  unfold expP
  simp only [isP_live]
  by_cases h : (S.drop p).head? = some 43
  · obtain ⟨h1, h2, h3⟩ := take_hit h
    rw [if_pos (by simp [h]), if_pos h, h1, ← h2]
    exact digits_same h3
  · rw [if_neg (by simpa using h), if_neg h]
    obtain ⟨p', h1, h2, h3⟩ := skip_same (S := S) (c := 45) hp
    rw [h1, ← h2]
    exact digits_same h3
theorem tail_same {S : List UInt8} {p : Nat} (hp : p ≤ S.length) : Same6 S (tailP S ⟨p, 0⟩) (numTail (S.drop p)) := by
  unfold tailP numTail
  simp only [isP_live]
  by_cases h : (S.drop p).head? = some 101
  · obtain ⟨h1, h2, h3⟩ := take_hit h
    rw [if_pos (by simp [h]), if_pos (.inl h), h1, ← h2]
    exact exp_same h3
  · rw [if_neg (by simpa using h)]
    by_cases h' : (S.drop p).head? = some 69
    · obtain ⟨h1, h2, h3⟩ := take_hit h'
      rw [if_pos (by simp [h']), if_pos (.inr h'), h1, ← h2]
      exact exp_same h3
    · rw [if_neg (by simpa using h'), if_neg (by rintro (e | e); exact h e; exact h' e)]
      exact ⟨hp, rfl, rfl⟩
theorem tail_of {S : List UInt8} {s : PS} {q : PR Unit} (h : Same6 S s q) : Same6 S (tailP S s) (q.bind fun _ r => numTail r) := by
  obtain ⟨p, e⟩ := s
  obtain ⟨hp, h⟩ := h
  cases q with
  | ok u r =>
    obtain ⟨rfl, rfl⟩ := h
    exact tail_same hp
  | bad e' =>
    have h' : e = 31 := h
    subst h'
    rw [tail_dead (by show (31 : Int) ≠ 0; decide)]
    exact ⟨hp, rfl⟩
theorem frac_same {S : List UInt8} {p : Nat} (hp : p ≤ S.length) : Same6 S (tailP S (fracP S ⟨p, 0⟩)) (numFrac (S.drop p)) := by
  unfold fracP numFrac
  simp only [isP_live]
  by_cases h : (S.drop p).head? = some 46
  · obtain ⟨h1, h2, h3⟩ := take_hit h
    rw [if_pos (by simp [h]), if_pos h, h1, ← h2]
    exact tail_of (digits_same h3)
  · rw [if_neg (by simpa using h), if_neg h]
    exact tail_same hp
theorem frac_of {S : List UInt8} {s : PS} {q : PR Unit} (h : Same6 S s q) : Same6 S (tailP S (fracP S s)) (q.bind fun _ r => numFrac r) := by
  obtain ⟨p, e⟩ := s
  obtain ⟨hp, h⟩ := h
  cases q with
  | ok u r =>
    obtain ⟨rfl, rfl⟩ := h
    exact frac_same hp
  | bad e' =>
    have h' : e = 31 := h
    subst h'
    rw [frac_dead (by show (31 : Int) ≠ 0; decide), tail_dead (by show (31 : Int) ≠ 0; decide)]
    exact ⟨hp, rfl⟩
theorem num_same {S : List UInt8} {p : Nat} (hp : p ≤ S.length) : Same6 S (numP S ⟨p, 0⟩) (numR (S.drop p)) := by
  unfold numP numR
  obtain ⟨p', h1, h2, h3⟩ := skip_same (S := S) (c := 45) hp
  rw [h1, ← h2]
  unfold intP
  simp only [isP_live]
  by_cases h : (S.drop p').head? = some 48
  · obtain ⟨g1, g2, g3⟩ := take_hit h
    rw [if_pos (by simp [h]), if_pos h, g1, ← g2]
    exact frac_same g3
  · rw [if_neg (by simpa using h), if_neg h]
    exact frac_of (digits_same h3)
/-- The document's test of a number's text is the program's. -/
theorem numP_right (S : List UInt8) : (decide ((numP S ⟨0, 0⟩).e = 0) && (S.take (numP S ⟨0, 0⟩).p == S)) = numericB S := by
  have h := num_same (S := S) (p := 0) (by omega)
  rw [List.drop_zero] at h
  unfold numericB numberL
  obtain ⟨hp, h⟩ := h
  cases hn : numR S with
  | bad e' =>
    rw [hn] at h
    have h' : (numP S ⟨0, 0⟩).e = 31 := h
    rw [h']
    rfl
  | ok u r =>
    rw [hn] at h
    obtain ⟨h1, h2⟩ := h
    rw [h1, PR.bind_ok]
    have hl : r.length = S.length - (numP S ⟨0, 0⟩).p := by rw [← h2, List.length_drop]
    simp only [decide_true, Bool.true_and]
    rw [hl, show S.length - (S.length - (numP S ⟨0, 0⟩).p) = (numP S ⟨0, 0⟩).p by omega]
theorem numP_le (S : List UInt8) : (numP S ⟨0, 0⟩).p ≤ S.length := (num_same (S := S) (p := 0) (by omega)).1
end Go.Proofs.YtgcfikiajingcaaGreat
/- The document's reader: numbers. -/
set_option linter.unusedVariables false
namespace Go.Proofs.YtgcfikiajingcaaGreat
open Go.RowKit

/-- The document's reader at block g: of the text S, standing at s; its first fault's place. -/
structure PP (w : World) (g : Nat) (S : List UInt8) (s : PS) (d o A : Int) : Prop where
  heap : w.heap[g]? = some (.cells #[.string ⟨S.toArray⟩, .int .i64 (s.p : Int), .int .i64 d, .int .i64 o, .int .i64 s.e, .int .i64 A] 67 (0, 0))
  le : s.p ≤ S.length
theorem PP.c0 {w : World} {g : Nat} {S : List UInt8} {s : PS} {d o A : Int} (h : PP w g S s d o A) : w.cell? ⟨g, 0, none⟩ = some (.string ⟨S.toArray⟩) := by rw [Lib.cell_of_heap h.heap]; rfl
theorem PP.c1 {w : World} {g : Nat} {S : List UInt8} {s : PS} {d o A : Int} (h : PP w g S s d o A) : w.cell? ⟨g, 1, none⟩ = some (.int .i64 (s.p : Int)) := by rw [Lib.cell_of_heap h.heap]; rfl
theorem PP.c4 {w : World} {g : Nat} {S : List UInt8} {s : PS} {d o A : Int} (h : PP w g S s d o A) : w.cell? ⟨g, 4, none⟩ = some (.int .i64 s.e) := by rw [Lib.cell_of_heap h.heap]; rfl
theorem PP.fz {w : World} {g : Nat} {S : List UInt8} {s : PS} {d o A : Int} (h : PP w g S s d o A) (i : Nat) : w.frozen? ⟨g, i, none⟩ = false := Lib.frozen_of_heap h.heap i
theorem PP.lt {w : World} {g : Nat} {S : List UInt8} {s : PS} {d o A : Int} (h : PP w g S s d o A) : g < w.heap.size := (Array.getElem?_eq_some_iff.1 h.heap).1
theorem PP.at {w : World} {g : Nat} {S : List UInt8} {p : Nat} {e d o A : Int} (h : PP w g S ⟨p, e⟩ d o A) (q : Nat) (hq : q ≤ S.length) : PP (w.setCell ⟨g, 1, none⟩ (.int .i64 (q : Int))) g S ⟨q, e⟩ d o A :=
  ⟨by rw [setCell_block h.heap]; rfl, hq⟩
theorem PP.bad {w : World} {g : Nat} {S : List UInt8} {p : Nat} {e d o A : Int} (h : PP w g S ⟨p, e⟩ d o A) (e' A' : Int) : PP ((w.setCell ⟨g, 4, none⟩ (.int .i64 e')).setCell ⟨g, 5, none⟩ (.int .i64 A')) g S ⟨p, e'⟩ d o A' := by
  refine ⟨?_, h.le⟩
  have h1 := setCell_block h.heap (o := 4) (v := .int .i64 e')
  rw [setCell_block h1]; rfl
theorem PP.drewN {w : World} {g : Nat} {S : List UInt8} {s : PS} {d o A : Int} (h : PP w g S s d o A) (n : Nat) : PP (w.drewN n) g S s d o A := ⟨h.heap, h.le⟩
theorem isP_lt {S : List UInt8} {p : Nat} {c : UInt8} (h : p < S.length) : isP S p 0 c = (((S[p].toNat : Nat) : Int) == ((c.toNat : Nat) : Int)) := by
  rw [isP_live, List.head?_drop, List.getElem?_eq_getElem h, Bool.eq_iff_iff]
  simp only [beq_iff_eq, Option.some.injEq]
  exact ⟨fun e => by rw [e], fun e => UInt8.toNat_inj.1 (by omega)⟩
theorem isP_end {S : List UInt8} {p : Nat} {e : Int} {c : UInt8} (h : S.length ≤ p) : isP S p e c = false := by
  unfold isP
  rw [List.drop_eq_nil_of_le h]
  simp
set_option maxRecDepth 100000 in
set_option maxHeartbeats 8000000 in
theorem pis_any (g : Nat) (S : List UInt8) (p : Nat) (e d o A : Int) (c : UInt8) (C : Int) (hC : C = (c.toNat : Int)) (w : World) (h : PP w g S ⟨p, e⟩ d o A) (hl : S.length ≤ 1000000) :
    Calls Tryz.prog 82 #[.pointer (some ⟨g, 0, none⟩), .int .u8 C] w fun x w' => x = .returned (.bool (isP S p e c)) ∧ ∃ n, w' = w.drewN n := by
  subst hC
  have h0 := h.c0
  have h1 := h.c1
  have h4 := h.c4
  simp only at h1 h4
  clear h
  by_cases he : e = 0
  · subst he
    by_cases hlt : p < S.length
    · have hix := fun w => str_at S p hlt w
      have hltI : (p : Int) < (S.length : Int) := by omega
      have HX := Lib.hid (isP_lt (c := c) hlt)
      generalize S[p] = x at *
      obtain ⟨r, hr⟩ : ∃ r, (((x.toNat : Nat) : Int) == ((c.toNat : Nat) : Int)) = r := ⟨_, rfl⟩
      have HR := Lib.hid (HX.out.trans hr)
      clear HX
      cases r <;>
      · go_enter Tryz.func82, Tryz.ntmps82
        go_wp2_with fail
        go_quiet (fail)
        go_wp2_with fail
        refine bodyPost_ret (results_tmp rfl _ _ _) rfl ?_
        exact ⟨by rw [HR.out]; rfl, _, rfl⟩
    · have hge : ¬ (p : Int) < (S.length : Int) := by omega
      have HX : Hid (isP S p 0 c = false) := Lib.hid (isP_end (by omega))
      go_enter Tryz.func82, Tryz.ntmps82
      go_wp2_with fail
      go_quiet (fail)
      go_wp2_with fail
      refine bodyPost_ret (results_tmp rfl _ _ _) rfl ?_
      exact ⟨by rw [HX.out]; rfl, _, rfl⟩
  · have heq : (e == 0) = false := by simpa using he
    have HX : Hid (isP S p e c = false) := Lib.hid (isP_dead he)
    clear he
    go_enter Tryz.func82, Tryz.ntmps82
    go_wp2_with fail
    go_quiet (fail)
    go_wp2_with fail
    refine bodyPost_ret (results_tmp rfl _ _ _) rfl ?_
    exact ⟨by rw [HX.out]; rfl, _, rfl⟩
theorem digP_lt {S : List UInt8} {p : Nat} (h : p < S.length) : digP S p 0 = (decide ((48 : Int) ≤ ((S[p].toNat : Nat) : Int)) && decide (((S[p].toNat : Nat) : Int) ≤ 57)) := by
  unfold digP
  rw [List.drop_eq_getElem_cons h]
  unfold digB
  simp only [decide_true, Bool.true_and]
  rw [Bool.eq_iff_iff]
  simp only [Bool.and_eq_true, decide_eq_true_eq]
  omega
theorem digP_end {S : List UInt8} {p : Nat} {e : Int} (h : S.length ≤ p) : digP S p e = false := by
  unfold digP
  rw [List.drop_eq_nil_of_le h]
  simp
theorem digP_dead {S : List UInt8} {p : Nat} {e : Int} (h : e ≠ 0) : digP S p e = false := by simp [digP, h]
set_option maxRecDepth 100000 in
set_option maxHeartbeats 8000000 in
theorem pdigit_any (g : Nat) (S : List UInt8) (p : Nat) (e d o A : Int) (w : World) (h : PP w g S ⟨p, e⟩ d o A) (hl : S.length ≤ 1000000) :
    Calls Tryz.prog 83 #[.pointer (some ⟨g, 0, none⟩)] w fun x w' => x = .returned (.bool (digP S p e)) ∧ ∃ n, w' = w.drewN n := by
  have h0 := h.c0
  have h1 := h.c1
  have h4 := h.c4
  simp only at h1 h4
  clear h
  by_cases he : e = 0
  · subst he
    by_cases hlt : p < S.length
    · have hix := fun w => str_at S p hlt w
      have hltI : (p : Int) < (S.length : Int) := by omega
      have HX := Lib.hid (digP_lt hlt)
      generalize S[p] = x at *
      obtain ⟨r1, hr1⟩ : ∃ r, decide ((48 : Int) ≤ ((x.toNat : Nat) : Int)) = r := ⟨_, rfl⟩
      obtain ⟨r2, hr2⟩ : ∃ r, decide (((x.toNat : Nat) : Int) ≤ 57) = r := ⟨_, rfl⟩
      have HR : Hid (digP S p 0 = (r1 && r2)) := Lib.hid (by rw [HX.out, hr1, hr2])
      clear HX
      cases r1 <;> cases r2 <;>
      · go_enter Tryz.func83, Tryz.ntmps83
        go_wp2_with fail
        go_quiet (fail)
        go_wp2_with fail
        refine bodyPost_ret (results_tmp rfl _ _ _) rfl ?_
        exact ⟨by rw [HR.out]; rfl, _, rfl⟩
    · have hge : ¬ (p : Int) < (S.length : Int) := by omega
      have HX : Hid (digP S p 0 = false) := Lib.hid (digP_end (by omega))
      go_enter Tryz.func83, Tryz.ntmps83
      go_wp2_with fail
      go_quiet (fail)
      go_wp2_with fail
      refine bodyPost_ret (results_tmp rfl _ _ _) rfl ?_
      exact ⟨by rw [HX.out]; rfl, _, rfl⟩
  · have heq : (e == 0) = false := by simpa using he
    have HX : Hid (digP S p e = false) := Lib.hid (digP_dead he)
    clear he
    go_enter Tryz.func83, Tryz.ntmps83
    go_wp2_with fail
    go_quiet (fail)
    go_wp2_with fail
    refine bodyPost_ret (results_tmp rfl _ _ _) rfl ?_
    exact ⟨by rw [HX.out]; rfl, _, rfl⟩
set_option maxRecDepth 100000 in
set_option maxHeartbeats 8000000 in
theorem ptake_any (g : Nat) (S : List UInt8) (s : PS) (d o A : Int) (c : UInt8) (C : Int) (hC : C = (c.toNat : Int)) (w : World) (h : PP w g S s d o A) (hl : S.length ≤ 1000000) :
    Calls Tryz.prog 61 #[.pointer (some ⟨g, 0, none⟩), .int .u8 C] w fun x w' => x = .returned (.bool (isP S s.p s.e c)) ∧ PP w' g S (takeP S s c) d o A ∧ But g w w' := by
  obtain ⟨p, e⟩ := s
  have HI := Lib.hid (pis_any g S p e d o A c C hC w h hl)
  have HP := Lib.hid h
  clear h hC
  unfold takeP
  simp only
  cases hb : isP S p e c with
  | false =>
    rw [hb] at HI
    clear hb
    go_enter Tryz.func61, Tryz.ntmps61
    go_wp2_with fail
    refine HI.out.mono ?_
    rintro x w1 ⟨rfl, n, rfl⟩
    have HP1 := Lib.hid (HP.out.drewN n)
    have HB1 := Lib.hid ((But.refl g w).drewN n)
    go_wp2_with fail
    refine bodyPost_ret (results_tmp rfl _ _ _) rfl ?_
    exact ⟨rfl, HP1.out, HB1.out⟩
  | true =>
    have hlt : p < S.length := by
      rcases Nat.lt_or_ge p S.length with h' | h'
      · exact h'
      · rw [isP_end h'] at hb; cases hb
    rw [hb] at HI
    clear hb
    go_enter Tryz.func61, Tryz.ntmps61
    go_wp2_with fail
    refine HI.out.mono ?_
    rintro x w1 ⟨rfl, n, rfl⟩
    have hp1 := HP.out.drewN n
    have h1 := hp1.c1
    have f1 := hp1.fz 1
    simp only at h1
    have HP1 := Lib.hid (hp1.at (p + 1) hlt)
    have HB1 := Lib.hid (((But.refl g w).drewN n).trans (But.setCell _ g 1 (.int .i64 ((p + 1 : Nat) : Int))))
    clear hp1
    generalize w.drewN n = w1 at *
    go_wp2_with fail
    refine bodyPost_ret (results_tmp rfl _ _ _) rfl ?_
    exact ⟨rfl, HP1.out, HB1.out⟩
set_option maxRecDepth 100000 in
set_option maxHeartbeats 8000000 in
theorem pfail_any (g : Nat) (S : List UInt8) (p : Nat) (e e' d o A E A' : Int) (w : World) (h : PP w g S ⟨p, e⟩ d o A) (he' : (if e = 0 then E else e) = e') :
    Calls Tryz.prog 84 #[.pointer (some ⟨g, 0, none⟩), .int .i64 E, .int .i64 A'] w fun x w' => x = .returned (.tuple #[]) ∧ (∃ A'', PP w' g S ⟨p, e'⟩ d o A'') ∧ But g w w' := by
  have h4 := h.c4
  have f4 := h.fz 4
  have f5 : (w.setCell ⟨g, 4, none⟩ (.int .i64 E)).frozen? ⟨g, 5, none⟩ = false := Lib.frozen_of_heap (setCell_block h.heap _) 5
  have f5w := h.fz 5
  have c5w : w.cell? ⟨g, 5, none⟩ = some (.int .i64 A) := by rw [Lib.cell_of_heap h.heap]; rfl
  have c5 : (w.setCell ⟨g, 4, none⟩ (.int .i64 E)).cell? ⟨g, 5, none⟩ = some (.int .i64 A) := by rw [Lib.cell_of_heap (setCell_block h.heap _)]; rfl
  simp only at h4
  have HP := Lib.hid h
  clear h
  by_cases he : e = 0
  · subst he
    rw [if_pos rfl] at he'
    subst he'
    have HP1 := Lib.hid (HP.out.bad E A')
    have HB1 := Lib.hid ((But.setCell w g 4 (.int .i64 E)).trans (But.setCell _ g 5 (.int .i64 A')))
    go_enter Tryz.func84, Tryz.ntmps84
    go_wp2_with fail
    go_end0
    exact ⟨rfl, ⟨A', HP1.out⟩, HB1.out⟩
  · have heq : (e == 0) = false := by simpa using he
    rw [if_neg he] at he'
    subst he'
    clear he
    go_enter Tryz.func84, Tryz.ntmps84
    go_wp2_with fail
    go_end0
    exact ⟨rfl, ⟨A, HP.out⟩, But.refl g w⟩
theorem dg_next {S : List UInt8} {q : Nat} (h : digP S q 0 = true) : q + 1 ≤ S.length ∧ dgN (S.drop q) = dgN (S.drop (q + 1)) + 1 := by
  have hlt : q < S.length := by
    rcases Nat.lt_or_ge q S.length with h' | h'
    · exact h'
    · rw [digP_end h'] at h; cases h
  refine ⟨hlt, ?_⟩
  unfold digP at h
  unfold dgN
  rw [List.drop_eq_getElem_cons hlt] at h ⊢
  have hd : digB S[q] = true := by simpa using h
  rw [List.takeWhile_cons_of_pos hd, List.length_cons]
theorem dg_stop {S : List UInt8} {q : Nat} (h : digP S q 0 = false) : dgN (S.drop q) = 0 := by
  unfold digP at h
  unfold dgN
  cases hd : S.drop q with
  | nil => rfl
  | cons c r =>
    rw [hd] at h
    have hc : ¬ digB c = true := by simpa using h
    rw [List.takeWhile_cons_of_neg hc]; rfl
set_option maxRecDepth 100000 in
set_option maxHeartbeats 8000000 in
theorem pdigits_any (g : Nat) (S : List UInt8) (s : PS) (d o A : Int) (w : World) (h : PP w g S s d o A) (hl : S.length ≤ 1000000) :
    Calls Tryz.prog 62 #[.pointer (some ⟨g, 0, none⟩)] w fun x w' => x = .returned (.tuple #[]) ∧ (∃ A', PP w' g S (digitsP S s) d o A') ∧ But g w w' := by
  obtain ⟨p, e⟩ := s
  have HD := Lib.hid (pdigit_any g S p e d o A w h hl)
  have HP := Lib.hid h
  have hle := h.le
  clear h
  unfold digitsP
  simp only at hle ⊢
  cases hb : digP S p e with
  | false =>
    simp only [Bool.false_eq_true, if_false]
    rw [hb] at HD
    obtain ⟨e', he'⟩ : ∃ e', (if e = 0 then (31 : Int) else e) = e' := ⟨_, rfl⟩
    have hne : e' ≠ 0 := by rw [← he']; split <;> first | decide | assumption
    have HE := Lib.hid he'
    have HNE := Lib.hid hne
    rw [he']
    clear hb he' hne
    go_enter Tryz.func62, Tryz.ntmps62
    go_wp2_with fail
    refine HD.out.mono ?_
    rintro x w1 ⟨rfl, n, rfl⟩
    have HP1 := Lib.hid (HP.out.drewN n)
    have HB1 := Lib.hid ((But.refl g w).drewN n)
    have c1 := HP1.out.c1
    simp only at c1
    generalize w.drewN n = w1 at *
    go_wp2_with fail
    refine (pfail_any g S p e e' d o A 31 (p : Int) w1 HP1.out HE.out).mono ?_
    rintro x w2 ⟨rfl, ⟨A2, hp2⟩, hb2⟩
    have HP2 := Lib.hid hp2
    have HB2 := Lib.hid (HB1.out.trans hb2)
    clear hp2 hb2 c1
    go_wp2_with fail
    go_loopg [] 1 (fun k wr => Hid (∃ A3, PP wr g S ⟨p, e'⟩ d o A3) ∧ Hid (But g w wr))
    case atStart => exact ⟨Lib.hid ⟨_, HP2.out⟩, HB2⟩
    case round =>
      obtain ⟨HPX, HBX⟩ := hrel
      obtain ⟨A3, hp3⟩ := HPX.out
      have HP3 := Lib.hid hp3
      have HD3 := Lib.hid (pdigit_any g S p e' d o A3 wr hp3 hl)
      rw [digP_dead HNE.out] at HD3
      clear hp3
      go_wp2_with fail
      refine HD3.out.mono ?_
      rintro x w3 ⟨rfl, n3, rfl⟩
      have HP4 := Lib.hid (HP3.out.drewN n3)
      have HB4 := Lib.hid (HBX.out.drewN n3)
      go_wp2_with fail
      go_end0
      exact ⟨rfl, ⟨_, HP4.out⟩, HB4.out⟩
  | true =>
    simp only [if_true]
    have he : e = 0 := by
      by_cases h' : e = 0
      · exact h'
      · rw [digP_dead h'] at hb; cases hb
    subst he
    rw [hb] at HD
    have HN := Lib.hid hb
    clear hb
    go_enter Tryz.func62, Tryz.ntmps62
    go_wp2_with fail
    refine HD.out.mono ?_
    rintro x w1 ⟨rfl, n, rfl⟩
    have HP1 := Lib.hid (HP.out.drewN n)
    have HB1 := Lib.hid ((But.refl g w).drewN n)
    generalize w.drewN n = w1 at *
    go_wp2_with fail
    go_loopg [] (S.length + 1 - p) (fun k wr => ∃ q : Nat, q + k = S.length + 1 ∧ Hid (q + dgN (S.drop q) = p + dgN (S.drop p)) ∧ Hid (PP wr g S ⟨q, 0⟩ d o A) ∧ Hid (But g w wr))
    case atStart => exact ⟨p, by omega, Lib.hid rfl, HP1, HB1⟩
    case round =>
      obtain ⟨q, hq, HQ, HPX, HBX⟩ := hrel
      have HDX := Lib.hid (pdigit_any g S q 0 d o A wr HPX.out hl)
      cases hd : digP S q 0 with
      | false =>
        rw [hd] at HDX
        have HS := Lib.hid (dg_stop hd)
        clear hd
        go_wp2_with fail
        refine HDX.out.mono ?_
        rintro x w3 ⟨rfl, n3, rfl⟩
        have HP4 := Lib.hid (HPX.out.drewN n3)
        have HB4 := Lib.hid (HBX.out.drewN n3)
        have hpq : q = p + dgN (S.drop p) := by rw [← HQ.out, HS.out]; rfl
        have HPQ := Lib.hid hpq
        clear hpq
        go_wp2_with fail
        go_end0
        exact ⟨rfl, ⟨A, by rw [← HPQ.out]; exact HP4.out⟩, HB4.out⟩
      | true =>
        rw [hd] at HDX
        obtain ⟨hq1, hs⟩ := dg_next hd
        have HS := Lib.hid hs
        clear hd hs
        go_wp2_with fail
        refine HDX.out.mono ?_
        rintro x w3 ⟨rfl, n3, rfl⟩
        have hp4 := HPX.out.drewN n3
        have c1 := hp4.c1
        have f1 := hp4.fz 1
        simp only at c1
        have HP5 := Lib.hid (hp4.at (q + 1) hq1)
        have HB5 := Lib.hid ((HBX.out.drewN n3).trans (But.setCell _ g 1 (.int .i64 ((q + 1 : Nat) : Int))))
        clear hp4
        generalize wr.drewN n3 = w4 at *
        go_wp2_with fail
        go_roundg (gk - 1)
        case measure => omega
        case rel => exact ⟨q + 1, by omega, Lib.hid (by have := HQ.out; have := HS.out; omega), HP5, HB5⟩
end Go.Proofs.YtgcfikiajingcaaGreat
