/- Merged: PrD, PrE, PrF. -/
import Derived.Test.YtgcfikiajingcaaMg1
import Derived.Test.YtgcfikiajingcaaMg2
import Derived.Test.YtgcfikiajingcaaMg3
import Derived.Test.YtgcfikiajingcaaMg4
import Derived.Test.YtgcfikiajingcaaMg5
import Derived.Test.YtgcfikiajingcaaMg6
import Derived.Test.YtgcfikiajingcaaMh1
/- json: pretty, of any value; Pretty. -/
set_option linter.unusedVariables false
namespace Go.Proofs.Ytgcfikiajingcaa
open Go.RowKit

theorem sty_flat (n : Nat) (k : Int) (y : Bool) (t : List UInt8) (li : List JV) (m : List (List UInt8 × JV)) (h5 : k = 5 → li = []) (h6 : k = 6 → m = []) : styJ linesS n (.mk k y t li m) = plainJ (.mk k y t li m) := by
  rw [styJ, plainJ]
  by_cases e5 : k = 5
  · subst e5
    rw [h5 rfl]
    simp [styL, plainL]
  by_cases e6 : k = 6
  · subst e6
    rw [h6 rfl]
    simp [styM, plainM]
  simp [e5, e6]
theorem prL_ge (n : Nat) (l : List JV) : ∀ j, j ≤ l.length → j ≤ (prL n (l.take j)).length
  | 0, _ => Nat.zero_le _
  | j + 1, h => by
    have := prL_ge n l j (by omega)
    rw [prL_take n l j (by omega)]
    simp only [List.length_append, pr_nl_len]
    omega
theorem prM_ge (n : Nat) (l : List (List UInt8 × JV)) : ∀ j, j ≤ l.length → j ≤ (prM n (l.take j)).length
  | 0, _ => Nat.zero_le _
  | j + 1, h => by
    have := prM_ge n l j (by omega)
    rw [prM_take n l j (by omega)]
    simp only [List.length_append, pr_nl_len]
    omega
set_option maxRecDepth 100000 in
set_option maxHeartbeats 16000000 in
theorem pretty_flat (b : Nat) (k : Int) (y : Bool) (t : List UInt8) (li : List JV) (m : List (List UInt8 × JV)) (h5 : k = 5 → li = []) (h6 : k = 6 → m = []) : PrettyC b (.mk k y t li m) := by
  intro cs l w n h hb hl hn
  rw [sty_flat n k y t li m h5 h6] at hl ⊢
  have HRP := Lib.hid h
  obtain ⟨a, c, a', c', cl, cm, rfl, -⟩ := h.parts
  simp only [JV.kind, JV.yes, JV.text, JV.list, JV.mem, strV] at *
  have HBw := Lib.hid (show ∀ ob, BldZ b l (w.alloc ob) from fun ob => hb.below ((Below.refl _ _).alloc (Nat.le_refl _) _))
  have HFw : Hid (∀ ob, FrZ b w (w.alloc ob)) := Lib.hid fun ob => FrZ.of_below ((Below.refl _ _).alloc (Nat.le_refl _) _) (Nat.le_of_lt hb.lt)
  have hbw := hb.lt
  have HL := Lib.hid hl
  have hq5 : k = 5 → li.length = 0 := fun e => by rw [h5 e]; rfl
  have hq6 : k = 6 → m.length = 0 := fun e => by rw [h6 e]; rfl
  have HQ5 := Lib.hid hq5
  have HQ6 := Lib.hid hq6
  generalize li.length = nl at *
  generalize m.length = nm at *
  clear h hb hl h5 h6 hq5 hq6
  go_enter Try.func28, Try.ntmps28
  go_upto_region 2 with (fail)
  have hx0 := heap_alloc_new w (.cells #[.int .i64 k, .bool y, .string ⟨t.toArray⟩, .slice a nl c, .slice a' nm c'] 31)
  have HB0 := Lib.hid (HBw.out (.cells #[.int .i64 k, .bool y, .string ⟨t.toArray⟩, .slice a nl c, .slice a' nm c'] 31))
  have HF0 := Lib.hid (HFw.out (.cells #[.int .i64 k, .bool y, .string ⟨t.toArray⟩, .slice a nl c, .slice a' nm c'] 31))
  generalize w.alloc _ = w0 at *
  have HX0 := Lib.hid hx0
  have v0 : w0.cell? ⟨w.heap.size, 0, none⟩ = some (.int .i64 k) := by rw [Lib.cell_of_heap hx0]; rfl
  have v1 : w0.cell? ⟨w.heap.size, 1, none⟩ = some (.bool y) := by rw [Lib.cell_of_heap hx0]; rfl
  have v2 : w0.cell? ⟨w.heap.size, 2, none⟩ = some (.string ⟨t.toArray⟩) := by rw [Lib.cell_of_heap hx0]; rfl
  have v3 : w0.cell? ⟨w.heap.size, 3, none⟩ = some (.slice a nl c) := by rw [Lib.cell_of_heap hx0]; rfl
  have v4 : w0.cell? ⟨w.heap.size, 4, none⟩ = some (.slice a' nm c') := by rw [Lib.cell_of_heap hx0]; rfl
  have HW := Lib.hid (jwrite b (.mk k y t li m) [.int .i64 k, .bool y, .string ⟨t.toArray⟩, .slice a nl c, .slice a' nm c'] l w0 (HRP.out.keep fun q hq _ => HF0.out.low q hq) HB0.out HL.out)
  clear hx0 HBw HFw
  have key : k = 5 ∧ nl = 0 ∨ k = 6 ∧ nm = 0 ∨ ((k == 5) = false ∧ (k == 6) = false) := by
    by_cases e5 : k = 5
    · exact .inl ⟨e5, HQ5.out e5⟩
    by_cases e6 : k = 6
    · exact .inr (.inl ⟨e6, HQ6.out e6⟩)
    exact .inr (.inr ⟨by simpa using e5, by simpa using e6⟩)
  rcases key with ⟨rfl, rfl⟩ | ⟨rfl, rfl⟩ | ⟨q5, q6⟩
  all_goals (
    go_wp2_with fail
    refine HW.out.mono ?_
    rintro e w1 ⟨rfl, hb1, hf1⟩
    have HB1 := Lib.hid hb1
    have HF1 := Lib.hid (HF0.out.trans hf1)
    clear hb1 hf1
    go_wp2_with fail
    go_end0
    exact ⟨rfl, HB1.out, HF1.out⟩)
set_option maxRecDepth 100000 in
set_option maxHeartbeats 32000000 in
theorem pretty_arr (b : Nat) (y : Bool) (t : List UInt8) (li : List JV) (m : List (List UInt8 × JV)) (hne : li ≠ []) (ih : ∀ x ∈ li, PrettyC b x) : PrettyC b (.mk 5 y t li m) := by
  intro cs l w n h hb hl hn
  obtain ⟨a, c, a', c', cl, cm, rfl, h1, h2, -⟩ := h.parts
  simp only [JV.kind, JV.yes, JV.text, JV.list, JV.mem, strV] at *
  have HBw := Lib.hid (show ∀ ob, BldZ b l (w.alloc ob) from fun ob => hb.below ((Below.refl _ _).alloc (Nat.le_refl _) _))
  have HFw : Hid (∀ ob, FrZ b w (w.alloc ob)) := Lib.hid fun ob => FrZ.of_below ((Below.refl _ _).alloc (Nat.le_refl _) _) (Nat.le_of_lt hb.lt)
  have HPJ := Lib.hid (sty_arr n y t li m hne)
  have hbw := hb.lt
  have HL : Hid (l.length + (prL n li).length + (nlL n).length + 2 ≤ 100000) := Lib.hid (by
    rw [HPJ.out] at hl
    simp only [List.length_cons, List.length_append, List.length_nil] at hl
    omega)
  have HLE := Lib.hid (fun j => prL_take_le n li j)
  have hli : li.length ≤ 100000 := by
    have h3 := prL_ge n li li.length (Nat.le_refl _)
    rw [List.take_of_length_le (Nat.le_refl _)] at h3
    have := HL.out
    omega
  have hpos : (0 : Int) < (li.length : Int) := by
    have : li.length ≠ 0 := fun e => hne (List.eq_nil_of_length_eq_zero e)
    omega
  have H1 := Lib.hid h1
  have H2 := Lib.hid h2
  have HIH := Lib.hid ih
  have hne1 : ((n + 1 : Nat) : Int) = (n : Int) + 1 := by omega
  have HN1 := Lib.hid hne1
  clear h hb hl h1 h2 ih hne hne1
  go_enter Try.func28, Try.ntmps28
  go_upto_region 2 with (fail)
  have hx0 := heap_alloc_new w (.cells #[.int .i64 5, .bool y, .string ⟨t.toArray⟩, .slice a li.length c, .slice a' m.length c'] 31)
  have HB0 := Lib.hid (HBw.out (.cells #[.int .i64 5, .bool y, .string ⟨t.toArray⟩, .slice a li.length c, .slice a' m.length c'] 31))
  have HF0 := Lib.hid (HFw.out (.cells #[.int .i64 5, .bool y, .string ⟨t.toArray⟩, .slice a li.length c, .slice a' m.length c'] 31))
  generalize w.alloc _ = w0 at *
  have HX0 := Lib.hid hx0
  have v0 : w0.cell? ⟨w.heap.size, 0, none⟩ = some (.int .i64 5) := by rw [Lib.cell_of_heap hx0]; rfl
  have v3 : w0.cell? ⟨w.heap.size, 3, none⟩ = some (.slice a li.length c) := by rw [Lib.cell_of_heap hx0]; rfl
  clear hx0 HBw HFw
  go_wp2_with fail
  refine (WriteByte_z b l 91 91 rfl w0 HB0.out (by have := HL.out; omega)).mono ?_
  rintro e w1 ⟨rfl, hb1, hf1⟩
  have HB1 := Lib.hid hb1
  have HF1 := Lib.hid (HF0.out.trans hf1)
  have hx1 := hf1.block w.heap.size _ HX0.out (by omega) (fun c e => by simp at e)
  have k3 : w1.cell? ⟨w.heap.size, 3, none⟩ = some (.slice a li.length c) := by rw [Lib.cell_of_heap hx1]; rfl
  clear hb1 hf1 hx1 v0 v3
  go_wp2_with fail
  go_loopg [28] li.length (fun k iv wr => ∃ j : Nat, iv = .int .i64 (j : Int) ∧ j + k = li.length ∧ Hid (BldZ b (l ++ 91 :: prL n (li.take j)) wr) ∧ Hid (FrZ b w wr))
  case atStart => exact ⟨0, rfl, by omega, Lib.hid (by simpa [prL, styL] using HB1.out), HF1⟩
  case round =>
    obtain ⟨j, rfl, hj, HBW, HFW⟩ := hrel
    by_cases hlt : j < li.length
    · have hltI : (j : Int) < (li.length : Int) := by omega
      obtain ⟨br, off, k2, y2, t2, a2, l2, c2, a3, l3, c3, ea, hrep, i0, i1, i2, i3, i4⟩ := list_cells (RdO.keep H1.out fun k hk _ => HFW.out.low k hk) (H2.out.keep fun k hk _ => HFW.out.low k hk) j hlt
      subst ea
      have HREP := Lib.hid hrep
      have HT := Lib.hid (prL_take n li j hlt)
      have HI := Lib.hid (HIH.out li[j] (List.getElem_mem hlt))
      have HLJ : Hid ((prL n (li.take j)).length + ((if j = 0 then ([] : List UInt8) else [44]).length + ((nlL (n + 1)).length + (styJ linesS (n + 1) li[j]).length)) ≤ (prL n li).length) := Lib.hid (by
        have := HLE.out (j + 1)
        rw [HT.out] at this
        simpa only [List.length_append] using this)
      generalize li[j] = x at *
      clear hrep k3
      go_upto_region 7 with (fail)
      have hx4 := heap_alloc_new wr (.cells #[.int .i64 k2, .bool y2, .string ⟨t2⟩, .slice a2 l2 c2, .slice a3 l3 c3] 31)
      have hb4 : Below wr.heap.size wr (wr.alloc (.cells #[.int .i64 k2, .bool y2, .string ⟨t2⟩, .slice a2 l2 c2, .slice a3 l3 c3] 31)) := (Below.refl _ _).alloc (Nat.le_refl _) _
      generalize wr.alloc _ = w4 at *
      have HX4 := Lib.hid hx4
      have HB4 := Lib.hid (HBW.out.below hb4)
      have hbr := HBW.out.lt
      have HF4 := Lib.hid (HFW.out.trans (FrZ.of_below hb4 (Nat.le_of_lt hbr)))
      have HREP4 := Lib.hid (HREP.out.under hb4)
      clear hx4 hb4 i0 i1 i2 i3 i4
      go_wp2_with fail
      refine (jcomma_any b _ j w4 HB4.out (by have := HL.out; have := HLE.out j; simp only [List.length_append, List.length_cons]; omega)).mono ?_
      rintro e w5 ⟨rfl, hb5, hf5⟩
      have HB5 := Lib.hid hb5
      have HF5 := Lib.hid (HF4.out.trans hf5)
      have HX5 := Lib.hid (hf5.block wr.heap.size _ HX4.out (by omega) (fun c e => by simp at e))
      have HREP5 := Lib.hid (HREP4.out.keep fun k hk _ => hf5.low k hk)
      have hM := jmargin_any b _ (n + 1) w5 hb5 (by have := HL.out; have := HLJ.out; simp only [List.length_append, List.length_cons] at *; omega)
      rw [HN1.out] at hM
      have HM := Lib.hid hM
      clear hb5 hf5 hM
      go_wp2_with fail
      refine HM.out.mono ?_
      rintro e w6 ⟨rfl, hb6, hf6⟩
      have HB6 := Lib.hid hb6
      have HF6 := Lib.hid (HF5.out.trans hf6)
      have HX6 := Lib.hid (hf6.block wr.heap.size _ HX5.out (by omega) (fun c e => by simp at e))
      have HREP6 := Lib.hid (HREP5.out.keep fun k hk _ => hf6.low k hk)
      have v0 : w6.cell? ⟨wr.heap.size, 0, none⟩ = some (.int .i64 k2) := by rw [Lib.cell_of_heap HX6.out]; rfl
      have v1 : w6.cell? ⟨wr.heap.size, 1, none⟩ = some (.bool y2) := by rw [Lib.cell_of_heap HX6.out]; rfl
      have v2 : w6.cell? ⟨wr.heap.size, 2, none⟩ = some (.string ⟨t2⟩) := by rw [Lib.cell_of_heap HX6.out]; rfl
      have v3 : w6.cell? ⟨wr.heap.size, 3, none⟩ = some (.slice a2 l2 c2) := by rw [Lib.cell_of_heap HX6.out]; rfl
      have v4 : w6.cell? ⟨wr.heap.size, 4, none⟩ = some (.slice a3 l3 c3) := by rw [Lib.cell_of_heap HX6.out]; rfl
      have hP := HI.out [.int .i64 k2, .bool y2, .string ⟨t2⟩, .slice a2 l2 c2, .slice a3 l3 c3] _ w6 (n + 1) HREP6.out hb6 (by have := HL.out; have := HLJ.out; simp only [List.length_append, List.length_cons] at *; omega) (by have := HL.out; rw [pr_nl_len] at this; omega)
      rw [HN1.out] at hP
      have HP := Lib.hid hP
      clear hb6 hf6 hP
      go_wp2_with fail
      refine HP.out.mono ?_
      rintro e w7 ⟨rfl, hb7, hf7⟩
      have HB7 : Hid (BldZ b (l ++ 91 :: prL n (li.take (j + 1))) w7) := Lib.hid (by rw [HT.out]; simpa using hb7)
      have HF7 := Lib.hid (HF6.out.trans hf7)
      clear hb7 hf7
      go_wp2_with fail
      go_roundg (gk - 1)
      case measure => omega
      case rel => exact ⟨j + 1, by first | rfl | (congr 1), by omega, HB7, HF7⟩
    · have hge : ¬ (j : Int) < (li.length : Int) := by omega
      have HBE : Hid (BldZ b (l ++ 91 :: prL n li) wr) := Lib.hid (by have := HBW.out; rwa [List.take_of_length_le (by omega)] at this)
      clear k3
      go_wp2_with fail
      refine (jmargin_any b _ n wr HBE.out (by have := HL.out; simp only [List.length_append, List.length_cons]; omega)).mono ?_
      rintro e w5 ⟨rfl, hb5, hf5⟩
      have HB5 := Lib.hid hb5
      have HF5 := Lib.hid (HFW.out.trans hf5)
      clear hb5 hf5
      go_wp2_with fail
      refine (WriteByte_z b _ 93 93 rfl w5 HB5.out (by have := HL.out; simp only [List.length_append, List.length_cons]; omega)).mono ?_
      rintro e w6 ⟨rfl, hb6, hf6⟩
      have HB6 : Hid (BldZ b (l ++ styJ linesS n (.mk 5 y t li m)) w6) := Lib.hid (by rw [HPJ.out]; simpa using hb6)
      have HF6 := Lib.hid (HF5.out.trans hf6)
      clear hb6 hf6
      go_wp2_with fail
      go_end0
      exact ⟨rfl, HB6.out, HF6.out⟩
set_option maxRecDepth 100000 in
set_option maxHeartbeats 32000000 in
theorem pretty_obj (b : Nat) (y : Bool) (t : List UInt8) (li : List JV) (m : List (List UInt8 × JV)) (hne : m ≠ []) (ih : ∀ x ∈ m, PrettyC b x.2) : PrettyC b (.mk 6 y t li m) := by
  intro cs l w n h hb hl hn
  obtain ⟨a, c, a', c', cl, cm, rfl, -, -, h1, h2, -⟩ := h.parts
  simp only [JV.kind, JV.yes, JV.text, JV.list, JV.mem, strV] at *
  have HBw := Lib.hid (show ∀ ob, BldZ b l (w.alloc ob) from fun ob => hb.below ((Below.refl _ _).alloc (Nat.le_refl _) _))
  have HFw : Hid (∀ ob, FrZ b w (w.alloc ob)) := Lib.hid fun ob => FrZ.of_below ((Below.refl _ _).alloc (Nat.le_refl _) _) (Nat.le_of_lt hb.lt)
  have HPJ := Lib.hid (sty_obj n y t li m hne)
  have hbw := hb.lt
  have HL : Hid (l.length + (prM n m).length + (nlL n).length + 2 ≤ 100000) := Lib.hid (by
    rw [HPJ.out] at hl
    simp only [List.length_cons, List.length_append, List.length_nil] at hl
    omega)
  have HLE := Lib.hid (fun j => prM_take_le n m j)
  have hli : m.length ≤ 100000 := by
    have h3 := prM_ge n m m.length (Nat.le_refl _)
    rw [List.take_of_length_le (Nat.le_refl _)] at h3
    have := HL.out
    omega
  have hpos : (0 : Int) < (m.length : Int) := by
    have : m.length ≠ 0 := fun e => hne (List.eq_nil_of_length_eq_zero e)
    omega
  have H1 := Lib.hid h1
  have H2 := Lib.hid h2
  have HIH := Lib.hid ih
  have hne1 : ((n + 1 : Nat) : Int) = (n : Int) + 1 := by omega
  have HN1 := Lib.hid hne1
  clear h hb hl h1 h2 ih hne hne1
  go_enter Try.func28, Try.ntmps28
  go_upto_region 2 with (fail)
  have hx0 := heap_alloc_new w (.cells #[.int .i64 6, .bool y, .string ⟨t.toArray⟩, .slice a li.length c, .slice a' m.length c'] 31)
  have HB0 := Lib.hid (HBw.out (.cells #[.int .i64 6, .bool y, .string ⟨t.toArray⟩, .slice a li.length c, .slice a' m.length c'] 31))
  have HF0 := Lib.hid (HFw.out (.cells #[.int .i64 6, .bool y, .string ⟨t.toArray⟩, .slice a li.length c, .slice a' m.length c'] 31))
  generalize w.alloc _ = w0 at *
  have HX0 := Lib.hid hx0
  have v0 : w0.cell? ⟨w.heap.size, 0, none⟩ = some (.int .i64 6) := by rw [Lib.cell_of_heap hx0]; rfl
  have v3 : w0.cell? ⟨w.heap.size, 4, none⟩ = some (.slice a' m.length c') := by rw [Lib.cell_of_heap hx0]; rfl
  clear hx0 HBw HFw
  go_wp2_with fail
  refine (WriteByte_z b l 123 123 rfl w0 HB0.out (by have := HL.out; omega)).mono ?_
  rintro e w1 ⟨rfl, hb1, hf1⟩
  have HB1 := Lib.hid hb1
  have HF1 := Lib.hid (HF0.out.trans hf1)
  have hx1 := hf1.block w.heap.size _ HX0.out (by omega) (fun c e => by simp at e)
  have k3 : w1.cell? ⟨w.heap.size, 4, none⟩ = some (.slice a' m.length c') := by rw [Lib.cell_of_heap hx1]; rfl
  clear hb1 hf1 hx1 v0 v3
  go_wp2_with fail
  go_loopg [66] m.length (fun k iv wr => ∃ j : Nat, iv = .int .i64 (j : Int) ∧ j + k = m.length ∧ Hid (BldZ b (l ++ 123 :: prM n (m.take j)) wr) ∧ Hid (FrZ b w wr))
  case atStart => exact ⟨0, rfl, by omega, Lib.hid (by simpa [prM, styM] using HB1.out), HF1⟩
  case round =>
    obtain ⟨j, rfl, hj, HBW, HFW⟩ := hrel
    by_cases hlt : j < m.length
    · have hltI : (j : Int) < (m.length : Int) := by omega
      obtain ⟨br, off, k2, y2, t2, a2, l2, c2, a3, l3, c3, ea, hrep, i0, i1, i2, i3, i4, i5⟩ := mem_cells' (RdO.keep H1.out fun k hk _ => HFW.out.low k hk) (H2.out.keep fun k hk _ => HFW.out.low k hk) j hlt
      subst ea
      have HREP := Lib.hid hrep
      have HT := Lib.hid (prM_take n m j hlt)
      have HI := Lib.hid (HIH.out m[j] (List.getElem_mem hlt))
      have HLJ : Hid ((prM n (m.take j)).length + ((if j = 0 then ([] : List UInt8) else [44]).length + ((nlL (n + 1)).length + ((quoteL m[j].1).length + ((styJ linesS (n + 1) m[j].2).length + 2)))) ≤ (prM n m).length) := Lib.hid (by
        have := HLE.out (j + 1)
        rw [HT.out] at this
        simp only [List.length_append, List.length_cons] at this
        omega)
      generalize m[j] = x at *
      obtain ⟨nm, x⟩ := x
      simp only at HREP HT HI HLJ i0
      clear hrep k3
      go_upto_region 18 with (fail)
      have hx4 := heap_alloc_new wr (.cells #[.string ⟨nm.toArray⟩, .int .i64 k2, .bool y2, .string ⟨t2⟩, .slice a2 l2 c2, .slice a3 l3 c3] 49)
      have hb4 : Below wr.heap.size wr (wr.alloc (.cells #[.string ⟨nm.toArray⟩, .int .i64 k2, .bool y2, .string ⟨t2⟩, .slice a2 l2 c2, .slice a3 l3 c3] 49)) := (Below.refl _ _).alloc (Nat.le_refl _) _
      generalize wr.alloc _ = w4 at *
      have HX4 := Lib.hid hx4
      have HB4 := Lib.hid (HBW.out.below hb4)
      have hbr := HBW.out.lt
      have HF4 := Lib.hid (HFW.out.trans (FrZ.of_below hb4 (Nat.le_of_lt hbr)))
      have HREP4 := Lib.hid (HREP.out.under hb4)
      clear hx4 hb4 i0 i1 i2 i3 i4 i5
      go_wp2_with fail
      refine (jcomma_any b _ j w4 HB4.out (by have := HL.out; have := HLE.out j; simp only [List.length_append, List.length_cons]; omega)).mono ?_
      rintro e w5 ⟨rfl, hb5, hf5⟩
      have HB5 := Lib.hid hb5
      have HF5 := Lib.hid (HF4.out.trans hf5)
      have HX5 := Lib.hid (hf5.block wr.heap.size _ HX4.out (by omega) (fun c e => by simp at e))
      have HREP5 := Lib.hid (HREP4.out.keep fun k hk _ => hf5.low k hk)
      have hM := jmargin_any b _ (n + 1) w5 hb5 (by have := HL.out; have := HLJ.out; simp only [List.length_append, List.length_cons] at *; omega)
      rw [HN1.out] at hM
      have HM := Lib.hid hM
      clear hb5 hf5 hM
      go_wp2_with fail
      refine HM.out.mono ?_
      rintro e w6 ⟨rfl, hb6, hf6⟩
      have HB6 := Lib.hid hb6
      have HF6 := Lib.hid (HF5.out.trans hf6)
      have HX6 := Lib.hid (hf6.block wr.heap.size _ HX5.out (by omega) (fun c e => by simp at e))
      have HREP6 := Lib.hid (HREP5.out.keep fun k hk _ => hf6.low k hk)
      have u0 : w6.cell? ⟨wr.heap.size, 0, none⟩ = some (.string ⟨nm.toArray⟩) := by rw [Lib.cell_of_heap HX6.out]; rfl
      have hQ := jquote_any b _ nm w6 hb6 (by have := HL.out; have := HLJ.out; have := quote_len nm; unfold quoteL at *; simp only [List.length_append, List.length_cons, List.length_nil] at *; omega) (by have := HL.out; have := HLJ.out; simp only [List.length_append, List.length_cons] at *; omega)
      have HQ := Lib.hid hQ
      clear hb6 hf6 hQ
      go_wp2_with fail
      refine HQ.out.mono ?_
      rintro e w7 ⟨rfl, hb7, hf7⟩
      have HF7 := Lib.hid (HF6.out.trans hf7)
      have HX7 := Lib.hid (hf7.block wr.heap.size _ HX6.out (by omega) (fun c e => by simp at e))
      have HREP7 := Lib.hid (HREP6.out.keep fun k hk _ => hf7.low k hk)
      have hC := WriteString_z b _ [58, 32] w7 hb7 (by have := HL.out; have := HLJ.out; simp only [List.length_append, List.length_cons, List.length_nil] at *; omega)
      have HC := Lib.hid hC
      clear hb7 hf7 hC u0
      go_wp2_with fail
      refine HC.out.mono ?_
      rintro e w8 ⟨rfl, hb8, hf8⟩
      have HF8 := Lib.hid (HF7.out.trans hf8)
      have HX8 := Lib.hid (hf8.block wr.heap.size _ HX7.out (by omega) (fun c e => by simp at e))
      have HREP8 := Lib.hid (HREP7.out.keep fun k hk _ => hf8.low k hk)
      have v0 : w8.cell? ⟨wr.heap.size, 1, none⟩ = some (.int .i64 k2) := by rw [Lib.cell_of_heap HX8.out]; rfl
      have v1 : w8.cell? ⟨wr.heap.size, 2, none⟩ = some (.bool y2) := by rw [Lib.cell_of_heap HX8.out]; rfl
      have v2 : w8.cell? ⟨wr.heap.size, 3, none⟩ = some (.string ⟨t2⟩) := by rw [Lib.cell_of_heap HX8.out]; rfl
      have v3 : w8.cell? ⟨wr.heap.size, 4, none⟩ = some (.slice a2 l2 c2) := by rw [Lib.cell_of_heap HX8.out]; rfl
      have v4 : w8.cell? ⟨wr.heap.size, 5, none⟩ = some (.slice a3 l3 c3) := by rw [Lib.cell_of_heap HX8.out]; rfl
      have hP := HI.out [.int .i64 k2, .bool y2, .string ⟨t2⟩, .slice a2 l2 c2, .slice a3 l3 c3] _ w8 (n + 1) HREP8.out hb8 (by have := HL.out; have := HLJ.out; simp only [List.length_append, List.length_cons, List.length_nil] at *; omega) (by have := HL.out; rw [pr_nl_len] at this; omega)
      rw [HN1.out] at hP
      have HP := Lib.hid hP
      clear hb8 hf8 hP
      go_wp2_with fail
      refine HP.out.mono ?_
      rintro e w9 ⟨rfl, hb9, hf9⟩
      have HB9 : Hid (BldZ b (l ++ 123 :: prM n (m.take (j + 1))) w9) := Lib.hid (by rw [HT.out]; simpa using hb9)
      have HF9 := Lib.hid (HF8.out.trans hf9)
      clear hb9 hf9
      go_wp2_with fail
      go_roundg (gk - 1)
      case measure => omega
      case rel => exact ⟨j + 1, by first | rfl | (congr 1), by omega, HB9, HF9⟩
    · have hge : ¬ (j : Int) < (m.length : Int) := by omega
      have HBE : Hid (BldZ b (l ++ 123 :: prM n m) wr) := Lib.hid (by have := HBW.out; rwa [List.take_of_length_le (by omega)] at this)
      clear k3
      go_wp2_with fail
      refine (jmargin_any b _ n wr HBE.out (by have := HL.out; simp only [List.length_append, List.length_cons]; omega)).mono ?_
      rintro e w5 ⟨rfl, hb5, hf5⟩
      have HB5 := Lib.hid hb5
      have HF5 := Lib.hid (HFW.out.trans hf5)
      clear hb5 hf5
      go_wp2_with fail
      refine (WriteByte_z b _ 125 125 rfl w5 HB5.out (by have := HL.out; simp only [List.length_append, List.length_cons]; omega)).mono ?_
      rintro e w6 ⟨rfl, hb6, hf6⟩
      have HB6 : Hid (BldZ b (l ++ styJ linesS n (.mk 6 y t li m)) w6) := Lib.hid (by rw [HPJ.out]; simpa using hb6)
      have HF6 := Lib.hid (HF5.out.trans hf6)
      clear hb6 hf6
      go_wp2_with fail
      go_end0
      exact ⟨rfl, HB6.out, HF6.out⟩
theorem pretty_any (b : Nat) : ∀ (N : Nat) (v : JV), sizeJ v ≤ N → PrettyC b v := by
  intro N
  induction N with
  | zero => intro v h; have := size_pos v; omega
  | succ N ih =>
    intro v h
    obtain ⟨k, y, t, l, m⟩ := v
    have hs : sizeJ (.mk k y t l m) = 1 + t.length + sizeL l + sizeM m := by rw [sizeJ]
    by_cases h5 : k = 5 ∧ l ≠ []
    · obtain ⟨rfl, hne⟩ := h5
      refine pretty_arr b y t l m hne (fun x hx => ?_)
      have := size_list hx
      exact ih x (by omega)
    by_cases h6 : k = 6 ∧ m ≠ []
    · obtain ⟨rfl, hne⟩ := h6
      refine pretty_obj b y t l m hne (fun x hx => ?_)
      have := size_mem hx
      exact ih x.2 (by omega)
    exact pretty_flat b k y t l m (fun e => Classical.byContradiction fun hc => h5 ⟨e, hc⟩) (fun e => Classical.byContradiction fun hc => h6 ⟨e, hc⟩)
end Go.Proofs.Ytgcfikiajingcaa
/- json: Pretty; how long a tree's text in lines is. -/
set_option linter.unusedVariables false
namespace Go.Proofs.Ytgcfikiajingcaa
open Go.RowKit

mutual
def nodesJ : JV → Nat
  | .mk _ _ _ l m => 1 + nodesL l + nodesM m
def nodesL : List JV → Nat
  | [] => 0
  | v :: l => nodesJ v + nodesL l
def nodesM : List (List UInt8 × JV) → Nat
  | [] => 0
  | (_, v) :: m => nodesJ v + nodesM m
end
mutual
theorem sty_boundJ (D : Nat) : ∀ (v : JV) (n : Nat), n + nodesJ v ≤ D → (styJ linesS n v).length + (2 * D + 4) ≤ 8 * sizeJ v + nodesJ v * (4 * D + 8)
  | .mk k y t l m, n, h => by
    have hL := sty_boundL D l n
    have hM := sty_boundM D m n
    have hp := plain_size (.mk k y t l m)
    rw [nodesJ] at h ⊢
    rw [Nat.add_mul, Nat.add_mul, Nat.one_mul]
    generalize nodesL l * (4 * D + 8) = A at *
    generalize nodesM m * (4 * D + 8) = B at *
    by_cases h5 : k = 5 ∧ l ≠ []
    · obtain ⟨rfl, hne⟩ := h5
      have := hL (nlL (n + 1)) (by rw [pr_nl_len]; omega) (by omega)
      rw [sty_arr n y t l m hne, sizeJ]
      simp only [List.length_cons, List.length_append, List.length_nil, pr_nl_len, prL]
      omega
    by_cases h6 : k = 6 ∧ m ≠ []
    · obtain ⟨rfl, hne⟩ := h6
      have := hM (nlL (n + 1)) (by rw [pr_nl_len]; omega) (by omega)
      rw [sty_obj n y t l m hne, sizeJ]
      simp only [List.length_cons, List.length_append, List.length_nil, pr_nl_len, prM]
      omega
    rw [sty_flat n k y t l m (fun e => Classical.byContradiction fun hc => h5 ⟨e, hc⟩) (fun e => Classical.byContradiction fun hc => h6 ⟨e, hc⟩)]
    omega
theorem sty_boundL (D : Nat) : ∀ (l : List JV) (n : Nat) (b : List UInt8), b.length ≤ 2 * D + 4 → n + 1 + nodesL l ≤ D → (styL linesS n b [] l).length ≤ 8 * sizeL l + nodesL l * (4 * D + 8)
  | [], n, b, hb, h => by simp [styL]
  | v :: l, n, b, hb, h => by
    have hv := sty_boundJ D v (n + 1)
    have hl := sty_boundL D l n (44 :: nlL (n + 1))
    rw [nodesL] at h ⊢
    have h1 := hv (by omega)
    have h2 := hl (by rw [List.length_cons, pr_nl_len]; omega) (by omega)
    rw [styL_plainend, sizeL, Nat.add_mul]
    simp only [List.length_append]
    show b.length + ((styJ linesS (n + 1) v).length + (styL linesS n (44 :: nlL (n + 1)) [] l).length) ≤ _
    omega
theorem sty_boundM (D : Nat) : ∀ (l : List (List UInt8 × JV)) (n : Nat) (b : List UInt8), b.length ≤ 2 * D + 4 → n + 1 + nodesM l ≤ D → (styM linesS n b [] l).length ≤ 8 * sizeM l + nodesM l * (4 * D + 8)
  | [], n, b, hb, h => by simp [styM]
  | (nm, v) :: l, n, b, hb, h => by
    have hv := sty_boundJ D v (n + 1)
    have hl := sty_boundM D l n (44 :: nlL (n + 1))
    have hq := quoteL_len6 nm
    rw [nodesM] at h ⊢
    have h1 := hv (by omega)
    have h2 := hl (by rw [List.length_cons, pr_nl_len]; omega) (by omega)
    rw [styM_plainend, sizeM, Nat.add_mul]
    simp only [List.length_append, List.length_cons]
    show b.length + ((quoteL nm).length + ((1 + ((styJ linesS (n + 1) v).length + (styM linesS n (44 :: nlL (n + 1)) [] l).length)) + 1)) ≤ _
    omega
end
theorem nodesM_app : ∀ (a b : List (List UInt8 × JV)), nodesM (a ++ b) = nodesM a + nodesM b
  | [], b => by simp [nodesM]
  | (n, v) :: a, b => by
    have := nodesM_app a b
    simp only [List.cons_append, nodesM, this]
    omega
theorem nodesL_snd : ∀ (a : List (List UInt8 × JV)), nodesL (a.map Prod.snd) = nodesM a
  | [] => by simp [nodesL, nodesM]
  | (n, v) :: a => by
    have := nodesL_snd a
    simp only [List.map_cons, nodesL, nodesM, this]
theorem nodes_node (x : ND) (ks : List (List UInt8 × JV)) : nodesJ (nodeJ x ks) = 1 + nodesM ks := by
  have := nodesL_snd ks
  unfold nodeJ
  rw [nodesJ]
  split
  · (simp only [nodesM]; try omega)
  · (simp only [nodesL]; try omega)
theorem nodes_step (o : List (List UInt8 × JV)) (x : ND) : nodesM (treeStep o x) = nodesM o + 1 := by
  have h1 := nodes_node x (o.drop (o.length - cutN x o.length))
  have h2 := nodesM_app (o.take (o.length - cutN x o.length)) (o.drop (o.length - cutN x o.length))
  rw [List.take_append_drop] at h2
  unfold treeStep
  rw [nodesM_app]
  simp only [nodesM]
  omega
theorem nodes_fold : ∀ (l : List ND) (o : List (List UInt8 × JV)), nodesM (l.foldl treeStep o) = nodesM o + l.length
  | [], o => by simp
  | x :: l, o => by
    have h1 := nodes_step o x
    have h2 := nodes_fold l (treeStep o x)
    simp only [List.foldl_cons, List.length_cons]
    omega
theorem nodes_mem : ∀ (a : List (List UInt8 × JV)) (p : List UInt8 × JV), p ∈ a → nodesJ p.2 ≤ nodesM a
  | (n, v) :: a, p, h => by
    rw [nodesM]
    rcases List.mem_cons.1 h with rfl | h
    · simp
    · have := nodes_mem a p h; omega
theorem tree_nodes {l : List ND} {v : JV} (h : treeV l = some v) : nodesJ v ≤ 40 := by
  unfold treeV at h
  split at h
  · rename_i hc
    have h1 := nodes_fold l []
    simp only [nodesM] at h1
    cases hg : (treeOpen l).getLast? with
    | none => rw [hg] at h; cases h
    | some p =>
      rw [hg] at h
      simp only [Option.map_some, Option.some.injEq] at h
      subst h
      have h2 := nodes_mem _ p (List.mem_of_getLast? hg)
      unfold treeOpen at h2
      omega
  · cases h
theorem tree_lines {l : List ND} {v : JV} (h : treeV l = some v) : (styJ linesS 0 v).length ≤ 60000 := by
  have h1 := tree_size h
  have h2 := tree_nodes h
  have h3 := sty_boundJ 40 v 0 (by omega)
  have h4 : nodesJ v * (4 * 40 + 8) ≤ 40 * 168 := Nat.mul_le_mul_right 168 h2
  omega
set_option maxRecDepth 100000 in
set_option maxHeartbeats 16000000 in
theorem jpretty_any (v : JV) (hv : RightC v) (ok : Nat → Prop) (cs : List Value) (w : World) (h : Rep ok w cs v) (hl : (styJ linesS 0 v).length ≤ 90000) :
    Calls Try.prog 14 #[.agg cs.toArray] w fun e w' => e = .returned (.tuple #[.string ⟨(if rightJ v then styJ linesS 0 v ++ [10] else []).toArray⟩, .int .i64 (if rightJ v then 0 else 10)]) ∧ Below w.heap.size w w' := by
  obtain ⟨a, c, a', c', cl, cm, rfl, -⟩ := h.parts
  unfold strV at *
  have HR0 := Lib.hid h.lt
  have HV := Lib.hid hv
  clear h hv
  go_enter Try.func14, Try.ntmps14
  go_upto_region 1 with (fail)
  have hb1 : Below w.heap.size w (w.alloc (.cells #[.int .i64 v.kind, .bool v.yes, .string ⟨v.text.toArray⟩, .slice a v.list.length c, .slice a' v.mem.length c'] 31)) := (Below.refl _ _).alloc (Nat.le_refl _) _
  have hx1 := heap_alloc_new w (.cells #[.int .i64 v.kind, .bool v.yes, .string ⟨v.text.toArray⟩, .slice a v.list.length c, .slice a' v.mem.length c'] 31)
  generalize w.alloc _ = w1 at *
  have HB1 := Lib.hid hb1
  have HX1 := Lib.hid hx1
  have hs1 : w.heap.size < w1.heap.size := (Array.getElem?_eq_some_iff.1 hx1).1
  have HR1 := Lib.hid (HR0.out.under hb1)
  have v0 : w1.cell? ⟨w.heap.size, 0, none⟩ = some (.int .i64 v.kind) := by rw [Lib.cell_of_heap hx1]; rfl
  have v1 : w1.cell? ⟨w.heap.size, 1, none⟩ = some (.bool v.yes) := by rw [Lib.cell_of_heap hx1]; rfl
  have v2 : w1.cell? ⟨w.heap.size, 2, none⟩ = some (.string ⟨v.text.toArray⟩) := by rw [Lib.cell_of_heap hx1]; rfl
  have v3 : w1.cell? ⟨w.heap.size, 3, none⟩ = some (.slice a v.list.length c) := by rw [Lib.cell_of_heap hx1]; rfl
  have v4 : w1.cell? ⟨w.heap.size, 4, none⟩ = some (.slice a' v.mem.length c') := by rw [Lib.cell_of_heap hx1]; rfl
  clear hb1 hx1 HR0
  go_wp2_with fail
  refine (HV.out _ _ w1 HR1.out).mono ?_
  rintro e w2 ⟨rfl, hb2⟩
  have HB2 := Lib.hid (HB1.out.trans (hb2.mono HB1.out.size))
  have HX2 := Lib.hid ((hb2.block _ hs1).trans HX1.out)
  have hs2 : w.heap.size < w2.heap.size := Nat.lt_of_lt_of_le hs1 hb2.size
  have HR2 := Lib.hid (HR1.out.under hb2)
  clear hb2 v0 v1 v2 v3 v4 HR1 HX1 HB1
  cases hr : rightJ v with
  | false =>
    go_wp2_with fail
    all_goals (refine bodyPost_ret (v := .tuple #[.string ⟨#[]⟩, .int .i64 10]) (by simp [results, Try.results14, go_sem]) rfl ?_; exact ⟨rfl, HB2.out⟩)
  | true =>
    go_upto_region 4 with (fail)
    have HBN := Lib.hid (BldZ.fresh w2)
    have hb3 : Below w2.heap.size w2 (w2.alloc (.cells #[.pointer none, .slice none 0 0] 55 (0, 0))) := (Below.refl _ _).alloc (Nat.le_refl _) _
    generalize w2.alloc _ = w3 at *
    have HX3 := Lib.hid ((hb3.block _ hs2).trans HX2.out)
    have HB3 := Lib.hid (HB2.out.trans (hb3.mono HB2.out.size))
    have HR3 := Lib.hid ((HR2.out.under hb3).mono fun k hk => (show k < w2.heap.size by have := hk.2; omega))
    have v0 : w3.cell? ⟨w.heap.size, 0, none⟩ = some (.int .i64 v.kind) := by rw [Lib.cell_of_heap HX3.out]; rfl
    have v1 : w3.cell? ⟨w.heap.size, 1, none⟩ = some (.bool v.yes) := by rw [Lib.cell_of_heap HX3.out]; rfl
    have v2 : w3.cell? ⟨w.heap.size, 2, none⟩ = some (.string ⟨v.text.toArray⟩) := by rw [Lib.cell_of_heap HX3.out]; rfl
    have v3 : w3.cell? ⟨w.heap.size, 3, none⟩ = some (.slice a v.list.length c) := by rw [Lib.cell_of_heap HX3.out]; rfl
    have v4 : w3.cell? ⟨w.heap.size, 4, none⟩ = some (.slice a' v.mem.length c') := by rw [Lib.cell_of_heap HX3.out]; rfl
    clear hb3
    go_wp2_with fail
    refine (pretty_any w2.heap.size _ v (Nat.le_refl _) _ [] w3 0 HR3.out HBN.out (by simp; omega) (by omega)).mono ?_
    rintro e w4 ⟨rfl, hb4, hf4⟩
    have HB4 := Lib.hid hb4
    have HF4 := Lib.hid (HB3.out.trans (hf4.below.mono (Nat.le_of_lt hs2)))
    clear hb4 hf4
    go_wp2_with fail
    refine (WriteByte_z w2.heap.size _ 10 10 rfl w4 HB4.out (by simp; omega)).mono ?_
    rintro e w5 ⟨rfl, hb5, hf5⟩
    have HB5' := Lib.hid hb5
    have HF5' := Lib.hid (HF4.out.trans (hf5.below.mono (Nat.le_of_lt hs2)))
    clear hb5 hf5
    go_wp2_with fail
    refine (BString_any w2.heap.size _ w5 HB5'.out.bld).mono ?_
    rintro e w6 ⟨rfl, _, hb5, _⟩
    have HB5 := Lib.hid (HF5'.out.trans (hb5.mono (Nat.le_of_lt hs2)))
    clear hb5
    go_wp2_with fail
    refine bodyPost_ret (v := .tuple #[.string ⟨(styJ linesS 0 v ++ [10]).toArray⟩, .int .i64 0]) (by simp [results, Try.results14, go_sem]) rfl ?_
    exact ⟨rfl, HB5.out⟩
end Go.Proofs.Ytgcfikiajingcaa
/- The walk of the law JsonPretty. -/
set_option linter.unusedVariables false
namespace Go.Proofs.Ytgcfikiajingcaa
open Go.RowKit

theorem parse_lines (v : JV) (h : rightJ v = true) (hl : (styJ linesS 0 v ++ [10]).length ≤ 16384) (hd : depthJ v ≤ 32) : parseL (styJ linesS 0 v ++ [10]) 32 = (v, 0) := by
  have := parse_sty linesS linesS_blank v h [10] (by intro c hc; rw [List.mem_singleton.1 hc]; decide) hl 32 (by omega) (by omega)
  rw [if_pos (by have := open_depth v; omega)] at this
  exact this
set_option maxRecDepth 100000 in
set_option maxHeartbeats 64000000 in
theorem jsonPretty_walk (a : Option Addr) (c : Nat) (l : List ND) (w : World) (hrl : RdC w a (l.flatMap ndCell) ∧ l.length ≤ maxLen) :
    Calls Try.prog 4 #[.slice a l.length c] w fun e w' => e = .returned (.bool true) ∧ Below w.heap.size w w' := by
  obtain ⟨hr, hlen⟩ := hrl
  unfold maxLen at hlen
  have HR := Lib.hid hr
  have HL := Lib.hid hlen
  clear hr hlen
  go_enter Try.func4, Try.ntmps4
  go_wp2_with fail
  refine (anchor06_any w).mono ?_
  rintro e w1 ⟨rfl, hb1⟩
  have HB1 := Lib.hid hb1
  have HR1 := Lib.hid (HR.out.below hb1)
  clear hb1
  go_wp2_with fail
  refine (treeval_any a c l w1 HR1.out (by have := HL.out; omega)).mono ?_
  rintro e w2 ⟨hb2, cs, rfl, hrep⟩
  have HB2 := Lib.hid (HB1.out.trans (hb2.mono HB1.out.size))
  have hsz : ∀ v, treeV l = some v → sizeJ v ≤ 6500 ∧ (styJ linesS 0 v).length ≤ 60000 := fun v h => ⟨tree_size h, tree_lines h⟩
  generalize treeV l = tv at *
  clear hb2
  cases tv with
  | none =>
    obtain ⟨xa, xc, xa', xc', _, _, rfl, -⟩ := hrep.parts
    simp only [Option.isSome_none, Option.getD_none, JV.zero, JV.kind, JV.yes, JV.text, JV.list, JV.mem, strV, List.length_nil] at *
    clear hrep hsz
    go_upto_region 4 with (fail)
    have HB3 := Lib.hid (HB2.out.trans (((Below.refl _ _).alloc (Nat.le_refl _) (.cells #[.int .i64 0, .bool false, .string ⟨#[]⟩, .slice xa 0 xc, .slice xa' 0 xc'] 31)).mono HB2.out.size))
    go_wp2_with fail
    refine bodyPost_ret (results_tmp rfl _ _ _) rfl ?_
    exact ⟨rfl, HB3.out⟩
  | some v =>
  obtain ⟨hs, hln⟩ := hsz v rfl
  obtain ⟨xa, xc, xa', xc', _, _, rfl, -⟩ := hrep.parts
  simp only [Option.isSome_some, Option.getD_some] at *
  unfold strV at *
  obtain ⟨k, y, t, n1, n2, hk, hy, ht, hn1, hn2⟩ : ∃ k y t n1 n2, v.kind = k ∧ v.yes = y ∧ (⟨v.text.toArray⟩ : ByteArray) = t ∧ v.list.length = n1 ∧ v.mem.length = n2 := ⟨_, _, _, _, _, rfl, rfl, rfl, rfl, rfl⟩
  rw [hk, hy, ht, hn1, hn2] at hrep
  rw [hk, hy, ht, hn1, hn2]
  clear hk hy ht hn1 hn2 hsz
  have HREP2 := Lib.hid hrep.lt
  go_upto_region 4 with (fail)
  obtain ⟨CS, hCS⟩ : ∃ CS : List Value, [.int .i64 k, .bool y, .string t, .slice xa n1 xc, .slice xa' n2 xc'] = CS := ⟨_, rfl⟩
  generalize hw3 : w2.alloc _ = w3
  have hb3 : Below w2.heap.size w2 w3 := by rw [← hw3]; exact (Below.refl _ _).alloc (Nat.le_refl _) _
  have hx3 : w3.heap[w2.heap.size]? = some (.cells #[.int .i64 k, .bool y, .string t, .slice xa n1 xc, .slice xa' n2 xc'] 31 (0, 0)) := by rw [← hw3]; exact heap_alloc_new _ _
  have HB3 := Lib.hid (HB2.out.trans (hb3.mono HB2.out.size))
  have HX3 := Lib.hid hx3
  have HREP3 := Lib.hid (HREP2.out.under hb3)
  have hs3 : w2.heap.size < w3.heap.size := (Array.getElem?_eq_some_iff.1 hx3).1
  have v0 : w3.cell? ⟨w2.heap.size, 0, none⟩ = some (.int .i64 k) := by rw [Lib.cell_of_heap hx3]; rfl
  have v1 : w3.cell? ⟨w2.heap.size, 1, none⟩ = some (.bool y) := by rw [Lib.cell_of_heap hx3]; rfl
  have v2 : w3.cell? ⟨w2.heap.size, 2, none⟩ = some (.string t) := by rw [Lib.cell_of_heap hx3]; rfl
  have v3 : w3.cell? ⟨w2.heap.size, 3, none⟩ = some (.slice xa n1 xc) := by rw [Lib.cell_of_heap hx3]; rfl
  have v4 : w3.cell? ⟨w2.heap.size, 4, none⟩ = some (.slice xa' n2 xc') := by rw [Lib.cell_of_heap hx3]; rfl
  clear hw3 hb3 hx3 hrep hCS CS
  have HPL := Lib.hid (show (plainJ v).length ≤ 52000 by have := plain_size v; omega)
  go_wp2_with fail
  refine (jprint_any v (jright v (by omega)) _ [.int .i64 k, .bool y, .string t, .slice xa n1 xc, .slice xa' n2 xc'] w3 HREP3.out (by have := HPL.out; omega)).mono ?_
  rintro e w4 ⟨rfl, hb4⟩
  have HB4 := Lib.hid (HB3.out.trans (hb4.mono HB3.out.size))
  have HX4 := Lib.hid ((hb4.block _ hs3).trans HX3.out)
  have HREP4 := Lib.hid (HREP3.out.under hb4)
  have hs4 : w2.heap.size < w4.heap.size := Nat.lt_of_lt_of_le hs3 hb4.size
  clear hb4 v0 v1 v2 v3 v4 HX3 HREP2
  have c0 : w4.cell? ⟨w2.heap.size, 0, none⟩ = some (.int .i64 k) := by rw [Lib.cell_of_heap HX4.out]; rfl
  have c1 : w4.cell? ⟨w2.heap.size, 1, none⟩ = some (.bool y) := by rw [Lib.cell_of_heap HX4.out]; rfl
  have c2 : w4.cell? ⟨w2.heap.size, 2, none⟩ = some (.string t) := by rw [Lib.cell_of_heap HX4.out]; rfl
  have c3 : w4.cell? ⟨w2.heap.size, 3, none⟩ = some (.slice xa n1 xc) := by rw [Lib.cell_of_heap HX4.out]; rfl
  have c4 : w4.cell? ⟨w2.heap.size, 4, none⟩ = some (.slice xa' n2 xc') := by rw [Lib.cell_of_heap HX4.out]; rfl
  obtain ⟨r, hr⟩ : ∃ r, rightJ v = r := ⟨_, rfl⟩
  have HRR := Lib.hid hr
  have HPT := Lib.hid (jpretty_any v (jright v (by omega)) _ [.int .i64 k, .bool y, .string t, .slice xa n1 xc, .slice xa' n2 xc'] w4 HREP4.out (by omega))
  rw [hr] at HPT
  simp only [hr]
  clear hr
  cases r with
  | false =>
    simp only [Bool.false_eq_true, if_false] at HPT ⊢
    go_wp2_with fail
    refine HPT.out.mono ?_
    rintro e w5 ⟨rfl, hb5⟩
    have HB5 := Lib.hid (HB4.out.trans (hb5.mono HB4.out.size))
    clear hb5
    go_wp2_with fail
    refine bodyPost_ret (results_tmp rfl _ _ _) rfl ?_
    exact ⟨rfl, HB5.out⟩
  | true =>
  simp only [if_true] at HPT ⊢
  obtain ⟨S, hS⟩ : ∃ S, plainJ v = S := ⟨_, rfl⟩
  obtain ⟨P, hP⟩ : ∃ P, styJ linesS 0 v ++ [10] = P := ⟨_, rfl⟩
  have hSl : S.length ≤ 52000 := by rw [← hS]; exact HPL.out
  have hPl : P.length ≤ 60001 := by rw [← hP]; simp; omega
  have hlp := lines_plain v HRR.out
  have hpe : P.length ≤ 16384 → depthJ v ≤ 32 → parseL P 32 = (v, 0) := fun h1 h2 => by
    rw [← hP] at h1 ⊢
    exact parse_lines v HRR.out h1 h2
  rw [hS, hP] at hlp
  rw [hP] at HPT
  simp only [hS]
  have HPE := Lib.hid hpe
  have HLP := Lib.hid hlp
  clear hS hP hlp hpe
  go_wp2_with fail
  refine HPT.out.mono ?_
  rintro e w5 ⟨rfl, hb5⟩
  have HB5 := Lib.hid (HB4.out.trans (hb5.mono HB4.out.size))
  have HX5 := Lib.hid ((hb5.block _ hs4).trans HX4.out)
  have HREP5 := Lib.hid (HREP4.out.under hb5)
  have hs5 : w2.heap.size < w5.heap.size := Nat.lt_of_lt_of_le hs4 hb5.size
  clear hb5 c0 c1 c2 c3 c4 HPT HX4 HREP4
  obtain ⟨cc, w7, hcv, hb7, hrd7, -⟩ := bytes_of_str P w5
  have hp7 := parse_any P (some ⟨w5.heap.size, 0, none⟩) cc 32 w7 hrd7 (by omega)
  have HB7 := Lib.hid (HB5.out.trans (hb7.mono HB5.out.size))
  have HX7 := Lib.hid ((hb7.block _ hs5).trans HX5.out)
  have HREP7 := Lib.hid (HREP5.out.under hb7)
  have hs7 : w2.heap.size < w7.heap.size := Nat.lt_of_lt_of_le hs5 hb7.size
  have hpe2 : P.length ≤ 16384 → depthJ v ≤ 32 → (parseL P 32).1 = v ∧ (parseL P 32).2 = 0 := fun h1 h2 => by
    rw [HPE.out h1 h2]
    exact ⟨rfl, rfl⟩
  generalize (parseL P 32).1 = pv at *
  generalize (parseL P 32).2 = pe at *
  have HP7 := Lib.hid hp7
  have HPF := Lib.hid hpe2
  clear hb7 hrd7 hp7 hpe2 HPE HX5 HREP5
  go_wp2_with fail
  refine HP7.out.mono ?_
  rintro e w8 ⟨hb8, cs8, A8, rfl, hrep8⟩
  have HB8 := Lib.hid (HB7.out.trans (hb8.mono HB7.out.size))
  have HX8 := Lib.hid ((hb8.block _ hs7).trans HX7.out)
  have HREP8 := Lib.hid (HREP7.out.under hb8)
  have hs8 : w2.heap.size < w8.heap.size := Nat.lt_of_lt_of_le hs7 hb8.size
  obtain ⟨ya, yc, ya', yc', _, _, rfl, -⟩ := hrep8.parts
  unfold strV at *
  obtain ⟨k2, y2, t2, n3, n4, hk, hy, ht, hn1, hn2⟩ : ∃ k y t n1 n2, pv.kind = k ∧ pv.yes = y ∧ (⟨pv.text.toArray⟩ : ByteArray) = t ∧ pv.list.length = n1 ∧ pv.mem.length = n2 := ⟨_, _, _, _, _, rfl, rfl, rfl, rfl, rfl⟩
  rw [hk, hy, ht, hn1, hn2] at hrep8
  rw [hk, hy, ht, hn1, hn2]
  have HW8 := Lib.hid hrep8
  clear hk hy ht hn1 hn2 hrep8 hb8 hcv HP7 HX7 HREP7
  go_upto_region 11 with (fail)
  generalize hw9 : w8.alloc _ = w9
  have hb9 : Below w8.heap.size w8 w9 := by rw [← hw9]; exact (Below.refl _ _).alloc (Nat.le_refl _) _
  have hx9 : w9.heap[w8.heap.size]? = some (.cells #[.int .i64 k2, .bool y2, .string t2, .slice ya n3 yc, .slice ya' n4 yc'] 31 (0, 0)) := by rw [← hw9]; exact heap_alloc_new _ _
  have HB9 := Lib.hid (HB8.out.trans (hb9.mono HB8.out.size))
  have HX9 := Lib.hid ((hb9.block _ hs8).trans HX8.out)
  have HREP9 := Lib.hid (HREP8.out.under hb9)
  have HW9 := Lib.hid (HW8.out.under hb9)
  have HY9 := Lib.hid hx9
  have hs9 : w8.heap.size < w9.heap.size := (Array.getElem?_eq_some_iff.1 hx9).1
  clear hw9 hb9 hx9 HX8 HREP8 HW8
  have HLN := Lib.hid (lines_any S w9 (by omega))
  rw [HLP.out] at HLN
  go_wp2_with fail
  refine HLN.out.mono ?_
  rintro e wA ⟨rfl, hbA⟩
  have HBA := Lib.hid (HB9.out.trans (hbA.mono HB9.out.size))
  have hsA : w8.heap.size < wA.heap.size := Nat.lt_of_lt_of_le hs9 hbA.size
  have HXA := Lib.hid ((hbA.block _ (by omega)).trans HX9.out)
  have HYA := Lib.hid ((hbA.block _ hs9).trans HY9.out)
  have HREPA := Lib.hid (HREP9.out.under hbA)
  have HWA := Lib.hid (HW9.out.under hbA)
  clear hbA HX9 HY9 HREP9 HW9 HLN
  by_cases h1 : P.length ≤ 16384
  case neg =>
    have h1I : (16384 : Int) < (P.length : Int) := by omega
    go_wp2_with fail
    refine bodyPost_ret (results_tmp rfl _ _ _) rfl ?_
    exact ⟨rfl, HBA.out⟩
  have h1I : ¬ (16384 : Int) < (P.length : Int) := by omega
  have c0 : wA.cell? ⟨w2.heap.size, 0, none⟩ = some (.int .i64 k) := by rw [Lib.cell_of_heap HXA.out]; rfl
  have c1 : wA.cell? ⟨w2.heap.size, 1, none⟩ = some (.bool y) := by rw [Lib.cell_of_heap HXA.out]; rfl
  have c2 : wA.cell? ⟨w2.heap.size, 2, none⟩ = some (.string t) := by rw [Lib.cell_of_heap HXA.out]; rfl
  have c3 : wA.cell? ⟨w2.heap.size, 3, none⟩ = some (.slice xa n1 xc) := by rw [Lib.cell_of_heap HXA.out]; rfl
  have c4 : wA.cell? ⟨w2.heap.size, 4, none⟩ = some (.slice xa' n2 xc') := by rw [Lib.cell_of_heap HXA.out]; rfl
  obtain ⟨DI, hDI⟩ : ∃ DI : Int, ((depthJ v : Nat) : Int) = DI := ⟨_, rfl⟩
  have hDp := jdepth v (by omega) _ [.int .i64 k, .bool y, .string t, .slice xa n1 xc, .slice xa' n2 xc'] wA HREPA.out
  rw [hDI] at hDp
  have HDp := Lib.hid hDp
  clear hDp
  go_wp2_with fail
  refine HDp.out.mono ?_
  rintro e wB ⟨rfl, hbB⟩
  have HBB := Lib.hid (HBA.out.trans (hbB.mono HBA.out.size))
  have xb := (hbB.block _ (by omega)).trans HXA.out
  have yb := (hbB.block _ hsA).trans HYA.out
  have HREPB := Lib.hid (HREPA.out.under hbB)
  have HWB := Lib.hid (HWA.out.under hbB)
  clear hbB c0 c1 c2 c3 c4 HDp
  by_cases h2 : DI ≤ 32
  case neg =>
    have h2I : (32 : Int) < DI := by omega
    clear hDI
    go_wp2_with fail
    refine bodyPost_ret (results_tmp rfl _ _ _) rfl ?_
    exact ⟨rfl, HBB.out⟩
  have h2I : ¬ (32 : Int) < DI := by omega
  obtain ⟨e1, e2⟩ := HPF.out h1 (by omega)
  rw [e1] at HWB
  subst e2
  clear e1 HPF HWA pv hDI
  have d0 : wB.cell? ⟨w2.heap.size, 0, none⟩ = some (.int .i64 k) := by rw [Lib.cell_of_heap xb]; rfl
  have d1 : wB.cell? ⟨w2.heap.size, 1, none⟩ = some (.bool y) := by rw [Lib.cell_of_heap xb]; rfl
  have d2 : wB.cell? ⟨w2.heap.size, 2, none⟩ = some (.string t) := by rw [Lib.cell_of_heap xb]; rfl
  have d3 : wB.cell? ⟨w2.heap.size, 3, none⟩ = some (.slice xa n1 xc) := by rw [Lib.cell_of_heap xb]; rfl
  have d4 : wB.cell? ⟨w2.heap.size, 4, none⟩ = some (.slice xa' n2 xc') := by rw [Lib.cell_of_heap xb]; rfl
  have e0 : wB.cell? ⟨w8.heap.size, 0, none⟩ = some (.int .i64 k2) := by rw [Lib.cell_of_heap yb]; rfl
  have e1 : wB.cell? ⟨w8.heap.size, 1, none⟩ = some (.bool y2) := by rw [Lib.cell_of_heap yb]; rfl
  have e2 : wB.cell? ⟨w8.heap.size, 2, none⟩ = some (.string t2) := by rw [Lib.cell_of_heap yb]; rfl
  have e3 : wB.cell? ⟨w8.heap.size, 3, none⟩ = some (.slice ya n3 yc) := by rw [Lib.cell_of_heap yb]; rfl
  have e4 : wB.cell? ⟨w8.heap.size, 4, none⟩ = some (.slice ya' n4 yc') := by rw [Lib.cell_of_heap yb]; rfl
  clear xb yb
  go_wp2_with fail
  refine (jsame_any v v _ _ [.int .i64 k, .bool y, .string t, .slice xa n1 xc, .slice xa' n2 xc'] [.int .i64 k2, .bool y2, .string t2, .slice ya n3 yc, .slice ya' n4 yc'] wB HREPB.out HWB.out (by omega) (by omega)).mono ?_
  rw [same_self HRR.out]
  rintro e wE ⟨rfl, hbE⟩
  have HBE := Lib.hid (HBB.out.trans (hbE.mono HBB.out.size))
  clear hbE
  go_wp2_with fail
  refine bodyPost_ret (results_tmp rfl _ _ _) rfl ?_
  exact ⟨rfl, HBE.out⟩
end Go.Proofs.Ytgcfikiajingcaa
