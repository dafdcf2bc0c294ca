/- Merged: JsWt, JsWa, JsWo, JsRa, JsRb, JsSo, JsSc, Val, Str, Use, JsNm, JsSz, JsRc, JsDp, JsWw, JsPr, JsAn, JsSm, Pow, Dig, JsIn, JsNi, RfQ, ClM, ObL, ClV, JsLi. -/
import Derived.Lib.SlicesCompact
import Derived.Sort.OwnSorted
import Derived.Shelf.Slices.In.SortNone
import Derived.WalkSmall
import Derived.Deep.LoopGhost
import Derived.Deep.DeepCutAuto
import Derived.Laws.RangeAny
import Derived.Lib.SlBytesConst
import Derived.Lib.AppendIntMem
import Derived.Lib.ItoaMem
import Derived.Lib.SmallJoins
import Derived.Lib.ItoaNum
import Derived.Lib.AtoiTie
import Derived.Lib.ParseIntB
import Derived.Lib.SliceRun
import Derived.Test.YtfcokdkbjajohaaGreatDoorMg1
import Derived.Test.YtfcokdkbjajohaaGreatDoorMg2
import Derived.Test.YtfcokdkbjajohaaGreatDoorMg3
import Derived.Test.YtfcokdkbjajohaaGreatDoorMg4
import Derived.Test.YtfcokdkbjajohaaGreatDoorMg5
/- json: write. -/
set_option linter.unusedVariables false
namespace Go.Proofs.YtfcokdkbjajohaaGreatDoor
open Go.RowKit

/-- What write does with a value. -/
def WriteC (b : Nat) (v : JV) : Prop := ∀ cs l w, Rep (· < b) w cs v → BldZ b l w → l.length + (plainJ v).length ≤ 100000 →
  Calls Tryz.prog 67 #[.agg cs.toArray, .pointer (some ⟨b, 0, none⟩)] w fun e w' => e = .returned (.tuple #[]) ∧ BldZ b (l ++ plainJ v) w' ∧ FrZ b w w'
set_option maxRecDepth 100000 in
set_option maxHeartbeats 32000000 in
theorem jwrite_leaf (b : Nat) (k : Int) (y : Bool) (t : List UInt8) (li : List JV) (m : List (List UInt8 × JV)) (h5 : k ≠ 5) (h6 : k ≠ 6) : WriteC b (.mk k y t li m) := by
  intro cs l w h hb hl
  obtain ⟨a, c, a', c', cl, cm, rfl, -⟩ := h.parts
  simp only [JV.kind, JV.yes, JV.text, JV.list, JV.mem, strV] at *
  have HBw := Lib.hid (show ∀ ob, BldZ b l (w.alloc ob) from fun ob => hb.below ((Below.refl _ _).alloc (Nat.le_refl _) _))
  have HFw : Hid (∀ ob, FrZ b w (w.alloc ob)) := Lib.hid fun ob => FrZ.of_below ((Below.refl _ _).alloc (Nat.le_refl _) _) (Nat.le_of_lt hb.lt)
  have HPJ : Hid (plainJ (.mk k y t li m) = if k = 1 then [110, 117, 108, 108] else if k = 2 then (if y then [116, 114, 117, 101] else [102, 97, 108, 115, 101]) else if k = 3 then t else if k = 4 then quoteL t else if k = 5 then 91 :: (plainL true li ++ [93]) else if k = 6 then 123 :: (plainM true m ++ [125]) else []) := Lib.hid (by rw [plainJ])
  have HL := Lib.hid hl
  clear h hb hl
  by_cases h1 : k = 1
  · subst h1
    have HE : Hid (plainJ (.mk 1 y t li m) = [110, 117, 108, 108]) := Lib.hid (by rw [HPJ.out]; rfl)
    rw [HE.out] at HL
    clear h5 h6 HPJ
    go_enter Tryz.func67, Tryz.ntmps67
    go_wp2_with fail
    refine (WriteString_z b l [110, 117, 108, 108] _ (HBw.out _) (by have := HL.out; simp only [List.length_cons, List.length_nil] at *; omega)).mono ?_
    rintro e w2 ⟨rfl, hb2, hf2⟩
    have HB2 := Lib.hid hb2
    have HF2 := Lib.hid ((HFw.out _).trans hf2)
    clear hb2 hf2
    go_wp2_with fail
    go_end0
    exact ⟨rfl, by rw [HE.out]; exact HB2.out, HF2.out⟩
  by_cases h2 : k = 2
  · subst h2
    cases y with
    | true =>
      have HE : Hid (plainJ (.mk 2 true t li m) = [116, 114, 117, 101]) := Lib.hid (by rw [HPJ.out]; rfl)
      rw [HE.out] at HL
      clear h5 h6 HPJ
      go_enter Tryz.func67, Tryz.ntmps67
      go_wp2_with fail
      refine (Tryz.strconv_FormatBool true _).mono ?_
      rintro e w1 ⟨rfl, rfl⟩
      go_wp2_with fail
      refine (WriteString_z b l [116, 114, 117, 101] _ (HBw.out _) (by have := HL.out; simp only [List.length_cons, List.length_nil] at *; omega)).mono ?_
      rintro e w2 ⟨rfl, hb2, hf2⟩
      have HB2 := Lib.hid hb2
      have HF2 := Lib.hid ((HFw.out _).trans hf2)
      clear hb2 hf2
      go_wp2_with fail
      go_end0
      exact ⟨rfl, by rw [HE.out]; exact HB2.out, HF2.out⟩
    | false =>
      have HE : Hid (plainJ (.mk 2 false t li m) = [102, 97, 108, 115, 101]) := Lib.hid (by rw [HPJ.out]; rfl)
      rw [HE.out] at HL
      clear h5 h6 HPJ
      go_enter Tryz.func67, Tryz.ntmps67
      go_wp2_with fail
      refine (Tryz.strconv_FormatBool false _).mono ?_
      rintro e w1 ⟨rfl, rfl⟩
      go_wp2_with fail
      refine (WriteString_z b l [102, 97, 108, 115, 101] _ (HBw.out _) (by have := HL.out; simp only [List.length_cons, List.length_nil] at *; omega)).mono ?_
      rintro e w2 ⟨rfl, hb2, hf2⟩
      have HB2 := Lib.hid hb2
      have HF2 := Lib.hid ((HFw.out _).trans hf2)
      clear hb2 hf2
      go_wp2_with fail
      go_end0
      exact ⟨rfl, by rw [HE.out]; exact HB2.out, HF2.out⟩
  by_cases h3 : k = 3
  · subst h3
    have HE : Hid (plainJ (.mk 3 y t li m) = t) := Lib.hid (by rw [HPJ.out]; rfl)
    rw [HE.out] at HL
    clear h5 h6 HPJ
    go_enter Tryz.func67, Tryz.ntmps67
    go_wp2_with fail
    refine (WriteString_z b l t _ (HBw.out _) (by have := HL.out; omega)).mono ?_
    rintro e w2 ⟨rfl, hb2, hf2⟩
    have HB2 := Lib.hid hb2
    have HF2 := Lib.hid ((HFw.out _).trans hf2)
    clear hb2 hf2
    go_wp2_with fail
    go_end0
    exact ⟨rfl, by rw [HE.out]; exact HB2.out, HF2.out⟩
  by_cases h4 : k = 4
  · subst h4
    have HE : Hid (plainJ (.mk 4 y t li m) = quoteL t) := Lib.hid (by rw [HPJ.out]; rfl)
    rw [HE.out] at HL
    clear h5 h6 HPJ
    go_enter Tryz.func67, Tryz.ntmps67
    go_wp2_with fail
    refine (jquote_any b l t _ (HBw.out _) (by have := HL.out; have := quote_len t; unfold quoteL at *; simp only [List.length_cons, List.length_append] at *; omega) (by have := HL.out; omega)).mono ?_
    rintro e w2 ⟨rfl, hb2, hf2⟩
    have HB2 := Lib.hid hb2
    have HF2 := Lib.hid ((HFw.out _).trans hf2)
    clear hb2 hf2
    go_wp2_with fail
    go_end0
    exact ⟨rfl, by rw [HE.out]; exact HB2.out, HF2.out⟩
  have HE : Hid (plainJ (.mk k y t li m) = []) := Lib.hid (by rw [HPJ.out, if_neg h1, if_neg h2, if_neg h3, if_neg h4, if_neg h5, if_neg h6])
  have q1 : (k == 1) = false := by simp [h1]
  have q2 : (k == 2) = false := by simp [h2]
  have q3 : (k == 3) = false := by simp [h3]
  have q4 : (k == 4) = false := by simp [h4]
  have q5 : (k == 5) = false := by simp [h5]
  have q6 : (k == 6) = false := by simp [h6]
  clear h1 h2 h3 h4 h5 h6 HPJ
  go_enter Tryz.func67, Tryz.ntmps67
  go_wp2_with fail
  go_end0
  exact ⟨rfl, by rw [HE.out, List.append_nil]; exact HBw.out _, HFw.out _⟩
end Go.Proofs.YtfcokdkbjajohaaGreatDoor
/- json: write, of an array. -/
set_option linter.unusedVariables false
namespace Go.Proofs.YtfcokdkbjajohaaGreatDoor
open Go.RowKit

theorem plainL_pre : ∀ (a b : List JV) (f : Bool), (plainL f a).length ≤ (plainL f (a ++ b)).length
  | [], b, f => by simp [plainL]
  | x :: a, b, f => by
    have := plainL_pre a b false
    simp only [List.cons_append, plainL, List.length_append]
    omega
theorem plainL_take_le (l : List JV) (j : Nat) (f : Bool) : (plainL f (l.take j)).length ≤ (plainL f l).length := by
  have := plainL_pre (l.take j) (l.drop j) f
  rwa [List.take_append_drop] at this
theorem plainL_false : ∀ (l : List JV), l.length ≤ (plainL false l).length
  | [] => by simp
  | x :: l => by
    have := plainL_false l
    simp only [plainL, List.length_append, List.length_cons, Bool.false_eq_true, if_false]
    omega
theorem plainL_true (l : List JV) : l.length ≤ (plainL true l).length + 1 := by
  cases l with
  | nil => simp
  | cons x l =>
    have := plainL_false l
    simp only [plainL, List.length_append, List.length_cons, if_true]
    omega
theorem list_cells {ok : Nat → Prop} {w : World} {a : Option Addr} {l : List JV} {cl : List (List Value)} (h3 : RdO ok w a cl.flatten) (h4 : Reps ok w cl l) (j : Nat) (hj : j < l.length) :
    ∃ b off k2 y2 t2 a2 l2 c2 a3 l3 c3, a = some ⟨b, off, none⟩ ∧ Rep ok w [.int .i64 k2, .bool y2, .string ⟨t2⟩, .slice a2 l2 c2, .slice a3 l3 c3] l[j] ∧ w.cell? ⟨b, off + j * 5, none⟩ = some (.int .i64 k2) ∧ w.cell? ⟨b, off + j * 5 + 1, none⟩ = some (.bool y2) ∧ w.cell? ⟨b, off + j * 5 + 2, none⟩ = some (.string ⟨t2⟩) ∧ w.cell? ⟨b, off + j * 5 + 3, none⟩ = some (.slice a2 l2 c2) ∧ w.cell? ⟨b, off + j * 5 + 4, none⟩ = some (.slice a3 l3 c3) := by
  have hjc : j < cl.length := by rw [h4.1]; exact hj
  have hr := h4.2 j hjc hj
  have hg := fun i hi => flat5_get h4 j hjc i hi
  obtain ⟨a2, c2, a3, c3, _, _, hcs, _⟩ := hr.parts
  rw [hcs] at hr hg
  unfold strV at hr hg
  rcases h3 with h | ⟨b, off, e, _, hc⟩
  · have := flat5_len h4
    rw [h] at this
    simp only [List.length_nil] at this
    omega
  · exact ⟨b, off, _, _, _, _, _, _, _, _, _, e, hr, hc _ _ (hg 0 (by decide)), hc _ _ (hg 1 (by decide)), hc _ _ (hg 2 (by decide)), hc _ _ (hg 3 (by decide)), hc _ _ (hg 4 (by decide))⟩
set_option maxRecDepth 100000 in
set_option maxHeartbeats 32000000 in
theorem jwrite_arr (b : Nat) (y : Bool) (t : List UInt8) (li : List JV) (m : List (List UInt8 × JV)) (ih : ∀ x ∈ li, WriteC b x) : WriteC b (.mk 5 y t li m) := by
  intro cs l w h hb hl
  obtain ⟨a, c, a', c', cl, cm, rfl, h1, h2, -⟩ := h.parts
  simp only [JV.kind, JV.yes, JV.text, JV.list, JV.mem, strV] at *
  have HBw := Lib.hid (show ∀ ob, BldZ b l (w.alloc ob) from fun ob => hb.below ((Below.refl _ _).alloc (Nat.le_refl _) _))
  have HFw : Hid (∀ ob, FrZ b w (w.alloc ob)) := Lib.hid fun ob => FrZ.of_below ((Below.refl _ _).alloc (Nat.le_refl _) _) (Nat.le_of_lt hb.lt)
  have HPJ : Hid (plainJ (.mk 5 y t li m) = 91 :: (plainL true li ++ [93])) := Lib.hid (by rw [plainJ]; rfl)
  have hbw := hb.lt
  have HL : Hid (l.length + (plainL true li).length + 2 ≤ 100000) := Lib.hid (by
    rw [HPJ.out] at hl
    simp only [List.length_cons, List.length_append, List.length_nil] at hl
    omega)
  have HLE := Lib.hid (fun j => plainL_take_le li j true)
  have HLI : Hid (li.length ≤ 100000) := Lib.hid (by have := plainL_true li; have := HL.out; omega)
  have H1 := Lib.hid h1
  have H2 := Lib.hid h2
  have HIH := Lib.hid ih
  clear h hb hl h1 h2 ih
  go_enter Tryz.func67, Tryz.ntmps67
  go_upto_region 11 with (fail)
  have hx0 := heap_alloc_new w (.cells #[.int .i64 5, .bool y, .string ⟨t.toArray⟩, .slice a li.length c, .slice a' m.length c'] 26)
  have HB0 := Lib.hid (HBw.out (.cells #[.int .i64 5, .bool y, .string ⟨t.toArray⟩, .slice a li.length c, .slice a' m.length c'] 26))
  have HF0 := Lib.hid (HFw.out (.cells #[.int .i64 5, .bool y, .string ⟨t.toArray⟩, .slice a li.length c, .slice a' m.length c'] 26))
  generalize w.alloc _ = w0 at *
  have HX0 := Lib.hid hx0
  clear hx0 HBw HFw
  go_wp2_with fail
  refine (WriteByte_z b l 91 91 rfl w0 HB0.out (by have := HL.out; omega)).mono ?_
  rintro e w1 ⟨rfl, hb1, hf1⟩
  have HB1 := Lib.hid hb1
  have HF1 := Lib.hid (HF0.out.trans hf1)
  have hx1 := hf1.block w.heap.size _ HX0.out (by omega) (fun c e => by simp at e)
  have k3 : w1.cell? ⟨w.heap.size, 3, none⟩ = some (.slice a li.length c) := by rw [Lib.cell_of_heap hx1]; rfl
  clear hb1 hf1 hx1
  have hli : li.length ≤ 100000 := HLI.out
  go_wp2_with fail
  go_loopg [40] li.length (fun k iv wr => ∃ j : Nat, iv = .int .i64 (j : Int) ∧ j + k = li.length ∧ Hid (BldZ b (l ++ 91 :: plainL true (li.take j)) wr) ∧ Hid (FrZ b w wr))
  case atStart => exact ⟨0, rfl, by omega, Lib.hid (by simpa [plainL] using HB1.out), HF1⟩
  case round =>
    obtain ⟨j, rfl, hj, HBW, HFW⟩ := hrel
    by_cases hlt : j < li.length
    · have hltI : (j : Int) < (li.length : Int) := by omega
      obtain ⟨br, off, k2, y2, t2, a2, l2, c2, a3, l3, c3, ea, hrep, i0, i1, i2, i3, i4⟩ := list_cells (RdO.keep H1.out fun k hk _ => HFW.out.low k hk) (H2.out.keep fun k hk _ => HFW.out.low k hk) j hlt
      subst ea
      have HREP := Lib.hid hrep
      have HT := Lib.hid (plainL_take li j hlt)
      have HI := Lib.hid (HIH.out li[j] (List.getElem_mem hlt))
      have HLJ : Hid ((plainL true (li.take j)).length + ((if j = 0 then ([] : List UInt8) else [44]).length + (plainJ li[j]).length) ≤ (plainL true li).length) := Lib.hid (by
        have := HLE.out (j + 1)
        rw [HT.out] at this
        simpa only [List.length_append] using this)
      clear hrep
      go_upto_region 15 with (fail)
      have hx4 := heap_alloc_new wr (.cells #[.int .i64 k2, .bool y2, .string ⟨t2⟩, .slice a2 l2 c2, .slice a3 l3 c3] 26)
      have hb4 : Below wr.heap.size wr (wr.alloc (.cells #[.int .i64 k2, .bool y2, .string ⟨t2⟩, .slice a2 l2 c2, .slice a3 l3 c3] 26)) := (Below.refl _ _).alloc (Nat.le_refl _) _
      generalize wr.alloc _ = w4 at *
      have HX4 := Lib.hid hx4
      have HB4 := Lib.hid (HBW.out.below hb4)
      have hbr := HBW.out.lt
      have HF4 := Lib.hid (HFW.out.trans (FrZ.of_below hb4 (Nat.le_of_lt hbr)))
      have HREP4 := Lib.hid (HREP.out.under hb4)
      clear hx4 hb4 i0 i1 i2 i3 i4
      go_wp2_with fail
      refine (jcomma_any b _ j w4 HB4.out (by have := HL.out; have := HLE.out j; simp only [List.length_append, List.length_cons]; omega)).mono ?_
      rintro e w5 ⟨rfl, hb5, hf5⟩
      have HB5 := Lib.hid hb5
      have HF5 := Lib.hid (HF4.out.trans hf5)
      have HX5 := Lib.hid (hf5.block wr.heap.size _ HX4.out (by omega) (fun c e => by simp at e))
      have HREP5 := Lib.hid (HREP4.out.keep fun k hk _ => hf5.low k hk)
      have v0 : w5.cell? ⟨wr.heap.size, 0, none⟩ = some (.int .i64 k2) := by rw [Lib.cell_of_heap HX5.out]; rfl
      have v1 : w5.cell? ⟨wr.heap.size, 1, none⟩ = some (.bool y2) := by rw [Lib.cell_of_heap HX5.out]; rfl
      have v2 : w5.cell? ⟨wr.heap.size, 2, none⟩ = some (.string ⟨t2⟩) := by rw [Lib.cell_of_heap HX5.out]; rfl
      have v3 : w5.cell? ⟨wr.heap.size, 3, none⟩ = some (.slice a2 l2 c2) := by rw [Lib.cell_of_heap HX5.out]; rfl
      have v4 : w5.cell? ⟨wr.heap.size, 4, none⟩ = some (.slice a3 l3 c3) := by rw [Lib.cell_of_heap HX5.out]; rfl
      clear hb5 hf5
      go_wp2_with fail
      refine (HI.out [.int .i64 k2, .bool y2, .string ⟨t2⟩, .slice a2 l2 c2, .slice a3 l3 c3] _ w5 HREP5.out HB5.out (by have := HL.out; have := HLJ.out; simp only [List.length_append, List.length_cons] at *; omega)).mono ?_
      rintro e w6 ⟨rfl, hb6, hf6⟩
      have HB6 : Hid (BldZ b (l ++ 91 :: plainL true (li.take (j + 1))) w6) := Lib.hid (by rw [HT.out]; simpa using hb6)
      have HF6 := Lib.hid (HF5.out.trans hf6)
      clear hb6 hf6
      go_wp2_with fail
      go_roundg (gk - 1)
      case measure => omega
      case rel => exact ⟨j + 1, by first | rfl | (congr 1), by omega, HB6, HF6⟩
    · have hge : ¬ (j : Int) < (li.length : Int) := by omega
      have HBE : Hid (BldZ b (l ++ 91 :: plainL true li) wr) := Lib.hid (by have := HBW.out; rwa [List.take_of_length_le (by omega)] at this)
      go_wp2_with fail
      refine (WriteByte_z b _ 93 93 rfl wr HBE.out (by have := HL.out; simp only [List.length_append, List.length_cons]; omega)).mono ?_
      rintro e w5 ⟨rfl, hb5, hf5⟩
      have HB5 : Hid (BldZ b (l ++ plainJ (.mk 5 y t li m)) w5) := Lib.hid (by rw [HPJ.out]; simpa using hb5)
      have HF5 := Lib.hid (HFW.out.trans hf5)
      clear hb5 hf5
      go_wp2_with fail
      go_end0
      exact ⟨rfl, HB5.out, HF5.out⟩
end Go.Proofs.YtfcokdkbjajohaaGreatDoor
/- json: write, of an object. -/
set_option linter.unusedVariables false
namespace Go.Proofs.YtfcokdkbjajohaaGreatDoor
open Go.RowKit

theorem plainM_pre : ∀ (a b : List (List UInt8 × JV)) (f : Bool), (plainM f a).length ≤ (plainM f (a ++ b)).length
  | [], b, f => by simp [plainM]
  | (n, x) :: a, b, f => by
    have := plainM_pre a b false
    simp only [List.cons_append, plainM, List.length_append, List.length_cons]
    omega
theorem plainM_take_le (l : List (List UInt8 × JV)) (j : Nat) (f : Bool) : (plainM f (l.take j)).length ≤ (plainM f l).length := by
  have := plainM_pre (l.take j) (l.drop j) f
  rwa [List.take_append_drop] at this
theorem plainM_true : ∀ (l : List (List UInt8 × JV)) (f : Bool), l.length ≤ (plainM f l).length
  | [], f => by simp
  | (n, x) :: l, f => by
    have := plainM_true l false
    simp only [plainM, List.length_append, List.length_cons]
    omega
set_option maxRecDepth 100000 in
set_option maxHeartbeats 32000000 in
theorem jwrite_obj (b : Nat) (y : Bool) (t : List UInt8) (li : List JV) (m : List (List UInt8 × JV)) (ih : ∀ x ∈ m, WriteC b x.2) : WriteC b (.mk 6 y t li m) := by
  intro cs l w h hb hl
  obtain ⟨a, c, a', c', cl, cm, rfl, -, -, h1, h2, -⟩ := h.parts
  simp only [JV.kind, JV.yes, JV.text, JV.list, JV.mem, strV] at *
  have HBw := Lib.hid (show ∀ ob, BldZ b l (w.alloc ob) from fun ob => hb.below ((Below.refl _ _).alloc (Nat.le_refl _) _))
  have HFw : Hid (∀ ob, FrZ b w (w.alloc ob)) := Lib.hid fun ob => FrZ.of_below ((Below.refl _ _).alloc (Nat.le_refl _) _) (Nat.le_of_lt hb.lt)
  have HPJ : Hid (plainJ (.mk 6 y t li m) = 123 :: (plainM true m ++ [125])) := Lib.hid (by rw [plainJ]; rfl)
  have hbw := hb.lt
  have HL : Hid (l.length + (plainM true m).length + 2 ≤ 100000) := Lib.hid (by
    rw [HPJ.out] at hl
    simp only [List.length_cons, List.length_append, List.length_nil] at hl
    omega)
  have HLE := Lib.hid (fun j => plainM_take_le m j true)
  have HLI : Hid (m.length ≤ 100000) := Lib.hid (by have := plainM_true m true; have := HL.out; omega)
  have H1 := Lib.hid h1
  have H2 := Lib.hid h2
  have HIH := Lib.hid ih
  clear h hb hl h1 h2 ih
  go_enter Tryz.func67, Tryz.ntmps67
  go_upto_region 20 with (fail)
  have hx0 := heap_alloc_new w (.cells #[.int .i64 6, .bool y, .string ⟨t.toArray⟩, .slice a li.length c, .slice a' m.length c'] 26)
  have HB0 := Lib.hid (HBw.out (.cells #[.int .i64 6, .bool y, .string ⟨t.toArray⟩, .slice a li.length c, .slice a' m.length c'] 26))
  have HF0 := Lib.hid (HFw.out (.cells #[.int .i64 6, .bool y, .string ⟨t.toArray⟩, .slice a li.length c, .slice a' m.length c'] 26))
  generalize w.alloc _ = w0 at *
  have HX0 := Lib.hid hx0
  clear hx0 HBw HFw
  go_wp2_with fail
  refine (WriteByte_z b l 123 123 rfl w0 HB0.out (by have := HL.out; omega)).mono ?_
  rintro e w1 ⟨rfl, hb1, hf1⟩
  have HB1 := Lib.hid hb1
  have HF1 := Lib.hid (HF0.out.trans hf1)
  have hx1 := hf1.block w.heap.size _ HX0.out (by omega) (fun c e => by simp at e)
  have k3 : w1.cell? ⟨w.heap.size, 4, none⟩ = some (.slice a' m.length c') := by rw [Lib.cell_of_heap hx1]; rfl
  clear hb1 hf1 hx1
  have hli : m.length ≤ 100000 := HLI.out
  go_wp2_with fail
  go_loopg [61] m.length (fun k iv wr => ∃ j : Nat, iv = .int .i64 (j : Int) ∧ j + k = m.length ∧ Hid (BldZ b (l ++ 123 :: plainM true (m.take j)) wr) ∧ Hid (FrZ b w wr))
  case atStart => exact ⟨0, rfl, by omega, Lib.hid (by simpa [plainM] using HB1.out), HF1⟩
  case round =>
    obtain ⟨j, rfl, hj, HBW, HFW⟩ := hrel
    by_cases hlt : j < m.length
    · have hltI : (j : Int) < (m.length : Int) := by omega
      obtain ⟨br, off, k2, y2, t2, a2, l2, c2, a3, l3, c3, ea, hrep, i0, i1, i2, i3, i4, i5⟩ := mem_cells' (RdO.keep H1.out fun k hk _ => HFW.out.low k hk) (H2.out.keep fun k hk _ => HFW.out.low k hk) j hlt
      subst ea
      have HREP := Lib.hid hrep
      obtain ⟨nm, hnm⟩ : ∃ x, m[j].1 = x := ⟨_, rfl⟩
      have HT : Hid (plainM true (m.take (j + 1)) = plainM true (m.take j) ++ ((if j = 0 then [] else [44]) ++ (quoteL nm ++ (58 :: plainJ m[j].2)))) := Lib.hid (by rw [plainM_take m j hlt, hnm])
      rw [hnm] at i0
      clear hnm
      have HI := Lib.hid (HIH.out m[j] (List.getElem_mem hlt))
      have HLJ : Hid ((plainM true (m.take j)).length + ((if j = 0 then ([] : List UInt8) else [44]).length + ((quoteL nm).length + ((plainJ m[j].2).length + 1))) ≤ (plainM true m).length) := Lib.hid (by
        have := HLE.out (j + 1)
        rw [HT.out] at this
        simpa only [List.length_append, List.length_cons] using this)
      clear hrep
      go_upto_region 24 with (fail)
      have hx4 := heap_alloc_new wr (.cells #[.string ⟨nm.toArray⟩, .int .i64 k2, .bool y2, .string ⟨t2⟩, .slice a2 l2 c2, .slice a3 l3 c3] 35)
      have hb4 : Below wr.heap.size wr (wr.alloc (.cells #[.string ⟨nm.toArray⟩, .int .i64 k2, .bool y2, .string ⟨t2⟩, .slice a2 l2 c2, .slice a3 l3 c3] 35)) := (Below.refl _ _).alloc (Nat.le_refl _) _
      generalize wr.alloc _ = w4 at *
      have HX4 := Lib.hid hx4
      have HB4 := Lib.hid (HBW.out.below hb4)
      have hbr := HBW.out.lt
      have HF4 := Lib.hid (HFW.out.trans (FrZ.of_below hb4 (Nat.le_of_lt hbr)))
      have HREP4 := Lib.hid (HREP.out.under hb4)
      clear hx4 hb4 i0 i1 i2 i3 i4 i5
      go_wp2_with fail
      refine (jcomma_any b _ j w4 HB4.out (by have := HL.out; have := HLE.out j; simp only [List.length_append, List.length_cons]; omega)).mono ?_
      rintro e w5 ⟨rfl, hb5, hf5⟩
      have HB5 := Lib.hid hb5
      have HF5 := Lib.hid (HF4.out.trans hf5)
      have HX5 := Lib.hid (hf5.block wr.heap.size _ HX4.out (by omega) (fun c e => by simp at e))
      have HREP5 := Lib.hid (HREP4.out.keep fun k hk _ => hf5.low k hk)
      have n0 : w5.cell? ⟨wr.heap.size, 0, none⟩ = some (.string ⟨nm.toArray⟩) := by rw [Lib.cell_of_heap HX5.out]; rfl
      clear hb5 hf5
      go_wp2_with fail
      refine (jquote_any b _ nm w5 HB5.out (by have := HL.out; have := HLJ.out; have := quote_len nm; unfold quoteL at *; simp only [List.length_append, List.length_cons, List.length_nil] at *; omega) (by have := HL.out; have := HLJ.out; simp only [List.length_append, List.length_cons] at *; omega)).mono ?_
      rintro e w7 ⟨rfl, hb7, hf7⟩
      have HB7 := Lib.hid hb7
      have HF7 := Lib.hid (HF5.out.trans hf7)
      have HX7 := Lib.hid (hf7.block wr.heap.size _ HX5.out (by omega) (fun c e => by simp at e))
      have HREP7 := Lib.hid (HREP5.out.keep fun k hk _ => hf7.low k hk)
      clear hb7 hf7 n0
      go_wp2_with fail
      refine (WriteByte_z b _ 58 58 rfl w7 HB7.out (by have := HL.out; have := HLJ.out; simp only [List.length_append, List.length_cons] at *; omega)).mono ?_
      rintro e w8 ⟨rfl, hb8, hf8⟩
      have HB8 := Lib.hid hb8
      have HF8 := Lib.hid (HF7.out.trans hf8)
      have HX8 := Lib.hid (hf8.block wr.heap.size _ HX7.out (by omega) (fun c e => by simp at e))
      have HREP8 := Lib.hid (HREP7.out.keep fun k hk _ => hf8.low k hk)
      have v0 : w8.cell? ⟨wr.heap.size, 0, none⟩ = some (.string ⟨nm.toArray⟩) := by rw [Lib.cell_of_heap HX8.out]; rfl
      have v1 : w8.cell? ⟨wr.heap.size, 1, none⟩ = some (.int .i64 k2) := by rw [Lib.cell_of_heap HX8.out]; rfl
      have v2 : w8.cell? ⟨wr.heap.size, 2, none⟩ = some (.bool y2) := by rw [Lib.cell_of_heap HX8.out]; rfl
      have v3 : w8.cell? ⟨wr.heap.size, 3, none⟩ = some (.string ⟨t2⟩) := by rw [Lib.cell_of_heap HX8.out]; rfl
      have v4 : w8.cell? ⟨wr.heap.size, 4, none⟩ = some (.slice a2 l2 c2) := by rw [Lib.cell_of_heap HX8.out]; rfl
      have v5 : w8.cell? ⟨wr.heap.size, 5, none⟩ = some (.slice a3 l3 c3) := by rw [Lib.cell_of_heap HX8.out]; rfl
      clear hb8 hf8
      go_wp2_with fail
      refine (HI.out [.int .i64 k2, .bool y2, .string ⟨t2⟩, .slice a2 l2 c2, .slice a3 l3 c3] _ w8 HREP8.out HB8.out (by have := HL.out; have := HLJ.out; simp only [List.length_append, List.length_cons, List.length_nil] at *; omega)).mono ?_
      rintro e w6 ⟨rfl, hb6, hf6⟩
      have HB6 : Hid (BldZ b (l ++ 123 :: plainM true (m.take (j + 1))) w6) := Lib.hid (by rw [HT.out]; simpa using hb6)
      have HF6 := Lib.hid (HF8.out.trans hf6)
      clear hb6 hf6
      go_wp2_with fail
      go_roundg (gk - 1)
      case measure => omega
      case rel => exact ⟨j + 1, by first | rfl | (congr 1), by omega, HB6, HF6⟩
    · have hge : ¬ (j : Int) < (m.length : Int) := by omega
      have HBE : Hid (BldZ b (l ++ 123 :: plainM true m) wr) := Lib.hid (by have := HBW.out; rwa [List.take_of_length_le (by omega)] at this)
      go_wp2_with fail
      refine (WriteByte_z b _ 125 125 rfl wr HBE.out (by have := HL.out; simp only [List.length_append, List.length_cons]; omega)).mono ?_
      rintro e w5 ⟨rfl, hb5, hf5⟩
      have HB5 : Hid (BldZ b (l ++ plainJ (.mk 6 y t li m)) w5) := Lib.hid (by rw [HPJ.out]; simpa using hb5)
      have HF5 := Lib.hid (HFW.out.trans hf5)
      clear hb5 hf5
      go_wp2_with fail
      go_end0
      exact ⟨rfl, HB5.out, HF5.out⟩
end Go.Proofs.YtfcokdkbjajohaaGreatDoor
/- json: Right, of rows. -/
set_option linter.unusedVariables false
namespace Go.Proofs.YtfcokdkbjajohaaGreatDoor
open Go.RowKit

/-- What Right says of a value. -/
def RightC (v : JV) : Prop := ∀ (ok : Nat → Prop) cs w, Rep ok w cs v → Calls Tryz.prog 12 #[.agg cs.toArray] w fun e w' => e = .returned (.bool (rightJ v)) ∧ Below w.heap.size w w'
set_option maxRecDepth 100000 in
set_option maxHeartbeats 8000000 in
theorem jright1_any (v : JV) (hv : RightC v) (ok : Nat → Prop) (cs : List Value) (w : World) (h : Rep ok w cs v) :
    Calls Tryz.prog 62 #[.agg cs.toArray] w fun e w' => e = .returned (.bool (!rightJ v)) ∧ Below w.heap.size w w' := by
  obtain ⟨a, c, a', c', cl, cm, rfl, -⟩ := h.parts
  unfold strV at *
  have hb : ∀ ob, Below w.heap.size w (w.alloc ob) := fun ob => (Below.refl _ _).alloc (Nat.le_refl _) _
  have HB := Lib.hid hb
  have HC : Hid (∀ ob, Calls Tryz.prog 12 #[.agg #[.int .i64 v.kind, .bool v.yes, .string ⟨v.text.toArray⟩, .slice a v.list.length c, .slice a' v.mem.length c']] (w.alloc ob) fun e w' => e = .returned (.bool (rightJ v)) ∧ Below (w.alloc ob).heap.size (w.alloc ob) w') := Lib.hid fun ob => hv ok _ _ (h.under (hb ob))
  clear h hb hv
  go_enter Tryz.func62, Tryz.ntmps62
  go_wp2_with fail
  refine (HC.out _).mono ?_
  rintro e w2 ⟨rfl, hb2⟩
  have HB2 := Lib.hid ((HB.out _).trans (hb2.mono (by simp)))
  clear hb2
  go_wp2_with fail
  refine bodyPost_ret (results_tmp rfl _ _ _) rfl ?_
  exact ⟨rfl, HB2.out⟩
theorem rightL_drop {l : List JV} {j : Nat} (h : j < l.length) : rightL (l.drop j) = (rightJ l[j] && rightL (l.drop (j + 1))) := by
  rw [List.drop_eq_getElem_cons h]
  rfl
set_option maxRecDepth 100000 in
set_option maxHeartbeats 8000000 in
theorem jindexf_any (l : List JV) (hv : ∀ x ∈ l, RightC x) (ok : Nat → Prop) (a : Option Addr) (c : Nat) (cl : List (List Value)) (w : World) (h1 : RdO ok w a cl.flatten) (h2 : Reps ok w cl l) (hl : l.length ≤ 10000000) :
    Calls Tryz.prog 109 #[.slice a l.length c, .func (.func 62) #[] #[]] w fun e w' => Below w.heap.size w w' ∧ ∃ i : Int, e = .returned (.int .i64 i) ∧ decide (0 ≤ i) = !rightL l := by
  have H1 := Lib.hid h1.lt
  have H2 := Lib.hid (show Reps (fun b => ok b ∧ b < w.heap.size) w cl l from h2.lt)
  have HV := Lib.hid hv
  clear h1 h2 hv
  go_enter Tryz.func109, Tryz.ntmps109
  go_wp2_with fail
  go_loopg [8] l.length (fun k iv wr => ∃ j : Nat, iv = .int .i64 (j : Int) ∧ j + k = l.length ∧ Hid (rightL l = rightL (l.drop j)) ∧ Hid (Below w.heap.size w wr))
  case atStart => exact ⟨0, rfl, by omega, Lib.hid rfl, Lib.hid (Below.refl _ _)⟩
  case round =>
    obtain ⟨j, rfl, hj, hd, HB⟩ := hrel
    by_cases hlt : j < l.length
    · have hltI : (j : Int) < (l.length : Int) := by omega
      obtain ⟨br, off, k2, y2, t2, a2, l2, c2, a3, l3, c3, ea, hrep, i0, i1, i2, i3, i4⟩ := list_cells (RdO.keep H1.out fun k hk _ => HB.out.block k hk.2) (H2.out.keep fun k hk _ => HB.out.block k hk.2) j hlt
      subst ea
      have HD := Lib.hid (rightL_drop hlt)
      have HC := Lib.hid (jright1_any l[j] (HV.out _ (List.getElem_mem hlt)) _ _ wr hrep)
      clear hrep
      obtain ⟨rb, hrb⟩ : ∃ x, rightJ l[j] = x := ⟨_, rfl⟩
      rw [hrb] at HC HD
      clear hrb
      cases rb with
      | true =>
        go_wp2_with fail
        refine HC.out.mono ?_
        rintro e w2 ⟨rfl, hb2⟩
        have HB2 := Lib.hid (HB.out.trans (hb2.mono HB.out.size))
        clear hb2
        go_wp2_with fail
        go_roundg (gk - 1)
        case measure => omega
        case rel => exact ⟨j + 1, by first | rfl | (congr 1), by omega, Lib.hid (by rw [hd.out, HD.out]; rfl), HB2⟩
      | false =>
        go_wp2_with fail
        refine HC.out.mono ?_
        rintro e w2 ⟨rfl, hb2⟩
        have HB2 := Lib.hid (HB.out.trans (hb2.mono HB.out.size))
        clear hb2
        go_wp2_with fail
        refine bodyPost_ret (results_tmp rfl _ _ _) rfl ?_
        exact ⟨HB2.out, (j : Int), rfl, by rw [hd.out, HD.out]; simp⟩
    · have hge : ¬ (j : Int) < (l.length : Int) := by omega
      have HE : Hid (rightL l = true) := Lib.hid (by rw [hd.out, List.drop_eq_nil_of_le (by omega)]; rfl)
      go_wp2_with fail
      refine bodyPost_ret (results_tmp rfl _ _ _) rfl ?_
      exact ⟨HB.out, -1, rfl, by rw [HE.out]; rfl⟩
set_option maxRecDepth 100000 in
set_option maxHeartbeats 8000000 in
theorem jcontains_any (l : List JV) (hv : ∀ x ∈ l, RightC x) (ok : Nat → Prop) (a : Option Addr) (c : Nat) (cl : List (List Value)) (w : World) (h1 : RdO ok w a cl.flatten) (h2 : Reps ok w cl l) (hl : l.length ≤ 10000000) :
    Calls Tryz.prog 61 #[.slice a l.length c, .func (.func 62) #[] #[]] w fun e w' => e = .returned (.bool (!rightL l)) ∧ Below w.heap.size w w' := by
  have HI := Lib.hid (jindexf_any l hv ok a c cl w h1 h2 hl)
  clear hv h1 h2
  go_enter Tryz.func61, Tryz.ntmps61
  go_wp2_with fail
  refine HI.out.mono ?_
  rintro e w2 ⟨hb2, i, rfl, hi⟩
  have HB2 := Lib.hid hb2
  have HIX := Lib.hid hi
  clear hb2 hi
  go_wp2_with fail
  refine bodyPost_ret (results_tmp rfl _ _ _) rfl ?_
  exact ⟨by rw [← HIX.out]; rfl, HB2.out⟩
end Go.Proofs.YtfcokdkbjajohaaGreatDoor
/- json: Right, of all but arrays and objects. -/
set_option linter.unusedVariables false
namespace Go.Proofs.YtfcokdkbjajohaaGreatDoor
open Go.RowKit

theorem right_eq (k : Int) (y : Bool) (t : List UInt8) (l : List JV) (m : List (List UInt8 × JV)) : rightJ (.mk k y t l m) = (bareB k y t l.length m.length && (k == 1 || k == 2 || (k == 3 && numericB t) || (k == 4 && toldB t) || (k == 5 && rightL l) || (k == 6 && rightM m))) := by
  rw [rightJ]
  unfold bareB
  cases l <;> cases m <;> rfl
set_option maxRecDepth 100000 in
set_option maxHeartbeats 16000000 in
theorem jright_leaf (k : Int) (y : Bool) (t : List UInt8) (l : List JV) (m : List (List UInt8 × JV)) (h5 : k ≠ 5) (h6 : k ≠ 6) (ht : t.length ≤ 140737488351232) (h3n : k = 3 → t.length ≤ 1000000) : RightC (.mk k y t l m) := by
  have H3N := Lib.hid h3n
  clear h3n
  intro ok cs w h
  obtain ⟨a, c, a', c', cl, cm, rfl, -⟩ := h.parts
  simp only [JV.kind, JV.yes, JV.text, JV.list, JV.mem, strV] at *
  have HW : Hid (∀ ob, Below w.heap.size w (w.alloc ob)) := Lib.hid fun ob => (Below.refl _ _).alloc (Nat.le_refl _) _
  have HRT := Lib.hid (right_eq k y t l m)
  have q5 : (k == 5) = false := by simp [h5]
  have q6 : (k == 6) = false := by simp [h6]
  have HB : Hid (∀ ob, Calls Tryz.prog 58 #[.agg #[.int .i64 k, .bool y, .string ⟨t.toArray⟩, .slice a l.length c, .slice a' m.length c']] (w.alloc ob) fun e w' => e = .returned (.bool (bareB k y t l.length m.length)) ∧ Below (w.alloc ob).heap.size (w.alloc ob) w') := Lib.hid fun ob => jbare_any k y t a a' l.length m.length c c' (w.alloc ob)
  have HG : Hid (∀ ob, (w.alloc ob).heap[w.heap.size]? = some ob) := Lib.hid fun ob => heap_alloc_new w ob
  have HZ : Hid (∀ ob, (w.alloc ob).heap.size = w.heap.size + 1) := Lib.hid fun ob => by simp
  clear h h5 h6
  go_enter Tryz.func12, Tryz.ntmps12
  go_wp2_with fail
  refine (HB.out _).mono ?_
  rintro e w2 ⟨rfl, hb2⟩
  have HB2 := Lib.hid ((HW.out _).trans (hb2.mono (by simp)))
  have hx2 := (hb2.block w.heap.size (by simp)).trans (HG.out _)
  have c0 : w2.cell? ⟨w.heap.size, 0, none⟩ = some (.int .i64 k) := by rw [Lib.cell_of_heap hx2]; rfl
  have c2 : w2.cell? ⟨w.heap.size, 2, none⟩ = some (.string ⟨t.toArray⟩) := by rw [Lib.cell_of_heap hx2]; rfl
  clear hb2 hx2 HB HG HZ
  cases hbb : bareB k y t l.length m.length with
  | false =>
    rw [hbb] at HRT
    clear hbb
    go_wp2_with fail
    refine bodyPost_ret (results_tmp rfl _ _ _) rfl ?_
    exact ⟨by rw [HRT.out]; rfl, HB2.out⟩
  | true =>
    rw [hbb] at HRT
    clear hbb
    by_cases h3 : k = 3
    · subst h3
      have H3 := Lib.hid (H3N.out rfl)
      clear H3N
      have HE : Hid (rightJ (.mk 3 y t l m) = numericB t) := Lib.hid (by rw [HRT.out]; cases numericB t <;> rfl)
      clear HRT
      go_wp2_with fail
      refine (jnumeric_any t w2 H3.out).mono ?_
      rintro e w3 ⟨rfl, hb3⟩
      have HB3 := Lib.hid (HB2.out.trans (hb3.mono HB2.out.size))
      clear hb3
      go_wp2_with fail
      refine bodyPost_ret (results_tmp rfl _ _ _) rfl ?_
      exact ⟨by rw [HE.out]; rfl, HB3.out⟩
    by_cases h4 : k = 4
    · subst h4
      have HE : Hid (rightJ (.mk 4 y t l m) = toldB t) := Lib.hid (by rw [HRT.out]; cases toldB t <;> rfl)
      clear HRT
      go_wp2_with fail
      refine (told_any t w2 ht).mono ?_
      rintro e w3 ⟨rfl, hb3⟩
      have HB3 := Lib.hid (HB2.out.trans (hb3.mono HB2.out.size))
      clear hb3
      go_wp2_with fail
      refine bodyPost_ret (results_tmp rfl _ _ _) rfl ?_
      exact ⟨by rw [HE.out]; rfl, HB3.out⟩
    have q3 : (k == 3) = false := by simp [h3]
    have q4 : (k == 4) = false := by simp [h4]
    clear h3 h4
    rw [q3, q4, q5, q6] at HRT
    by_cases h1 : k = 1
    · subst h1
      have HE : Hid (rightJ (.mk 1 y t l m) = true) := Lib.hid (by rw [HRT.out]; rfl)
      clear HRT
      go_wp2_with fail
      refine bodyPost_ret (results_tmp rfl _ _ _) rfl ?_
      exact ⟨by rw [HE.out]; rfl, HB2.out⟩
    by_cases h2 : k = 2
    · subst h2
      have HE : Hid (rightJ (.mk 2 y t l m) = true) := Lib.hid (by rw [HRT.out]; rfl)
      clear HRT
      go_wp2_with fail
      refine bodyPost_ret (results_tmp rfl _ _ _) rfl ?_
      exact ⟨by rw [HE.out]; rfl, HB2.out⟩
    have q1 : (k == 1) = false := by simp [h1]
    have q2 : (k == 2) = false := by simp [h2]
    have HE : Hid (rightJ (.mk k y t l m) = false) := Lib.hid (by rw [HRT.out, q1, q2]; rfl)
    clear h1 h2 HRT
    go_wp2_with fail
    refine bodyPost_ret (results_tmp rfl _ _ _) rfl ?_
    exact ⟨by rw [HE.out]; rfl, HB2.out⟩
end Go.Proofs.YtfcokdkbjajohaaGreatDoor
/- json: names unlike are as many, sorted and without runs. Plain. -/
set_option linter.unusedVariables false
namespace Go.Proofs.YtfcokdkbjajohaaGreatDoor

theorem getM_none (n : List UInt8) : ∀ m : List (List UInt8 × JV), (getM n m).isNone = decide (n ∉ m.map Prod.fst)
  | [] => by simp [getM]
  | p :: m => by
    have ih := getM_none n m
    rw [getM]
    by_cases h : p.1 = n
    · simp [h]
    · have h' : ¬ n = p.1 := fun e => h e.symm
      simp only [h, if_false, ih, List.map_cons, List.mem_cons, h', false_or]
theorem rightM_eq : ∀ m : List (List UInt8 × JV), rightM m = (m.all (fun p => toldB p.1 && rightJ p.2) && decide (m.map Prod.fst).Nodup)
  | [] => rfl
  | (n, v) :: m => by
    have ih := rightM_eq m
    rw [rightM, ih, getM_none]
    simp only [List.all_cons, List.map_cons, List.nodup_cons]
    cases toldB n <;> cases rightJ v <;> cases (m.all fun p => toldB p.1 && rightJ p.2) <;> simp
def leL (x y : List UInt8) : Bool := decide (x ≤ y)
theorem leL_trans (a b c : List UInt8) (h1 : leL a b = true) (h2 : leL b c = true) : leL a c = true := by
  unfold leL at *
  simp only [decide_eq_true_eq] at *
  exact List.le_trans h1 h2
theorem leL_total (a b : List UInt8) : (leL a b || leL b a) = true := by
  unfold leL
  simp only [Bool.or_eq_true, decide_eq_true_eq]
  exact List.le_total a b
theorem keeps_lt {zs : List (List UInt8)} (h : (Lib.compact zs).length = zs.length) (j : Nat) (hj : j < zs.length) : Lib.keeps zs.toArray j = true := by
  unfold Lib.compact Lib.compactUpTo at h
  rw [List.length_map] at h
  have h2 : ((List.range zs.length).filter (Lib.keeps zs.toArray)).length = (List.range zs.length).length := by rw [h]; simp
  have h3 := List.length_filter_eq_length_iff.1 h2
  exact h3 j (List.mem_range.2 hj)
theorem compact_nodup (l : List (List UInt8)) : decide ((Lib.compact (l.mergeSort leL)).length = l.length) = decide l.Nodup := by
  have hp := List.mergeSort_perm l leL
  have hl : (l.mergeSort leL).length = l.length := hp.length_eq
  have hs := List.pairwise_mergeSort leL_trans leL_total l
  have hn : (l.mergeSort leL).Nodup ↔ l.Nodup := hp.nodup_iff
  rw [← hl]
  rw [decide_eq_decide, ← hn]
  generalize l.mergeSort leL = s at *
  constructor
  · intro h
    have hk := keeps_lt h
    unfold List.Nodup
    rw [List.pairwise_iff_getElem] at hs ⊢
    intro i j hi hj hij
    have h1 := hk (i + 1) (by omega)
    have h2 : s[i + 1]'(by omega) ≠ s[i] := by
      unfold Lib.keeps at h1
      intro e
      have e1 : s.toArray[i + 1]! = s[i + 1]'(by omega) := by rw [getElem!_pos _ _ (by simp; omega)]; simp
      have e2 : s.toArray[i + 1 - 1]! = s[i] := by
        rw [show i + 1 - 1 = i by omega, getElem!_pos _ _ (by simpa using hi)]; simp
      rw [e1, e2] at h1
      simp [e] at h1
    have h3 := hs i (i + 1) hi (by omega) (by omega)
    intro e
    by_cases h5 : j = i + 1
    · subst h5
      exact h2 e.symm
    · have h4 := hs (i + 1) j (by omega) hj (by omega)
      unfold leL at h3 h4
      simp only [decide_eq_true_eq] at h3 h4
      rw [← e] at h4
      exact h2 (List.le_antisymm h4 h3)
  · intro h
    rw [Lib.compact_all]
    intro j hj
    by_cases h0 : j = 0
    · subst h0
      simp [Lib.keeps]
    · apply Lib.keeps_pos
      rw [getElem!_pos _ _ (by simpa using hj), getElem!_pos _ _ (by simp; omega)]
      simp only [List.getElem_toArray]
      intro e
      unfold List.Nodup at h
      rw [List.pairwise_iff_getElem] at h
      exact h (j - 1) j (by omega) hj (by omega) e.symm
end Go.Proofs.YtfcokdkbjajohaaGreatDoor
/- json: names sorted, and their runs cut. -/
set_option linter.unusedVariables false
namespace Go.Proofs.YtfcokdkbjajohaaGreatDoor
open Go.RowKit

/-- Compact of a row that is sorted: how much is left. -/
def CutC (B : Nat) (lv : Value) (ns : List (List UInt8)) (w1 : World) : Prop := ∀ w2 : World, w2.heap = w1.heap → Calls Tryz.prog 111 #[lv] w2 fun e w3 => (∃ a c, e = .returned (.slice a (Lib.compact (ns.mergeSort leL)).length c)) ∧ Below B w2 w3
theorem holds_heap {w w' : World} {g : Nat} {d : Array (List UInt8)} (h : Sort.Holds encStr w g 0 d) (e : w'.heap = w.heap) : Sort.Holds encStr w' g 0 d := by
  intro j hj
  have := h j hj
  unfold World.cell? World.frozen? at *
  rw [e]
  exact this
theorem below_grownBy {B g : Nat} {w w' : World} (h : w.grownBy w' (some g)) (hg : B ≤ g) (hB : B ≤ w.heap.size) : Below B w w' :=
  ⟨h.os, h.tape, h.output, h.size, fun k hk => h.block k (by omega) (by simp; omega)⟩
theorem sort_cut (B : Nat) (lv : Value) (ns : List (List UInt8)) (w : World) (h : w.ownsRow B 9 1 lv ns.length (ns.map encStr)) (hB : B ≤ w.heap.size) (hl : ns.length ≤ 100000000) :
    Calls Tryz.prog 110 #[lv] w fun e w1 => e = .returned (.tuple #[]) ∧ Below B w w1 ∧ CutC B lv ns w1 := by
  rcases h.2 with ⟨rfl, hn⟩ | ⟨g, cap, cur, rfl, hbase, hb, h1, h2, h3, h4⟩
  · have : ns = [] := List.eq_nil_of_length_eq_zero hn
    subst this
    refine (Any.slices_Sort_string_none Tryz.lays190 none 0 w).mono ?_
    rintro e w1 ⟨rfl, rfl⟩
    refine ⟨rfl, Below.refl _ _, ?_⟩
    intro w2 hw2
    refine (Tryz.slices_Compact_string_empty none 0 w2).mono ?_
    rintro e w3 ⟨rfl, rfl⟩
    have e0 : (Lib.compact (([] : List (List UInt8)).mergeSort leL)).length = 0 := by rw [List.mergeSort_nil]; rfl
    rw [e0]
    exact ⟨⟨_, _, rfl⟩, Below.refl _ _⟩
  · have hlt := (Array.getElem?_eq_some_iff.1 hb).1
    refine (Tryz.slices_Sort_string g 0 cap ns w (holds_of_block hb (by simpa using h4)) hlt (by omega)).mono ?_
    rintro e w1 ⟨rfl, n, os, rfl⟩
    have hperm := List.mergeSort_perm ns leL
    have hlen : (ns.mergeSort leL).length = ns.length := hperm.length_eq
    have hown := ownsRow_sorted (n := n) (os := os) (ts := ns.mergeSort leL) hlen hbase hb h1 h2 h3
    refine ⟨rfl, below_grownBy (grownBy_sorted _) hbase hB, ?_⟩
    intro w2 hw2
    obtain ⟨_, ⟨h0, _⟩ | ⟨g', cap', cur', h0, hbase', hb', h1', h2', h3', h4'⟩⟩ := hown
    · cases h0
    simp only [Value.slice.injEq, Option.some.injEq, Addr.mk.injEq, and_true, true_and] at h0
    obtain ⟨rfl, rfl⟩ := h0
    have hH := holds_heap (w' := w2) (holds_of_block (ss := ns.mergeSort leL) hb' (by rw [hlen]; simpa using h4')) hw2
    have hC := Tryz.slices_Compact_string g 0 cap (ns.mergeSort leL) w2 hH (by omega) (by omega)
    rw [hlen] at hC
    refine hC.mono ?_
    rintro e w3 ⟨rfl, q, rfl⟩
    have hsz : B ≤ w2.heap.size := by rw [hw2]; simp; omega
    have hgb := grownBy_sorted (w := w2) (g := g) (n := q) (os := #[]) (Lib.compact (ns.mergeSort leL) ++ List.replicate (ns.length - (Lib.compact (ns.mergeSort leL)).length) []).toArray
    rw [Sort.grow_empty] at hgb
    exact ⟨⟨_, _, rfl⟩, below_grownBy hgb hbase hsz⟩
end Go.Proofs.YtfcokdkbjajohaaGreatDoor
/- A statement whose order is open: each operation lays a value; what holds of the memory is said by what has been done. -/
set_option linter.unusedVariables false
namespace Go.Proofs.YtfcokdkbjajohaaGreatDoor
open Go.RowKit

theorem wp_region_val {P : Program} {id : Nat} {l : List Oper} {Q : Exit → Act → World → Prop} {a : Act} {w : World} (hm : P.follows .mixedOrders = true)
    (hac : ((List.range l.length).all fun i => ((l[i]?).map fun o => o.after.all fun e => !Region.binds .any e || decide (e.on < i)).getD true) = true)
    (ds : List Nat) (hds : (l.map (·.dst)) = ds.map some) (hnd : ds.Nodup) (hlt : ds.all (fun d => decide (d < a.tmps.size)) = true)
    (V : Nat → Value → Prop) (R : (Nat → Bool) → World → Prop) (R0 : R (fun _ => false) w.drew)
    (step : ∀ i o, l[i]? = some o → ∀ b a' w', Fr ds a a' → R b w' → b i = false → (∀ j, (o.after.any fun e => Region.binds .any e && e.on == j) = true → b j = true ∧ V j (a'.tmps.getD (ds.getD j 0) undef)) →
      wpOp P l.toArray Q i (fun a'' w'' => ∃ v, a'' = a'.put (some (ds.getD i 0)) v ∧ V i v ∧ R (fun j => if j = i then true else b j) w'') a' w')
    (done : ∀ b a' w', Fr ds a a' → (∀ i, i < l.length → b i = true) → R b w' → (∀ j, j < l.length → V j (a'.tmps.getD (ds.getD j 0) undef)) → Q .normal a' w') :
    (Code.region id l.toArray true).wp P Q a w := by
  have hlen : l.length = ds.length := by have := congrArg List.length hds; simpa using this
  have hmem : ∀ j, j < l.length → ds.getD j 0 ∈ ds := by
    intro j hj
    rw [List.getD_eq_getElem?_getD, List.getElem?_eq_getElem (by omega)]
    exact List.getElem_mem _
  have hinj : ∀ i j, i < l.length → j < l.length → ds.getD i 0 = ds.getD j 0 → i = j := by
    intro i j hi hj e
    rw [List.getD_eq_getElem?_getD, List.getElem?_eq_getElem (by omega), List.getD_eq_getElem?_getD, List.getElem?_eq_getElem (by omega)] at e
    exact (List.getElem_inj hnd).1 e
  refine wp_region_inv hm hac (fun b a' w' => Fr ds a a' ∧ R b w' ∧ ∀ j, j < l.length → b j = true → V j (a'.tmps.getD (ds.getD j 0) undef)) ?_ ?_ ?_
  · exact ⟨Fr.refl _ _, R0, fun j _ h => by cases h⟩
  · rintro b a' w' ⟨hf, hb, hall⟩ i o ho hbi hpre
    have hil : i < l.length := (List.getElem?_eq_some_iff.1 ho).1
    refine wpOp_mono ?_ (step i o ho b a' w' hf hb hbi ?_)
    · rintro a'' w'' ⟨v, rfl, hv, hb'⟩
      refine ⟨hf.put (hmem i hil) v, hb', fun j hj hbj => ?_⟩
      by_cases e : j = i
      · subst e
        rw [put_at]
        · exact hv
        · rw [hf.size]
          have := (List.all_eq_true.1 hlt) _ (hmem j hil)
          simpa using this
      · simp only [e, if_false] at hbj
        rw [put_other _ _ _ _ (fun e' => e (hinj _ _ hj hil e'))]
        exact hall j hj hbj
    · intro j hj
      obtain ⟨k, hk, hj⟩ := Array.any_eq_true.1 hj
      obtain ⟨e, he, e1⟩ : ∃ e, e ∈ o.after ∧ e = o.after[k] := ⟨_, Array.getElem_mem hk, rfl⟩
      rw [← e1] at hj
      simp only [Bool.and_eq_true, beq_iff_eq] at hj
      obtain ⟨hbd, rfl⟩ := hj
      have h1 : b e.on = true := by
        simp only [Array.all_eq_true_iff_forall_mem] at hpre
        have := hpre e he
        rw [hbd] at this
        simpa using this
      have h2 : e.on < i := by
        have hac' := (List.all_eq_true.1 hac) i (List.mem_range.2 hil)
        simp only [ho, Option.map_some, Option.getD_some, Array.all_eq_true_iff_forall_mem] at hac'
        have := hac' e he
        rw [hbd] at this
        simpa using this
      exact ⟨h1, hall e.on (by omega) h1⟩
  · rintro b a' w' ⟨hf, hb, hall⟩ hdone
    exact done b a' w' hf hdone hb fun j hj => hall j hj (hdone j hj)
end Go.Proofs.YtfcokdkbjajohaaGreatDoor
/- Parts of strings, for the walks. -/
set_option linter.unusedVariables false
namespace Go.Proofs.YtfcokdkbjajohaaGreatDoor
open Go.RowKit

theorem st_cat (a b : List UInt8) : (⟨a.toArray⟩ : ByteArray) ++ (⟨b.toArray⟩ : ByteArray) = ⟨(a ++ b).toArray⟩ := by
  apply ByteArray.ext
  simp
theorem st_mid (l : List UInt8) (i j : Nat) (hij : i ≤ j) (hj : j ≤ l.length) (I J : Int) (hI : I = i) (hJ : J = j) (w : World) :
    (Instr.slice 9 (.string ⟨l.toArray⟩) (some (.int .i64 I)) (some (.int .i64 J)) none).run Tryz.prog w = .ok (.string ⟨((l.drop i).take (j - i)).toArray⟩) w := by
  subst hI hJ
  rw [run_slice_string w 9 _ .i64 .i64 (i : Int) (j : Int) Tryz.underlying9 (by omega) (by omega) (by simp [ByteArray.size]; omega)]
  congr 2
  apply ByteArray.ext
  apply Array.ext'
  simp [ByteArray.data_extract]
theorem st_one (l : List UInt8) (i : Nat) (h : i < l.length) (w : World) :
    (Instr.slice 9 (.string ⟨l.toArray⟩) (some (.int .i64 (i : Int))) (some (.int .i64 ((i : Int) + 1))) none).run Tryz.prog w = .ok (.string ⟨[l[i]].toArray⟩) w := by
  rw [st_mid l i (i + 1) (by omega) (by omega) _ _ rfl (by omega) w]
  have e : (l.drop i).take (i + 1 - i) = [l[i]] := by
    rw [show i + 1 - i = 1 by omega, List.drop_eq_getElem_cons h]
    rfl
  rw [e]
/-- One of the sixteen low digits, by numbers of bytes or whole ones. -/
theorem lows_fin : ∀ n : Fin 16, (⟨#[48, 49, 50, 51, 52, 53, 54, 55, 56, 57, 97, 98, 99, 100, 101, 102]⟩ : ByteArray).extract n.val (n.val + 1) = ⟨#[lowL n.val]⟩ := by decide +kernel
theorem lows_slice8 (n : Nat) (hn : n < 16) (LO HI : Int) (hL : LO = n) (hH : HI = n + 1) (w : World) :
    (Instr.slice 9 (.string ⟨#[48, 49, 50, 51, 52, 53, 54, 55, 56, 57, 97, 98, 99, 100, 101, 102]⟩) (some (.int .u8 LO)) (some (.int .u8 HI)) none).run Tryz.prog w = .ok (.string ⟨#[lowL n]⟩) w := by
  subst hL hH
  rw [run_slice_string w 9 _ .u8 .u8 (n : Int) ((n : Int) + 1) Tryz.underlying9 (by omega) (by omega) (by simp [ByteArray.size]; omega)]
  have e := lows_fin ⟨n, hn⟩
  simp only at e
  rw [show ((n : Int)).toNat = n by omega, show ((n : Int) + 1).toNat = n + 1 by omega, e]
theorem lows_slice64 (n : Nat) (hn : n < 16) (LO HI : Int) (hL : LO = n) (hH : HI = n + 1) (w : World) :
    (Instr.slice 9 (.string ⟨#[48, 49, 50, 51, 52, 53, 54, 55, 56, 57, 97, 98, 99, 100, 101, 102]⟩) (some (.int .i64 LO)) (some (.int .i64 HI)) none).run Tryz.prog w = .ok (.string ⟨#[lowL n]⟩) w := by
  subst hL hH
  rw [run_slice_string w 9 _ .i64 .i64 (n : Int) ((n : Int) + 1) Tryz.underlying9 (by omega) (by omega) (by simp [ByteArray.size]; omega)]
  have e := lows_fin ⟨n, hn⟩
  simp only at e
  rw [show ((n : Int)).toNat = n by omega, show ((n : Int) + 1).toNat = n + 1 by omega, e]
end Go.Proofs.YtfcokdkbjajohaaGreatDoor
/- What the walks of json's laws use of the kit. -/
namespace Go.Proofs.YtfcokdkbjajohaaGreatDoor
end Go.Proofs.YtfcokdkbjajohaaGreatDoor
/- json: named. -/
set_option linter.unusedVariables false
namespace Go.Proofs.YtfcokdkbjajohaaGreatDoor
open Go.RowKit

theorem ent_compact : ∀ args w, (callFunc 111 args).run Tryz.prog w = .ok (.enter 111 args) w := run_enters Tryz.func111 (by kernel_rfl) rfl
def memOK (p : List UInt8 × JV) : Bool := toldB p.1 && rightJ p.2
theorem info_strJ : (Tryz.prog.info? 9).map (fun i => (i.zero, i.size, i.bytes)) = some (some (.string ⟨#[]⟩), 1, 16) := by kernel_rfl
theorem all_drop {m : List (List UInt8 × JV)} {j : Nat} (h : j < m.length) : (m.drop j).all memOK = ((toldB m[j].1 && rightJ m[j].2) && (m.drop (j + 1)).all memOK) := by
  rw [List.drop_eq_getElem_cons h, List.all_cons]
  rfl
def namesV (m : List (List UInt8 × JV)) : List Value := m.map fun p => encStr p.1
theorem namesV_eq (m : List (List UInt8 × JV)) : namesV m = (m.map Prod.fst).map encStr := by rw [List.map_map]; rfl
theorem namesV_len (m : List (List UInt8 × JV)) : (namesV m).length = m.length := by simp [namesV]
theorem names_take {m : List (List UInt8 × JV)} {j : Nat} (h : j < m.length) : (namesV m).take (j + 1) = (namesV m).take j ++ [.string ⟨m[j].1.toArray⟩] := by
  rw [List.take_succ_eq_append_getElem (by rw [namesV_len]; exact h)]
  simp [namesV]
set_option maxRecDepth 100000 in
set_option maxHeartbeats 16000000 in
theorem jnamed_any (k : Int) (y : Bool) (t : List UInt8) (l : List JV) (m : List (List UInt8 × JV)) (hv : ∀ x ∈ m, RightC x.2) (hn : ∀ x ∈ m, x.1.length ≤ 140737488351232) (hm : m.length ≤ 10000000) (ok : Nat → Prop) (cs : List Value) (w : World) (h : Rep ok w cs (.mk k y t l m)) :
    Calls Tryz.prog 63 #[.agg cs.toArray] w fun e w' => e = .returned (.bool (rightM m)) ∧ Below w.heap.size w w' := by
  obtain ⟨a, c, a', c', cl, cm, rfl, -, -, h3, h4, -, -⟩ := h.parts
  simp only [JV.kind, JV.yes, JV.text, JV.list, JV.mem, strV] at *
  obtain ⟨i0, hi, hz0, hz1, hz2⟩ := info_parts info_strJ
  have HI := Lib.hid hi
  have HZ0 := Lib.hid hz0
  have HZ1 := Lib.hid hz1
  have HZ2 := Lib.hid hz2
  have H3 := Lib.hid h3.lt
  have H4 := Lib.hid h4.lt
  have HV := Lib.hid hv
  have HN := Lib.hid hn
  have HRM := Lib.hid (rightM_eq m)
  clear h h3 h4 hi hz0 hz1 hz2 hv hn
  go_enter Tryz.func63, Tryz.ntmps63
  go_upto_region 1 with (fail)
  have hb1 : Below w.heap.size w (w.alloc (.cells #[.int .i64 k, .bool y, .string ⟨t.toArray⟩, .slice a l.length c, .slice a' m.length c'] 26)) := (Below.refl _ _).alloc (Nat.le_refl _) _
  have hx1 := heap_alloc_new w (.cells #[.int .i64 k, .bool y, .string ⟨t.toArray⟩, .slice a l.length c, .slice a' m.length c'] 26)
  have hs1 : (w.alloc (.cells #[.int .i64 k, .bool y, .string ⟨t.toArray⟩, .slice a l.length c, .slice a' m.length c'] 26)).heap.size = w.heap.size + 1 := by simp
  generalize w.alloc _ = w1 at *
  have HB1 := Lib.hid hb1
  have HX1 := Lib.hid hx1
  have v4 : w1.cell? ⟨w.heap.size, 4, none⟩ = some (.slice a' m.length c') := by rw [Lib.cell_of_heap hx1]; rfl
  clear hb1 hx1
  go_wp2_with fail
  go_loopg [3, 9] m.length (fun k lv iv wr => ∃ (j : Nat) (rv : Value), rv = lv ∧ iv = .int .i64 (j : Int) ∧ j + k = m.length ∧ Hid (m.all memOK = (m.drop j).all memOK) ∧ Hid (wr.ownsRow (w.heap.size + 1) 9 1 lv j ((namesV m).take j)) ∧ Hid (Below (w.heap.size + 1) w1 wr))
  case atStart => exact ⟨0, _, rfl, rfl, by omega, Lib.hid rfl, Lib.hid (World.ownsRow_nil _ _ _ _), Lib.hid (Below.refl _ _)⟩
  case round =>
    obtain ⟨j, rv, rfl, rfl, hj, HD, HW, HB⟩ := hrel
    have hszB : w1.heap.size ≤ wr.heap.size := HB.out.size
    have HBW := Lib.hid (HB1.out.trans (HB.out.mono (Nat.le_succ _)))
    by_cases hlt : j < m.length
    · have hltI : (j : Int) < (m.length : Int) := by omega
      obtain ⟨b, off, k2, y2, t2, a2, l2, c2, a3, l3, c3, ea, hrep, i0', i1, i2, i3, i4, i5⟩ := mem_cells' (H3.out.keep fun b hb _ => HBW.out.block b hb.2) (H4.out.keep fun b hb _ => HBW.out.block b hb.2) j hlt
      subst ea
      have HREP := Lib.hid hrep
      have HAD := Lib.hid (all_drop hlt)
      have HNT := Lib.hid (names_take hlt)
      have HC := Lib.hid (HV.out m[j] (List.getElem_mem hlt))
      have hnl := HN.out m[j] (List.getElem_mem hlt)
      generalize m[j] = p at *
      obtain ⟨nm, pv⟩ := p
      simp only at HAD HNT HC hnl i0' HREP
      clear hrep
      go_upto_region 5 with (fail)
      have hbm : Below wr.heap.size wr (wr.alloc (.cells #[.string ⟨nm.toArray⟩, .int .i64 k2, .bool y2, .string ⟨t2⟩, .slice a2 l2 c2, .slice a3 l3 c3] 35)) := (Below.refl _ _).alloc (Nat.le_refl _) _
      have hxm := heap_alloc_new wr (.cells #[.string ⟨nm.toArray⟩, .int .i64 k2, .bool y2, .string ⟨t2⟩, .slice a2 l2 c2, .slice a3 l3 c3] 35)
      generalize wr.alloc (.cells #[.string ⟨nm.toArray⟩, .int .i64 k2, .bool y2, .string ⟨t2⟩, .slice a2 l2 c2, .slice a3 l3 c3] 35) = w4 at *
      have HBM := Lib.hid hbm
      have HXM := Lib.hid hxm
      have hsm : wr.heap.size < w4.heap.size := (Array.getElem?_eq_some_iff.1 hxm).1
      have q0 : w4.cell? ⟨wr.heap.size, 0, none⟩ = some (.string ⟨nm.toArray⟩) := by rw [Lib.cell_of_heap hxm]; rfl
      clear hbm hxm i0' i1 i2 i3 i4 i5
      go_wp2_with fail
      refine (told_any nm w4 hnl).mono ?_
      rintro e w5 ⟨rfl, hb5⟩
      have HB5 := Lib.hid (HBM.out.trans (hb5.mono HBM.out.size))
      have hx5 := (hb5.block _ hsm).trans HXM.out
      have HX5 := Lib.hid hx5
      have hs5 : wr.heap.size < w5.heap.size := Nat.lt_of_lt_of_le hsm hb5.size
      have q1 : w5.cell? ⟨wr.heap.size, 1, none⟩ = some (.int .i64 k2) := by rw [Lib.cell_of_heap hx5]; rfl
      have q2 : w5.cell? ⟨wr.heap.size, 2, none⟩ = some (.bool y2) := by rw [Lib.cell_of_heap hx5]; rfl
      have q3 : w5.cell? ⟨wr.heap.size, 3, none⟩ = some (.string ⟨t2⟩) := by rw [Lib.cell_of_heap hx5]; rfl
      have q4 : w5.cell? ⟨wr.heap.size, 4, none⟩ = some (.slice a2 l2 c2) := by rw [Lib.cell_of_heap hx5]; rfl
      have q5 : w5.cell? ⟨wr.heap.size, 5, none⟩ = some (.slice a3 l3 c3) := by rw [Lib.cell_of_heap hx5]; rfl
      clear hb5 hx5 q0 v4
      cases ht : toldB nm with
      | false =>
        rw [ht] at HAD
        have HF : Hid (rightM m = false) := Lib.hid (by rw [HRM.out]; show (m.all memOK && _) = false; rw [HD.out, HAD.out]; rfl)
        have HBZ := Lib.hid (HBW.out.trans (HB5.out.mono HBW.out.size))
        go_wp2_with fail
        refine bodyPost_ret (results_tmp rfl _ _ _) rfl ?_
        exact ⟨by rw [HF.out]; rfl, HBZ.out⟩
      | true =>
        rw [ht] at HAD
        have HREP5 := Lib.hid (HREP.out.under HB5.out)
        go_wp2_with fail
        refine (HC.out _ _ w5 HREP5.out).mono ?_
        rintro e w6 ⟨rfl, hb6⟩
        have HB6 := Lib.hid (HB5.out.trans (hb6.mono HB5.out.size))
        have hx6 := (hb6.block _ hs5).trans HX5.out
        have g0 : w6.cell? ⟨wr.heap.size, 0, none⟩ = some (.string ⟨nm.toArray⟩) := by rw [Lib.cell_of_heap hx6]; rfl
        clear hb6 hx6 q1 q2 q3 q4 q5
        cases hr : rightJ pv with
        | false =>
          rw [hr] at HAD
          have HF : Hid (rightM m = false) := Lib.hid (by rw [HRM.out]; show (m.all memOK && _) = false; rw [HD.out, HAD.out]; rfl)
          have HBZ := Lib.hid (HBW.out.trans (HB6.out.mono HBW.out.size))
          go_wp2_with fail
          refine bodyPost_ret (results_tmp rfl _ _ _) rfl ?_
          exact ⟨by rw [HF.out]; rfl, HBZ.out⟩
        | true =>
          rw [hr] at HAD
          have HW6 := Lib.hid (own_below HW.out HB6.out)
          have hs6 : w.heap.size + 1 ≤ w6.heap.size := by have := HB6.out.size; omega
          have HBZ := Lib.hid (HB.out.trans (HB6.out.mono (by omega)))
          go_wp2_with (at_builtin; refine wpList_append_new rfl (.tmp 23) (.tmp 26) 51 rfl (w.heap.size + 1) 9 i0 _ 1 16 Tryz.underlying51 HI.out HZ0.out HZ1.out HZ2.out rfl (by decide) _ _ _ rfl (HW6.out.alloc _) w6.heap.size 1 #[.string ⟨nm.toArray⟩] 9 (0, 0) ?c1 rfl rfl ?c2 ?c3 ?c4 ?c5 ?_)
          case c1 => exact heap_alloc_new _ _
          case c2 => rfl
          case c3 => omega
          case c4 => omega
          case c5 => simp; omega
          intro v' w8 hown' hgrow
          have HB8 := Lib.hid (below_own (HBZ.out.alloc (by omega) _) (HW6.out.alloc _) hgrow (by simp; omega))
          have HW8 := Lib.hid hown'
          clear hown' hgrow HW
          go_wp2_with fail
          go_roundg (gk - 1)
          case measure => omega
          case rel => exact ⟨j + 1, _, rfl, by first | rfl | (congr 1), by omega, Lib.hid (by rw [HD.out, HAD.out]; rfl), Lib.hid (by rw [HNT.out]; exact HW8.out), HB8⟩
    · have hge : ¬ (j : Int) < (m.length : Int) := by omega
      obtain rfl : j = m.length := by omega
      have HA : Hid (rightM m = decide (m.map Prod.fst).Nodup) := Lib.hid (by
        rw [HRM.out]
        show (m.all memOK && _) = _
        rw [HD.out, List.drop_eq_nil_of_le (Nat.le_refl _)]
        rfl)
      have hown : wr.ownsRow (w.heap.size + 1) 9 1 rv (m.map Prod.fst).length ((m.map Prod.fst).map encStr) := by
        have := HW.out
        rw [List.take_of_length_le (by rw [namesV_len]; exact Nat.le_refl _), namesV_eq] at this
        rw [List.length_map]
        exact this
      have HS := Lib.hid (sort_cut (w.heap.size + 1) rv (m.map Prod.fst) wr hown (by omega) (by rw [List.length_map]; omega))
      clear hown
      have HVX := Lib.hid ((HB.out.block w.heap.size (by omega)).trans HX1.out)
      clear v4 HI HZ0 HZ1 HZ2
      go_wp2_with fail
      refine HS.out.mono ?_
      rintro e w7 ⟨rfl, hb7, hcut⟩
      have HB7 := Lib.hid hb7
      have HCUT := Lib.hid hcut
      have hx7 := (hb7.block w.heap.size (by omega)).trans HVX.out
      have HX7 := Lib.hid hx7
      have HBE := Lib.hid (HBW.out.trans (hb7.mono (Nat.le_succ _)))
      have hs7 : w.heap.size + 1 ≤ w7.heap.size := Nat.le_trans (by omega) hb7.size
      clear hb7 hcut hx7
      go_upto_region 10 with (fail)
      refine wp_region_val (by kernel_rfl) (by kernel_rfl) [31, 32, 33, 34, 35, 36, 37, 2] rfl (by decide) (by kernel_rfl)
        (fun i => [fun v => v = rv, fun v => ∃ a c, v = .slice a (Lib.compact ((m.map Prod.fst).mergeSort leL)).length c, fun v => v = .int .i64 ((Lib.compact ((m.map Prod.fst).mergeSort leL)).length : Nat), fun v => v = .pointer (some ⟨w.heap.size, 4, none⟩), fun v => v = .slice a' m.length c', fun v => v = .int .i64 (m.length : Nat), fun v => v = .bool (rightM m), fun v => v = .bool (rightM m)].getD i fun _ => True)
        (fun b w' => Below (w.heap.size + 1) w7 w' ∧ (b 1 = false → w'.heap = w7.heap)) ?_ ?_ ?_
      · exact ⟨(Below.refl _ _).drew, fun _ => rfl⟩
      · intro i o ho b ax w' hf ⟨hb, hh⟩ hbi hd
        have keep : i ≠ 1 → Below (w.heap.size + 1) w7 w' ∧ ((if 1 = i then true else b 1) = false → w'.heap = w7.heap) := fun hne => ⟨hb, fun e => hh (by simpa [Ne.symm hne] using e)⟩
        rcases i with _ | _ | _ | _ | _ | _ | _ | _ | i
        · cases ho
          refine op_step rfl rfl (op_value (v := rv) (w' := w') ?_ ⟨_, rfl, rfl, keep (by decide)⟩)
          have t3 : ax.tmps.getD 3 undef = rv := (hf.same 3 (by decide)).trans rfl
          simp only [execOp, Act.eval, t3]
          go_simp
        · cases ho
          obtain ⟨_, t31⟩ := hd 0 (by kernel_rfl)
          have t31' : ax.tmps.getD 31 undef = rv := t31
          refine op_step rfl rfl (op_call ent_compact rfl (by simp only [List.map_toArray, List.map_cons, List.map_nil, Act.eval, t31']) ((HCUT.out w' (hh hbi)).mono ?_))
          rintro e w'' ⟨⟨ac, cc, rfl⟩, hb'⟩
          exact .inl ⟨_, rfl, _, rfl, ⟨_, _, rfl⟩, hb.trans hb', fun e => by simp at e⟩
        · cases ho
          obtain ⟨_, ac, cc, t32⟩ := hd 1 (by kernel_rfl)
          have t32' : ax.tmps.getD 32 undef = .slice ac (Lib.compact ((m.map Prod.fst).mergeSort leL)).length cc := t32
          generalize (Lib.compact ((m.map Prod.fst).mergeSort leL)).length = N at *
          refine op_step rfl rfl (op_value (v := .int .i64 (N : Nat)) (w' := w') ?_ ⟨_, rfl, rfl, keep (by decide)⟩)
          simp only [execOp, resolve, invoke, builtin]
          go_simp
        · cases ho
          refine op_step rfl rfl (op_value (v := .pointer (some ⟨w.heap.size, 4, none⟩)) (w' := w') ?_ ⟨_, rfl, rfl, keep (by decide)⟩)
          have t1 : ax.tmps.getD 1 undef = .pointer (some ⟨w.heap.size, 0, none⟩) := (hf.same 1 (by decide)).trans rfl
          simp only [execOp, Act.eval, t1]
          go_simp
        · cases ho
          obtain ⟨_, t34⟩ := hd 3 (by kernel_rfl)
          have t34' : ax.tmps.getD 34 undef = .pointer (some ⟨w.heap.size, 4, none⟩) := t34
          have c4 : w'.cell? ⟨w.heap.size, 4, none⟩ = some (.slice a' m.length c') := by rw [Lib.cell_of_heap ((hb.block w.heap.size (by omega)).trans HX7.out)]; rfl
          refine op_step rfl rfl (op_value (v := .slice a' m.length c') (w' := w') ?_ ⟨_, rfl, rfl, keep (by decide)⟩)
          simp only [execOp, Act.eval, t34']
          go_simp
        · cases ho
          obtain ⟨_, t35⟩ := hd 4 (by kernel_rfl)
          have t35' : ax.tmps.getD 35 undef = .slice a' m.length c' := t35
          refine op_step rfl rfl (op_value (v := .int .i64 (m.length : Nat)) (w' := w') ?_ ⟨_, rfl, rfl, keep (by decide)⟩)
          simp only [execOp, resolve, invoke, builtin]
          go_simp
        · cases ho
          obtain ⟨_, t33⟩ := hd 2 (by kernel_rfl)
          obtain ⟨_, t36⟩ := hd 5 (by kernel_rfl)
          have t33' : ax.tmps.getD 33 undef = .int .i64 ((Lib.compact ((m.map Prod.fst).mergeSort leL)).length : Nat) := t33
          have t36' : ax.tmps.getD 36 undef = .int .i64 (m.length : Nat) := t36
          have hq : ((((Lib.compact ((m.map Prod.fst).mergeSort leL)).length : Nat) : Int) == (m.length : Int)) = rightM m := by
            rw [HA.out, ← compact_nodup, List.length_map, Bool.eq_iff_iff]
            simp only [beq_iff_eq, decide_eq_true_eq]
            omega
          generalize (Lib.compact ((m.map Prod.fst).mergeSort leL)).length = N at *
          refine op_step rfl rfl (op_value (v := .bool (rightM m)) (w' := w') ?_ ⟨_, rfl, rfl, keep (by decide)⟩)
          simp only [execOp, Act.eval, t33', t36']
          go_simp
        · cases ho
          obtain ⟨_, t37⟩ := hd 6 (by kernel_rfl)
          have t37' : ax.tmps.getD 37 undef = .bool (rightM m) := t37
          refine op_step rfl rfl (op_value (v := .bool (rightM m)) (w' := w') ?_ ⟨_, rfl, rfl, keep (by decide)⟩)
          simp only [execOp, Act.eval, t37']
          go_simp
        · simp at ho
      · intro b ax w' hf hall ⟨hb, _⟩ hd
        have t2 : ax.tmps.getD 2 undef = .bool (rightM m) := hd 7 (by decide)
        have hdf : ax.defers = [] := hf.defers
        have HBL := Lib.hid (HBE.out.trans (hb.mono (Nat.le_succ _)))
        clear hf hall hb hd
        go_wp2_with fail
        refine bodyPost_ret (results_tmp rfl _ _ _) hdf ?_
        exact ⟨by rw [t2], HBL.out⟩
end Go.Proofs.YtfcokdkbjajohaaGreatDoor
/- json: how great a value is. Plain. -/
set_option linter.unusedVariables false
namespace Go.Proofs.YtfcokdkbjajohaaGreatDoor

mutual
/-- How great a value is. -/
def sizeJ : JV → Nat
  | .mk k y t l m => 1 + t.length + sizeL l + sizeM m
def sizeL : List JV → Nat
  | [] => 0
  | v :: l => sizeJ v + sizeL l
def sizeM : List (List UInt8 × JV) → Nat
  | [] => 0
  | (n, v) :: m => 1 + n.length + sizeJ v + sizeM m
end
theorem size_pos (v : JV) : 1 ≤ sizeJ v := by
  obtain ⟨k, y, t, l, m⟩ := v
  rw [sizeJ]; omega
theorem size_list : ∀ {l : List JV} {x : JV}, x ∈ l → sizeJ x ≤ sizeL l
  | y :: l, x, h => by
    rw [sizeL]
    rcases List.mem_cons.1 h with rfl | h
    · omega
    · have := size_list h; omega
theorem size_mem : ∀ {m : List (List UInt8 × JV)} {x : List UInt8 × JV}, x ∈ m → 1 + x.1.length + sizeJ x.2 ≤ sizeM m
  | y :: l, x, h => by
    obtain ⟨n, v⟩ := y
    rw [sizeM]
    rcases List.mem_cons.1 h with rfl | h
    · show 1 + n.length + sizeJ v ≤ _
      omega
    · have := size_mem h; omega
theorem len_size : ∀ l : List JV, l.length ≤ sizeL l
  | [] => by simp [sizeL]
  | v :: l => by
    have := len_size l
    have := size_pos v
    rw [sizeL, List.length_cons]; omega
theorem lenM_size : ∀ m : List (List UInt8 × JV), m.length ≤ sizeM m
  | [] => by simp [sizeM]
  | (n, v) :: l => by
    have := lenM_size l
    rw [sizeM, List.length_cons]; omega
theorem quoteC_six : ∀ c : UInt8, (quoteC c).length ≤ 6 := u8_all _ (by decide +kernel)
theorem quote_len6 : ∀ s : List UInt8, (s.flatMap quoteC).length ≤ 6 * s.length
  | [] => by simp
  | c :: s => by
    have := quote_len6 s
    have := quoteC_six c
    rw [List.flatMap_cons, List.length_append, List.length_cons]; omega
theorem quoteL_len6 (s : List UInt8) : (quoteL s).length ≤ 6 * s.length + 2 := by
  have := quote_len6 s
  unfold quoteL
  simp only [List.length_cons, List.length_append, List.length_nil]
  omega
mutual
theorem plain_size : ∀ v : JV, (plainJ v).length + 1 ≤ 8 * sizeJ v
  | .mk k y t l m => by
    have h1 := plainL_size l true
    have h2 := plainM_size m true
    have h3 := quoteL_len6 t
    rw [plainJ, sizeJ]
    split
    · simp; omega
    split
    · split <;> simp <;> omega
    split
    · omega
    split
    · omega
    split
    · simp only [List.length_cons, List.length_append, List.length_nil]; omega
    split
    · simp only [List.length_cons, List.length_append, List.length_nil]; omega
    · simp; omega
theorem plainL_size : ∀ (l : List JV) (f : Bool), (plainL f l).length ≤ 8 * sizeL l
  | [], f => by simp [plainL]
  | v :: l, f => by
    have h1 := plain_size v
    have h2 := plainL_size l false
    rw [plainL, sizeL]
    cases f <;> simp <;> omega
theorem plainM_size : ∀ (l : List (List UInt8 × JV)) (f : Bool), (plainM f l).length ≤ 8 * sizeM l
  | [], f => by simp [plainM]
  | (n, v) :: l, f => by
    have h1 := plain_size v
    have h2 := plainM_size l false
    have h3 := quoteL_len6 n
    rw [plainM, sizeM]
    cases f <;> simp <;> omega
end
mutual
theorem depth_size : ∀ v : JV, depthJ v ≤ sizeJ v
  | .mk k y t l m => by
    have h1 := depthL_size l
    have h2 := depthM_size m
    rw [depthJ, sizeJ]
    split
    · omega
    split <;> omega
theorem depthL_size : ∀ l : List JV, depthL l ≤ sizeL l
  | [] => by simp [depthL]
  | v :: l => by
    have h1 := depth_size v
    have h2 := depthL_size l
    rw [depthL, sizeL]; omega
theorem depthM_size : ∀ l : List (List UInt8 × JV), depthM l ≤ sizeM l
  | [] => by simp [depthM]
  | (n, v) :: l => by
    have h1 := depth_size v
    have h2 := depthM_size l
    rw [depthM, sizeM]; omega
end
end Go.Proofs.YtfcokdkbjajohaaGreatDoor
/- json: Right, of any value. -/
set_option linter.unusedVariables false
namespace Go.Proofs.YtfcokdkbjajohaaGreatDoor
open Go.RowKit

set_option maxRecDepth 100000 in
set_option maxHeartbeats 16000000 in
theorem jright_arr (y : Bool) (t : List UInt8) (l : List JV) (m : List (List UInt8 × JV)) (hv : ∀ x ∈ l, RightC x) (hl : l.length ≤ 10000000) : RightC (.mk 5 y t l m) := by
  intro ok cs w h
  have HR0 := Lib.hid h.lt
  obtain ⟨a, c, a', c', cl, cm, rfl, h1, h2, -⟩ := h.parts
  simp only [JV.kind, JV.yes, JV.text, JV.list, JV.mem, strV] at *
  have H1 := Lib.hid h1.lt
  have H2 := Lib.hid h2.lt
  have HV := Lib.hid hv
  have HW : Hid (∀ ob, Below w.heap.size w (w.alloc ob)) := Lib.hid fun ob => (Below.refl _ _).alloc (Nat.le_refl _) _
  have HRT := Lib.hid (right_eq 5 y t l m)
  have HB : Hid (∀ ob, Calls Tryz.prog 58 #[.agg #[.int .i64 5, .bool y, .string ⟨t.toArray⟩, .slice a l.length c, .slice a' m.length c']] (w.alloc ob) fun e w' => e = .returned (.bool (bareB 5 y t l.length m.length)) ∧ Below (w.alloc ob).heap.size (w.alloc ob) w') := Lib.hid fun ob => jbare_any 5 y t a a' l.length m.length c c' (w.alloc ob)
  have HG : Hid (∀ ob, (w.alloc ob).heap[w.heap.size]? = some ob) := Lib.hid fun ob => heap_alloc_new w ob
  clear h h1 h2 hv
  go_enter Tryz.func12, Tryz.ntmps12
  go_wp2_with fail
  refine (HB.out _).mono ?_
  rintro e w2 ⟨rfl, hb2⟩
  have HB2 := Lib.hid ((HW.out _).trans (hb2.mono (by simp)))
  have hx2 := (hb2.block w.heap.size (by simp)).trans (HG.out _)
  have c0 : w2.cell? ⟨w.heap.size, 0, none⟩ = some (.int .i64 5) := by rw [Lib.cell_of_heap hx2]; rfl
  have c3 : w2.cell? ⟨w.heap.size, 3, none⟩ = some (.slice a l.length c) := by rw [Lib.cell_of_heap hx2]; rfl
  clear hb2 hx2 HB HG
  cases hbb : bareB 5 y t l.length m.length with
  | false =>
    rw [hbb] at HRT
    clear hbb
    go_wp2_with fail
    refine bodyPost_ret (results_tmp rfl _ _ _) rfl ?_
    exact ⟨by rw [HRT.out]; rfl, HB2.out⟩
  | true =>
    have HE : Hid (rightJ (.mk 5 y t l m) = rightL l) := Lib.hid (by rw [HRT.out, hbb]; cases rightL l <;> rfl)
    clear HRT hbb
    go_wp2_with fail
    refine (jcontains_any l HV.out _ a c cl w2 (H1.out.keep fun b hb _ => HB2.out.block b hb.2) (H2.out.keep fun b hb _ => HB2.out.block b hb.2) hl).mono ?_
    rintro e w3 ⟨rfl, hb3⟩
    have HB3 := Lib.hid (HB2.out.trans (hb3.mono HB2.out.size))
    clear hb3
    go_wp2_with fail
    refine bodyPost_ret (results_tmp rfl _ _ _) rfl ?_
    exact ⟨by rw [HE.out]; cases rightL l <;> rfl, HB3.out⟩
set_option maxRecDepth 100000 in
set_option maxHeartbeats 16000000 in
theorem jright_obj (y : Bool) (t : List UInt8) (l : List JV) (m : List (List UInt8 × JV)) (hv : ∀ x ∈ m, RightC x.2) (hn : ∀ x ∈ m, x.1.length ≤ 140737488351232) (hm : m.length ≤ 10000000) : RightC (.mk 6 y t l m) := by
  intro ok cs w h
  have HR0 := Lib.hid h.lt
  have hND := jnamed_any 6 y t l m hv hn hm
  obtain ⟨a, c, a', c', cl, cm, rfl, -⟩ := h.parts
  simp only [JV.kind, JV.yes, JV.text, JV.list, JV.mem, strV] at *
  have HND := Lib.hid hND
  have HW : Hid (∀ ob, Below w.heap.size w (w.alloc ob)) := Lib.hid fun ob => (Below.refl _ _).alloc (Nat.le_refl _) _
  have HRT := Lib.hid (right_eq 6 y t l m)
  have HB : Hid (∀ ob, Calls Tryz.prog 58 #[.agg #[.int .i64 6, .bool y, .string ⟨t.toArray⟩, .slice a l.length c, .slice a' m.length c']] (w.alloc ob) fun e w' => e = .returned (.bool (bareB 6 y t l.length m.length)) ∧ Below (w.alloc ob).heap.size (w.alloc ob) w') := Lib.hid fun ob => jbare_any 6 y t a a' l.length m.length c c' (w.alloc ob)
  have HG : Hid (∀ ob, (w.alloc ob).heap[w.heap.size]? = some ob) := Lib.hid fun ob => heap_alloc_new w ob
  clear h hND hv hn
  go_enter Tryz.func12, Tryz.ntmps12
  go_wp2_with fail
  refine (HB.out _).mono ?_
  rintro e w2 ⟨rfl, hb2⟩
  have HB2 := Lib.hid ((HW.out _).trans (hb2.mono (by simp)))
  have hx2 := (hb2.block w.heap.size (by simp)).trans (HG.out _)
  have c0 : w2.cell? ⟨w.heap.size, 0, none⟩ = some (.int .i64 6) := by rw [Lib.cell_of_heap hx2]; rfl
  have c1 : w2.cell? ⟨w.heap.size, 1, none⟩ = some (.bool y) := by rw [Lib.cell_of_heap hx2]; rfl
  have c2 : w2.cell? ⟨w.heap.size, 2, none⟩ = some (.string ⟨t.toArray⟩) := by rw [Lib.cell_of_heap hx2]; rfl
  have c3 : w2.cell? ⟨w.heap.size, 3, none⟩ = some (.slice a l.length c) := by rw [Lib.cell_of_heap hx2]; rfl
  have c4 : w2.cell? ⟨w.heap.size, 4, none⟩ = some (.slice a' m.length c') := by rw [Lib.cell_of_heap hx2]; rfl
  clear hb2 hx2 HB HG
  cases hbb : bareB 6 y t l.length m.length with
  | false =>
    rw [hbb] at HRT
    clear hbb
    go_wp2_with fail
    refine bodyPost_ret (results_tmp rfl _ _ _) rfl ?_
    exact ⟨by rw [HRT.out]; rfl, HB2.out⟩
  | true =>
    have HE : Hid (rightJ (.mk 6 y t l m) = rightM m) := Lib.hid (by rw [HRT.out, hbb]; cases rightM m <;> rfl)
    clear HRT hbb
    go_wp2_with fail
    refine (HND.out _ [.int .i64 6, .bool y, .string ⟨t.toArray⟩, .slice a l.length c, .slice a' m.length c'] w2 (HR0.out.keep fun b hb _ => HB2.out.block b hb.2)).mono ?_
    rintro e w3 ⟨rfl, hb3⟩
    have HB3 := Lib.hid (HB2.out.trans (hb3.mono HB2.out.size))
    clear hb3
    go_wp2_with fail
    refine bodyPost_ret (results_tmp rfl _ _ _) rfl ?_
    exact ⟨by rw [HE.out]; rfl, HB3.out⟩
theorem jright_size : ∀ (N : Nat) (v : JV), sizeJ v ≤ N → sizeJ v ≤ 1000000 → RightC v := by
  intro N
  induction N with
  | zero => intro v h; have := size_pos v; omega
  | succ N ih =>
    intro v h hb
    obtain ⟨k, y, t, l, m⟩ := v
    have hs : sizeJ (.mk k y t l m) = 1 + t.length + sizeL l + sizeM m := by rw [sizeJ]
    by_cases h5 : k = 5
    · subst h5
      refine jright_arr y t l m (fun x hx => ?_) (by have := len_size l; omega)
      have := size_list hx
      exact ih x (by omega) (by omega)
    by_cases h6 : k = 6
    · subst h6
      refine jright_obj y t l m (fun x hx => ?_) (fun x hx => ?_) (by have := lenM_size m; omega)
      · have := size_mem hx
        exact ih x.2 (by omega) (by omega)
      · have := size_mem hx; omega
    exact jright_leaf k y t l m h5 h6 (by omega) (fun _ => by omega)
/-- Right, of any value that isn't too great. -/
theorem jright (v : JV) (h : sizeJ v ≤ 1000000) : RightC v := jright_size _ v (Nat.le_refl _) h
end Go.Proofs.YtfcokdkbjajohaaGreatDoor
/- json: Depth. -/
set_option linter.unusedVariables false
namespace Go.Proofs.YtfcokdkbjajohaaGreatDoor
open Go.RowKit

/-- What Depth says of a value. -/
def DepthC (v : JV) : Prop := ∀ (ok : Nat → Prop) cs w, Rep ok w cs v → Calls Tryz.prog 22 #[.agg cs.toArray] w fun e w' => e = .returned (.int .i64 (depthJ v : Nat)) ∧ Below w.heap.size w w'
theorem depthL_take {l : List JV} {j : Nat} (h : j < l.length) : depthL (l.take (j + 1)) = max (depthL (l.take j)) (depthJ l[j]) := by
  have key : ∀ (a : List JV) (v : JV), depthL (a ++ [v]) = max (depthL a) (depthJ v) := by
    intro a v
    induction a with
    | nil => simp [depthL]
    | cons x a ih =>
      simp only [List.cons_append, depthL, ih]
      omega
  rw [List.take_succ_eq_append_getElem h, key]
theorem depthM_take {l : List (List UInt8 × JV)} {j : Nat} (h : j < l.length) : depthM (l.take (j + 1)) = max (depthM (l.take j)) (depthJ l[j].2) := by
  have key : ∀ (a : List (List UInt8 × JV)) (v : List UInt8 × JV), depthM (a ++ [v]) = max (depthM a) (depthJ v.2) := by
    intro a v
    induction a with
    | nil => simp [depthM]
    | cons x a ih =>
      simp only [List.cons_append, depthM, ih]
      omega
  rw [List.take_succ_eq_append_getElem h, key]
set_option maxRecDepth 100000 in
set_option maxHeartbeats 16000000 in
theorem jdepth_leaf (k : Int) (y : Bool) (t : List UInt8) (l : List JV) (m : List (List UInt8 × JV)) (h5 : k ≠ 5) (h6 : k ≠ 6) : DepthC (.mk k y t l m) := by
  intro ok cs w h
  obtain ⟨a, c, a', c', cl, cm, rfl, -⟩ := h.parts
  simp only [JV.kind, JV.yes, JV.text, JV.list, JV.mem, strV] at *
  have HW : Hid (∀ ob, Below w.heap.size w (w.alloc ob)) := Lib.hid fun ob => (Below.refl _ _).alloc (Nat.le_refl _) _
  have q5 : (k == 5) = false := by simp [h5]
  have q6 : (k == 6) = false := by simp [h6]
  have HD : Hid (depthJ (.mk k y t l m) = 1) := Lib.hid (by rw [depthJ, if_neg h5, if_neg h6])
  clear h h5 h6
  go_enter Tryz.func22, Tryz.ntmps22
  go_wp2_with fail
  refine bodyPost_ret (results_tmp rfl _ _ _) rfl ?_
  exact ⟨by rw [HD.out]; rfl, HW.out _⟩
set_option maxRecDepth 100000 in
set_option maxHeartbeats 16000000 in
theorem jdepth_arr (y : Bool) (t : List UInt8) (l : List JV) (m : List (List UInt8 × JV)) (hv : ∀ x ∈ l, DepthC x) (hl : sizeL l ≤ 1000000) : DepthC (.mk 5 y t l m) := by
  intro ok cs w h
  obtain ⟨a, c, a', c', cl, cm, rfl, h1, h2, -⟩ := h.parts
  simp only [JV.kind, JV.yes, JV.text, JV.list, JV.mem, strV] at *
  have H1 := Lib.hid h1.lt
  have H2 := Lib.hid h2.lt
  have HV := Lib.hid hv
  have hll : l.length ≤ 1000000 := by have := len_size l; omega
  have HSL := Lib.hid hl
  have HD : Hid (depthJ (.mk 5 y t l m) = depthL l + 1) := Lib.hid (by rw [depthJ, if_pos rfl])
  clear h h1 h2 hv hl
  go_enter Tryz.func22, Tryz.ntmps22
  go_upto_region 2 with (fail)
  have hb1 : Below w.heap.size w (w.alloc (.cells #[.int .i64 5, .bool y, .string ⟨t.toArray⟩, .slice a l.length c, .slice a' m.length c'] 26)) := (Below.refl _ _).alloc (Nat.le_refl _) _
  have hx1 := heap_alloc_new w (.cells #[.int .i64 5, .bool y, .string ⟨t.toArray⟩, .slice a l.length c, .slice a' m.length c'] 26)
  generalize w.alloc _ = w1 at *
  have HB1 := Lib.hid hb1
  have HX1 := Lib.hid hx1
  have hs1 : w.heap.size < w1.heap.size := (Array.getElem?_eq_some_iff.1 hx1).1
  have v0 : w1.cell? ⟨w.heap.size, 0, none⟩ = some (.int .i64 5) := by rw [Lib.cell_of_heap hx1]; rfl
  have v3 : w1.cell? ⟨w.heap.size, 3, none⟩ = some (.slice a l.length c) := by rw [Lib.cell_of_heap hx1]; rfl
  clear hb1 hx1
  go_wp2_with fail
  go_loopg [3, 14] l.length (fun k acc iv wr => ∃ j d : Nat, acc = .int .i64 (d : Int) ∧ iv = .int .i64 (j : Int) ∧ j + k = l.length ∧ d ≤ 1000000 ∧ Hid (d = depthL (l.take j)) ∧ Hid (Below w1.heap.size w1 wr))
  case atStart => exact ⟨0, 0, rfl, rfl, by omega, by omega, Lib.hid rfl, Lib.hid (Below.refl _ _)⟩
  case round =>
    obtain ⟨j, d, rfl, rfl, hj, hd, HDD, HB⟩ := hrel
    have HBW := Lib.hid (HB1.out.trans (HB.out.mono (Nat.le_of_lt hs1)))
    by_cases hlt : j < l.length
    · have hltI : (j : Int) < (l.length : Int) := by omega
      obtain ⟨br, off, k2, y2, t2, a2, l2, c2, a3, l3, c3, ea, hrep, i0, i1, i2, i3, i4⟩ := list_cells (H1.out.keep fun b hb _ => HBW.out.block b hb.2) (H2.out.keep fun b hb _ => HBW.out.block b hb.2) j hlt
      subst ea
      have HREP := Lib.hid hrep
      have HC := Lib.hid (HV.out l[j] (List.getElem_mem hlt))
      have HT := Lib.hid (depthL_take hlt)
      have hdx : depthJ l[j] ≤ 1000000 := by
        have h1 := depth_size l[j]
        have h2 := size_list (List.getElem_mem hlt)
        have := HSL.out
        omega
      generalize l[j] = x at *
      clear hrep v0 v3
      go_upto_region 6 with (fail)
      have hb4 : Below wr.heap.size wr (wr.alloc (.cells #[.int .i64 k2, .bool y2, .string ⟨t2⟩, .slice a2 l2 c2, .slice a3 l3 c3] 26)) := (Below.refl _ _).alloc (Nat.le_refl _) _
      have hx4 := heap_alloc_new wr (.cells #[.int .i64 k2, .bool y2, .string ⟨t2⟩, .slice a2 l2 c2, .slice a3 l3 c3] 26)
      generalize wr.alloc (.cells #[.int .i64 k2, .bool y2, .string ⟨t2⟩, .slice a2 l2 c2, .slice a3 l3 c3] 26) = w4 at *
      have HB4 := Lib.hid (HB.out.trans (hb4.mono HB.out.size))
      have HREP4 := Lib.hid (HREP.out.under hb4)
      have v0 : w4.cell? ⟨wr.heap.size, 0, none⟩ = some (.int .i64 k2) := by rw [Lib.cell_of_heap hx4]; rfl
      have v1 : w4.cell? ⟨wr.heap.size, 1, none⟩ = some (.bool y2) := by rw [Lib.cell_of_heap hx4]; rfl
      have v2 : w4.cell? ⟨wr.heap.size, 2, none⟩ = some (.string ⟨t2⟩) := by rw [Lib.cell_of_heap hx4]; rfl
      have v3 : w4.cell? ⟨wr.heap.size, 3, none⟩ = some (.slice a2 l2 c2) := by rw [Lib.cell_of_heap hx4]; rfl
      have v4 : w4.cell? ⟨wr.heap.size, 4, none⟩ = some (.slice a3 l3 c3) := by rw [Lib.cell_of_heap hx4]; rfl
      clear hb4 hx4 i0 i1 i2 i3 i4
      go_wp2_with fail
      refine (HC.out _ _ w4 HREP4.out).mono ?_
      rintro e w5 ⟨rfl, hb5⟩
      have HB5 := Lib.hid (HB4.out.trans (hb5.mono HB4.out.size))
      obtain ⟨dx, hdx2⟩ : ∃ dx, depthJ x = dx := ⟨_, rfl⟩
      rw [hdx2] at HT hdx ⊢
      clear hb5 hdx2 v0 v1 v2 v3 v4
      go_wp2_with fail
      go_roundg (gk - 1)
      case measure => omega
      case rel => exact ⟨j + 1, max d dx, by first | rfl | (congr 1; omega), by first | rfl | (congr 1), by omega, by omega, Lib.hid (by rw [HT.out, ← HDD.out]), HB5⟩
    · have hge : ¬ (j : Int) < (l.length : Int) := by omega
      have HE : Hid (depthL l = d) := Lib.hid (by rw [HDD.out, List.take_of_length_le (by omega)])
      have c0 : wr.cell? ⟨w.heap.size, 0, none⟩ = some (.int .i64 5) := by rw [Lib.cell_of_heap ((HB.out.block _ hs1).trans HX1.out)]; rfl
      clear v0 v3
      go_wp2_with fail
      refine bodyPost_ret (results_tmp rfl _ _ _) rfl ?_
      exact ⟨by rw [HD.out, HE.out]; first | rfl | (congr 1), HBW.out⟩
set_option maxRecDepth 100000 in
set_option maxHeartbeats 16000000 in
theorem jdepth_obj (y : Bool) (t : List UInt8) (l : List JV) (m : List (List UInt8 × JV)) (hv : ∀ x ∈ m, DepthC x.2) (hl : sizeM m ≤ 1000000) : DepthC (.mk 6 y t l m) := by
  intro ok cs w h
  obtain ⟨a, c, a', c', cl, cm, rfl, -, -, h1, h2, -⟩ := h.parts
  simp only [JV.kind, JV.yes, JV.text, JV.list, JV.mem, strV] at *
  have H1 := Lib.hid h1.lt
  have H2 := Lib.hid h2.lt
  have HV := Lib.hid hv
  have hll : m.length ≤ 1000000 := by have := lenM_size m; omega
  have HSL := Lib.hid hl
  have HD : Hid (depthJ (.mk 6 y t l m) = depthM m + 1) := Lib.hid (by rw [depthJ, if_neg (by decide), if_pos rfl])
  clear h h1 h2 hv hl
  go_enter Tryz.func22, Tryz.ntmps22
  go_upto_region 2 with (fail)
  have hb1 : Below w.heap.size w (w.alloc (.cells #[.int .i64 6, .bool y, .string ⟨t.toArray⟩, .slice a l.length c, .slice a' m.length c'] 26)) := (Below.refl _ _).alloc (Nat.le_refl _) _
  have hx1 := heap_alloc_new w (.cells #[.int .i64 6, .bool y, .string ⟨t.toArray⟩, .slice a l.length c, .slice a' m.length c'] 26)
  generalize w.alloc _ = w1 at *
  have HB1 := Lib.hid hb1
  have hs1 : w.heap.size < w1.heap.size := (Array.getElem?_eq_some_iff.1 hx1).1
  have v0 : w1.cell? ⟨w.heap.size, 0, none⟩ = some (.int .i64 6) := by rw [Lib.cell_of_heap hx1]; rfl
  have v4 : w1.cell? ⟨w.heap.size, 4, none⟩ = some (.slice a' m.length c') := by rw [Lib.cell_of_heap hx1]; rfl
  clear hb1 hx1
  go_wp2_with fail
  go_loopg [3, 29] m.length (fun k acc iv wr => ∃ j d : Nat, acc = .int .i64 (d : Int) ∧ iv = .int .i64 (j : Int) ∧ j + k = m.length ∧ d ≤ 1000000 ∧ Hid (d = depthM (m.take j)) ∧ Hid (Below w1.heap.size w1 wr))
  case atStart => exact ⟨0, 0, rfl, rfl, by omega, by omega, Lib.hid rfl, Lib.hid (Below.refl _ _)⟩
  case round =>
    obtain ⟨j, d, rfl, rfl, hj, hd, HDD, HB⟩ := hrel
    have HBW := Lib.hid (HB1.out.trans (HB.out.mono (Nat.le_of_lt hs1)))
    by_cases hlt : j < m.length
    · have hltI : (j : Int) < (m.length : Int) := by omega
      obtain ⟨br, off, k2, y2, t2, a2, l2, c2, a3, l3, c3, ea, hrep, i0, i1, i2, i3, i4, i5⟩ := mem_cells' (H1.out.keep fun b hb _ => HBW.out.block b hb.2) (H2.out.keep fun b hb _ => HBW.out.block b hb.2) j hlt
      subst ea
      have HREP := Lib.hid hrep
      have HC := Lib.hid (HV.out m[j] (List.getElem_mem hlt))
      have HT := Lib.hid (depthM_take hlt)
      have hdx : depthJ m[j].2 ≤ 1000000 := by
        have h1 := depth_size m[j].2
        have h2 := size_mem (List.getElem_mem hlt)
        have := HSL.out
        omega
      generalize m[j] = x at *
      obtain ⟨nm, x⟩ := x
      simp only at HREP HC HT hdx i0
      clear hrep v0 v4
      go_upto_region 12 with (fail)
      have hb4 : Below wr.heap.size wr (wr.alloc (.cells #[.string ⟨nm.toArray⟩, .int .i64 k2, .bool y2, .string ⟨t2⟩, .slice a2 l2 c2, .slice a3 l3 c3] 35)) := (Below.refl _ _).alloc (Nat.le_refl _) _
      have hx4 := heap_alloc_new wr (.cells #[.string ⟨nm.toArray⟩, .int .i64 k2, .bool y2, .string ⟨t2⟩, .slice a2 l2 c2, .slice a3 l3 c3] 35)
      generalize wr.alloc (.cells #[.string ⟨nm.toArray⟩, .int .i64 k2, .bool y2, .string ⟨t2⟩, .slice a2 l2 c2, .slice a3 l3 c3] 35) = w4 at *
      have HB4 := Lib.hid (HB.out.trans (hb4.mono HB.out.size))
      have HREP4 := Lib.hid (HREP.out.under hb4)
      have v0 : w4.cell? ⟨wr.heap.size, 1, none⟩ = some (.int .i64 k2) := by rw [Lib.cell_of_heap hx4]; rfl
      have v1 : w4.cell? ⟨wr.heap.size, 2, none⟩ = some (.bool y2) := by rw [Lib.cell_of_heap hx4]; rfl
      have v2 : w4.cell? ⟨wr.heap.size, 3, none⟩ = some (.string ⟨t2⟩) := by rw [Lib.cell_of_heap hx4]; rfl
      have v3 : w4.cell? ⟨wr.heap.size, 4, none⟩ = some (.slice a2 l2 c2) := by rw [Lib.cell_of_heap hx4]; rfl
      have v4 : w4.cell? ⟨wr.heap.size, 5, none⟩ = some (.slice a3 l3 c3) := by rw [Lib.cell_of_heap hx4]; rfl
      clear hb4 hx4 i0 i1 i2 i3 i4 i5
      go_wp2_with fail
      refine (HC.out _ _ w4 HREP4.out).mono ?_
      rintro e w5 ⟨rfl, hb5⟩
      have HB5 := Lib.hid (HB4.out.trans (hb5.mono HB4.out.size))
      obtain ⟨dx, hdx2⟩ : ∃ dx, depthJ x = dx := ⟨_, rfl⟩
      rw [hdx2] at HT hdx ⊢
      clear hb5 hdx2 v0 v1 v2 v3 v4
      go_wp2_with fail
      go_roundg (gk - 1)
      case measure => omega
      case rel => exact ⟨j + 1, max d dx, by first | rfl | (congr 1; omega), by first | rfl | (congr 1), by omega, by omega, Lib.hid (by rw [HT.out, ← HDD.out]), HB5⟩
    · have hge : ¬ (j : Int) < (m.length : Int) := by omega
      have HE : Hid (depthM m = d) := Lib.hid (by rw [HDD.out, List.take_of_length_le (by omega)])
      clear v0 v4
      go_wp2_with fail
      refine bodyPost_ret (results_tmp rfl _ _ _) rfl ?_
      exact ⟨by rw [HD.out, HE.out]; first | rfl | (congr 1), HBW.out⟩
theorem jdepth_size : ∀ (N : Nat) (v : JV), sizeJ v ≤ N → sizeJ v ≤ 1000000 → DepthC v := by
  intro N
  induction N with
  | zero => intro v h; have := size_pos v; omega
  | succ N ih =>
    intro v h hb
    obtain ⟨k, y, t, l, m⟩ := v
    have hs : sizeJ (.mk k y t l m) = 1 + t.length + sizeL l + sizeM m := by rw [sizeJ]
    by_cases h5 : k = 5
    · subst h5
      refine jdepth_arr y t l m (fun x hx => ?_) (by omega)
      have := size_list hx
      exact ih x (by omega) (by omega)
    by_cases h6 : k = 6
    · subst h6
      refine jdepth_obj y t l m (fun x hx => ?_) (by omega)
      have := size_mem hx
      exact ih x.2 (by omega) (by omega)
    exact jdepth_leaf k y t l m h5 h6
theorem jdepth (v : JV) (h : sizeJ v ≤ 1000000) : DepthC v := jdepth_size _ v (Nat.le_refl _) h
end Go.Proofs.YtfcokdkbjajohaaGreatDoor
/- json: write, of any value; depth. -/
set_option linter.unusedVariables false
namespace Go.Proofs.YtfcokdkbjajohaaGreatDoor
open Go.RowKit

theorem jwrite_any (b : Nat) : ∀ (N : Nat) (v : JV), SizeOf.sizeOf v ≤ N → WriteC b v := by
  intro N
  induction N with
  | zero =>
    intro v h
    obtain ⟨k, y, t, l, m⟩ := v
    simp at h
  | succ N ih =>
    intro v h
    obtain ⟨k, y, t, l, m⟩ := v
    have hs : SizeOf.sizeOf (JV.mk k y t l m) = 1 + SizeOf.sizeOf k + SizeOf.sizeOf y + SizeOf.sizeOf t + SizeOf.sizeOf l + SizeOf.sizeOf m := by simp
    by_cases h5 : k = 5
    · subst h5
      exact jwrite_arr b y t l m fun x hx => ih x (by have := sizeOf_list hx; omega)
    by_cases h6 : k = 6
    · subst h6
      exact jwrite_obj b y t l m fun x hx => ih x.2 (by have := sizeOf_mem hx; omega)
    exact jwrite_leaf b k y t l m h5 h6
theorem jwrite (b : Nat) (v : JV) : WriteC b v := jwrite_any b _ v (Nat.le_refl _)
end Go.Proofs.YtfcokdkbjajohaaGreatDoor
/- json: Print. -/
set_option linter.unusedVariables false
namespace Go.Proofs.YtfcokdkbjajohaaGreatDoor
open Go.RowKit

set_option maxRecDepth 100000 in
set_option maxHeartbeats 16000000 in
theorem jprint_any (v : JV) (hv : RightC v) (ok : Nat → Prop) (cs : List Value) (w : World) (h : Rep ok w cs v) (hl : (plainJ v).length ≤ 100000) :
    Calls Tryz.prog 19 #[.agg cs.toArray] w fun e w' => e = .returned (.tuple #[.string ⟨(if rightJ v then plainJ v else []).toArray⟩, .int .i64 (if rightJ v then 0 else 10)]) ∧ Below w.heap.size w w' := by
  obtain ⟨a, c, a', c', cl, cm, rfl, -⟩ := h.parts
  unfold strV at *
  have HR0 := Lib.hid h.lt
  have HV := Lib.hid hv
  clear h hv
  go_enter Tryz.func19, Tryz.ntmps19
  go_upto_region 1 with (fail)
  have hb1 : Below w.heap.size w (w.alloc (.cells #[.int .i64 v.kind, .bool v.yes, .string ⟨v.text.toArray⟩, .slice a v.list.length c, .slice a' v.mem.length c'] 26)) := (Below.refl _ _).alloc (Nat.le_refl _) _
  have hx1 := heap_alloc_new w (.cells #[.int .i64 v.kind, .bool v.yes, .string ⟨v.text.toArray⟩, .slice a v.list.length c, .slice a' v.mem.length c'] 26)
  generalize w.alloc _ = w1 at *
  have HB1 := Lib.hid hb1
  have HX1 := Lib.hid hx1
  have hs1 : w.heap.size < w1.heap.size := (Array.getElem?_eq_some_iff.1 hx1).1
  have HR1 := Lib.hid (HR0.out.under hb1)
  have v0 : w1.cell? ⟨w.heap.size, 0, none⟩ = some (.int .i64 v.kind) := by rw [Lib.cell_of_heap hx1]; rfl
  have v1 : w1.cell? ⟨w.heap.size, 1, none⟩ = some (.bool v.yes) := by rw [Lib.cell_of_heap hx1]; rfl
  have v2 : w1.cell? ⟨w.heap.size, 2, none⟩ = some (.string ⟨v.text.toArray⟩) := by rw [Lib.cell_of_heap hx1]; rfl
  have v3 : w1.cell? ⟨w.heap.size, 3, none⟩ = some (.slice a v.list.length c) := by rw [Lib.cell_of_heap hx1]; rfl
  have v4 : w1.cell? ⟨w.heap.size, 4, none⟩ = some (.slice a' v.mem.length c') := by rw [Lib.cell_of_heap hx1]; rfl
  clear hb1 hx1 HR0
  go_wp2_with fail
  refine (HV.out _ _ w1 HR1.out).mono ?_
  rintro e w2 ⟨rfl, hb2⟩
  have HB2 := Lib.hid (HB1.out.trans (hb2.mono HB1.out.size))
  have HX2 := Lib.hid ((hb2.block _ hs1).trans HX1.out)
  have hs2 : w.heap.size < w2.heap.size := Nat.lt_of_lt_of_le hs1 hb2.size
  have HR2 := Lib.hid (HR1.out.under hb2)
  clear hb2 v0 v1 v2 v3 v4 HR1 HX1 HB1
  cases hr : rightJ v with
  | false =>
    go_wp2_with fail
    all_goals (refine bodyPost_ret (v := .tuple #[.string ⟨#[]⟩, .int .i64 10]) (by simp [results, Tryz.results19, go_sem]) rfl ?_; exact ⟨rfl, HB2.out⟩)
  | true =>
    go_upto_region 4 with (fail)
    have HBN := Lib.hid (BldZ.fresh w2)
    have hb3 : Below w2.heap.size w2 (w2.alloc (.cells #[.pointer none, .slice none 0 0] 102 (0, 0))) := (Below.refl _ _).alloc (Nat.le_refl _) _
    generalize w2.alloc _ = w3 at *
    have HX3 := Lib.hid ((hb3.block _ hs2).trans HX2.out)
    have HB3 := Lib.hid (HB2.out.trans (hb3.mono HB2.out.size))
    have HR3 := Lib.hid ((HR2.out.under hb3).mono fun k hk => (show k < w2.heap.size by have := hk.2; omega))
    have v0 : w3.cell? ⟨w.heap.size, 0, none⟩ = some (.int .i64 v.kind) := by rw [Lib.cell_of_heap HX3.out]; rfl
    have v1 : w3.cell? ⟨w.heap.size, 1, none⟩ = some (.bool v.yes) := by rw [Lib.cell_of_heap HX3.out]; rfl
    have v2 : w3.cell? ⟨w.heap.size, 2, none⟩ = some (.string ⟨v.text.toArray⟩) := by rw [Lib.cell_of_heap HX3.out]; rfl
    have v3 : w3.cell? ⟨w.heap.size, 3, none⟩ = some (.slice a v.list.length c) := by rw [Lib.cell_of_heap HX3.out]; rfl
    have v4 : w3.cell? ⟨w.heap.size, 4, none⟩ = some (.slice a' v.mem.length c') := by rw [Lib.cell_of_heap HX3.out]; rfl
    clear hb3
    go_wp2_with fail
    refine (jwrite w2.heap.size v _ [] w3 HR3.out HBN.out (by simpa using hl)).mono ?_
    rintro e w4 ⟨rfl, hb4, hf4⟩
    have HB4 := Lib.hid hb4
    have HF4 := Lib.hid (HB3.out.trans (hf4.below.mono (Nat.le_of_lt hs2)))
    clear hb4 hf4
    go_wp2_with fail
    refine (BString_any w2.heap.size _ w4 HB4.out.bld).mono ?_
    rintro e w5 ⟨rfl, _, hb5, _⟩
    have HB5 := Lib.hid (HF4.out.trans (hb5.mono (Nat.le_of_lt hs2)))
    clear hb5
    go_wp2_with fail
    refine bodyPost_ret (v := .tuple #[.string ⟨(plainJ v).toArray⟩, .int .i64 0]) (by simp [results, Tryz.results19, go_sem]) rfl ?_
    exact ⟨rfl, HB5.out⟩
end Go.Proofs.YtfcokdkbjajohaaGreatDoor
/- The anchor of klaxonlaw06. -/
set_option linter.unusedVariables false
namespace Go.Proofs.YtfcokdkbjajohaaGreatDoor
open Go.RowKit

def ancB : List UInt8 := [123, 32, 34, 97, 34, 32, 58, 32, 91, 49, 44, 32, 45, 48, 46, 53, 101, 51, 44, 32, 34, 92, 117, 48, 48, 101, 57, 92, 110, 34, 93, 32, 125]
def ancC : Array Value := (Lib.byteCells ancB).toArray
def ancV : JV := jobj [([97], jarr [jnum [49], jnum [45, 48, 46, 53, 101, 51], jstr [195, 169, 10]])]
set_option maxRecDepth 100000 in
theorem anc_parse : parseL ancB 3 = (ancV, 0) := by kernel_rfl
theorem anc_right : rightJ ancV = true := by decide +kernel
theorem anc_plain : plainJ ancV = [123, 34, 97, 34, 58, 91, 49, 44, 45, 48, 46, 53, 101, 51, 44, 34, 195, 169, 92, 110, 34, 93, 125] := by decide +kernel
theorem anc_depth : depthJ ancV = 3 := by decide +kernel
theorem anc_size : sizeJ ancV ≤ 1000 := by decide +kernel
set_option maxRecDepth 100000 in
set_option maxHeartbeats 16000000 in
theorem anchor06_any (w : World) : Calls Tryz.prog 10 #[] w fun e w' => e = .returned (.bool true) ∧ Below w.heap.size w w' := by
  have kc := fun (w : World) (C : Array Value) (n c : Nat) => Lib.run_convert_bytes_const (P := Tryz.prog) w 41 5 C n c Tryz.underlying41 Tryz.underlying5
  go_enter Tryz.func10, Tryz.ntmps10
  go_wp2_with fail
  generalize hw1 : w.alloc _ = w1
  have hA : Rd w1 (some ⟨w.heap.size, 0, none⟩) ancB := by rw [← hw1]; exact Rd.of_lit (T := 5) (fr := (33, 34)) _ (by rw [heap_alloc_new]; rfl)
  have HB1 : Hid (Below w.heap.size w w1) := Lib.hid (by rw [← hw1]; exact (Below.refl _ _).alloc (Nat.le_refl _) _)
  clear kc hw1
  refine (parse_any ancB (some ⟨w.heap.size, 0, none⟩) 33 3 w1 hA (by decide)).mono ?_
  rw [anc_parse]
  rintro e w2 ⟨hb2, cs, A, rfl, hrep⟩
  have HB2 := Lib.hid (HB1.out.trans (hb2.mono HB1.out.size))
  have HR2 := Lib.hid hrep
  obtain ⟨a, c, a', c', cl, cm, rfl, -⟩ := hrep.parts
  unfold strV at *
  clear hb2 hrep hA HB1
  generalize ancV.text = tx at *
  generalize ancV.kind = kx at *
  generalize ancV.yes = yx at *
  generalize ancV.list.length = lx at *
  generalize ancV.mem.length = mx at *
  go_upto_region 2 with (fail)
  generalize hw3 : w2.alloc _ = w3
  have hb3 : Below w2.heap.size w2 w3 := by rw [← hw3]; exact (Below.refl _ _).alloc (Nat.le_refl _) _
  have hx3 : w3.heap[w2.heap.size]? = some (.cells #[.int .i64 kx, .bool yx, .string ⟨tx.toArray⟩, .slice a lx c, .slice a' mx c'] 26 (0, 0)) := by rw [← hw3]; exact heap_alloc_new _ _
  have HB3 := Lib.hid (HB2.out.trans (hb3.mono HB2.out.size))
  have HR3 := Lib.hid (HR2.out.under hb3)
  have HX3 := Lib.hid hx3
  have hs3 : w2.heap.size < w3.heap.size := (Array.getElem?_eq_some_iff.1 hx3).1
  have v0 : w3.cell? ⟨w2.heap.size, 0, none⟩ = some (.int .i64 kx) := by rw [Lib.cell_of_heap hx3]; rfl
  have v1 : w3.cell? ⟨w2.heap.size, 1, none⟩ = some (.bool yx) := by rw [Lib.cell_of_heap hx3]; rfl
  have v2 : w3.cell? ⟨w2.heap.size, 2, none⟩ = some (.string ⟨tx.toArray⟩) := by rw [Lib.cell_of_heap hx3]; rfl
  have v3 : w3.cell? ⟨w2.heap.size, 3, none⟩ = some (.slice a lx c) := by rw [Lib.cell_of_heap hx3]; rfl
  have v4 : w3.cell? ⟨w2.heap.size, 4, none⟩ = some (.slice a' mx c') := by rw [Lib.cell_of_heap hx3]; rfl
  clear hw3 hb3 hx3 HR2 HB2
  go_wp2_with fail
  refine (jprint_any ancV (jright ancV (Nat.le_trans anc_size (by decide))) _ [.int .i64 kx, .bool yx, .string ⟨tx.toArray⟩, .slice a lx c, .slice a' mx c'] w3 HR3.out (by rw [anc_plain]; decide)).mono ?_
  rw [anc_right, anc_plain]
  rintro e w4 ⟨rfl, hb4⟩
  have HB4 := Lib.hid (HB3.out.trans (hb4.mono HB3.out.size))
  have HR4 := Lib.hid (HR3.out.under hb4)
  have hx4 := (hb4.block _ hs3).trans HX3.out
  have u0 : w4.cell? ⟨w2.heap.size, 0, none⟩ = some (.int .i64 kx) := by rw [Lib.cell_of_heap hx4]; rfl
  have u1 : w4.cell? ⟨w2.heap.size, 1, none⟩ = some (.bool yx) := by rw [Lib.cell_of_heap hx4]; rfl
  have u2 : w4.cell? ⟨w2.heap.size, 2, none⟩ = some (.string ⟨tx.toArray⟩) := by rw [Lib.cell_of_heap hx4]; rfl
  have u3 : w4.cell? ⟨w2.heap.size, 3, none⟩ = some (.slice a lx c) := by rw [Lib.cell_of_heap hx4]; rfl
  have u4 : w4.cell? ⟨w2.heap.size, 4, none⟩ = some (.slice a' mx c') := by rw [Lib.cell_of_heap hx4]; rfl
  clear hb4 hx4 v0 v1 v2 v3 v4 HX3 HR3 HB3 hs3
  go_wp2_with fail
  refine (jdepth ancV (Nat.le_trans anc_size (by decide)) _ _ w4 HR4.out).mono ?_
  rw [anc_depth]
  rintro e w5 ⟨rfl, hb5⟩
  have HB5 := Lib.hid (HB4.out.trans (hb5.mono HB4.out.size))
  clear hb5 u0 u1 u2 u3 u4
  go_wp2_with fail
  refine bodyPost_ret (results_tmp rfl _ _ _) rfl ?_
  exact ⟨rfl, HB5.out⟩
end Go.Proofs.YtfcokdkbjajohaaGreatDoor
/- json: Same. -/
set_option linter.unusedVariables false
namespace Go.Proofs.YtfcokdkbjajohaaGreatDoor
open Go.RowKit

def sameJ (v u : JV) : Bool := rightJ v && (rightJ u && (plainJ v == plainJ u))
theorem same_self {v : JV} (h : rightJ v = true) : sameJ v v = true := by simp [sameJ, h]
set_option maxRecDepth 100000 in
set_option maxHeartbeats 16000000 in
theorem jsame_any (v u : JV) (ok ok' : Nat → Prop) (cs cs' : List Value) (w : World) (h : Rep ok w cs v) (h' : Rep ok' w cs' u) (hv : sizeJ v ≤ 12000) (hu : sizeJ u ≤ 12000) :
    Calls Tryz.prog 21 #[.agg cs.toArray, .agg cs'.toArray] w fun e w' => e = .returned (.bool (sameJ v u)) ∧ Below w.heap.size w w' := by
  have hpv := plain_size v
  have hpu := plain_size u
  have HR := Lib.hid h.lt
  have HR' := Lib.hid h'.lt
  obtain ⟨a, c, a', c', cl, cm, rfl, -⟩ := h.parts
  obtain ⟨xa, xc, xa', xc', xcl, xcm, rfl, -⟩ := h'.parts
  unfold strV at *
  have HP : Hid (∀ w1, Rep (fun b => ok b ∧ b < w.heap.size) w1 [.int .i64 v.kind, .bool v.yes, .string ⟨v.text.toArray⟩, .slice a v.list.length c, .slice a' v.mem.length c'] v → _) := Lib.hid fun w1 h1 => jprint_any v (jright v (by omega)) _ _ w1 h1 (by omega)
  have HP' : Hid (∀ w1, Rep (fun b => ok' b ∧ b < w.heap.size) w1 [.int .i64 u.kind, .bool u.yes, .string ⟨u.text.toArray⟩, .slice xa u.list.length xc, .slice xa' u.mem.length xc'] u → _) := Lib.hid fun w1 h1 => jprint_any u (jright u (by omega)) _ _ w1 h1 (by omega)
  have HSM : Hid (sameJ v u = (rightJ v && (rightJ u && ((if rightJ v then plainJ v else []) == (if rightJ u then plainJ u else []))))) := Lib.hid (by
    unfold sameJ
    cases rightJ v <;> cases rightJ u <;> rfl)
  clear h h' hpv hpu
  generalize sameJ v u = SM at *
  generalize v.kind = k1 at *
  generalize v.yes = y1 at *
  generalize v.text = t1 at *
  generalize v.list.length = l1 at *
  generalize v.mem.length = m1 at *
  generalize u.kind = k2 at *
  generalize u.yes = y2 at *
  generalize u.text = t2 at *
  generalize u.list.length = l2 at *
  generalize u.mem.length = m2 at *
  generalize hPV : (if rightJ v then plainJ v else []) = PV at *
  generalize hPU : (if rightJ u then plainJ u else []) = PU at *
  go_enter Tryz.func21, Tryz.ntmps21
  go_upto_region 1 with (fail)
  generalize hw1 : (w.alloc _).alloc _ = w1
  have hb1 : Below w.heap.size w w1 := by rw [← hw1]; exact ((Below.refl _ _).alloc (Nat.le_refl _) _).alloc (by simp) _
  have hx1 : w1.heap[w.heap.size]? = some (.cells #[.int .i64 k1, .bool y1, .string ⟨t1.toArray⟩, .slice a l1 c, .slice a' m1 c'] 26 (0, 0)) := by rw [← hw1]; exact block_alloc (heap_alloc_new w _) _
  have hx2 : w1.heap[w.heap.size + 1]? = some (.cells #[.int .i64 k2, .bool y2, .string ⟨t2.toArray⟩, .slice xa l2 xc, .slice xa' m2 xc'] 26 (0, 0)) := by
    rw [← hw1]
    have e : w.heap.size + 1 = (w.alloc (.cells #[.int .i64 k1, .bool y1, .string ⟨t1.toArray⟩, .slice a l1 c, .slice a' m1 c'] 26)).heap.size := by simp
    rw [e]
    exact heap_alloc_new _ _
  have HB1 := Lib.hid hb1
  have HX1 := Lib.hid hx1
  have HX2 := Lib.hid hx2
  have hs1 : w.heap.size + 1 < w1.heap.size := (Array.getElem?_eq_some_iff.1 hx2).1
  have v0 : w1.cell? ⟨w.heap.size, 0, none⟩ = some (.int .i64 k1) := by rw [Lib.cell_of_heap hx1]; rfl
  have v1 : w1.cell? ⟨w.heap.size, 1, none⟩ = some (.bool y1) := by rw [Lib.cell_of_heap hx1]; rfl
  have v2 : w1.cell? ⟨w.heap.size, 2, none⟩ = some (.string ⟨t1.toArray⟩) := by rw [Lib.cell_of_heap hx1]; rfl
  have v3 : w1.cell? ⟨w.heap.size, 3, none⟩ = some (.slice a l1 c) := by rw [Lib.cell_of_heap hx1]; rfl
  have v4 : w1.cell? ⟨w.heap.size, 4, none⟩ = some (.slice a' m1 c') := by rw [Lib.cell_of_heap hx1]; rfl
  clear hw1 hb1 hx1 hx2
  go_wp2_with fail
  refine (HP.out w1 (HR.out.keep fun b hb _ => HB1.out.block b hb.2)).mono ?_
  rintro e w2 ⟨rfl, hb2⟩
  have HB2 := Lib.hid (HB1.out.trans (hb2.mono HB1.out.size))
  have hx2 := (hb2.block _ hs1).trans HX2.out
  have u0 : w2.cell? ⟨w.heap.size + 1, 0, none⟩ = some (.int .i64 k2) := by rw [Lib.cell_of_heap hx2]; rfl
  have u1 : w2.cell? ⟨w.heap.size + 1, 1, none⟩ = some (.bool y2) := by rw [Lib.cell_of_heap hx2]; rfl
  have u2 : w2.cell? ⟨w.heap.size + 1, 2, none⟩ = some (.string ⟨t2.toArray⟩) := by rw [Lib.cell_of_heap hx2]; rfl
  have u3 : w2.cell? ⟨w.heap.size + 1, 3, none⟩ = some (.slice xa l2 xc) := by rw [Lib.cell_of_heap hx2]; rfl
  have u4 : w2.cell? ⟨w.heap.size + 1, 4, none⟩ = some (.slice xa' m2 xc') := by rw [Lib.cell_of_heap hx2]; rfl
  clear hb2 hx2 v0 v1 v2 v3 v4
  generalize rightJ v = r1 at *
  cases r1 <;>
  · go_wp2_with fail
    refine (HP'.out w2 (HR'.out.keep fun b hb _ => HB2.out.block b hb.2)).mono ?_
    rintro e w3 ⟨rfl, hb3⟩
    have HB3 := Lib.hid (HB2.out.trans (hb3.mono HB2.out.size))
    clear hb3 u0 u1 u2 u3 u4
    generalize rightJ u = r2 at *
    cases r2 <;>
    · go_wp2_with fail
      refine bodyPost_ret (results_tmp rfl _ _ _) rfl ?_
      exact ⟨by rw [HSM.out]; simp, HB3.out⟩
end Go.Proofs.YtfcokdkbjajohaaGreatDoor
/- What the library's own variables hold. -/
set_option linter.unusedVariables false
namespace Go.Proofs.YtfcokdkbjajohaaGreatDoor
open Go.RowKit

theorem var_below {w w' : World} {n : String} {cs : Array Value} (h : w.var? Tryz.prog n = some cs) (hb : Below w.heap.size w w') : w'.var? Tryz.prog n = some cs := by
  unfold World.var? at h ⊢
  cases hg : Tryz.prog.globalNamed n with
  | none => simp [hg] at h
  | some g =>
    simp only [hg, Option.bind_some] at h ⊢
    have hlt : g < w.heap.size := by
      rcases Nat.lt_or_ge g w.heap.size with h' | h'
      · exact h'
      · simp [Array.getElem?_eq_none h'] at h
    rw [hb.block g hlt]
    exact h
def Pow (w : World) : Prop := Lib.TabIs Tryz.prog w "internal/strconv.uint64pow10" .u64 Lib.pow10Tab
theorem Pow.below {w w' : World} (h : Pow w) (hb : Below w.heap.size w w') : Pow w' := by
  unfold Pow Lib.TabIs at h ⊢
  exact var_below h hb
/-- An error of the library's own. -/
def Sent (w : World) (n : String) : Prop := ∃ tp p, w.var? Tryz.prog n = some #[.iface tp p]
theorem Sent.below {w w' : World} {n : String} (h : Sent w n) (hb : Below w.heap.size w w') : Sent w' n := by
  obtain ⟨t, p, e⟩ := h
  exact ⟨t, p, var_below e hb⟩
def Std3 (w : World) : Prop := Pow w ∧ Sent w "strconv.ErrRange" ∧ Sent w "strconv.ErrSyntax"
theorem Std3.below {w w' : World} (h : Std3 w) (hb : Below w.heap.size w w') : Std3 w' := ⟨h.1.below hb, h.2.1.below hb, h.2.2.below hb⟩
theorem itoa_fn (n : Int) (h0 : -9223372036854775808 ≤ n) (h1 : n ≤ 9223372036854775807) (w : World) (hp : Pow w) :
    Calls Tryz.prog 65 #[.int .i64 n] w fun e w' => e = .returned (.string ⟨(Lib.itoa n).toArray⟩) ∧ Below w.heap.size w w' := by
  refine (Tryz.strconv_Itoa n h0 h1 w hp).mono ?_
  rintro e w' ⟨rfl, k, os, rfl⟩
  exact ⟨rfl, Lib.below_grow _ _ (Nat.le_refl _) k os⟩
end Go.Proofs.YtfcokdkbjajohaaGreatDoor
/- Numbers as decimal digits. Plain. -/
set_option linter.unusedVariables false
namespace Go.Proofs.YtfcokdkbjajohaaGreatDoor
open Go.Lib

theorem digit_at : ∀ d : Fin 10, (UInt8.ofNat (48 + d.1)).toNat = 48 + d.1 := by decide
theorem digit_nat (d : Nat) (h : d < 10) : (UInt8.ofNat (48 + d)).toNat = 48 + d := digit_at ⟨d, h⟩
theorem digitVal_dig (d : Nat) (h : d < 10) : digitVal (UInt8.ofNat (48 + d)) = some d := by
  unfold digitVal
  rw [digit_nat d h, if_pos (by omega)]
  congr 1
  omega
theorem decFrom_snoc : ∀ (l : List UInt8) (acc : Nat) (d : UInt8), decFrom acc (l ++ [d]) = (decFrom acc l).bind fun v => (digitVal d).map fun k => v * 10 + k
  | [], acc, d => by
    simp only [List.nil_append, decFrom, Option.bind_some]
    cases digitVal d <;> rfl
  | b :: l, acc, d => by
    simp only [List.cons_append, decFrom]
    cases digitVal b with
    | none => rfl
    | some k => exact decFrom_snoc l _ d
theorem dec_small (u : Nat) (h : u < 10) : decDigits u = [UInt8.ofNat (48 + u)] := by rw [decDigits, dif_pos h]
theorem dec_big (u : Nat) (h : ¬ u < 10) : decDigits u = decDigits (u / 10) ++ [UInt8.ofNat (48 + u % 10)] := by rw [decDigits, dif_neg h]
theorem dec_all (u : Nat) : ∀ c ∈ decDigits u, 48 ≤ c.toNat ∧ c.toNat ≤ 57 := by
  induction u using Nat.strongRecOn with
  | _ u ih =>
    intro c hc
    by_cases h : u < 10
    · rw [dec_small u h] at hc
      simp only [List.mem_singleton] at hc
      rw [hc, digit_nat u h]
      omega
    · rw [dec_big u h] at hc
      rcases List.mem_append.1 hc with hc | hc
      · exact ih (u / 10) (by omega) c hc
      · simp only [List.mem_singleton] at hc
        rw [hc, digit_nat (u % 10) (by omega)]
        omega
theorem dec_ne (u : Nat) : decDigits u ≠ [] := by
  by_cases h : u < 10
  · rw [dec_small u h]; simp
  · rw [dec_big u h]; simp
theorem decFrom_dec (u : Nat) : decFrom 0 (decDigits u) = some u := by
  induction u using Nat.strongRecOn with
  | _ u ih =>
    by_cases h : u < 10
    · rw [dec_small u h]
      simp only [decFrom, digitVal_dig u h]
      congr 1
      omega
    · rw [dec_big u h, decFrom_snoc, ih (u / 10) (by omega), digitVal_dig (u % 10) (by omega)]
      simp only [Option.bind_some, Option.map_some]
      congr 1
      omega
theorem dec_inj {u v : Nat} (h : decDigits u = decDigits v) : u = v := by
  have h1 := decFrom_dec u
  rw [h, decFrom_dec v] at h1
  exact (Option.some.inj h1).symm
theorem dec_head (u : Nat) (h : 1 ≤ u) : (decDigits u).head? ≠ some 48 := by
  induction u using Nat.strongRecOn with
  | _ u ih =>
    by_cases h10 : u < 10
    · rw [dec_small u h10]
      simp only [List.head?_cons, ne_eq, Option.some.injEq]
      intro e
      have h1 := digit_nat u h10
      rw [e] at h1
      have : (48 : UInt8).toNat = 48 := rfl
      omega
    · rw [dec_big u h10]
      have hi := ih (u / 10) (by omega) (by omega)
      have hne := dec_ne (u / 10)
      cases hd : decDigits (u / 10) with
      | nil => exact absurd hd hne
      | cons a r =>
        rw [hd] at hi
        simpa using hi
theorem dec_len (u k : Nat) (hk : 1 ≤ k) (h : u < 10 ^ k) : (decDigits u).length ≤ k := by
  induction k generalizing u with
  | zero => omega
  | succ k ih =>
    by_cases h10 : u < 10
    · rw [dec_small u h10]; simp
    · rw [dec_big u h10, List.length_append]
      have hk1 : 1 ≤ k := by
        rcases Nat.eq_zero_or_pos k with e | e
        · subst e; omega
        · exact e
      have := ih (u / 10) hk1 (by rw [Nat.pow_succ] at h; omega)
      simp only [List.length_cons, List.length_nil]
      omega
theorem digitVal_back {c : UInt8} {d : Nat} (h : digitVal c = some d) : d < 10 ∧ c = UInt8.ofNat (48 + d) := by
  unfold digitVal at h
  split at h
  · rename_i hc
    simp only [Option.some.injEq] at h
    refine ⟨by omega, UInt8.toNat_inj.1 ?_⟩
    rw [digit_nat d (by omega)]
    omega
  · cases h
theorem decFrom_pos : ∀ (l : List UInt8) (acc v : Nat), 1 ≤ acc → decFrom acc l = some v → 1 ≤ v
  | [], acc, v, h, e => by simp only [decFrom, Option.some.injEq] at e; omega
  | b :: l, acc, v, h, e => by
    simp only [decFrom] at e
    cases hd : digitVal b with
    | none => rw [hd] at e; cases e
    | some d => rw [hd] at e; exact decFrom_pos l _ v (by omega) e
/-- A row of digits that doesn't begin with 0 is its number's. -/
theorem dec_of : ∀ (n : Nat) (l : List UInt8) (u : Nat), l.length = n → l ≠ [] → l.head? ≠ some 48 → decFrom 0 l = some u → decDigits u = l ∧ 1 ≤ u := by
  intro n
  induction n with
  | zero => intro l u h hne; exact absurd (List.eq_nil_of_length_eq_zero h) hne
  | succ n ih =>
    intro l u h hne hh hd
    obtain ⟨r, d, rfl⟩ : ∃ r d, l = r ++ [d] := ⟨l.dropLast, l.getLast hne, (List.dropLast_concat_getLast hne).symm⟩
    rw [decFrom_snoc] at hd
    cases hr : decFrom 0 r with
    | none => rw [hr] at hd; cases hd
    | some v =>
      rw [hr] at hd
      simp only [Option.bind_some, Option.map_eq_some_iff] at hd
      obtain ⟨k, hk, rfl⟩ := hd
      obtain ⟨hk10, rfl⟩ := digitVal_back hk
      by_cases hrn : r = []
      · subst hrn
        simp only [decFrom, Option.some.injEq] at hr
        subst hr
        have hk0 : k ≠ 0 := by
          intro e
          subst e
          exact hh rfl
        rw [dec_small _ (by omega)]
        exact ⟨by simp, by omega⟩
      · have hrh : r.head? ≠ some 48 := by
          cases r with
          | nil => exact absurd rfl hrn
          | cons a t => simpa using hh
        obtain ⟨h1, h2⟩ := ih r v (by simp at h; omega) hrn hrh hr
        rw [dec_big _ (by omega)]
        rw [show (v * 10 + k) / 10 = v by omega, show (v * 10 + k) % 10 = k by omega, h1]
        exact ⟨rfl, by omega⟩
theorem atoi_dec (u : Nat) : atoi (decDigits u) = some (u : Int) := by
  have ha := dec_all u
  have hf := decFrom_dec u
  cases h : decDigits u with
  | nil => exact absurd h (dec_ne u)
  | cons b r =>
    rw [h] at ha hf
    have hb := ha b (by simp)
    have e1 : (b == 45) = false := by
      rw [beq_eq_false_iff_ne]
      rintro rfl
      have : (45 : UInt8).toNat = 45 := rfl
      omega
    have e2 : (b == 43) = false := by
      rw [beq_eq_false_iff_ne]
      rintro rfl
      have : (43 : UInt8).toNat = 43 := rfl
      omega
    unfold atoi
    simp only [e1, e2]
    unfold decNat
    simp only [List.isEmpty_cons, Bool.false_eq_true, if_false]
    rw [hf]
    rfl
theorem dec_no (u : Nat) (c : UInt8) (h : c.toNat < 48 ∨ 57 < c.toNat) : c ∉ decDigits u := by
  intro hm
  have := dec_all u c hm
  omega
end Go.Proofs.YtfcokdkbjajohaaGreatDoor
/- json: whole numbers as texts. Plain. -/
set_option linter.unusedVariables false
namespace Go.Proofs.YtfcokdkbjajohaaGreatDoor
open Go.Lib

theorem dv_digit {c : UInt8} (h : 48 ≤ c.toNat ∧ c.toNat ≤ 57) : digitVal c = some (c.toNat - 48) := by
  have : c = UInt8.ofNat (48 + (c.toNat - 48)) := by
    apply UInt8.toNat_inj.1
    rw [digit_nat _ (by omega)]
    omega
  rw [this, digitVal_dig _ (by omega), digit_nat _ (by omega)]
  congr 1
  omega
theorem dv_some {c : UInt8} {d : Nat} (h : digitVal c = some d) : (48 ≤ c.toNat ∧ c.toNat ≤ 57) ∧ d = c.toNat - 48 := by
  obtain ⟨h1, rfl⟩ := digitVal_back h
  rw [digit_nat _ h1]
  omega
theorem decFrom_cons (acc : Nat) (c : UInt8) (l : List UInt8) : decFrom acc (c :: l) = (digitVal c).bind fun d => decFrom (acc * 10 + d) l := by
  rw [decFrom]
  cases digitVal c <;> rfl
theorem decFrom_le : ∀ (l : List UInt8) (acc u : Nat), decFrom acc l = some u → acc ≤ u
  | [], acc, u, h => by
    simp only [decFrom, Option.some.injEq] at h
    omega
  | c :: l, acc, u, h => by
    rw [decFrom_cons] at h
    cases hd : digitVal c with
    | none => rw [hd] at h; cases h
    | some d =>
      rw [hd] at h
      have := decFrom_le l _ u h
      omega
theorem pu_ok : ∀ (l : List UInt8) (M acc u : Nat), parseUintM M acc l = .ok u → decFrom acc l = some u
  | [], M, acc, u, h => by
    simp only [parseUintM, NumEnd.ok.injEq] at h
    simp [decFrom, h]
  | c :: l, M, acc, u, h => by
    rw [parseUintM] at h
    split at h
    · rename_i hc
      split at h
      · cases h
      split at h
      · cases h
      · rw [decFrom_cons, dv_digit hc]
        exact pu_ok l M _ u h
    · cases h
theorem pu_of : ∀ (l : List UInt8) (M acc u : Nat), M < 18446744073709551616 → decFrom acc l = some u → u ≤ M → parseUintM M acc l = .ok u
  | [], M, acc, u, hM, h, hu => by
    simp only [decFrom, Option.some.injEq] at h
    rw [parseUintM, h]
  | c :: l, M, acc, u, hM, h, hu => by
    rw [decFrom_cons] at h
    cases hd : digitVal c with
    | none => rw [hd] at h; cases h
    | some d =>
      rw [hd] at h
      obtain ⟨h1, h2⟩ := dv_some hd
      have hle := decFrom_le l _ u h
      rw [parseUintM, if_pos h1, if_neg (by omega), if_neg (by omega), ← h2]
      exact pu_of l M _ u hM h hu
/-- What Int makes of a text. -/
def intJ (t : List UInt8) : Int × Bool :=
  if numericB t then (match parseIntB 64 t with
    | .ok n => if -9007199254740992 ≤ n ∧ n ≤ 9007199254740992 then (n, true) else (0, false)
    | _ => (0, false)) else (0, false)
theorem dec_digs (u : Nat) : (decDigits u).dropWhile digB = [] := by
  have key : ∀ l : List UInt8, (∀ c ∈ l, digB c = true) → l.dropWhile digB = [] := by
    intro l
    induction l with
    | nil => intro _; rfl
    | cons c l ih =>
      intro h
      rw [List.dropWhile_cons_of_pos (h c (by simp))]
      exact ih fun x hx => h x (by simp [hx])
  refine key _ fun c hc => ?_
  rw [show digB c = true ↔ 48 ≤ c.toNat ∧ c.toNat ≤ 57 by simp [digB]]
  exact dec_all u c hc
theorem head_dec (u : Nat) : ∃ c q, decDigits u = c :: q ∧ 48 ≤ c.toNat ∧ c.toNat ≤ 57 := by
  cases h : decDigits u with
  | nil => exact absurd h (dec_ne u)
  | cons c q => exact ⟨c, q, rfl, dec_all u c (by rw [h]; simp)⟩
theorem numR_dec (u : Nat) : (if (decDigits u).head? = some 48 then numFrac (decDigits u).tail else (digitsL (decDigits u)).bind fun _ r => numFrac r) = .ok () [] := by
  obtain ⟨c, q, hc, h1, h2⟩ := head_dec u
  by_cases h0 : u = 0
  · subst h0
    have : decDigits 0 = [48] := by rw [dec_small 0 (by decide)]; rfl
    rw [this]
    rfl
  · rw [if_neg (dec_head u (by omega))]
    unfold digitsL
    have hp : digB (peekL (decDigits u)) = true := by rw [hc]; simp [peekL, digB, h1, h2]
    rw [if_pos hp, dec_digs]
    rfl
theorem numeric_of {t : List UInt8} (h : numR t = .ok () []) : numericB t = true := by
  unfold numericB numberL
  rw [h, PR.bind_ok]
  simp
theorem numeric_itoa (n : Int) : numericB (itoa n) = true := by
  apply numeric_of
  unfold numR
  by_cases h : 0 ≤ n
  · obtain ⟨u, rfl⟩ : ∃ u : Nat, n = (u : Int) := ⟨n.toNat, by omega⟩
    rw [itoa_nonneg]
    obtain ⟨c, q, hc, h1, h2⟩ := head_dec u
    have hs : skipL 45 (decDigits u) = decDigits u := by
      unfold skipL
      rw [if_neg (by rw [hc]; simp only [List.head?_cons, Option.some.injEq]; rintro rfl; exact absurd h1 (by decide))]
    rw [hs]
    exact numR_dec u
  · obtain ⟨u, hu, rfl⟩ : ∃ u : Nat, 1 ≤ u ∧ n = -(u : Int) := ⟨(-n).toNat, by omega, by omega⟩
    rw [itoa_neg u hu]
    have hs : skipL 45 (45 :: decDigits u) = decDigits u := rfl
    rw [hs]
    exact numR_dec u
theorem parse_itoa (n : Int) (h0 : -9223372036854775808 ≤ n) (h1 : n ≤ 9223372036854775807) : parseIntB 64 (itoa n) = .ok n := by
  by_cases h : 0 ≤ n
  · obtain ⟨u, rfl⟩ : ∃ u : Nat, n = (u : Int) := ⟨n.toNat, by omega⟩
    rw [itoa_nonneg]
    obtain ⟨c, q, hc, h2, h3⟩ := head_dec u
    have hp : parseUintB 64 (decDigits u) = .ok u := by
      unfold parseUintB
      rw [if_neg (dec_ne u)]
      exact pu_of _ _ _ _ (by decide) (decFrom_dec u) (by
        show u ≤ 2 ^ 64 - 1
        omega)
    unfold parseIntB
    rw [hc]
    simp only
    rw [if_neg (by omega), ← hc, hp]
    simp only
    have h64 : (2 : Nat) ^ (64 - 1) = 9223372036854775808 := by decide
    rw [if_neg (by rintro ⟨_, e⟩; omega), if_neg (by omega), if_neg (by omega)]
  · obtain ⟨u, hu, rfl⟩ : ∃ u : Nat, 1 ≤ u ∧ n = -(u : Int) := ⟨(-n).toNat, by omega, by omega⟩
    rw [itoa_neg u hu]
    have hp : parseUintB 64 (decDigits u) = .ok u := by
      unfold parseUintB
      rw [if_neg (dec_ne u)]
      exact pu_of _ _ _ _ (by decide) (decFrom_dec u) (by
        show u ≤ 2 ^ 64 - 1
        omega)
    unfold parseIntB
    simp only
    rw [if_pos (.inr rfl), hp]
    simp only
    have h64 : (2 : Nat) ^ (64 - 1) = 9223372036854775808 := by decide
    rw [if_neg (by rintro ⟨e, _⟩; exact e rfl), if_neg (by rintro ⟨_, e⟩; omega)]
    rfl
theorem int_itoa (n : Int) (h0 : -9223372036854775808 ≤ n) (h1 : n ≤ 9223372036854775807) : intJ (itoa n) = if -9007199254740992 ≤ n ∧ n ≤ 9007199254740992 then (n, true) else (0, false) := by
  unfold intJ
  rw [if_pos (numeric_itoa n), parse_itoa n h0 h1]
/-- Digits alone: what is parsed is them. -/
theorem decFrom_digs : ∀ (l : List UInt8) (acc u : Nat), decFrom acc l = some u → ∀ c ∈ l, 48 ≤ c.toNat ∧ c.toNat ≤ 57
  | [], acc, u, h, c, hc => by simp at hc
  | x :: l, acc, u, h, c, hc => by
    rw [decFrom_cons] at h
    cases hd : digitVal x with
    | none => rw [hd] at h; cases h
    | some d =>
      rw [hd] at h
      rcases List.mem_cons.1 hc with rfl | hc
      · exact (dv_some hd).1
      · exact decFrom_digs l _ u h c hc
/-- A text that is a whole number's: its sign and its digits. -/
theorem parse_shape {s : List UInt8} {k : Int} (h : parseIntB 64 s = .ok k) : ∃ t u, decFrom 0 t = some u ∧ t ≠ [] ∧ ((s = t ∧ k = (u : Int)) ∨ (s = 43 :: t ∧ k = (u : Int)) ∨ (s = 45 :: t ∧ k = -(u : Int))) := by
  unfold parseIntB at h
  cases s with
  | nil => cases h
  | cons c r =>
    simp only at h
    obtain ⟨t, ht⟩ : ∃ t, (if c.toNat = 43 ∨ c.toNat = 45 then r else c :: r) = t := ⟨_, rfl⟩
    rw [ht] at h
    cases hp : parseUintB 64 t with
    | ok u =>
      rw [hp] at h
      simp only at h
      have hne : t ≠ [] := by
        rintro rfl
        unfold parseUintB at hp
        rw [if_pos rfl] at hp
        cases hp
      have hd : decFrom 0 t = some u := by
        unfold parseUintB at hp
        rw [if_neg hne] at hp
        exact pu_ok _ _ _ _ hp
      split at h
      · cases h
      split at h
      · cases h
      · simp only [NumEnd.ok.injEq] at h
        refine ⟨t, u, hd, hne, ?_⟩
        by_cases c3 : c.toNat = 43
        · rw [if_pos (.inl c3)] at ht
          rw [if_neg (by omega)] at h
          have : c = 43 := UInt8.toNat_inj.1 c3
          exact .inr (.inl ⟨by rw [this, ht], h.symm⟩)
        · by_cases c5 : c.toNat = 45
          · rw [if_pos (.inr c5)] at ht
            rw [if_pos c5] at h
            have : c = 45 := UInt8.toNat_inj.1 c5
            exact .inr (.inr ⟨by rw [this, ht], h.symm⟩)
          · rw [if_neg (by omega)] at ht
            rw [if_neg c5] at h
            exact .inl ⟨ht, h.symm⟩
    | _ => rw [hp] at h; cases h
def dotE (c : UInt8) : Bool := c == 46 || c == 101 || c == 69
theorem parse_dot {s : List UInt8} {c : UInt8} (hc : c ∈ s) (hd : dotE c = true) (k : Int) : parseIntB 64 s ≠ .ok k := by
  intro h
  have hnd : ¬ (48 ≤ c.toNat ∧ c.toNat ≤ 57) ∧ c ≠ 43 ∧ c ≠ 45 := by
    unfold dotE at hd
    simp only [Bool.or_eq_true, beq_iff_eq] at hd
    rcases hd with (rfl | rfl) | rfl <;> exact ⟨by decide, by decide, by decide⟩
  obtain ⟨t, u, h1, _, (⟨rfl, _⟩ | ⟨rfl, _⟩ | ⟨rfl, _⟩)⟩ := parse_shape h
  · exact hnd.1 (decFrom_digs _ _ _ h1 c hc)
  · rcases List.mem_cons.1 hc with e | hc
    · exact hnd.2.1 e
    · exact hnd.1 (decFrom_digs _ _ _ h1 c hc)
  · rcases List.mem_cons.1 hc with e | hc
    · exact hnd.2.2 e
    · exact hnd.1 (decFrom_digs _ _ _ h1 c hc)
theorem int_dot {s : List UInt8} {c : UInt8} (hc : c ∈ s) (hd : dotE c = true) : intJ s = (0, false) := by
  unfold intJ
  split
  · split
    · rename_i n hn
      exact absurd hn (parse_dot hc hd n)
    · rfl
  · rfl
theorem int_not {s : List UInt8} (h : numericB s = false) : intJ s = (0, false) := by unfold intJ; rw [h]; rfl
/-- A number's text without point and power, behind its sign: 0, or digits of which the first is none. -/
theorem whole_tail {t : List UInt8} (h : (if t.head? = some 48 then numFrac t.tail else (digitsL t).bind fun _ r => numFrac r) = .ok () []) (hd : ∀ c ∈ t, dotE c = false) : t = [48] ∨ t.head? ≠ some 48 := by
  by_cases h0 : t.head? = some 48
  · left
    rw [if_pos h0] at h
    cases t with
    | nil => cases h0
    | cons c r =>
      simp only [List.head?_cons, Option.some.injEq] at h0
      subst h0
      simp only [List.tail_cons] at h
      cases r with
      | nil => rfl
      | cons x r =>
        have hx := hd x (by simp)
        unfold dotE at hx
        simp only [Bool.or_eq_false_iff, beq_eq_false_iff_ne] at hx
        unfold numFrac numTail at h
        simp only [List.head?_cons, Option.some.injEq] at h
        rw [if_neg hx.1.1, if_neg (by rintro (e | e); exact hx.1.2 e; exact hx.2 e)] at h
        cases h
  · exact .inr h0
theorem int_back {s : List UInt8} {k : Int} (hn : numericB s = true) (hd : ∀ c ∈ s, dotE c = false) (hi : intJ s = (k, true)) : (s = [45, 48] ∧ k = 0) ∨ itoa k = s := by
  unfold intJ at hi
  rw [if_pos hn] at hi
  cases hp : parseIntB 64 s with
  | ok n =>
    rw [hp] at hi
    simp only at hi
    split at hi
    case isFalse => cases hi
    simp only [Prod.mk.injEq, and_true] at hi
    subst hi
    have hr := numeric_spec hn
    obtain ⟨t, u, h1, hne, (⟨rfl, rfl⟩ | ⟨rfl, rfl⟩ | ⟨rfl, rfl⟩)⟩ := parse_shape hp
    · right
      have hdg := decFrom_digs _ _ _ h1
      unfold numR at hr
      have hs : skipL 45 s = s := by
        unfold skipL
        rw [if_neg]
        intro e
        cases s with
        | nil => cases e
        | cons c r =>
          simp only [List.head?_cons, Option.some.injEq] at e
          subst e
          exact absurd (hdg 45 (by simp)).1 (by decide)
      rw [hs] at hr
      rw [itoa_nonneg]
      rcases whole_tail hr hd with rfl | h0
      · have : u = 0 := by
          have := h1
          simp only [decFrom_cons] at this
          have e : digitVal 48 = some 0 := dv_digit (c := 48) (by decide)
          rw [e] at this
          simp [decFrom] at this
          omega
        subst this
        rw [dec_small 0 (by decide)]
        rfl
      · exact (dec_of _ _ _ rfl hne h0 h1).1
    · exfalso
      obtain ⟨c, q, hc, h2⟩ := num_head hn
      simp only [List.cons.injEq] at hc
      rw [← hc.1] at h2
      exact absurd h2 (by decide)
    · unfold numR at hr
      have hs : skipL 45 (45 :: t) = t := rfl
      rw [hs] at hr
      rcases whole_tail hr (fun c hc => hd c (by simp [hc])) with rfl | h0
      · left
        have : u = 0 := by
          have := h1
          simp only [decFrom_cons] at this
          have e : digitVal 48 = some 0 := dv_digit (c := 48) (by decide)
          rw [e] at this
          simp [decFrom] at this
          omega
        subst this
        exact ⟨rfl, rfl⟩
      · right
        obtain ⟨h3, h4⟩ := dec_of _ _ _ rfl hne h0 h1
        rw [itoa_neg u h4, h3]
  | _ => rw [hp] at hi; cases hi
def intV (v : JV) : Int × Bool := if v.kind = 3 then intJ v.text else (0, false)
theorem itoa_len (n : Int) (h0 : -9223372036854775808 ≤ n) (h1 : n ≤ 9223372036854775807) : (Lib.itoa n).length ≤ 30 := by
  by_cases h : 0 ≤ n
  · obtain ⟨u, rfl⟩ : ∃ u : Nat, n = (u : Int) := ⟨n.toNat, by omega⟩
    rw [Lib.itoa_nonneg]
    have := dec_len u 20 (by decide) (by have : (10 : Nat) ^ 20 = 100000000000000000000 := by decide
                                         omega)
    omega
  · obtain ⟨u, hu, rfl⟩ : ∃ u : Nat, 1 ≤ u ∧ n = -(u : Int) := ⟨(-n).toNat, by omega, by omega⟩
    rw [Lib.itoa_neg u hu, List.length_cons]
    have := dec_len u 20 (by decide) (by have : (10 : Nat) ^ 20 = 100000000000000000000 := by decide
                                         omega)
    omega
end Go.Proofs.YtfcokdkbjajohaaGreatDoor
/- json: Num, Int. -/
set_option linter.unusedVariables false
namespace Go.Proofs.YtfcokdkbjajohaaGreatDoor
open Go.RowKit

set_option maxRecDepth 100000 in
set_option maxHeartbeats 8000000 in
theorem jnum_fn (n : Int) (h0 : -9223372036854775808 ≤ n) (h1 : n ≤ 9223372036854775807) (w : World) (hp : Pow w) :
    Calls Tryz.prog 14 #[.int .i64 n] w fun e w' => e = .returned (.agg #[.int .i64 3, .bool false, .string ⟨(Lib.itoa n).toArray⟩, .slice none 0 0, .slice none 0 0]) ∧ Below w.heap.size w w' := by
  have HP := Lib.hid hp
  have HN := Lib.hid (And.intro h0 h1)
  clear hp h0 h1
  go_enter Tryz.func14, Tryz.ntmps14
  go_upto_region 1 with (fail)
  have hb1 : Below w.heap.size w (w.alloc (.cells zero5.toArray 26)) := (Below.refl _ _).alloc (Nat.le_refl _) _
  have hx1 := heap_alloc_new w (.cells zero5.toArray 26)
  unfold zero5 at hb1 hx1
  generalize hw1 : w.alloc _ = w1
  have hb1' : Below w.heap.size w w1 := by rw [← hw1]; exact hb1
  have hx1' : w1.heap[w.heap.size]? = some (.cells [Value.int .i64 0, .bool false, .string ⟨#[]⟩, .slice none 0 0, .slice none 0 0].toArray 26 (0, 0)) := by rw [← hw1]; exact hx1
  have HB1 := Lib.hid hb1'
  have HX1 := Lib.hid hx1'
  have hs1 : w.heap.size < w1.heap.size := (Array.getElem?_eq_some_iff.1 hx1').1
  clear hw1 hb1 hx1 hb1' hx1'
  go_wp2_with fail
  refine (itoa_fn n HN.out.1 HN.out.2 w1 (HP.out.below HB1.out)).mono ?_
  rintro e w2 ⟨rfl, hb2⟩
  have HB2 := Lib.hid (HB1.out.trans (hb2.mono HB1.out.size))
  have HX2 := Lib.hid ((hb2.block _ hs1).trans HX1.out)
  obtain ⟨T, hT⟩ : ∃ T, Lib.itoa n = T := ⟨_, rfl⟩
  rw [hT]
  have d0 : w2.cell? ⟨w.heap.size, 0, none⟩ = some (.int .i64 0) := by rw [Lib.cell_of_heap HX2.out]; rfl
  have d1 : w2.cell? ⟨w.heap.size, 1, none⟩ = some (.bool false) := by rw [Lib.cell_of_heap HX2.out]; rfl
  have d2 : w2.cell? ⟨w.heap.size, 2, none⟩ = some (.string ⟨#[]⟩) := by rw [Lib.cell_of_heap HX2.out]; rfl
  have d3 : w2.cell? ⟨w.heap.size, 3, none⟩ = some (.slice none 0 0) := by rw [Lib.cell_of_heap HX2.out]; rfl
  have d4 : w2.cell? ⟨w.heap.size, 4, none⟩ = some (.slice none 0 0) := by rw [Lib.cell_of_heap HX2.out]; rfl
  have f0 := Lib.frozen_of_heap HX2.out 0
  have f1 := Lib.frozen_of_heap HX2.out 1
  have f2 := Lib.frozen_of_heap HX2.out 2
  have f3 := Lib.frozen_of_heap HX2.out 3
  have f4 := Lib.frozen_of_heap HX2.out 4
  have HT := Lib.hid hT
  clear hb2 hT
  go_wp2_with fail
  have hst := value_stored HX2.out (.int .i64 3) (.bool false) (.string ⟨T.toArray⟩) (.slice none 0 0) (.slice none 0 0)
  have hbe := zero_stored HB2.out (Nat.le_refl _) (.int .i64 3) (.bool false) (.string ⟨T.toArray⟩) (.slice none 0 0) (.slice none 0 0)
  have e0 := Lib.cell_of_heap hst 0
  have e1 := Lib.cell_of_heap hst 1
  have e2 := Lib.cell_of_heap hst 2
  have e3 := Lib.cell_of_heap hst 3
  have e4 := Lib.cell_of_heap hst 4
  simp only [List.getElem?_toArray] at e0 e1 e2 e3 e4
  refine bodyPost_ret (v := .agg #[.int .i64 3, .bool false, .string ⟨T.toArray⟩, .slice none 0 0, .slice none 0 0]) (by simp [results, Tryz.results14, go_sem, e0, e1, e2, e3, e4]) rfl ?_
  exact ⟨by rw [HT.out], hbe⟩
set_option maxRecDepth 100000 in
set_option maxHeartbeats 8000000 in
theorem jint_any (v : JV) (ok : Nat → Prop) (cs : List Value) (w : World) (h : Rep ok w cs v) (hs : Std3 w) (hl : v.text.length ≤ 1000000) :
    Calls Tryz.prog 28 #[.agg cs.toArray] w fun e w' => e = .returned (.tuple #[.int .i64 (intV v).1, .bool (intV v).2]) ∧ Below w.heap.size w w' := by
  obtain ⟨a, c, a', c', cl, cm, rfl, -⟩ := h.parts
  unfold strV at *
  unfold intV
  generalize v.kind = k at *
  generalize v.yes = y at *
  generalize v.text = t at *
  generalize v.list.length = ll at *
  generalize v.mem.length = ml at *
  have HW : Hid (∀ ob, Below w.heap.size w (w.alloc ob)) := Lib.hid fun ob => (Below.refl _ _).alloc (Nat.le_refl _) _
  have HS := Lib.hid hs
  clear h hs
  by_cases hk : k = 3
  · subst hk
    have HI : Hid (intJ t = if numericB t then (match Lib.parseIntB 64 t with
      | .ok n => if -9007199254740992 ≤ n ∧ n ≤ 9007199254740992 then (n, true) else (0, false)
      | _ => (0, false)) else (0, false)) := Lib.hid rfl
    simp only [if_true]
    generalize intJ t = R at *
    obtain ⟨R1, R2⟩ := R
    go_enter Tryz.func28, Tryz.ntmps28
    go_upto_region 1 with (fail)
    have hb1 := HW.out (.cells #[.int .i64 3, .bool y, .string ⟨t.toArray⟩, .slice a ll c, .slice a' ml c'] 26)
    have hx1 := heap_alloc_new w (.cells #[.int .i64 3, .bool y, .string ⟨t.toArray⟩, .slice a ll c, .slice a' ml c'] 26)
    generalize w.alloc _ = w1 at *
    have HB1 := Lib.hid hb1
    have HX1 := Lib.hid hx1
    have hs1 : w.heap.size < w1.heap.size := (Array.getElem?_eq_some_iff.1 hx1).1
    have c0 : w1.cell? ⟨w.heap.size, 0, none⟩ = some (.int .i64 3) := by rw [Lib.cell_of_heap hx1]; rfl
    have c2 : w1.cell? ⟨w.heap.size, 2, none⟩ = some (.string ⟨t.toArray⟩) := by rw [Lib.cell_of_heap hx1]; rfl
    clear hb1 hx1
    go_wp2_with fail
    refine (jnumeric_any t w1 hl).mono ?_
    rintro e w2 ⟨rfl, hb2⟩
    have HB2 := Lib.hid (HB1.out.trans (hb2.mono HB1.out.size))
    have HS2 := Lib.hid (HS.out.below HB2.out)
    have hx2 := (hb2.block _ hs1).trans HX1.out
    have u2 : w2.cell? ⟨w.heap.size, 2, none⟩ = some (.string ⟨t.toArray⟩) := by rw [Lib.cell_of_heap hx2]; rfl
    clear hb2 hx2 c0 c2
    cases hn : numericB t with
    | false =>
      have HR : Hid (R1 = 0 ∧ R2 = false) := Lib.hid (by
        have := HI.out
        rw [hn] at this
        simpa using this)
      clear hn
      go_wp2_with fail
      refine bodyPost_ret (v := .tuple #[.int .i64 0, .bool false]) (by simp [results, Tryz.results28, go_sem]) rfl ?_
      exact ⟨by rw [HR.out.1, HR.out.2], HB2.out⟩
    | true =>
      have HI2 := HI.out
      rw [hn, if_pos rfl] at HI2
      have hlen : ((⟨t.toArray⟩ : ByteArray)).size ≤ 1000000 := by simpa [ByteArray.size] using hl
      cases hp : Lib.parseIntB 64 t with
      | ok n =>
        rw [hp] at HI2
        simp only at HI2
        have HP := Lib.hid (Tryz.strconv_ParseInt_10_at64_ok ⟨t.toArray⟩ (by omega) n (by simpa using hp) w2)
        have HBW : Hid (∀ w', (w' = w2 ∨ ∃ tt, w' = Lib.bytesWorld w2 5 tt) → Below w.heap.size w w') := Lib.hid (by
          rintro w' (rfl | ⟨tt, rfl⟩)
          · exact HB2.out
          · exact HB2.out.trans (Below.mono (B := w2.heap.size) ⟨rfl, rfl, rfl, by rw [Lib.bytesWorld_size]; omega, fun k hk => Lib.bytesWorld_at_old _ _ _ _ hk⟩ HB2.out.size))
        by_cases hlo : -9007199254740992 ≤ n
        · by_cases hhi : n ≤ 9007199254740992
          · rw [if_pos ⟨hlo, hhi⟩] at HI2
            have HR : Hid (R1 = n ∧ R2 = true) := Lib.hid (by simpa using HI2)
            have b1 : decide (n < -9007199254740992) = false := decide_eq_false (by omega)
            have b2 : decide ((9007199254740992 : Int) < n) = false := decide_eq_false (by omega)
            clear hn hp HI2 hlo hhi HI
            go_wp2_with fail
            refine HP.out.mono ?_
            rintro e w3 ⟨rfl, hw3⟩
            have HB3 := Lib.hid (HBW.out w3 hw3)
            clear hw3
            go_wp2_with fail
            refine bodyPost_ret (v := .tuple #[.int .i64 n, .bool true]) (by simp [results, Tryz.results28, go_sem]) rfl ?_
            exact ⟨by rw [HR.out.1, HR.out.2], HB3.out⟩
          · rw [if_neg (by omega)] at HI2
            have HR : Hid (R1 = 0 ∧ R2 = false) := Lib.hid (by simpa using HI2)
            have b1 : decide (n < -9007199254740992) = false := decide_eq_false (by omega)
            have b2 : decide ((9007199254740992 : Int) < n) = true := decide_eq_true (by omega)
            clear hn hp HI2 hlo hhi HI
            go_wp2_with fail
            refine HP.out.mono ?_
            rintro e w3 ⟨rfl, hw3⟩
            have HB3 := Lib.hid (HBW.out w3 hw3)
            clear hw3
            go_wp2_with fail
            refine bodyPost_ret (v := .tuple #[.int .i64 0, .bool false]) (by simp [results, Tryz.results28, go_sem]) rfl ?_
            exact ⟨by rw [HR.out.1, HR.out.2], HB3.out⟩
        · rw [if_neg (by omega)] at HI2
          have HR : Hid (R1 = 0 ∧ R2 = false) := Lib.hid (by simpa using HI2)
          have b1 : decide (n < -9007199254740992) = true := decide_eq_true (by omega)
          clear hn hp HI2 hlo HI
          go_wp2_with fail
          refine HP.out.mono ?_
          rintro e w3 ⟨rfl, hw3⟩
          have HB3 := Lib.hid (HBW.out w3 hw3)
          clear hw3
          go_wp2_with fail
          refine bodyPost_ret (v := .tuple #[.int .i64 0, .bool false]) (by simp [results, Tryz.results28, go_sem]) rfl ?_
          exact ⟨by rw [HR.out.1, HR.out.2], HB3.out⟩
      | range =>
        rw [hp] at HI2
        have HR : Hid (R1 = 0 ∧ R2 = false) := Lib.hid (by simpa using HI2)
        obtain ⟨tp, pv, hvar⟩ := HS2.out.2.1
        have HP := Lib.hid (Tryz.strconv_ParseInt_10_at64_range_var ⟨t.toArray⟩ (by omega) (by simpa using hp) tp pv w2 hvar)
        clear hn hp HI2 HI hvar
        go_wp2_with fail
        refine HP.out.mono ?_
        rintro e w3 ⟨N, rfl, -, -, hb3⟩
        have HB3 := Lib.hid (HB2.out.trans (hb3.mono HB2.out.size))
        clear hb3
        go_wp2_with fail
        refine bodyPost_ret (v := .tuple #[.int .i64 0, .bool false]) (by simp [results, Tryz.results28, go_sem]) rfl ?_
        exact ⟨by rw [HR.out.1, HR.out.2], HB3.out⟩
      | _ =>
        rw [hp] at HI2
        have HR : Hid (R1 = 0 ∧ R2 = false) := Lib.hid (by simpa using HI2)
        obtain ⟨tp, pv, hvar⟩ := HS2.out.2.2
        have HP := Lib.hid (Tryz.strconv_ParseInt_10_at64_syntax_var ⟨t.toArray⟩ (by omega) (by rw [show (⟨t.toArray⟩ : ByteArray).data.toList = t by simp, hp]; rfl) tp pv w2 hvar)
        clear hn hp HI2 HI hvar
        go_wp2_with fail
        refine HP.out.mono ?_
        rintro e w3 ⟨N, rfl, -, -, hb3⟩
        have HB3 := Lib.hid (HB2.out.trans (hb3.mono HB2.out.size))
        clear hb3
        go_wp2_with fail
        refine bodyPost_ret (v := .tuple #[.int .i64 0, .bool false]) (by simp [results, Tryz.results28, go_sem]) rfl ?_
        exact ⟨by rw [HR.out.1, HR.out.2], HB3.out⟩
  · have hkb : (k != 3) = true := by simpa using hk
    rw [if_neg hk]
    clear hk
    go_enter Tryz.func28, Tryz.ntmps28
    go_wp2_with fail
    refine bodyPost_ret (v := .tuple #[.int .i64 0, .bool false]) (by simp [results, Tryz.results28, go_sem]) rfl ?_
    exact ⟨rfl, HW.out _⟩
end Go.Proofs.YtfcokdkbjajohaaGreatDoor
/- The document's Quote. -/
set_option linter.unusedVariables false
namespace Go.Proofs.YtfcokdkbjajohaaGreatDoor
open Go.RowKit

def shortsL : List UInt8 := [98, 102, 110, 114, 116, 34, 92]
def meansL : List UInt8 := [8, 12, 10, 13, 9, 34, 92]
/-- A byte's text, when k of the short ones have been looked at. -/
def stK (c : UInt8) : Nat → List UInt8
  | 0 => if c.toNat < 32 then [92, 117, 48, 48, lowL (c.toNat / 16), lowL (c.toNat % 16)] else [c]
  | k + 1 => if meansL.getD k 0 = c then [92, shortsL.getD k 0] else stK c k
theorem stK7 : ∀ c, stK c 7 = quoteC c := u8_all _ (by decide +kernel)
theorem short_at (c : UInt8) (j : Nat) (hj : j < 7) : ∃ mj sj : UInt8, (∀ w, (Instr.index 9 (.string ⟨#[8, 12, 10, 13, 9, 34, 92]⟩) (.int .i64 (j : Int))).run Tryz.prog w = .ok (.int .u8 (mj.toNat : Nat)) w) ∧
    (∀ w, (Instr.slice 9 (.string ⟨#[98, 102, 110, 114, 116, 34, 92]⟩) (some (.int .i64 (j : Int))) (some (.int .i64 ((j : Int) + 1))) none).run Tryz.prog w = .ok (.string ⟨#[sj]⟩) w) ∧
    stK c (j + 1) = if mj = c then [92, sj] else stK c j := by
  have h1 : j < meansL.length := hj
  have h2 : j < shortsL.length := hj
  refine ⟨meansL[j], shortsL[j], fun w => str_at meansL j h1 w, fun w => st_one shortsL j h2 w, ?_⟩
  show (if meansL.getD j 0 = c then [92, shortsL.getD j 0] else stK c j) = _
  rw [List.getD_eq_getElem?_getD, List.getD_eq_getElem?_getD, List.getElem?_eq_getElem h1, List.getElem?_eq_getElem h2]
  rfl
set_option maxRecDepth 100000 in
set_option maxHeartbeats 8000000 in
theorem refquote_any (s : List UInt8) (w : World) (hs : s.length ≤ 1000000) :
    Calls Tryz.prog 17 #[.string ⟨s.toArray⟩] w fun e w' => e = .returned (.string ⟨(quoteL s).toArray⟩) ∧ Below w.heap.size w w' := by
  go_enter Tryz.func17, Tryz.ntmps17
  go_wp2_with fail
  go_loopg [5, 6] s.length (fun k out iv wr => ∃ i : Nat, out = .string ⟨(34 :: (s.take i).flatMap quoteC).toArray⟩ ∧ iv = .int .i64 (i : Int) ∧ i + k = s.length ∧ Hid (Below w.heap.size w wr))
  case atStart => exact ⟨0, rfl, rfl, by omega, Lib.hid (Below.refl _ _)⟩
  case round =>
    obtain ⟨i, rfl, rfl, hi, HB⟩ := hrel
    by_cases hlt : i < s.length
    · have hltI : (i : Int) < (s.length : Int) := by omega
      have hix := fun w => str_at s i hlt w
      have hsl := fun w => st_one s i hlt w
      have HT : Hid ((s.take (i + 1)).flatMap quoteC = (s.take i).flatMap quoteC ++ quoteC s[i]) := Lib.hid (by rw [List.take_succ_eq_append_getElem hlt, List.flatMap_append]; simp [List.flatMap_cons])
      generalize s[i] = c at *
      have hc256 := UInt8.toNat_lt c
      obtain ⟨E, hE⟩ : ∃ E, 34 :: (s.take i).flatMap quoteC = E := ⟨_, rfl⟩
      have hel : E.length ≤ 6000001 := by
        rw [← hE, List.length_cons]
        have h1 := quote_len6 (s.take i)
        have h2 : (s.take i).length ≤ s.length := by rw [List.length_take]; omega
        omega
      rw [hE]
      have HE := Lib.hid hE
      clear hE
      obtain ⟨gO, hgO⟩ : ∃ x : Nat, x = gk := ⟨_, rfl⟩
      by_cases hlo : c.toNat < 32
      · have hloI : decide (((c.toNat : Nat) : Int) < 32) = true := decide_eq_true (by omega)
        have HS0 : Hid ([92, 117, 48, 48, lowL (c.toNat / 16), lowL (c.toNat % 16)] = stK c 0) := Lib.hid (by unfold stK; rw [if_pos hlo])
        have hs1 := fun w => lows_slice8 (c.toNat / 16) (by omega) (((c.toNat : Nat) : Int) / 16) (((c.toNat : Nat) : Int) / 16 + 1) (by omega) (by omega) w
        have hs2 := fun w => lows_slice8 (c.toNat % 16) (by omega) (((c.toNat : Nat) : Int) % 16) (((c.toNat : Nat) : Int) % 16 + 1) (by omega) (by omega) w
        go_upto_region 9 with (fail)
        go_quiet (fail)
        go_wp2_with fail
        go_loopg [7, 8] 7 (fun k cv kv wr2 => ∃ j : Nat, cv = .string ⟨(stK c j).toArray⟩ ∧ kv = .int .i64 (j : Int) ∧ j + k = 7 ∧ Hid (Below w.heap.size w wr2))
        case atStart => exact ⟨0, by rw [← HS0.out]; rfl, rfl, by omega, Lib.hid (below_drewN HB.out _)⟩
        case round =>
          obtain ⟨j, rfl, rfl, hj, HB2⟩ := hrel
          by_cases hlt2 : j < 7
          · have hltJ : (j : Int) < 7 := by omega
            obtain ⟨mj, sj, hmx, hsx, hm⟩ := short_at c j hlt2
            have HM := Lib.hid hm
            clear hm
            by_cases e : mj = c
            · subst e
              have HN : Hid (stK mj (j + 1) = [92, sj]) := Lib.hid (by rw [HM.out, if_pos rfl])
              have qb : (((mj.toNat : Nat) : Int) == ((mj.toNat : Nat) : Int)) = true := by simp
              clear HM
              go_wp2_with fail
              go_quiet (fail)
              go_wp2_with fail
              go_roundg (gk - 1)
              case measure => omega
              case rel => exact ⟨j + 1, by rw [HN.out]; rfl, rfl, by omega, Lib.hid (below_drewN HB2.out _)⟩
            · have HN : Hid (stK c (j + 1) = stK c j) := Lib.hid (by rw [HM.out, if_neg e])
              have qb : (((mj.toNat : Nat) : Int) == ((c.toNat : Nat) : Int)) = false := by
                rw [beq_eq_false_iff_ne]
                exact fun h => e (UInt8.toNat_inj.1 (by omega))
              clear HM
              go_wp2_with fail
              go_quiet (fail)
              go_wp2_with fail
              go_roundg (gk - 1)
              case measure => omega
              case rel => exact ⟨j + 1, by rw [HN.out], rfl, by omega, Lib.hid (below_drewN HB2.out _)⟩
          · have hgeJ : ¬ (j : Int) < 7 := by omega
            obtain rfl : j = 7 := by omega
            obtain ⟨T, hT⟩ : ∃ T, stK c 7 = T := ⟨_, rfl⟩
            have htl : T.length ≤ 6 := by rw [← hT, stK7]; exact quoteC_six c
            have HX : Hid (E ++ T = 34 :: (s.take (i + 1)).flatMap quoteC) := Lib.hid (by rw [HT.out, ← HE.out, ← hT, stK7]; rfl)
            rw [hT]
            clear hT
            go_wp2_with fail
            go_roundg (gO - 1)
            case measure => omega
            case rel => exact ⟨i + 1, by rw [← HX.out]; exact congrArg Value.string (st_cat E T), rfl, by omega, HB2⟩
      · have hloI : decide (((c.toNat : Nat) : Int) < 32) = false := decide_eq_false (by omega)
        have HS0 : Hid ([c] = stK c 0) := Lib.hid (by unfold stK; rw [if_neg hlo])
        go_wp2_with fail
        go_loopg [7, 8] 7 (fun k cv kv wr2 => ∃ j : Nat, cv = .string ⟨(stK c j).toArray⟩ ∧ kv = .int .i64 (j : Int) ∧ j + k = 7 ∧ Hid (Below w.heap.size w wr2))
        case atStart => exact ⟨0, by rw [← HS0.out], rfl, by omega, HB⟩
        case round =>
          obtain ⟨j, rfl, rfl, hj, HB2⟩ := hrel
          by_cases hlt2 : j < 7
          · have hltJ : (j : Int) < 7 := by omega
            obtain ⟨mj, sj, hmx, hsx, hm⟩ := short_at c j hlt2
            have HM := Lib.hid hm
            clear hm
            by_cases e : mj = c
            · subst e
              have HN : Hid (stK mj (j + 1) = [92, sj]) := Lib.hid (by rw [HM.out, if_pos rfl])
              have qb : (((mj.toNat : Nat) : Int) == ((mj.toNat : Nat) : Int)) = true := by simp
              clear HM
              go_wp2_with fail
              go_quiet (fail)
              go_wp2_with fail
              go_roundg (gk - 1)
              case measure => omega
              case rel => exact ⟨j + 1, by rw [HN.out]; rfl, rfl, by omega, Lib.hid (below_drewN HB2.out _)⟩
            · have HN : Hid (stK c (j + 1) = stK c j) := Lib.hid (by rw [HM.out, if_neg e])
              have qb : (((mj.toNat : Nat) : Int) == ((c.toNat : Nat) : Int)) = false := by
                rw [beq_eq_false_iff_ne]
                exact fun h => e (UInt8.toNat_inj.1 (by omega))
              clear HM
              go_wp2_with fail
              go_quiet (fail)
              go_wp2_with fail
              go_roundg (gk - 1)
              case measure => omega
              case rel => exact ⟨j + 1, by rw [HN.out], rfl, by omega, Lib.hid (below_drewN HB2.out _)⟩
          · have hgeJ : ¬ (j : Int) < 7 := by omega
            obtain rfl : j = 7 := by omega
            obtain ⟨T, hT⟩ : ∃ T, stK c 7 = T := ⟨_, rfl⟩
            have htl : T.length ≤ 6 := by rw [← hT, stK7]; exact quoteC_six c
            have HX : Hid (E ++ T = 34 :: (s.take (i + 1)).flatMap quoteC) := Lib.hid (by rw [HT.out, ← HE.out, ← hT, stK7]; rfl)
            rw [hT]
            clear hT
            go_wp2_with fail
            go_roundg (gO - 1)
            case measure => omega
            case rel => exact ⟨i + 1, by rw [← HX.out]; exact congrArg Value.string (st_cat E T), rfl, by omega, HB2⟩
    · have hge : ¬ (i : Int) < (s.length : Int) := by omega
      obtain ⟨E, hE⟩ : ∃ E, 34 :: (s.take i).flatMap quoteC = E := ⟨_, rfl⟩
      have hel : E.length ≤ 6000001 := by
        rw [← hE, List.length_cons]
        have h1 := quote_len6 (s.take i)
        have h2 : (s.take i).length ≤ s.length := by rw [List.length_take]; omega
        omega
      have HX : Hid (E ++ [34] = quoteL s) := Lib.hid (by rw [← hE, List.take_of_length_le (by omega)]; rfl)
      rw [hE]
      clear hE
      go_wp2_with fail
      refine bodyPost_ret (results_tmp rfl _ _ _) rfl ?_
      exact ⟨by rw [← HX.out]; exact congrArg (fun x => Ending.returned (Value.string x)) (st_cat E [34]), HB.out⟩
end Go.Proofs.YtfcokdkbjajohaaGreatDoor
/- slices.Clone, rows of members. -/
set_option linter.unusedVariables false
namespace Go.Proofs.YtfcokdkbjajohaaGreatDoor
open Go.RowKit

/-- A row of any length appended to a row of the call's own. -/
theorem wpList_append_rows {ops : Array Oper} {rest : List Oper} {o : Oper} {a : Act} {w : World} {Q : Exit → Act → World → Prop} (hgd : o.guard = none) (s x : Operand) (t : TypeId)
    (ho : o.op = .call { callee := .builtin .append, args := #[s, x], argTypes := #[t, t] })
    (base : Nat) (e : TypeId) (size bytes : Nat) (ht : Tryz.prog.underlying t = some (.slice e)) (hinfo : ((Tryz.prog.info? e).bind fun i => i.zero.map fun z => (i.size, i.bytes, z.cells.size)) = some (size, bytes, size)) (hsz : 0 < size)
    (v : Value) (n : Nat) (xs : List Value) (hs : a.eval s = v) (hown : w.ownsRow base e size v n xs)
    (ad : Addr) (m c : Nat) (news : List Value) (hx : a.eval x = .slice (some ad) m c) (hl : news.length = m * size) (hnews : ∀ j u, news[j]? = some u → w.cell? (ad.add j) = some u) (h1 : ∀ u ∈ news, u.oneCell' = true)
    (hbytes : (n + m) * bytes ≤ 140737488355328) (hn : n + m ≤ 140737488355328) (hbase : base ≤ w.heap.size)
    (h : ∀ v' w', w'.ownsRow base e size v' (n + m) (xs ++ news) → w.grownBy w' v.ownBlock → (v'.ownBlock = v.ownBlock ∨ v'.ownBlock = some w.heap.size) → wpList Tryz.prog ops Q rest (a.put o.dst v') w') : wpList Tryz.prog ops Q (o :: rest) a w := by
  refine wpList_plain hgd fun K hK' => ?_
  exact op_append s x t ho base e size bytes ht hinfo hsz v n xs hs hown ad m c news hx hl hnews h1 (by unfold maxLen; omega) hbytes hbase fun v' w' h2 h3 h5 => hK' _ _ (h v' w' h2 h3 h5)
set_option maxRecDepth 100000 in
set_option maxHeartbeats 4000000 in
theorem cloneM_any (a : Option Addr) (n c : Nat) (xs : List Value) (w : World) (hr : RdC w a xs) (hl : xs.length = n * 6) (h1 : ∀ u ∈ xs, u.oneCell' = true) (hn : n ≤ 1000000) (ha : a = none → n = 0) :
    Calls Tryz.prog 66 #[.slice a n c] w fun e w' => ∃ v, e = .returned v ∧ w'.ownsRow w.heap.size 35 6 v n xs ∧ Below w.heap.size w w' := by
  have q := fun (w : World) (a : Option Addr) (n c n' c' : Nat) => Lib.run_eql_slice_nil (P := Tryz.prog) w 24 35 a n c n' c' Tryz.underlying24
  cases a with
  | none =>
    obtain rfl := ha rfl
    obtain rfl : xs = [] := List.eq_nil_of_length_eq_zero (by simpa using hl)
    clear hr ha hl h1 hn
    go_enter Tryz.func66, Tryz.ntmps66
    go_wp2_with fail
    refine bodyPost_ret (results_tmp rfl _ _ _) rfl ?_
    exact ⟨_, rfl, World.ownsRow_nil _ _ _ _, Below.refl _ _⟩
  | some ad =>
    have HR := Lib.hid hr
    have H1 := Lib.hid h1
    have HL := Lib.hid hl
    have hown : (w.alloc (.cells #[] 35)).ownsRow w.heap.size 35 6 (.slice (some ⟨w.heap.size, 0, none⟩) 0 0) 0 [] := World.ownsRow_made w #[] 0 (Nat.le_refl _) (by decide) rfl
    have hba : Below w.heap.size w (w.alloc (.cells #[] 35)) := (Below.refl _ _).alloc (Nat.le_refl _) _
    have HRA := Lib.hid (HR.out.below hba)
    have HO := Lib.hid hown
    have HB := Lib.hid hba
    have hsz := hba.size
    clear hown hba hr hl h1 ha
    go_enter Tryz.func66, Tryz.ntmps66
    go_wp2_with (at_builtin; refine wpList_append_rows rfl (.tmp 5) (.tmp 6) 24 rfl w.heap.size 35 6 96 Tryz.underlying24 (by kernel_rfl) (by decide) _ 0 [] rfl HO.out ad n c xs rfl HL.out ?c1 H1.out ?c2 ?c3 hsz ?_)
    case c1 =>
      intro j u hu
      rcases HRA.out with h | ⟨b, off, e, h⟩
      · rw [h] at hu; simp at hu
      · cases e
        rw [Addr.add_lit]
        exact h j u hu
    case c2 => omega
    case c3 => omega
    intro v1 w3 hown hgrow _
    have HB3 := Lib.hid (below_own HB.out HO.out hgrow hsz)
    have hown2 : w3.ownsRow w.heap.size 35 6 v1 n xs := by simpa using hown
    have HW3 := Lib.hid hown2
    clear hown hgrow hown2
    go_wp2_with fail
    refine bodyPost_ret (results_tmp rfl _ _ _) rfl ?_
    exact ⟨_, rfl, HW3.out, HB3.out⟩
end Go.Proofs.YtfcokdkbjajohaaGreatDoor
/- json.Obj. -/
set_option linter.unusedVariables false
namespace Go.Proofs.YtfcokdkbjajohaaGreatDoor
open Go.RowKit

theorem own_rd {B : Nat} {E : TypeId} {sz : Nat} {w : World} {v : Value} {n : Nat} {xs : List Value} (h : w.ownsRow B E sz v n xs) : ∃ a c, v = .slice a n c ∧ RdO (fun b => B ≤ b ∧ b < w.heap.size ∧ v.ownBlock = some b) w a xs ∧ n ≤ c := by
  have h' := h
  rcases h.2 with ⟨rfl, rfl⟩ | ⟨g, cap, cur, rfl, hB, hg, hle, _, _, _⟩
  · exact ⟨none, 0, rfl, .inl (List.eq_nil_of_length_eq_zero (by rw [h.1]; simp)), Nat.le_refl _⟩
  · refine ⟨_, _, rfl, .inr ⟨g, 0, rfl, ⟨hB, (Array.getElem?_eq_some_iff.1 hg).1, rfl⟩, fun i u hu => ?_⟩, hle⟩
    have := World.ownsRow.cells h' (g := g) rfl i u hu
    rw [Addr.add_lit] at this
    exact this
theorem Rep.one {ok : Nat → Prop} {w : World} {cs : List Value} {v : JV} (h : Rep ok w cs v) : ∀ u ∈ cs, u.oneCell' = true := by
  cases h with
  | mk k y t l m a c a' c' cl cm h1 h2 h3 h4 h5 h6 hc hc' =>
    intro u hu
    simp only [List.mem_cons, List.mem_nil_iff, or_false] at hu
    rcases hu with rfl | rfl | rfl | rfl | rfl <;> rfl
theorem memCells_mem : ∀ (m : List (List UInt8 × JV)) (cm : List (List Value)) (u : Value), u ∈ memCells m cm → (∃ n : List UInt8, u = strV n) ∨ ∃ r ∈ cm, u ∈ r
  | [], cm, u, h => by simp [memCells] at h
  | _ :: _, [], u, h => by simp [memCells] at h
  | p :: m, r :: cm, u, h => by
    simp only [memCells, List.mem_cons, List.mem_append] at h
    rcases h with h | h | h
    · exact .inl ⟨p.1, h⟩
    · exact .inr ⟨r, by simp, h⟩
    · rcases memCells_mem m cm u h with h | ⟨q, hq, h⟩
      · exact .inl h
      · exact .inr ⟨q, by simp [hq], h⟩
theorem RepsM.one {ok : Nat → Prop} {w : World} {cm : List (List Value)} {m : List (List UInt8 × JV)} (h : RepsM ok w cm m) : ∀ u ∈ memCells m cm, u.oneCell' = true := by
  intro u hu
  rcases memCells_mem m cm u hu with ⟨n, rfl⟩ | ⟨r, hr, hu⟩
  · rfl
  · obtain ⟨i, hi, rfl⟩ := List.mem_iff_getElem.1 hr
    exact (h.2 i hi (by rw [← h.1]; exact hi)).one u hu
theorem Reps.one {ok : Nat → Prop} {w : World} {cl : List (List Value)} {l : List JV} (h : Reps ok w cl l) : ∀ u ∈ cl.flatten, u.oneCell' = true := by
  intro u hu
  obtain ⟨r, hr, hu⟩ := List.mem_flatten.1 hu
  obtain ⟨i, hi, rfl⟩ := List.mem_iff_getElem.1 hr
  exact (h.2 i hi (by rw [← h.1]; exact hi)).one u hu
set_option maxRecDepth 100000 in
set_option maxHeartbeats 4000000 in
theorem obj_any (ok : Nat → Prop) (a : Option Addr) (c : Nat) (m : List (List UInt8 × JV)) (cm : List (List Value)) (w : World) (h3 : RdO ok w a (memCells m cm)) (h4 : RepsM ok w cm m) (hn : m.length ≤ 1000000) (ha : a = none → m.length = 0) :
    Calls Tryz.prog 16 #[.slice a m.length c] w fun e w' => Below w.heap.size w w' ∧ ∃ cs, e = .returned (.agg cs.toArray) ∧ Rep (fun b => (ok b ∧ b < w.heap.size) ∨ w.heap.size ≤ b) w' cs (jobj m) := by
  have hl := mem6_len h4
  have h1 := h4.one
  have HR := Lib.hid h3.rdc
  have HM := Lib.hid h4.lt
  have hba : Below w.heap.size w (w.alloc (.cells #[.int .i64 0, .bool false, .string ⟨#[]⟩, .slice none 0 0, .slice none 0 0] 26)) := (Below.refl _ _).alloc (Nat.le_refl _) _
  have hx := heap_alloc_new w (.cells #[.int .i64 0, .bool false, .string ⟨#[]⟩, .slice none 0 0, .slice none 0 0] 26)
  have HCL := Lib.hid (cloneM_any a m.length c (memCells m cm) _ (HR.out.below hba) hl h1 hn ha)
  clear h3 h4 hl h1 ha
  go_enter Tryz.func16, Tryz.ntmps16
  go_upto_region 1 with (fail)
  generalize w.alloc _ = w1 at *
  have HB1 := Lib.hid hba
  have HX1 := Lib.hid hx
  have hs1 : w.heap.size < w1.heap.size := (Array.getElem?_eq_some_iff.1 hx).1
  clear hba hx
  go_wp2_with fail
  refine HCL.out.mono ?_
  rintro e w2 ⟨v, rfl, hown, hb2⟩
  obtain ⟨b, d, rfl, hrd, hd⟩ := own_rd hown
  have HB2 := Lib.hid (HB1.out.trans (hb2.mono HB1.out.size))
  have hx2 := (hb2.block _ hs1).trans HX1.out
  have HX2 := Lib.hid hx2
  have d0 : w2.cell? ⟨w.heap.size, 0, none⟩ = some (.int .i64 0) := by rw [Lib.cell_of_heap hx2]; rfl
  have d1 : w2.cell? ⟨w.heap.size, 1, none⟩ = some (.bool false) := by rw [Lib.cell_of_heap hx2]; rfl
  have d2 : w2.cell? ⟨w.heap.size, 2, none⟩ = some (.string ⟨#[]⟩) := by rw [Lib.cell_of_heap hx2]; rfl
  have d3 : w2.cell? ⟨w.heap.size, 3, none⟩ = some (.slice none 0 0) := by rw [Lib.cell_of_heap hx2]; rfl
  have d4 : w2.cell? ⟨w.heap.size, 4, none⟩ = some (.slice none 0 0) := by rw [Lib.cell_of_heap hx2]; rfl
  have f0 := Lib.frozen_of_heap hx2 0
  have f1 := Lib.frozen_of_heap hx2 1
  have f2 := Lib.frozen_of_heap hx2 2
  have f3 := Lib.frozen_of_heap hx2 3
  have f4 := Lib.frozen_of_heap hx2 4
  have HRD := Lib.hid hrd
  clear hown hb2 hx2 hrd HCL
  go_wp2_with fail
  have hst := value_stored HX2.out (.int .i64 6) (.bool false) (.string ⟨#[]⟩) (.slice none 0 0) (.slice b m.length d)
  have hbe := zero_stored HB2.out (Nat.le_refl _) (.int .i64 6) (.bool false) (.string ⟨#[]⟩) (.slice none 0 0) (.slice b m.length d)
  have hot : ∀ k, k ≠ w.heap.size → (((((w2.setCell ⟨w.heap.size, 0, none⟩ (.int .i64 6)).setCell ⟨w.heap.size, 1, none⟩ (.bool false)).setCell ⟨w.heap.size, 2, none⟩ (.string ⟨#[]⟩)).setCell ⟨w.heap.size, 3, none⟩ (.slice none 0 0)).setCell ⟨w.heap.size, 4, none⟩ (.slice b m.length d)).heap[k]? = w2.heap[k]? := fun k hk => by
    rw [Below.heap_setCell _ _ _ _ hk, Below.heap_setCell _ _ _ _ hk, Below.heap_setCell _ _ _ _ hk, Below.heap_setCell _ _ _ _ hk, Below.heap_setCell _ _ _ _ hk]
  have e0 := Lib.cell_of_heap hst 0
  have e1 := Lib.cell_of_heap hst 1
  have e2 := Lib.cell_of_heap hst 2
  have e3 := Lib.cell_of_heap hst 3
  have e4 := Lib.cell_of_heap hst 4
  simp only [List.getElem?_toArray] at e0 e1 e2 e3 e4
  refine bodyPost_ret (v := .agg #[.int .i64 6, .bool false, .string ⟨#[]⟩, .slice none 0 0, .slice b m.length d]) (by simp [results, Tryz.results16, go_sem, e0, e1, e2, e3, e4]) rfl ?_
  refine ⟨hbe, [.int .i64 6, .bool false, .string ⟨#[]⟩, .slice none 0 0, .slice b m.length d], rfl, ?_⟩
  refine rep_of (l := []) (cl := []) (.inl rfl) (Reps.nil _ _) (cm := cm) ?_ ?_ (Nat.le_refl _) hd
  · exact (HRD.out.keep fun k hk _ => hot k (by have := hk.1; omega)).mono fun k hk => .inr (by have := hk.1; omega)
  · exact (HM.out.keep fun k hk _ => hbe.block k hk.2).mono fun k hk => .inl hk
end Go.Proofs.YtfcokdkbjajohaaGreatDoor
/- slices.Clone, rows of values. -/
set_option linter.unusedVariables false
namespace Go.Proofs.YtfcokdkbjajohaaGreatDoor
open Go.RowKit

set_option maxRecDepth 100000 in
set_option maxHeartbeats 4000000 in
theorem cloneV_any (a : Option Addr) (n c : Nat) (xs : List Value) (w : World) (hr : RdC w a xs) (hl : xs.length = n * 5) (h1 : ∀ u ∈ xs, u.oneCell' = true) (hn : n ≤ 1000000) (ha : a = none → n = 0) :
    Calls Tryz.prog 64 #[.slice a n c] w fun e w' => ∃ v, e = .returned v ∧ w'.ownsRow w.heap.size 26 5 v n xs ∧ Below w.heap.size w w' := by
  have q := fun (w : World) (a : Option Addr) (n c n' c' : Nat) => Lib.run_eql_slice_nil (P := Tryz.prog) w 23 26 a n c n' c' Tryz.underlying23
  cases a with
  | none =>
    obtain rfl := ha rfl
    obtain rfl : xs = [] := List.eq_nil_of_length_eq_zero (by simpa using hl)
    clear hr ha hl h1 hn
    go_enter Tryz.func64, Tryz.ntmps64
    go_wp2_with fail
    refine bodyPost_ret (results_tmp rfl _ _ _) rfl ?_
    exact ⟨_, rfl, World.ownsRow_nil _ _ _ _, Below.refl _ _⟩
  | some ad =>
    have HR := Lib.hid hr
    have H1 := Lib.hid h1
    have HL := Lib.hid hl
    have hown : (w.alloc (.cells #[] 26)).ownsRow w.heap.size 26 5 (.slice (some ⟨w.heap.size, 0, none⟩) 0 0) 0 [] := World.ownsRow_made w #[] 0 (Nat.le_refl _) (by decide) rfl
    have hba : Below w.heap.size w (w.alloc (.cells #[] 26)) := (Below.refl _ _).alloc (Nat.le_refl _) _
    have HRA := Lib.hid (HR.out.below hba)
    have HO := Lib.hid hown
    have HB := Lib.hid hba
    have hsz := hba.size
    clear hown hba hr hl h1 ha
    go_enter Tryz.func64, Tryz.ntmps64
    go_wp2_with (at_builtin; refine wpList_append_rows rfl (.tmp 5) (.tmp 6) 23 rfl w.heap.size 26 5 80 Tryz.underlying23 (by kernel_rfl) (by decide) _ 0 [] rfl HO.out ad n c xs rfl HL.out ?c1 H1.out ?c2 ?c3 hsz ?_)
    case c1 =>
      intro j u hu
      rcases HRA.out with h | ⟨b, off, e, h⟩
      · rw [h] at hu; simp at hu
      · cases e
        rw [Addr.add_lit]
        exact h j u hu
    case c2 => omega
    case c3 => omega
    intro v1 w3 hown hgrow _
    have HB3 := Lib.hid (below_own HB.out HO.out hgrow hsz)
    have hown2 : w3.ownsRow w.heap.size 26 5 v1 n xs := by simpa using hown
    have HW3 := Lib.hid hown2
    clear hown hgrow hown2
    go_wp2_with fail
    refine bodyPost_ret (results_tmp rfl _ _ _) rfl ?_
    exact ⟨_, rfl, HW3.out, HB3.out⟩
end Go.Proofs.YtfcokdkbjajohaaGreatDoor
/- json.List. -/
set_option linter.unusedVariables false
namespace Go.Proofs.YtfcokdkbjajohaaGreatDoor
open Go.RowKit

theorem flatV5_len {ok : Nat → Prop} {w : World} {cl : List (List Value)} {l : List JV} (h : Reps ok w cl l) : cl.flatten.length = l.length * 5 := by
  obtain ⟨h1, h2⟩ := h
  have h5 : ∀ r ∈ cl, r.length = 5 := fun r hr => by
    obtain ⟨i, hi, rfl⟩ := List.mem_iff_getElem.1 hr
    exact (h2 i hi (by rw [← h1]; exact hi)).len
  rw [← h1]
  clear h1 h2
  induction cl with
  | nil => rfl
  | cons r cl ih =>
    have := ih fun q hq => h5 q (by simp [hq])
    have := h5 r (by simp)
    rw [List.flatten_cons, List.length_append, List.length_cons]
    omega
set_option maxRecDepth 100000 in
set_option maxHeartbeats 4000000 in
theorem list_any (ok : Nat → Prop) (a : Option Addr) (c : Nat) (m : List JV) (cm : List (List Value)) (w : World) (h3 : RdO ok w a cm.flatten) (h4 : Reps ok w cm m) (hn : m.length ≤ 1000000) (ha : a = none → m.length = 0) :
    Calls Tryz.prog 13 #[.slice a m.length c] w fun e w' => Below w.heap.size w w' ∧ ∃ cs, e = .returned (.agg cs.toArray) ∧ Rep (fun b => (ok b ∧ b < w.heap.size) ∨ w.heap.size ≤ b) w' cs (jarr m) := by
  have hl := flatV5_len h4
  have h1 := h4.one
  have HR := Lib.hid h3.rdc
  have HM := Lib.hid h4.lt
  have hba : Below w.heap.size w (w.alloc (.cells #[.int .i64 0, .bool false, .string ⟨#[]⟩, .slice none 0 0, .slice none 0 0] 26)) := (Below.refl _ _).alloc (Nat.le_refl _) _
  have hx := heap_alloc_new w (.cells #[.int .i64 0, .bool false, .string ⟨#[]⟩, .slice none 0 0, .slice none 0 0] 26)
  have HCL := Lib.hid (cloneV_any a m.length c cm.flatten _ (HR.out.below hba) hl h1 hn ha)
  clear h3 h4 hl h1 ha
  go_enter Tryz.func13, Tryz.ntmps13
  go_upto_region 1 with (fail)
  generalize w.alloc _ = w1 at *
  have HB1 := Lib.hid hba
  have HX1 := Lib.hid hx
  have hs1 : w.heap.size < w1.heap.size := (Array.getElem?_eq_some_iff.1 hx).1
  clear hba hx
  go_wp2_with fail
  refine HCL.out.mono ?_
  rintro e w2 ⟨v, rfl, hown, hb2⟩
  obtain ⟨b, d, rfl, hrd, hd⟩ := own_rd hown
  have HB2 := Lib.hid (HB1.out.trans (hb2.mono HB1.out.size))
  have hx2 := (hb2.block _ hs1).trans HX1.out
  have HX2 := Lib.hid hx2
  have d0 : w2.cell? ⟨w.heap.size, 0, none⟩ = some (.int .i64 0) := by rw [Lib.cell_of_heap hx2]; rfl
  have d1 : w2.cell? ⟨w.heap.size, 1, none⟩ = some (.bool false) := by rw [Lib.cell_of_heap hx2]; rfl
  have d2 : w2.cell? ⟨w.heap.size, 2, none⟩ = some (.string ⟨#[]⟩) := by rw [Lib.cell_of_heap hx2]; rfl
  have d3 : w2.cell? ⟨w.heap.size, 3, none⟩ = some (.slice none 0 0) := by rw [Lib.cell_of_heap hx2]; rfl
  have d4 : w2.cell? ⟨w.heap.size, 4, none⟩ = some (.slice none 0 0) := by rw [Lib.cell_of_heap hx2]; rfl
  have f0 := Lib.frozen_of_heap hx2 0
  have f1 := Lib.frozen_of_heap hx2 1
  have f2 := Lib.frozen_of_heap hx2 2
  have f3 := Lib.frozen_of_heap hx2 3
  have f4 := Lib.frozen_of_heap hx2 4
  have HRD := Lib.hid hrd
  clear hown hb2 hx2 hrd HCL
  go_wp2_with fail
  have hst := value_stored HX2.out (.int .i64 5) (.bool false) (.string ⟨#[]⟩) (.slice b m.length d) (.slice none 0 0)
  have hbe := zero_stored HB2.out (Nat.le_refl _) (.int .i64 5) (.bool false) (.string ⟨#[]⟩) (.slice b m.length d) (.slice none 0 0)
  have hot : ∀ k, k ≠ w.heap.size → (((((w2.setCell ⟨w.heap.size, 0, none⟩ (.int .i64 5)).setCell ⟨w.heap.size, 1, none⟩ (.bool false)).setCell ⟨w.heap.size, 2, none⟩ (.string ⟨#[]⟩)).setCell ⟨w.heap.size, 3, none⟩ (.slice b m.length d)).setCell ⟨w.heap.size, 4, none⟩ (.slice none 0 0)).heap[k]? = w2.heap[k]? := fun k hk => by
    rw [Below.heap_setCell _ _ _ _ hk, Below.heap_setCell _ _ _ _ hk, Below.heap_setCell _ _ _ _ hk, Below.heap_setCell _ _ _ _ hk, Below.heap_setCell _ _ _ _ hk]
  have e0 := Lib.cell_of_heap hst 0
  have e1 := Lib.cell_of_heap hst 1
  have e2 := Lib.cell_of_heap hst 2
  have e3 := Lib.cell_of_heap hst 3
  have e4 := Lib.cell_of_heap hst 4
  simp only [List.getElem?_toArray] at e0 e1 e2 e3 e4
  refine bodyPost_ret (v := .agg #[.int .i64 5, .bool false, .string ⟨#[]⟩, .slice b m.length d, .slice none 0 0]) (by simp [results, Tryz.results13, go_sem, e0, e1, e2, e3, e4]) rfl ?_
  refine ⟨hbe, [.int .i64 5, .bool false, .string ⟨#[]⟩, .slice b m.length d, .slice none 0 0], rfl, ?_⟩
  refine rep_of (l := m) (cl := cm) ?_ ?_ (cm := []) (.inl rfl) (RepsM.nil _ _) hd (Nat.le_refl _)
  · exact (HRD.out.keep fun k hk _ => hot k (by have := hk.1; omega)).mono fun k hk => .inr (by have := hk.1; omega)
  · exact (HM.out.keep fun k hk _ => hbe.block k hk.2).mono fun k hk => .inl hk
theorem cloneV_nil (w : World) : Calls Tryz.prog 64 #[.slice none 0 0] w fun e w' => e = .returned (.slice none 0 0) ∧ w' = w := by
  have q := fun (w : World) (a : Option Addr) (n c n' c' : Nat) => Lib.run_eql_slice_nil (P := Tryz.prog) w 23 26 a n c n' c' Tryz.underlying23
  go_enter Tryz.func64, Tryz.ntmps64
  go_wp2_with fail
  refine bodyPost_ret (results_tmp rfl _ _ _) rfl ?_
  exact ⟨rfl, rfl⟩
set_option maxHeartbeats 4000000 in
theorem list_nil (w : World) : Calls Tryz.prog 13 #[.slice none 0 0] w fun e w' => e = .returned (.agg #[.int .i64 5, .bool false, .string ⟨#[]⟩, .slice none 0 0, .slice none 0 0]) ∧ Below w.heap.size w w' := by
  have hba : Below w.heap.size w (w.alloc (.cells #[.int .i64 0, .bool false, .string ⟨#[]⟩, .slice none 0 0, .slice none 0 0] 26)) := (Below.refl _ _).alloc (Nat.le_refl _) _
  have hx := heap_alloc_new w (.cells #[.int .i64 0, .bool false, .string ⟨#[]⟩, .slice none 0 0, .slice none 0 0] 26)
  go_enter Tryz.func13, Tryz.ntmps13
  go_upto_region 1 with (fail)
  generalize w.alloc _ = w1 at *
  have HB1 := Lib.hid hba
  have HX1 := Lib.hid hx
  have hs1 : w.heap.size < w1.heap.size := (Array.getElem?_eq_some_iff.1 hx).1
  clear hba hx
  go_wp2_with fail
  refine (cloneV_nil w1).mono ?_
  rintro e w2 ⟨rfl, rfl⟩
  have hx2 := HX1.out
  have d0 : w2.cell? ⟨w.heap.size, 0, none⟩ = some (.int .i64 0) := by rw [Lib.cell_of_heap hx2]; rfl
  have d1 : w2.cell? ⟨w.heap.size, 1, none⟩ = some (.bool false) := by rw [Lib.cell_of_heap hx2]; rfl
  have d2 : w2.cell? ⟨w.heap.size, 2, none⟩ = some (.string ⟨#[]⟩) := by rw [Lib.cell_of_heap hx2]; rfl
  have d3 : w2.cell? ⟨w.heap.size, 3, none⟩ = some (.slice none 0 0) := by rw [Lib.cell_of_heap hx2]; rfl
  have d4 : w2.cell? ⟨w.heap.size, 4, none⟩ = some (.slice none 0 0) := by rw [Lib.cell_of_heap hx2]; rfl
  have f0 := Lib.frozen_of_heap hx2 0
  have f1 := Lib.frozen_of_heap hx2 1
  have f2 := Lib.frozen_of_heap hx2 2
  have f3 := Lib.frozen_of_heap hx2 3
  have f4 := Lib.frozen_of_heap hx2 4
  clear hx2
  go_wp2_with fail
  have hst := value_stored HX1.out (.int .i64 5) (.bool false) (.string ⟨#[]⟩) (.slice none 0 0) (.slice none 0 0)
  have hbe := zero_stored HB1.out (Nat.le_refl _) (.int .i64 5) (.bool false) (.string ⟨#[]⟩) (.slice none 0 0) (.slice none 0 0)
  have e0 := Lib.cell_of_heap hst 0
  have e1 := Lib.cell_of_heap hst 1
  have e2 := Lib.cell_of_heap hst 2
  have e3 := Lib.cell_of_heap hst 3
  have e4 := Lib.cell_of_heap hst 4
  simp only [List.getElem?_toArray] at e0 e1 e2 e3 e4
  refine bodyPost_ret (v := .agg #[.int .i64 5, .bool false, .string ⟨#[]⟩, .slice none 0 0, .slice none 0 0]) (by simp [results, Tryz.results13, go_sem, e0, e1, e2, e3, e4]) rfl ?_
  exact ⟨rfl, hbe⟩
theorem cloneM_nil (w : World) : Calls Tryz.prog 66 #[.slice none 0 0] w fun e w' => e = .returned (.slice none 0 0) ∧ w' = w := by
  have q := fun (w : World) (a : Option Addr) (n c n' c' : Nat) => Lib.run_eql_slice_nil (P := Tryz.prog) w 24 35 a n c n' c' Tryz.underlying24
  go_enter Tryz.func66, Tryz.ntmps66
  go_wp2_with fail
  refine bodyPost_ret (results_tmp rfl _ _ _) rfl ?_
  exact ⟨rfl, rfl⟩
set_option maxHeartbeats 4000000 in
theorem obj_nil (w : World) : Calls Tryz.prog 16 #[.slice none 0 0] w fun e w' => e = .returned (.agg #[.int .i64 6, .bool false, .string ⟨#[]⟩, .slice none 0 0, .slice none 0 0]) ∧ Below w.heap.size w w' := by
  have hba : Below w.heap.size w (w.alloc (.cells #[.int .i64 0, .bool false, .string ⟨#[]⟩, .slice none 0 0, .slice none 0 0] 26)) := (Below.refl _ _).alloc (Nat.le_refl _) _
  have hx := heap_alloc_new w (.cells #[.int .i64 0, .bool false, .string ⟨#[]⟩, .slice none 0 0, .slice none 0 0] 26)
  go_enter Tryz.func16, Tryz.ntmps16
  go_upto_region 1 with (fail)
  generalize w.alloc _ = w1 at *
  have HB1 := Lib.hid hba
  have HX1 := Lib.hid hx
  have hs1 : w.heap.size < w1.heap.size := (Array.getElem?_eq_some_iff.1 hx).1
  clear hba hx
  go_wp2_with fail
  refine (cloneM_nil w1).mono ?_
  rintro e w2 ⟨rfl, rfl⟩
  have hx2 := HX1.out
  have d0 : w2.cell? ⟨w.heap.size, 0, none⟩ = some (.int .i64 0) := by rw [Lib.cell_of_heap hx2]; rfl
  have d1 : w2.cell? ⟨w.heap.size, 1, none⟩ = some (.bool false) := by rw [Lib.cell_of_heap hx2]; rfl
  have d2 : w2.cell? ⟨w.heap.size, 2, none⟩ = some (.string ⟨#[]⟩) := by rw [Lib.cell_of_heap hx2]; rfl
  have d3 : w2.cell? ⟨w.heap.size, 3, none⟩ = some (.slice none 0 0) := by rw [Lib.cell_of_heap hx2]; rfl
  have d4 : w2.cell? ⟨w.heap.size, 4, none⟩ = some (.slice none 0 0) := by rw [Lib.cell_of_heap hx2]; rfl
  have f0 := Lib.frozen_of_heap hx2 0
  have f1 := Lib.frozen_of_heap hx2 1
  have f2 := Lib.frozen_of_heap hx2 2
  have f3 := Lib.frozen_of_heap hx2 3
  have f4 := Lib.frozen_of_heap hx2 4
  clear hx2
  go_wp2_with fail
  have hst := value_stored HX1.out (.int .i64 6) (.bool false) (.string ⟨#[]⟩) (.slice none 0 0) (.slice none 0 0)
  have hbe := zero_stored HB1.out (Nat.le_refl _) (.int .i64 6) (.bool false) (.string ⟨#[]⟩) (.slice none 0 0) (.slice none 0 0)
  have e0 := Lib.cell_of_heap hst 0
  have e1 := Lib.cell_of_heap hst 1
  have e2 := Lib.cell_of_heap hst 2
  have e3 := Lib.cell_of_heap hst 3
  have e4 := Lib.cell_of_heap hst 4
  simp only [List.getElem?_toArray] at e0 e1 e2 e3 e4
  refine bodyPost_ret (v := .agg #[.int .i64 6, .bool false, .string ⟨#[]⟩, .slice none 0 0, .slice none 0 0]) (by simp [results, Tryz.results16, go_sem, e0, e1, e2, e3, e4]) rfl ?_
  exact ⟨rfl, hbe⟩
end Go.Proofs.YtfcokdkbjajohaaGreatDoor
