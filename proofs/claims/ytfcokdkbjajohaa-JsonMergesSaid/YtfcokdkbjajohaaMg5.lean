/- Merged: JsQu, JsWr, JsWt, JsWa, JsWo, JsRa, JsRb, JsSo, JsSc, Val, Str, Use, JsNm, JsSz, JsRc, JsDp, JsWw, JsPr, JsAn, JsSm, TrP. -/
import Derived.Lib.SlicesCompact
import Derived.Sort.OwnSorted
import Derived.Shelf.Slices.In.SortNone
import Derived.WalkSmall
import Derived.Deep.LoopGhost
import Derived.Deep.DeepCutAuto
import Derived.Laws.RangeAny
import Derived.Lib.SlBytesConst
import Derived.Test.YtfcokdkbjajohaaMg1
import Derived.Test.YtfcokdkbjajohaaMg2
import Derived.Test.YtfcokdkbjajohaaMg3
import Derived.Test.YtfcokdkbjajohaaMg4
/- json: quote. -/
set_option linter.unusedVariables false
namespace Go.Proofs.Ytfcokdkbjajohaa
open Go.RowKit

theorem low_tab (c : UInt8) : (c.toNat < 32 ∧ ¬ 0 ≤ Lib.indexByte escMeans c) → c = 0 ∨ c = 1 ∨ c = 2 ∨ c = 3 ∨ c = 4 ∨ c = 5 ∨ c = 6 ∨ c = 7 ∨ c = 11 ∨ c = 14 ∨ c = 15 ∨ c = 16 ∨ c = 17 ∨ c = 18 ∨ c = 19 ∨ c = 20 ∨ c = 21 ∨ c = 22 ∨ c = 23 ∨ c = 24 ∨ c = 25 ∨ c = 26 ∨ c = 27 ∨ c = 28 ∨ c = 29 ∨ c = 30 ∨ c = 31 :=
  u8_every (fun c => (c.toNat < 32 ∧ ¬ 0 ≤ Lib.indexByte escMeans c) → c = 0 ∨ c = 1 ∨ c = 2 ∨ c = 3 ∨ c = 4 ∨ c = 5 ∨ c = 6 ∨ c = 7 ∨ c = 11 ∨ c = 14 ∨ c = 15 ∨ c = 16 ∨ c = 17 ∨ c = 18 ∨ c = 19 ∨ c = 20 ∨ c = 21 ∨ c = 22 ∨ c = 23 ∨ c = 24 ∨ c = 25 ∨ c = 26 ∨ c = 27 ∨ c = 28 ∨ c = 29 ∨ c = 30 ∨ c = 31) (by decide +kernel) c
theorem quote_tab (c : UInt8) : (0 ≤ Lib.indexByte escMeans c ∧ (Lib.indexByte escMeans c).toNat < 7 ∧ quoteC c = [92, escNames.getD (Lib.indexByte escMeans c).toNat 0]) ∨ (¬ 0 ≤ Lib.indexByte escMeans c ∧ (c.toNat < 32 ∨ quoteC c = [c])) :=
  u8_every (fun c => (0 ≤ Lib.indexByte escMeans c ∧ (Lib.indexByte escMeans c).toNat < 7 ∧ quoteC c = [92, escNames.getD (Lib.indexByte escMeans c).toNat 0]) ∨ (¬ 0 ≤ Lib.indexByte escMeans c ∧ (c.toNat < 32 ∨ quoteC c = [c]))) (by decide +kernel) c
/-- []byte(s): a row whose frozen part lies behind it. -/
theorem bytes_row (l : List UInt8) (w : World) (hl : l.length ≤ 1000000) : ∃ g c w' cur fr, (convert 9 43 (.string ⟨l.toArray⟩)).run Try.prog w = .ok (.slice (some ⟨g, 0, none⟩) l.length c) w' ∧ Below w.heap.size w w' ∧ w.heap.size ≤ g ∧ w'.heap[g]? = some (.cells cur 5 fr) ∧ fr ≠ (0, 0) ∧ ∀ j (h : j < l.length), cur[j]? = some (.int .u8 (l[j].toNat : Nat)) := by
  have h := Lib.run_convert_string_bytes (P := Try.prog) w 9 43 5 ⟨l.toArray⟩ Try.underlying9 Try.underlying43 Try.underlying5
  have hs : (⟨l.toArray⟩ : ByteArray).size = l.length := by simp [ByteArray.size]
  rw [hs] at h
  refine ⟨_, _, _, _, _, h, ⟨rfl, rfl, rfl, by rw [Lib.bytesWorld_size]; omega, fun k hk => Lib.bytesWorld_at_old _ _ _ _ hk⟩, Nat.le_refl _, Lib.bytesWorld_at_new w 5 ⟨l.toArray⟩, by simp, fun j hj => ?_⟩
  simp [Lib.bytesCells, Array.getElem?_append, hj]
theorem flat_quote (s : List UInt8) (j : Nat) (h : j < s.length) : (s.take (j + 1)).flatMap quoteC = (s.take j).flatMap quoteC ++ quoteC s[j] := by
  rw [List.take_add_one, List.getElem?_eq_getElem h]
  simp only [Option.toList_some, List.flatMap_append, List.flatMap_cons, List.flatMap_nil, List.append_nil]
theorem quoteC_len (c : UInt8) : (quoteC c).length ≤ 6 := u8_every (fun c => (quoteC c).length ≤ 6) (by decide +kernel) c
theorem flatq_len (s : List UInt8) : (s.flatMap quoteC).length ≤ 6 * s.length := by
  induction s with
  | nil => simp
  | cons c s ih =>
    have := quoteC_len c
    simp only [List.flatMap_cons, List.length_append, List.length_cons]
    omega
set_option maxRecDepth 100000 in
set_option maxHeartbeats 32000000 in
theorem jquote_any (b : Nat) (l s : List UInt8) (w : World) (h : BldZ b l w) (hs : s.length ≤ 100000) (hl : l.length ≤ 10000000) :
    Calls Try.prog 33 #[.pointer (some ⟨b, 0, none⟩), .string ⟨s.toArray⟩] w fun e w' => e = .returned (.tuple #[]) ∧ BldZ b (l ++ quoteL s) w' ∧ FrZ b w w' := by
  have H := Lib.hid h
  clear h
  go_enter Try.func33, Try.ntmps33
  go_wp2_with fail
  refine (WriteByte_z b l 34 34 rfl w H.out (by omega)).mono ?_
  rintro e w1 ⟨rfl, hb1, hf1⟩
  obtain ⟨g, c, w2, cur, fr, hcv, hbe, hg, hrow, hfr, hcur⟩ := bytes_row s w1 (by omega)
  have HB2 := Lib.hid (hb1.below hbe)
  have HF2 := Lib.hid (hf1.trans (FrZ.of_below hbe (Nat.le_of_lt hb1.lt)))
  have HROW := Lib.hid hrow
  have HCUR := Lib.hid hcur
  have HFR : Hid (∀ c : Array Value, Obj.cells cur 5 fr ≠ .cells c 5 (0, 0)) := Lib.hid fun c e => hfr (by injection e)
  have hgb : g ≠ b := by have := hb1.lt; omega
  clear hb1 hf1 hbe hrow hfr hcur H
  go_wp2_with fail
  go_loopg [12] s.length (fun k iv wr => ∃ j : Nat, iv = .int .i64 (j : Int) ∧ j + k = s.length ∧ Hid (BldZ b (l ++ 34 :: (s.take j).flatMap quoteC) wr) ∧ Hid (FrZ b w wr) ∧ Hid (wr.heap[g]? = some (.cells cur 5 fr)))
  case atStart => exact ⟨0, rfl, by omega, Lib.hid (by simpa using HB2.out), HF2, HROW⟩
  case round =>
    obtain ⟨j, rfl, hj, HBW, HFW, HRW⟩ := hrel
    by_cases hlt : j < s.length
    · have hltI : (j : Int) < (s.length : Int) := by omega
      obtain ⟨x, hx⟩ : ∃ x, s[j] = x := ⟨_, rfl⟩
      have hcell : wr.cell? ⟨g, j, none⟩ = some (.int .u8 (x.toNat : Nat)) := by rw [Lib.cell_of_heap HRW.out, HCUR.out j hlt, hx]
      have HQ : Hid ((s.take (j + 1)).flatMap quoteC = (s.take j).flatMap quoteC ++ quoteC x) := Lib.hid (by rw [flat_quote s j hlt, hx])
      have hln : (l ++ 34 :: (s.take j).flatMap quoteC).length ≤ 10700000 := by
        have := flatq_len (s.take j)
        simp only [List.length_append, List.length_cons, List.length_take] at *
        omega
      have htab := quote_tab x
      have hlow := low_tab x
      clear hx
      go_wp2_with fail
      refine (Try.strings_IndexByte ⟨#[8, 12, 10, 13, 9, 34, 92]⟩ ((x.toNat : Nat) : Int) wr).mono ?_
      rintro e w3 ⟨rfl, rfl⟩
      rw [byte_arg, show (⟨#[8, 12, 10, 13, 9, 34, 92]⟩ : ByteArray).data.toList = escMeans from rfl]
      obtain ⟨ix, hix⟩ : ∃ ix, Lib.indexByte escMeans x = ix := ⟨_, rfl⟩
      rw [hix] at htab hlow ⊢
      clear hix
      rcases htab with ⟨h0, h7, hqc⟩ | ⟨h0, hqc⟩
      · obtain ⟨i, rfl⟩ : ∃ i : Nat, ix = (i : Int) := ⟨ix.toNat, by omega⟩
        simp only [Int.toNat_natCast] at h7 hqc
        obtain ⟨dd, hdd⟩ : ∃ dd, escNames.getD i 0 = dd := ⟨_, rfl⟩
        rw [hdd] at hqc
        have hixx : ∀ w, (Instr.index 9 (.string ⟨#[98, 102, 110, 114, 116, 34, 92]⟩) (.int .i64 (i : Int))).run Try.prog w = .ok (.int .u8 (dd.toNat : Nat)) w := by
          have h1 := str_at escNames i h7
          have h2 : escNames[i]'h7 = dd := by rw [← hdd, List.getD_eq_getElem?_getD, List.getElem?_eq_getElem h7]; rfl
          rw [h2] at h1
          exact h1
        have q1 : decide ((0 : Int) ≤ ((i : Nat) : Int)) = true := decide_eq_true (by omega)
        rw [hqc] at HQ
        clear hlow h0 h7 hqc hdd
        go_wp2_with fail
        refine (WriteByte_z b _ 92 92 rfl w3 HBW.out (by omega)).mono ?_
        rintro e w4 ⟨rfl, hb4, hf4⟩
        have HB4 := Lib.hid hb4
        have HF4 := Lib.hid (HFW.out.trans hf4)
        have HR4 := Lib.hid (hf4.block g _ HRW.out hgb HFR.out)
        clear hb4 hf4
        go_wp2_with fail
        refine (WriteByte_z b _ ((dd.toNat : Nat) : Int) dd rfl w4 HB4.out (by simp only [List.length_append, List.length_cons, List.length_nil] at *; omega)).mono ?_
        rintro e w5 ⟨rfl, hb5, hf5⟩
        have HB5 : Hid (BldZ b (l ++ 34 :: (s.take (j + 1)).flatMap quoteC) w5) := Lib.hid (by rw [HQ.out]; simpa using hb5)
        have HF5 := Lib.hid (HF4.out.trans hf5)
        have HR5 := Lib.hid (hf5.block g _ HR4.out hgb HFR.out)
        clear hb5 hf5
        go_wp2_with fail
        go_roundg (gk - 1)
        case measure => omega
        case rel => exact ⟨j + 1, by first | rfl | (congr 1), by omega, HB5, HF5, HR5⟩
      · have q1 : decide ((0 : Int) ≤ ix) = false := decide_eq_false (by omega)
        by_cases h32 : x.toNat < 32
        · have hl2 := hlow ⟨h32, h0⟩
          clear hlow hqc h0
          have q3 : decide (((x.toNat : Nat) : Int) < 32) = true := decide_eq_true (by omega)
          clear h32
          go_upto_region 10 with (fail)
          rcases hl2 with rfl | rfl | rfl | rfl | rfl | rfl | rfl | rfl | rfl | rfl | rfl | rfl | rfl | rfl | rfl | rfl | rfl | rfl | rfl | rfl | rfl | rfl | rfl | rfl | rfl | rfl | rfl
          · have hbi : bits BinOp.and IntKind.u8 0 15 = 0 := by decide
            have hw1 : IntKind.u8.wrap 1 = 1 := by decide
            go_still_tail 15, (by kernel_rfl)
            change wpList _ _ _ _ _ w3.drew
            have HB3 := Lib.hid (show BldZ b (l ++ 34 :: (s.take j).flatMap quoteC) w3.drew from HBW.out)
            have HF3 := Lib.hid (show FrZ b w w3.drew from ⟨HFW.out.os, HFW.out.tape, HFW.out.output, HFW.out.size, HFW.out.low, HFW.out.block⟩)
            have HR3 := Lib.hid (show w3.drew.heap[g]? = some (.cells cur 5 fr) from HRW.out)
            clear HBW HFW HRW
            generalize w3.drew = w4 at *
            go_wp2_with fail
            rw [show (((⟨#[92, 117, 48, 48]⟩ : ByteArray) ++ (⟨#[48, 49, 50, 51, 52, 53, 54, 55, 56, 57, 97, 98, 99, 100, 101, 102]⟩ : ByteArray).extract 0 1) ++ (⟨#[48, 49, 50, 51, 52, 53, 54, 55, 56, 57, 97, 98, 99, 100, 101, 102]⟩ : ByteArray).extract 0 1) = ⟨([92, 117, 48, 48, 48, 48] : List UInt8).toArray⟩ from by kernel_rfl]
            refine (WriteString_z b _ [92, 117, 48, 48, 48, 48] w4 HB3.out (by simp only [List.length_cons, List.length_nil]; omega)).mono ?_
            rintro e w5 ⟨rfl, hb5, hf5⟩
            have HB5 : Hid (BldZ b (l ++ 34 :: (s.take (j + 1)).flatMap quoteC) w5) := Lib.hid (by rw [HQ.out, show quoteC 0 = [92, 117, 48, 48, 48, 48] from by decide]; simpa using hb5)
            have HF5 := Lib.hid (HF3.out.trans hf5)
            have HR5 := Lib.hid (hf5.block g _ HR3.out hgb HFR.out)
            clear hb5 hf5
            go_wp2_with fail
            go_roundg (gk - 1)
            case measure => omega
            case rel => exact ⟨j + 1, by first | rfl | (congr 1), by omega, HB5, HF5, HR5⟩
          · have hbi : bits BinOp.and IntKind.u8 1 15 = 1 := by decide
            have hw1 : IntKind.u8.wrap 1 = 1 := by decide
            have hw2 : IntKind.u8.wrap 2 = 2 := by decide
            go_still_tail 15, (by kernel_rfl)
            change wpList _ _ _ _ _ w3.drew
            have HB3 := Lib.hid (show BldZ b (l ++ 34 :: (s.take j).flatMap quoteC) w3.drew from HBW.out)
            have HF3 := Lib.hid (show FrZ b w w3.drew from ⟨HFW.out.os, HFW.out.tape, HFW.out.output, HFW.out.size, HFW.out.low, HFW.out.block⟩)
            have HR3 := Lib.hid (show w3.drew.heap[g]? = some (.cells cur 5 fr) from HRW.out)
            clear HBW HFW HRW
            generalize w3.drew = w4 at *
            go_wp2_with fail
            rw [show (((⟨#[92, 117, 48, 48]⟩ : ByteArray) ++ (⟨#[48, 49, 50, 51, 52, 53, 54, 55, 56, 57, 97, 98, 99, 100, 101, 102]⟩ : ByteArray).extract 0 1) ++ (⟨#[48, 49, 50, 51, 52, 53, 54, 55, 56, 57, 97, 98, 99, 100, 101, 102]⟩ : ByteArray).extract 1 2) = ⟨([92, 117, 48, 48, 48, 49] : List UInt8).toArray⟩ from by kernel_rfl]
            refine (WriteString_z b _ [92, 117, 48, 48, 48, 49] w4 HB3.out (by simp only [List.length_cons, List.length_nil]; omega)).mono ?_
            rintro e w5 ⟨rfl, hb5, hf5⟩
            have HB5 : Hid (BldZ b (l ++ 34 :: (s.take (j + 1)).flatMap quoteC) w5) := Lib.hid (by rw [HQ.out, show quoteC 1 = [92, 117, 48, 48, 48, 49] from by decide]; simpa using hb5)
            have HF5 := Lib.hid (HF3.out.trans hf5)
            have HR5 := Lib.hid (hf5.block g _ HR3.out hgb HFR.out)
            clear hb5 hf5
            go_wp2_with fail
            go_roundg (gk - 1)
            case measure => omega
            case rel => exact ⟨j + 1, by first | rfl | (congr 1), by omega, HB5, HF5, HR5⟩
          · have hbi : bits BinOp.and IntKind.u8 2 15 = 2 := by decide
            have hw1 : IntKind.u8.wrap 1 = 1 := by decide
            have hw3 : IntKind.u8.wrap 3 = 3 := by decide
            go_still_tail 15, (by kernel_rfl)
            change wpList _ _ _ _ _ w3.drew
            have HB3 := Lib.hid (show BldZ b (l ++ 34 :: (s.take j).flatMap quoteC) w3.drew from HBW.out)
            have HF3 := Lib.hid (show FrZ b w w3.drew from ⟨HFW.out.os, HFW.out.tape, HFW.out.output, HFW.out.size, HFW.out.low, HFW.out.block⟩)
            have HR3 := Lib.hid (show w3.drew.heap[g]? = some (.cells cur 5 fr) from HRW.out)
            clear HBW HFW HRW
            generalize w3.drew = w4 at *
            go_wp2_with fail
            rw [show (((⟨#[92, 117, 48, 48]⟩ : ByteArray) ++ (⟨#[48, 49, 50, 51, 52, 53, 54, 55, 56, 57, 97, 98, 99, 100, 101, 102]⟩ : ByteArray).extract 0 1) ++ (⟨#[48, 49, 50, 51, 52, 53, 54, 55, 56, 57, 97, 98, 99, 100, 101, 102]⟩ : ByteArray).extract 2 3) = ⟨([92, 117, 48, 48, 48, 50] : List UInt8).toArray⟩ from by kernel_rfl]
            refine (WriteString_z b _ [92, 117, 48, 48, 48, 50] w4 HB3.out (by simp only [List.length_cons, List.length_nil]; omega)).mono ?_
            rintro e w5 ⟨rfl, hb5, hf5⟩
            have HB5 : Hid (BldZ b (l ++ 34 :: (s.take (j + 1)).flatMap quoteC) w5) := Lib.hid (by rw [HQ.out, show quoteC 2 = [92, 117, 48, 48, 48, 50] from by decide]; simpa using hb5)
            have HF5 := Lib.hid (HF3.out.trans hf5)
            have HR5 := Lib.hid (hf5.block g _ HR3.out hgb HFR.out)
            clear hb5 hf5
            go_wp2_with fail
            go_roundg (gk - 1)
            case measure => omega
            case rel => exact ⟨j + 1, by first | rfl | (congr 1), by omega, HB5, HF5, HR5⟩
          · have hbi : bits BinOp.and IntKind.u8 3 15 = 3 := by decide
            have hw1 : IntKind.u8.wrap 1 = 1 := by decide
            have hw4 : IntKind.u8.wrap 4 = 4 := by decide
            go_still_tail 15, (by kernel_rfl)
            change wpList _ _ _ _ _ w3.drew
            have HB3 := Lib.hid (show BldZ b (l ++ 34 :: (s.take j).flatMap quoteC) w3.drew from HBW.out)
            have HF3 := Lib.hid (show FrZ b w w3.drew from ⟨HFW.out.os, HFW.out.tape, HFW.out.output, HFW.out.size, HFW.out.low, HFW.out.block⟩)
            have HR3 := Lib.hid (show w3.drew.heap[g]? = some (.cells cur 5 fr) from HRW.out)
            clear HBW HFW HRW
            generalize w3.drew = w4 at *
            go_wp2_with fail
            rw [show (((⟨#[92, 117, 48, 48]⟩ : ByteArray) ++ (⟨#[48, 49, 50, 51, 52, 53, 54, 55, 56, 57, 97, 98, 99, 100, 101, 102]⟩ : ByteArray).extract 0 1) ++ (⟨#[48, 49, 50, 51, 52, 53, 54, 55, 56, 57, 97, 98, 99, 100, 101, 102]⟩ : ByteArray).extract 3 4) = ⟨([92, 117, 48, 48, 48, 51] : List UInt8).toArray⟩ from by kernel_rfl]
            refine (WriteString_z b _ [92, 117, 48, 48, 48, 51] w4 HB3.out (by simp only [List.length_cons, List.length_nil]; omega)).mono ?_
            rintro e w5 ⟨rfl, hb5, hf5⟩
            have HB5 : Hid (BldZ b (l ++ 34 :: (s.take (j + 1)).flatMap quoteC) w5) := Lib.hid (by rw [HQ.out, show quoteC 3 = [92, 117, 48, 48, 48, 51] from by decide]; simpa using hb5)
            have HF5 := Lib.hid (HF3.out.trans hf5)
            have HR5 := Lib.hid (hf5.block g _ HR3.out hgb HFR.out)
            clear hb5 hf5
            go_wp2_with fail
            go_roundg (gk - 1)
            case measure => omega
            case rel => exact ⟨j + 1, by first | rfl | (congr 1), by omega, HB5, HF5, HR5⟩
          · have hbi : bits BinOp.and IntKind.u8 4 15 = 4 := by decide
            have hw1 : IntKind.u8.wrap 1 = 1 := by decide
            have hw5 : IntKind.u8.wrap 5 = 5 := by decide
            go_still_tail 15, (by kernel_rfl)
            change wpList _ _ _ _ _ w3.drew
            have HB3 := Lib.hid (show BldZ b (l ++ 34 :: (s.take j).flatMap quoteC) w3.drew from HBW.out)
            have HF3 := Lib.hid (show FrZ b w w3.drew from ⟨HFW.out.os, HFW.out.tape, HFW.out.output, HFW.out.size, HFW.out.low, HFW.out.block⟩)
            have HR3 := Lib.hid (show w3.drew.heap[g]? = some (.cells cur 5 fr) from HRW.out)
            clear HBW HFW HRW
            generalize w3.drew = w4 at *
            go_wp2_with fail
            rw [show (((⟨#[92, 117, 48, 48]⟩ : ByteArray) ++ (⟨#[48, 49, 50, 51, 52, 53, 54, 55, 56, 57, 97, 98, 99, 100, 101, 102]⟩ : ByteArray).extract 0 1) ++ (⟨#[48, 49, 50, 51, 52, 53, 54, 55, 56, 57, 97, 98, 99, 100, 101, 102]⟩ : ByteArray).extract 4 5) = ⟨([92, 117, 48, 48, 48, 52] : List UInt8).toArray⟩ from by kernel_rfl]
            refine (WriteString_z b _ [92, 117, 48, 48, 48, 52] w4 HB3.out (by simp only [List.length_cons, List.length_nil]; omega)).mono ?_
            rintro e w5 ⟨rfl, hb5, hf5⟩
            have HB5 : Hid (BldZ b (l ++ 34 :: (s.take (j + 1)).flatMap quoteC) w5) := Lib.hid (by rw [HQ.out, show quoteC 4 = [92, 117, 48, 48, 48, 52] from by decide]; simpa using hb5)
            have HF5 := Lib.hid (HF3.out.trans hf5)
            have HR5 := Lib.hid (hf5.block g _ HR3.out hgb HFR.out)
            clear hb5 hf5
            go_wp2_with fail
            go_roundg (gk - 1)
            case measure => omega
            case rel => exact ⟨j + 1, by first | rfl | (congr 1), by omega, HB5, HF5, HR5⟩
          · have hbi : bits BinOp.and IntKind.u8 5 15 = 5 := by decide
            have hw1 : IntKind.u8.wrap 1 = 1 := by decide
            have hw6 : IntKind.u8.wrap 6 = 6 := by decide
            go_still_tail 15, (by kernel_rfl)
            change wpList _ _ _ _ _ w3.drew
            have HB3 := Lib.hid (show BldZ b (l ++ 34 :: (s.take j).flatMap quoteC) w3.drew from HBW.out)
            have HF3 := Lib.hid (show FrZ b w w3.drew from ⟨HFW.out.os, HFW.out.tape, HFW.out.output, HFW.out.size, HFW.out.low, HFW.out.block⟩)
            have HR3 := Lib.hid (show w3.drew.heap[g]? = some (.cells cur 5 fr) from HRW.out)
            clear HBW HFW HRW
            generalize w3.drew = w4 at *
            go_wp2_with fail
            rw [show (((⟨#[92, 117, 48, 48]⟩ : ByteArray) ++ (⟨#[48, 49, 50, 51, 52, 53, 54, 55, 56, 57, 97, 98, 99, 100, 101, 102]⟩ : ByteArray).extract 0 1) ++ (⟨#[48, 49, 50, 51, 52, 53, 54, 55, 56, 57, 97, 98, 99, 100, 101, 102]⟩ : ByteArray).extract 5 6) = ⟨([92, 117, 48, 48, 48, 53] : List UInt8).toArray⟩ from by kernel_rfl]
            refine (WriteString_z b _ [92, 117, 48, 48, 48, 53] w4 HB3.out (by simp only [List.length_cons, List.length_nil]; omega)).mono ?_
            rintro e w5 ⟨rfl, hb5, hf5⟩
            have HB5 : Hid (BldZ b (l ++ 34 :: (s.take (j + 1)).flatMap quoteC) w5) := Lib.hid (by rw [HQ.out, show quoteC 5 = [92, 117, 48, 48, 48, 53] from by decide]; simpa using hb5)
            have HF5 := Lib.hid (HF3.out.trans hf5)
            have HR5 := Lib.hid (hf5.block g _ HR3.out hgb HFR.out)
            clear hb5 hf5
            go_wp2_with fail
            go_roundg (gk - 1)
            case measure => omega
            case rel => exact ⟨j + 1, by first | rfl | (congr 1), by omega, HB5, HF5, HR5⟩
          · have hbi : bits BinOp.and IntKind.u8 6 15 = 6 := by decide
            have hw1 : IntKind.u8.wrap 1 = 1 := by decide
            have hw7 : IntKind.u8.wrap 7 = 7 := by decide
            go_still_tail 15, (by kernel_rfl)
            change wpList _ _ _ _ _ w3.drew
            have HB3 := Lib.hid (show BldZ b (l ++ 34 :: (s.take j).flatMap quoteC) w3.drew from HBW.out)
            have HF3 := Lib.hid (show FrZ b w w3.drew from ⟨HFW.out.os, HFW.out.tape, HFW.out.output, HFW.out.size, HFW.out.low, HFW.out.block⟩)
            have HR3 := Lib.hid (show w3.drew.heap[g]? = some (.cells cur 5 fr) from HRW.out)
            clear HBW HFW HRW
            generalize w3.drew = w4 at *
            go_wp2_with fail
            rw [show (((⟨#[92, 117, 48, 48]⟩ : ByteArray) ++ (⟨#[48, 49, 50, 51, 52, 53, 54, 55, 56, 57, 97, 98, 99, 100, 101, 102]⟩ : ByteArray).extract 0 1) ++ (⟨#[48, 49, 50, 51, 52, 53, 54, 55, 56, 57, 97, 98, 99, 100, 101, 102]⟩ : ByteArray).extract 6 7) = ⟨([92, 117, 48, 48, 48, 54] : List UInt8).toArray⟩ from by kernel_rfl]
            refine (WriteString_z b _ [92, 117, 48, 48, 48, 54] w4 HB3.out (by simp only [List.length_cons, List.length_nil]; omega)).mono ?_
            rintro e w5 ⟨rfl, hb5, hf5⟩
            have HB5 : Hid (BldZ b (l ++ 34 :: (s.take (j + 1)).flatMap quoteC) w5) := Lib.hid (by rw [HQ.out, show quoteC 6 = [92, 117, 48, 48, 48, 54] from by decide]; simpa using hb5)
            have HF5 := Lib.hid (HF3.out.trans hf5)
            have HR5 := Lib.hid (hf5.block g _ HR3.out hgb HFR.out)
            clear hb5 hf5
            go_wp2_with fail
            go_roundg (gk - 1)
            case measure => omega
            case rel => exact ⟨j + 1, by first | rfl | (congr 1), by omega, HB5, HF5, HR5⟩
          · have hbi : bits BinOp.and IntKind.u8 7 15 = 7 := by decide
            have hw1 : IntKind.u8.wrap 1 = 1 := by decide
            have hw8 : IntKind.u8.wrap 8 = 8 := by decide
            go_still_tail 15, (by kernel_rfl)
            change wpList _ _ _ _ _ w3.drew
            have HB3 := Lib.hid (show BldZ b (l ++ 34 :: (s.take j).flatMap quoteC) w3.drew from HBW.out)
            have HF3 := Lib.hid (show FrZ b w w3.drew from ⟨HFW.out.os, HFW.out.tape, HFW.out.output, HFW.out.size, HFW.out.low, HFW.out.block⟩)
            have HR3 := Lib.hid (show w3.drew.heap[g]? = some (.cells cur 5 fr) from HRW.out)
            clear HBW HFW HRW
            generalize w3.drew = w4 at *
            go_wp2_with fail
            rw [show (((⟨#[92, 117, 48, 48]⟩ : ByteArray) ++ (⟨#[48, 49, 50, 51, 52, 53, 54, 55, 56, 57, 97, 98, 99, 100, 101, 102]⟩ : ByteArray).extract 0 1) ++ (⟨#[48, 49, 50, 51, 52, 53, 54, 55, 56, 57, 97, 98, 99, 100, 101, 102]⟩ : ByteArray).extract 7 8) = ⟨([92, 117, 48, 48, 48, 55] : List UInt8).toArray⟩ from by kernel_rfl]
            refine (WriteString_z b _ [92, 117, 48, 48, 48, 55] w4 HB3.out (by simp only [List.length_cons, List.length_nil]; omega)).mono ?_
            rintro e w5 ⟨rfl, hb5, hf5⟩
            have HB5 : Hid (BldZ b (l ++ 34 :: (s.take (j + 1)).flatMap quoteC) w5) := Lib.hid (by rw [HQ.out, show quoteC 7 = [92, 117, 48, 48, 48, 55] from by decide]; simpa using hb5)
            have HF5 := Lib.hid (HF3.out.trans hf5)
            have HR5 := Lib.hid (hf5.block g _ HR3.out hgb HFR.out)
            clear hb5 hf5
            go_wp2_with fail
            go_roundg (gk - 1)
            case measure => omega
            case rel => exact ⟨j + 1, by first | rfl | (congr 1), by omega, HB5, HF5, HR5⟩
          · have hbi : bits BinOp.and IntKind.u8 11 15 = 11 := by decide
            have hw1 : IntKind.u8.wrap 1 = 1 := by decide
            have hw12 : IntKind.u8.wrap 12 = 12 := by decide
            go_still_tail 15, (by kernel_rfl)
            change wpList _ _ _ _ _ w3.drew
            have HB3 := Lib.hid (show BldZ b (l ++ 34 :: (s.take j).flatMap quoteC) w3.drew from HBW.out)
            have HF3 := Lib.hid (show FrZ b w w3.drew from ⟨HFW.out.os, HFW.out.tape, HFW.out.output, HFW.out.size, HFW.out.low, HFW.out.block⟩)
            have HR3 := Lib.hid (show w3.drew.heap[g]? = some (.cells cur 5 fr) from HRW.out)
            clear HBW HFW HRW
            generalize w3.drew = w4 at *
            go_wp2_with fail
            rw [show (((⟨#[92, 117, 48, 48]⟩ : ByteArray) ++ (⟨#[48, 49, 50, 51, 52, 53, 54, 55, 56, 57, 97, 98, 99, 100, 101, 102]⟩ : ByteArray).extract 0 1) ++ (⟨#[48, 49, 50, 51, 52, 53, 54, 55, 56, 57, 97, 98, 99, 100, 101, 102]⟩ : ByteArray).extract 11 12) = ⟨([92, 117, 48, 48, 48, 98] : List UInt8).toArray⟩ from by kernel_rfl]
            refine (WriteString_z b _ [92, 117, 48, 48, 48, 98] w4 HB3.out (by simp only [List.length_cons, List.length_nil]; omega)).mono ?_
            rintro e w5 ⟨rfl, hb5, hf5⟩
            have HB5 : Hid (BldZ b (l ++ 34 :: (s.take (j + 1)).flatMap quoteC) w5) := Lib.hid (by rw [HQ.out, show quoteC 11 = [92, 117, 48, 48, 48, 98] from by decide]; simpa using hb5)
            have HF5 := Lib.hid (HF3.out.trans hf5)
            have HR5 := Lib.hid (hf5.block g _ HR3.out hgb HFR.out)
            clear hb5 hf5
            go_wp2_with fail
            go_roundg (gk - 1)
            case measure => omega
            case rel => exact ⟨j + 1, by first | rfl | (congr 1), by omega, HB5, HF5, HR5⟩
          · have hbi : bits BinOp.and IntKind.u8 14 15 = 14 := by decide
            have hw1 : IntKind.u8.wrap 1 = 1 := by decide
            have hw15 : IntKind.u8.wrap 15 = 15 := by decide
            go_still_tail 15, (by kernel_rfl)
            change wpList _ _ _ _ _ w3.drew
            have HB3 := Lib.hid (show BldZ b (l ++ 34 :: (s.take j).flatMap quoteC) w3.drew from HBW.out)
            have HF3 := Lib.hid (show FrZ b w w3.drew from ⟨HFW.out.os, HFW.out.tape, HFW.out.output, HFW.out.size, HFW.out.low, HFW.out.block⟩)
            have HR3 := Lib.hid (show w3.drew.heap[g]? = some (.cells cur 5 fr) from HRW.out)
            clear HBW HFW HRW
            generalize w3.drew = w4 at *
            go_wp2_with fail
            rw [show (((⟨#[92, 117, 48, 48]⟩ : ByteArray) ++ (⟨#[48, 49, 50, 51, 52, 53, 54, 55, 56, 57, 97, 98, 99, 100, 101, 102]⟩ : ByteArray).extract 0 1) ++ (⟨#[48, 49, 50, 51, 52, 53, 54, 55, 56, 57, 97, 98, 99, 100, 101, 102]⟩ : ByteArray).extract 14 15) = ⟨([92, 117, 48, 48, 48, 101] : List UInt8).toArray⟩ from by kernel_rfl]
            refine (WriteString_z b _ [92, 117, 48, 48, 48, 101] w4 HB3.out (by simp only [List.length_cons, List.length_nil]; omega)).mono ?_
            rintro e w5 ⟨rfl, hb5, hf5⟩
            have HB5 : Hid (BldZ b (l ++ 34 :: (s.take (j + 1)).flatMap quoteC) w5) := Lib.hid (by rw [HQ.out, show quoteC 14 = [92, 117, 48, 48, 48, 101] from by decide]; simpa using hb5)
            have HF5 := Lib.hid (HF3.out.trans hf5)
            have HR5 := Lib.hid (hf5.block g _ HR3.out hgb HFR.out)
            clear hb5 hf5
            go_wp2_with fail
            go_roundg (gk - 1)
            case measure => omega
            case rel => exact ⟨j + 1, by first | rfl | (congr 1), by omega, HB5, HF5, HR5⟩
          · have hbi : bits BinOp.and IntKind.u8 15 15 = 15 := by decide
            have hw1 : IntKind.u8.wrap 1 = 1 := by decide
            have hw16 : IntKind.u8.wrap 16 = 16 := by decide
            go_still_tail 15, (by kernel_rfl)
            change wpList _ _ _ _ _ w3.drew
            have HB3 := Lib.hid (show BldZ b (l ++ 34 :: (s.take j).flatMap quoteC) w3.drew from HBW.out)
            have HF3 := Lib.hid (show FrZ b w w3.drew from ⟨HFW.out.os, HFW.out.tape, HFW.out.output, HFW.out.size, HFW.out.low, HFW.out.block⟩)
            have HR3 := Lib.hid (show w3.drew.heap[g]? = some (.cells cur 5 fr) from HRW.out)
            clear HBW HFW HRW
            generalize w3.drew = w4 at *
            go_wp2_with fail
            rw [show (((⟨#[92, 117, 48, 48]⟩ : ByteArray) ++ (⟨#[48, 49, 50, 51, 52, 53, 54, 55, 56, 57, 97, 98, 99, 100, 101, 102]⟩ : ByteArray).extract 0 1) ++ (⟨#[48, 49, 50, 51, 52, 53, 54, 55, 56, 57, 97, 98, 99, 100, 101, 102]⟩ : ByteArray).extract 15 16) = ⟨([92, 117, 48, 48, 48, 102] : List UInt8).toArray⟩ from by kernel_rfl]
            refine (WriteString_z b _ [92, 117, 48, 48, 48, 102] w4 HB3.out (by simp only [List.length_cons, List.length_nil]; omega)).mono ?_
            rintro e w5 ⟨rfl, hb5, hf5⟩
            have HB5 : Hid (BldZ b (l ++ 34 :: (s.take (j + 1)).flatMap quoteC) w5) := Lib.hid (by rw [HQ.out, show quoteC 15 = [92, 117, 48, 48, 48, 102] from by decide]; simpa using hb5)
            have HF5 := Lib.hid (HF3.out.trans hf5)
            have HR5 := Lib.hid (hf5.block g _ HR3.out hgb HFR.out)
            clear hb5 hf5
            go_wp2_with fail
            go_roundg (gk - 1)
            case measure => omega
            case rel => exact ⟨j + 1, by first | rfl | (congr 1), by omega, HB5, HF5, HR5⟩
          · have hbi : bits BinOp.and IntKind.u8 16 15 = 0 := by decide
            have hw1 : IntKind.u8.wrap 1 = 1 := by decide
            have hw2 : IntKind.u8.wrap 2 = 2 := by decide
            go_still_tail 15, (by kernel_rfl)
            change wpList _ _ _ _ _ w3.drew
            have HB3 := Lib.hid (show BldZ b (l ++ 34 :: (s.take j).flatMap quoteC) w3.drew from HBW.out)
            have HF3 := Lib.hid (show FrZ b w w3.drew from ⟨HFW.out.os, HFW.out.tape, HFW.out.output, HFW.out.size, HFW.out.low, HFW.out.block⟩)
            have HR3 := Lib.hid (show w3.drew.heap[g]? = some (.cells cur 5 fr) from HRW.out)
            clear HBW HFW HRW
            generalize w3.drew = w4 at *
            go_wp2_with fail
            rw [show (((⟨#[92, 117, 48, 48]⟩ : ByteArray) ++ (⟨#[48, 49, 50, 51, 52, 53, 54, 55, 56, 57, 97, 98, 99, 100, 101, 102]⟩ : ByteArray).extract 1 2) ++ (⟨#[48, 49, 50, 51, 52, 53, 54, 55, 56, 57, 97, 98, 99, 100, 101, 102]⟩ : ByteArray).extract 0 1) = ⟨([92, 117, 48, 48, 49, 48] : List UInt8).toArray⟩ from by kernel_rfl]
            refine (WriteString_z b _ [92, 117, 48, 48, 49, 48] w4 HB3.out (by simp only [List.length_cons, List.length_nil]; omega)).mono ?_
            rintro e w5 ⟨rfl, hb5, hf5⟩
            have HB5 : Hid (BldZ b (l ++ 34 :: (s.take (j + 1)).flatMap quoteC) w5) := Lib.hid (by rw [HQ.out, show quoteC 16 = [92, 117, 48, 48, 49, 48] from by decide]; simpa using hb5)
            have HF5 := Lib.hid (HF3.out.trans hf5)
            have HR5 := Lib.hid (hf5.block g _ HR3.out hgb HFR.out)
            clear hb5 hf5
            go_wp2_with fail
            go_roundg (gk - 1)
            case measure => omega
            case rel => exact ⟨j + 1, by first | rfl | (congr 1), by omega, HB5, HF5, HR5⟩
          · have hbi : bits BinOp.and IntKind.u8 17 15 = 1 := by decide
            have hw2 : IntKind.u8.wrap 2 = 2 := by decide
            go_still_tail 15, (by kernel_rfl)
            change wpList _ _ _ _ _ w3.drew
            have HB3 := Lib.hid (show BldZ b (l ++ 34 :: (s.take j).flatMap quoteC) w3.drew from HBW.out)
            have HF3 := Lib.hid (show FrZ b w w3.drew from ⟨HFW.out.os, HFW.out.tape, HFW.out.output, HFW.out.size, HFW.out.low, HFW.out.block⟩)
            have HR3 := Lib.hid (show w3.drew.heap[g]? = some (.cells cur 5 fr) from HRW.out)
            clear HBW HFW HRW
            generalize w3.drew = w4 at *
            go_wp2_with fail
            rw [show (((⟨#[92, 117, 48, 48]⟩ : ByteArray) ++ (⟨#[48, 49, 50, 51, 52, 53, 54, 55, 56, 57, 97, 98, 99, 100, 101, 102]⟩ : ByteArray).extract 1 2) ++ (⟨#[48, 49, 50, 51, 52, 53, 54, 55, 56, 57, 97, 98, 99, 100, 101, 102]⟩ : ByteArray).extract 1 2) = ⟨([92, 117, 48, 48, 49, 49] : List UInt8).toArray⟩ from by kernel_rfl]
            refine (WriteString_z b _ [92, 117, 48, 48, 49, 49] w4 HB3.out (by simp only [List.length_cons, List.length_nil]; omega)).mono ?_
            rintro e w5 ⟨rfl, hb5, hf5⟩
            have HB5 : Hid (BldZ b (l ++ 34 :: (s.take (j + 1)).flatMap quoteC) w5) := Lib.hid (by rw [HQ.out, show quoteC 17 = [92, 117, 48, 48, 49, 49] from by decide]; simpa using hb5)
            have HF5 := Lib.hid (HF3.out.trans hf5)
            have HR5 := Lib.hid (hf5.block g _ HR3.out hgb HFR.out)
            clear hb5 hf5
            go_wp2_with fail
            go_roundg (gk - 1)
            case measure => omega
            case rel => exact ⟨j + 1, by first | rfl | (congr 1), by omega, HB5, HF5, HR5⟩
          · have hbi : bits BinOp.and IntKind.u8 18 15 = 2 := by decide
            have hw2 : IntKind.u8.wrap 2 = 2 := by decide
            have hw3 : IntKind.u8.wrap 3 = 3 := by decide
            go_still_tail 15, (by kernel_rfl)
            change wpList _ _ _ _ _ w3.drew
            have HB3 := Lib.hid (show BldZ b (l ++ 34 :: (s.take j).flatMap quoteC) w3.drew from HBW.out)
            have HF3 := Lib.hid (show FrZ b w w3.drew from ⟨HFW.out.os, HFW.out.tape, HFW.out.output, HFW.out.size, HFW.out.low, HFW.out.block⟩)
            have HR3 := Lib.hid (show w3.drew.heap[g]? = some (.cells cur 5 fr) from HRW.out)
            clear HBW HFW HRW
            generalize w3.drew = w4 at *
            go_wp2_with fail
            rw [show (((⟨#[92, 117, 48, 48]⟩ : ByteArray) ++ (⟨#[48, 49, 50, 51, 52, 53, 54, 55, 56, 57, 97, 98, 99, 100, 101, 102]⟩ : ByteArray).extract 1 2) ++ (⟨#[48, 49, 50, 51, 52, 53, 54, 55, 56, 57, 97, 98, 99, 100, 101, 102]⟩ : ByteArray).extract 2 3) = ⟨([92, 117, 48, 48, 49, 50] : List UInt8).toArray⟩ from by kernel_rfl]
            refine (WriteString_z b _ [92, 117, 48, 48, 49, 50] w4 HB3.out (by simp only [List.length_cons, List.length_nil]; omega)).mono ?_
            rintro e w5 ⟨rfl, hb5, hf5⟩
            have HB5 : Hid (BldZ b (l ++ 34 :: (s.take (j + 1)).flatMap quoteC) w5) := Lib.hid (by rw [HQ.out, show quoteC 18 = [92, 117, 48, 48, 49, 50] from by decide]; simpa using hb5)
            have HF5 := Lib.hid (HF3.out.trans hf5)
            have HR5 := Lib.hid (hf5.block g _ HR3.out hgb HFR.out)
            clear hb5 hf5
            go_wp2_with fail
            go_roundg (gk - 1)
            case measure => omega
            case rel => exact ⟨j + 1, by first | rfl | (congr 1), by omega, HB5, HF5, HR5⟩
          · have hbi : bits BinOp.and IntKind.u8 19 15 = 3 := by decide
            have hw2 : IntKind.u8.wrap 2 = 2 := by decide
            have hw4 : IntKind.u8.wrap 4 = 4 := by decide
            go_still_tail 15, (by kernel_rfl)
            change wpList _ _ _ _ _ w3.drew
            have HB3 := Lib.hid (show BldZ b (l ++ 34 :: (s.take j).flatMap quoteC) w3.drew from HBW.out)
            have HF3 := Lib.hid (show FrZ b w w3.drew from ⟨HFW.out.os, HFW.out.tape, HFW.out.output, HFW.out.size, HFW.out.low, HFW.out.block⟩)
            have HR3 := Lib.hid (show w3.drew.heap[g]? = some (.cells cur 5 fr) from HRW.out)
            clear HBW HFW HRW
            generalize w3.drew = w4 at *
            go_wp2_with fail
            rw [show (((⟨#[92, 117, 48, 48]⟩ : ByteArray) ++ (⟨#[48, 49, 50, 51, 52, 53, 54, 55, 56, 57, 97, 98, 99, 100, 101, 102]⟩ : ByteArray).extract 1 2) ++ (⟨#[48, 49, 50, 51, 52, 53, 54, 55, 56, 57, 97, 98, 99, 100, 101, 102]⟩ : ByteArray).extract 3 4) = ⟨([92, 117, 48, 48, 49, 51] : List UInt8).toArray⟩ from by kernel_rfl]
            refine (WriteString_z b _ [92, 117, 48, 48, 49, 51] w4 HB3.out (by simp only [List.length_cons, List.length_nil]; omega)).mono ?_
            rintro e w5 ⟨rfl, hb5, hf5⟩
            have HB5 : Hid (BldZ b (l ++ 34 :: (s.take (j + 1)).flatMap quoteC) w5) := Lib.hid (by rw [HQ.out, show quoteC 19 = [92, 117, 48, 48, 49, 51] from by decide]; simpa using hb5)
            have HF5 := Lib.hid (HF3.out.trans hf5)
            have HR5 := Lib.hid (hf5.block g _ HR3.out hgb HFR.out)
            clear hb5 hf5
            go_wp2_with fail
            go_roundg (gk - 1)
            case measure => omega
            case rel => exact ⟨j + 1, by first | rfl | (congr 1), by omega, HB5, HF5, HR5⟩
          · have hbi : bits BinOp.and IntKind.u8 20 15 = 4 := by decide
            have hw2 : IntKind.u8.wrap 2 = 2 := by decide
            have hw5 : IntKind.u8.wrap 5 = 5 := by decide
            go_still_tail 15, (by kernel_rfl)
            change wpList _ _ _ _ _ w3.drew
            have HB3 := Lib.hid (show BldZ b (l ++ 34 :: (s.take j).flatMap quoteC) w3.drew from HBW.out)
            have HF3 := Lib.hid (show FrZ b w w3.drew from ⟨HFW.out.os, HFW.out.tape, HFW.out.output, HFW.out.size, HFW.out.low, HFW.out.block⟩)
            have HR3 := Lib.hid (show w3.drew.heap[g]? = some (.cells cur 5 fr) from HRW.out)
            clear HBW HFW HRW
            generalize w3.drew = w4 at *
            go_wp2_with fail
            rw [show (((⟨#[92, 117, 48, 48]⟩ : ByteArray) ++ (⟨#[48, 49, 50, 51, 52, 53, 54, 55, 56, 57, 97, 98, 99, 100, 101, 102]⟩ : ByteArray).extract 1 2) ++ (⟨#[48, 49, 50, 51, 52, 53, 54, 55, 56, 57, 97, 98, 99, 100, 101, 102]⟩ : ByteArray).extract 4 5) = ⟨([92, 117, 48, 48, 49, 52] : List UInt8).toArray⟩ from by kernel_rfl]
            refine (WriteString_z b _ [92, 117, 48, 48, 49, 52] w4 HB3.out (by simp only [List.length_cons, List.length_nil]; omega)).mono ?_
            rintro e w5 ⟨rfl, hb5, hf5⟩
            have HB5 : Hid (BldZ b (l ++ 34 :: (s.take (j + 1)).flatMap quoteC) w5) := Lib.hid (by rw [HQ.out, show quoteC 20 = [92, 117, 48, 48, 49, 52] from by decide]; simpa using hb5)
            have HF5 := Lib.hid (HF3.out.trans hf5)
            have HR5 := Lib.hid (hf5.block g _ HR3.out hgb HFR.out)
            clear hb5 hf5
            go_wp2_with fail
            go_roundg (gk - 1)
            case measure => omega
            case rel => exact ⟨j + 1, by first | rfl | (congr 1), by omega, HB5, HF5, HR5⟩
          · have hbi : bits BinOp.and IntKind.u8 21 15 = 5 := by decide
            have hw2 : IntKind.u8.wrap 2 = 2 := by decide
            have hw6 : IntKind.u8.wrap 6 = 6 := by decide
            go_still_tail 15, (by kernel_rfl)
            change wpList _ _ _ _ _ w3.drew
            have HB3 := Lib.hid (show BldZ b (l ++ 34 :: (s.take j).flatMap quoteC) w3.drew from HBW.out)
            have HF3 := Lib.hid (show FrZ b w w3.drew from ⟨HFW.out.os, HFW.out.tape, HFW.out.output, HFW.out.size, HFW.out.low, HFW.out.block⟩)
            have HR3 := Lib.hid (show w3.drew.heap[g]? = some (.cells cur 5 fr) from HRW.out)
            clear HBW HFW HRW
            generalize w3.drew = w4 at *
            go_wp2_with fail
            rw [show (((⟨#[92, 117, 48, 48]⟩ : ByteArray) ++ (⟨#[48, 49, 50, 51, 52, 53, 54, 55, 56, 57, 97, 98, 99, 100, 101, 102]⟩ : ByteArray).extract 1 2) ++ (⟨#[48, 49, 50, 51, 52, 53, 54, 55, 56, 57, 97, 98, 99, 100, 101, 102]⟩ : ByteArray).extract 5 6) = ⟨([92, 117, 48, 48, 49, 53] : List UInt8).toArray⟩ from by kernel_rfl]
            refine (WriteString_z b _ [92, 117, 48, 48, 49, 53] w4 HB3.out (by simp only [List.length_cons, List.length_nil]; omega)).mono ?_
            rintro e w5 ⟨rfl, hb5, hf5⟩
            have HB5 : Hid (BldZ b (l ++ 34 :: (s.take (j + 1)).flatMap quoteC) w5) := Lib.hid (by rw [HQ.out, show quoteC 21 = [92, 117, 48, 48, 49, 53] from by decide]; simpa using hb5)
            have HF5 := Lib.hid (HF3.out.trans hf5)
            have HR5 := Lib.hid (hf5.block g _ HR3.out hgb HFR.out)
            clear hb5 hf5
            go_wp2_with fail
            go_roundg (gk - 1)
            case measure => omega
            case rel => exact ⟨j + 1, by first | rfl | (congr 1), by omega, HB5, HF5, HR5⟩
          · have hbi : bits BinOp.and IntKind.u8 22 15 = 6 := by decide
            have hw2 : IntKind.u8.wrap 2 = 2 := by decide
            have hw7 : IntKind.u8.wrap 7 = 7 := by decide
            go_still_tail 15, (by kernel_rfl)
            change wpList _ _ _ _ _ w3.drew
            have HB3 := Lib.hid (show BldZ b (l ++ 34 :: (s.take j).flatMap quoteC) w3.drew from HBW.out)
            have HF3 := Lib.hid (show FrZ b w w3.drew from ⟨HFW.out.os, HFW.out.tape, HFW.out.output, HFW.out.size, HFW.out.low, HFW.out.block⟩)
            have HR3 := Lib.hid (show w3.drew.heap[g]? = some (.cells cur 5 fr) from HRW.out)
            clear HBW HFW HRW
            generalize w3.drew = w4 at *
            go_wp2_with fail
            rw [show (((⟨#[92, 117, 48, 48]⟩ : ByteArray) ++ (⟨#[48, 49, 50, 51, 52, 53, 54, 55, 56, 57, 97, 98, 99, 100, 101, 102]⟩ : ByteArray).extract 1 2) ++ (⟨#[48, 49, 50, 51, 52, 53, 54, 55, 56, 57, 97, 98, 99, 100, 101, 102]⟩ : ByteArray).extract 6 7) = ⟨([92, 117, 48, 48, 49, 54] : List UInt8).toArray⟩ from by kernel_rfl]
            refine (WriteString_z b _ [92, 117, 48, 48, 49, 54] w4 HB3.out (by simp only [List.length_cons, List.length_nil]; omega)).mono ?_
            rintro e w5 ⟨rfl, hb5, hf5⟩
            have HB5 : Hid (BldZ b (l ++ 34 :: (s.take (j + 1)).flatMap quoteC) w5) := Lib.hid (by rw [HQ.out, show quoteC 22 = [92, 117, 48, 48, 49, 54] from by decide]; simpa using hb5)
            have HF5 := Lib.hid (HF3.out.trans hf5)
            have HR5 := Lib.hid (hf5.block g _ HR3.out hgb HFR.out)
            clear hb5 hf5
            go_wp2_with fail
            go_roundg (gk - 1)
            case measure => omega
            case rel => exact ⟨j + 1, by first | rfl | (congr 1), by omega, HB5, HF5, HR5⟩
          · have hbi : bits BinOp.and IntKind.u8 23 15 = 7 := by decide
            have hw2 : IntKind.u8.wrap 2 = 2 := by decide
            have hw8 : IntKind.u8.wrap 8 = 8 := by decide
            go_still_tail 15, (by kernel_rfl)
            change wpList _ _ _ _ _ w3.drew
            have HB3 := Lib.hid (show BldZ b (l ++ 34 :: (s.take j).flatMap quoteC) w3.drew from HBW.out)
            have HF3 := Lib.hid (show FrZ b w w3.drew from ⟨HFW.out.os, HFW.out.tape, HFW.out.output, HFW.out.size, HFW.out.low, HFW.out.block⟩)
            have HR3 := Lib.hid (show w3.drew.heap[g]? = some (.cells cur 5 fr) from HRW.out)
            clear HBW HFW HRW
            generalize w3.drew = w4 at *
            go_wp2_with fail
            rw [show (((⟨#[92, 117, 48, 48]⟩ : ByteArray) ++ (⟨#[48, 49, 50, 51, 52, 53, 54, 55, 56, 57, 97, 98, 99, 100, 101, 102]⟩ : ByteArray).extract 1 2) ++ (⟨#[48, 49, 50, 51, 52, 53, 54, 55, 56, 57, 97, 98, 99, 100, 101, 102]⟩ : ByteArray).extract 7 8) = ⟨([92, 117, 48, 48, 49, 55] : List UInt8).toArray⟩ from by kernel_rfl]
            refine (WriteString_z b _ [92, 117, 48, 48, 49, 55] w4 HB3.out (by simp only [List.length_cons, List.length_nil]; omega)).mono ?_
            rintro e w5 ⟨rfl, hb5, hf5⟩
            have HB5 : Hid (BldZ b (l ++ 34 :: (s.take (j + 1)).flatMap quoteC) w5) := Lib.hid (by rw [HQ.out, show quoteC 23 = [92, 117, 48, 48, 49, 55] from by decide]; simpa using hb5)
            have HF5 := Lib.hid (HF3.out.trans hf5)
            have HR5 := Lib.hid (hf5.block g _ HR3.out hgb HFR.out)
            clear hb5 hf5
            go_wp2_with fail
            go_roundg (gk - 1)
            case measure => omega
            case rel => exact ⟨j + 1, by first | rfl | (congr 1), by omega, HB5, HF5, HR5⟩
          · have hbi : bits BinOp.and IntKind.u8 24 15 = 8 := by decide
            have hw2 : IntKind.u8.wrap 2 = 2 := by decide
            have hw9 : IntKind.u8.wrap 9 = 9 := by decide
            go_still_tail 15, (by kernel_rfl)
            change wpList _ _ _ _ _ w3.drew
            have HB3 := Lib.hid (show BldZ b (l ++ 34 :: (s.take j).flatMap quoteC) w3.drew from HBW.out)
            have HF3 := Lib.hid (show FrZ b w w3.drew from ⟨HFW.out.os, HFW.out.tape, HFW.out.output, HFW.out.size, HFW.out.low, HFW.out.block⟩)
            have HR3 := Lib.hid (show w3.drew.heap[g]? = some (.cells cur 5 fr) from HRW.out)
            clear HBW HFW HRW
            generalize w3.drew = w4 at *
            go_wp2_with fail
            rw [show (((⟨#[92, 117, 48, 48]⟩ : ByteArray) ++ (⟨#[48, 49, 50, 51, 52, 53, 54, 55, 56, 57, 97, 98, 99, 100, 101, 102]⟩ : ByteArray).extract 1 2) ++ (⟨#[48, 49, 50, 51, 52, 53, 54, 55, 56, 57, 97, 98, 99, 100, 101, 102]⟩ : ByteArray).extract 8 9) = ⟨([92, 117, 48, 48, 49, 56] : List UInt8).toArray⟩ from by kernel_rfl]
            refine (WriteString_z b _ [92, 117, 48, 48, 49, 56] w4 HB3.out (by simp only [List.length_cons, List.length_nil]; omega)).mono ?_
            rintro e w5 ⟨rfl, hb5, hf5⟩
            have HB5 : Hid (BldZ b (l ++ 34 :: (s.take (j + 1)).flatMap quoteC) w5) := Lib.hid (by rw [HQ.out, show quoteC 24 = [92, 117, 48, 48, 49, 56] from by decide]; simpa using hb5)
            have HF5 := Lib.hid (HF3.out.trans hf5)
            have HR5 := Lib.hid (hf5.block g _ HR3.out hgb HFR.out)
            clear hb5 hf5
            go_wp2_with fail
            go_roundg (gk - 1)
            case measure => omega
            case rel => exact ⟨j + 1, by first | rfl | (congr 1), by omega, HB5, HF5, HR5⟩
          · have hbi : bits BinOp.and IntKind.u8 25 15 = 9 := by decide
            have hw2 : IntKind.u8.wrap 2 = 2 := by decide
            have hw10 : IntKind.u8.wrap 10 = 10 := by decide
            go_still_tail 15, (by kernel_rfl)
            change wpList _ _ _ _ _ w3.drew
            have HB3 := Lib.hid (show BldZ b (l ++ 34 :: (s.take j).flatMap quoteC) w3.drew from HBW.out)
            have HF3 := Lib.hid (show FrZ b w w3.drew from ⟨HFW.out.os, HFW.out.tape, HFW.out.output, HFW.out.size, HFW.out.low, HFW.out.block⟩)
            have HR3 := Lib.hid (show w3.drew.heap[g]? = some (.cells cur 5 fr) from HRW.out)
            clear HBW HFW HRW
            generalize w3.drew = w4 at *
            go_wp2_with fail
            rw [show (((⟨#[92, 117, 48, 48]⟩ : ByteArray) ++ (⟨#[48, 49, 50, 51, 52, 53, 54, 55, 56, 57, 97, 98, 99, 100, 101, 102]⟩ : ByteArray).extract 1 2) ++ (⟨#[48, 49, 50, 51, 52, 53, 54, 55, 56, 57, 97, 98, 99, 100, 101, 102]⟩ : ByteArray).extract 9 10) = ⟨([92, 117, 48, 48, 49, 57] : List UInt8).toArray⟩ from by kernel_rfl]
            refine (WriteString_z b _ [92, 117, 48, 48, 49, 57] w4 HB3.out (by simp only [List.length_cons, List.length_nil]; omega)).mono ?_
            rintro e w5 ⟨rfl, hb5, hf5⟩
            have HB5 : Hid (BldZ b (l ++ 34 :: (s.take (j + 1)).flatMap quoteC) w5) := Lib.hid (by rw [HQ.out, show quoteC 25 = [92, 117, 48, 48, 49, 57] from by decide]; simpa using hb5)
            have HF5 := Lib.hid (HF3.out.trans hf5)
            have HR5 := Lib.hid (hf5.block g _ HR3.out hgb HFR.out)
            clear hb5 hf5
            go_wp2_with fail
            go_roundg (gk - 1)
            case measure => omega
            case rel => exact ⟨j + 1, by first | rfl | (congr 1), by omega, HB5, HF5, HR5⟩
          · have hbi : bits BinOp.and IntKind.u8 26 15 = 10 := by decide
            have hw2 : IntKind.u8.wrap 2 = 2 := by decide
            have hw11 : IntKind.u8.wrap 11 = 11 := by decide
            go_still_tail 15, (by kernel_rfl)
            change wpList _ _ _ _ _ w3.drew
            have HB3 := Lib.hid (show BldZ b (l ++ 34 :: (s.take j).flatMap quoteC) w3.drew from HBW.out)
            have HF3 := Lib.hid (show FrZ b w w3.drew from ⟨HFW.out.os, HFW.out.tape, HFW.out.output, HFW.out.size, HFW.out.low, HFW.out.block⟩)
            have HR3 := Lib.hid (show w3.drew.heap[g]? = some (.cells cur 5 fr) from HRW.out)
            clear HBW HFW HRW
            generalize w3.drew = w4 at *
            go_wp2_with fail
            rw [show (((⟨#[92, 117, 48, 48]⟩ : ByteArray) ++ (⟨#[48, 49, 50, 51, 52, 53, 54, 55, 56, 57, 97, 98, 99, 100, 101, 102]⟩ : ByteArray).extract 1 2) ++ (⟨#[48, 49, 50, 51, 52, 53, 54, 55, 56, 57, 97, 98, 99, 100, 101, 102]⟩ : ByteArray).extract 10 11) = ⟨([92, 117, 48, 48, 49, 97] : List UInt8).toArray⟩ from by kernel_rfl]
            refine (WriteString_z b _ [92, 117, 48, 48, 49, 97] w4 HB3.out (by simp only [List.length_cons, List.length_nil]; omega)).mono ?_
            rintro e w5 ⟨rfl, hb5, hf5⟩
            have HB5 : Hid (BldZ b (l ++ 34 :: (s.take (j + 1)).flatMap quoteC) w5) := Lib.hid (by rw [HQ.out, show quoteC 26 = [92, 117, 48, 48, 49, 97] from by decide]; simpa using hb5)
            have HF5 := Lib.hid (HF3.out.trans hf5)
            have HR5 := Lib.hid (hf5.block g _ HR3.out hgb HFR.out)
            clear hb5 hf5
            go_wp2_with fail
            go_roundg (gk - 1)
            case measure => omega
            case rel => exact ⟨j + 1, by first | rfl | (congr 1), by omega, HB5, HF5, HR5⟩
          · have hbi : bits BinOp.and IntKind.u8 27 15 = 11 := by decide
            have hw2 : IntKind.u8.wrap 2 = 2 := by decide
            have hw12 : IntKind.u8.wrap 12 = 12 := by decide
            go_still_tail 15, (by kernel_rfl)
            change wpList _ _ _ _ _ w3.drew
            have HB3 := Lib.hid (show BldZ b (l ++ 34 :: (s.take j).flatMap quoteC) w3.drew from HBW.out)
            have HF3 := Lib.hid (show FrZ b w w3.drew from ⟨HFW.out.os, HFW.out.tape, HFW.out.output, HFW.out.size, HFW.out.low, HFW.out.block⟩)
            have HR3 := Lib.hid (show w3.drew.heap[g]? = some (.cells cur 5 fr) from HRW.out)
            clear HBW HFW HRW
            generalize w3.drew = w4 at *
            go_wp2_with fail
            rw [show (((⟨#[92, 117, 48, 48]⟩ : ByteArray) ++ (⟨#[48, 49, 50, 51, 52, 53, 54, 55, 56, 57, 97, 98, 99, 100, 101, 102]⟩ : ByteArray).extract 1 2) ++ (⟨#[48, 49, 50, 51, 52, 53, 54, 55, 56, 57, 97, 98, 99, 100, 101, 102]⟩ : ByteArray).extract 11 12) = ⟨([92, 117, 48, 48, 49, 98] : List UInt8).toArray⟩ from by kernel_rfl]
            refine (WriteString_z b _ [92, 117, 48, 48, 49, 98] w4 HB3.out (by simp only [List.length_cons, List.length_nil]; omega)).mono ?_
            rintro e w5 ⟨rfl, hb5, hf5⟩
            have HB5 : Hid (BldZ b (l ++ 34 :: (s.take (j + 1)).flatMap quoteC) w5) := Lib.hid (by rw [HQ.out, show quoteC 27 = [92, 117, 48, 48, 49, 98] from by decide]; simpa using hb5)
            have HF5 := Lib.hid (HF3.out.trans hf5)
            have HR5 := Lib.hid (hf5.block g _ HR3.out hgb HFR.out)
            clear hb5 hf5
            go_wp2_with fail
            go_roundg (gk - 1)
            case measure => omega
            case rel => exact ⟨j + 1, by first | rfl | (congr 1), by omega, HB5, HF5, HR5⟩
          · have hbi : bits BinOp.and IntKind.u8 28 15 = 12 := by decide
            have hw2 : IntKind.u8.wrap 2 = 2 := by decide
            have hw13 : IntKind.u8.wrap 13 = 13 := by decide
            go_still_tail 15, (by kernel_rfl)
            change wpList _ _ _ _ _ w3.drew
            have HB3 := Lib.hid (show BldZ b (l ++ 34 :: (s.take j).flatMap quoteC) w3.drew from HBW.out)
            have HF3 := Lib.hid (show FrZ b w w3.drew from ⟨HFW.out.os, HFW.out.tape, HFW.out.output, HFW.out.size, HFW.out.low, HFW.out.block⟩)
            have HR3 := Lib.hid (show w3.drew.heap[g]? = some (.cells cur 5 fr) from HRW.out)
            clear HBW HFW HRW
            generalize w3.drew = w4 at *
            go_wp2_with fail
            rw [show (((⟨#[92, 117, 48, 48]⟩ : ByteArray) ++ (⟨#[48, 49, 50, 51, 52, 53, 54, 55, 56, 57, 97, 98, 99, 100, 101, 102]⟩ : ByteArray).extract 1 2) ++ (⟨#[48, 49, 50, 51, 52, 53, 54, 55, 56, 57, 97, 98, 99, 100, 101, 102]⟩ : ByteArray).extract 12 13) = ⟨([92, 117, 48, 48, 49, 99] : List UInt8).toArray⟩ from by kernel_rfl]
            refine (WriteString_z b _ [92, 117, 48, 48, 49, 99] w4 HB3.out (by simp only [List.length_cons, List.length_nil]; omega)).mono ?_
            rintro e w5 ⟨rfl, hb5, hf5⟩
            have HB5 : Hid (BldZ b (l ++ 34 :: (s.take (j + 1)).flatMap quoteC) w5) := Lib.hid (by rw [HQ.out, show quoteC 28 = [92, 117, 48, 48, 49, 99] from by decide]; simpa using hb5)
            have HF5 := Lib.hid (HF3.out.trans hf5)
            have HR5 := Lib.hid (hf5.block g _ HR3.out hgb HFR.out)
            clear hb5 hf5
            go_wp2_with fail
            go_roundg (gk - 1)
            case measure => omega
            case rel => exact ⟨j + 1, by first | rfl | (congr 1), by omega, HB5, HF5, HR5⟩
          · have hbi : bits BinOp.and IntKind.u8 29 15 = 13 := by decide
            have hw2 : IntKind.u8.wrap 2 = 2 := by decide
            have hw14 : IntKind.u8.wrap 14 = 14 := by decide
            go_still_tail 15, (by kernel_rfl)
            change wpList _ _ _ _ _ w3.drew
            have HB3 := Lib.hid (show BldZ b (l ++ 34 :: (s.take j).flatMap quoteC) w3.drew from HBW.out)
            have HF3 := Lib.hid (show FrZ b w w3.drew from ⟨HFW.out.os, HFW.out.tape, HFW.out.output, HFW.out.size, HFW.out.low, HFW.out.block⟩)
            have HR3 := Lib.hid (show w3.drew.heap[g]? = some (.cells cur 5 fr) from HRW.out)
            clear HBW HFW HRW
            generalize w3.drew = w4 at *
            go_wp2_with fail
            rw [show (((⟨#[92, 117, 48, 48]⟩ : ByteArray) ++ (⟨#[48, 49, 50, 51, 52, 53, 54, 55, 56, 57, 97, 98, 99, 100, 101, 102]⟩ : ByteArray).extract 1 2) ++ (⟨#[48, 49, 50, 51, 52, 53, 54, 55, 56, 57, 97, 98, 99, 100, 101, 102]⟩ : ByteArray).extract 13 14) = ⟨([92, 117, 48, 48, 49, 100] : List UInt8).toArray⟩ from by kernel_rfl]
            refine (WriteString_z b _ [92, 117, 48, 48, 49, 100] w4 HB3.out (by simp only [List.length_cons, List.length_nil]; omega)).mono ?_
            rintro e w5 ⟨rfl, hb5, hf5⟩
            have HB5 : Hid (BldZ b (l ++ 34 :: (s.take (j + 1)).flatMap quoteC) w5) := Lib.hid (by rw [HQ.out, show quoteC 29 = [92, 117, 48, 48, 49, 100] from by decide]; simpa using hb5)
            have HF5 := Lib.hid (HF3.out.trans hf5)
            have HR5 := Lib.hid (hf5.block g _ HR3.out hgb HFR.out)
            clear hb5 hf5
            go_wp2_with fail
            go_roundg (gk - 1)
            case measure => omega
            case rel => exact ⟨j + 1, by first | rfl | (congr 1), by omega, HB5, HF5, HR5⟩
          · have hbi : bits BinOp.and IntKind.u8 30 15 = 14 := by decide
            have hw2 : IntKind.u8.wrap 2 = 2 := by decide
            have hw15 : IntKind.u8.wrap 15 = 15 := by decide
            go_still_tail 15, (by kernel_rfl)
            change wpList _ _ _ _ _ w3.drew
            have HB3 := Lib.hid (show BldZ b (l ++ 34 :: (s.take j).flatMap quoteC) w3.drew from HBW.out)
            have HF3 := Lib.hid (show FrZ b w w3.drew from ⟨HFW.out.os, HFW.out.tape, HFW.out.output, HFW.out.size, HFW.out.low, HFW.out.block⟩)
            have HR3 := Lib.hid (show w3.drew.heap[g]? = some (.cells cur 5 fr) from HRW.out)
            clear HBW HFW HRW
            generalize w3.drew = w4 at *
            go_wp2_with fail
            rw [show (((⟨#[92, 117, 48, 48]⟩ : ByteArray) ++ (⟨#[48, 49, 50, 51, 52, 53, 54, 55, 56, 57, 97, 98, 99, 100, 101, 102]⟩ : ByteArray).extract 1 2) ++ (⟨#[48, 49, 50, 51, 52, 53, 54, 55, 56, 57, 97, 98, 99, 100, 101, 102]⟩ : ByteArray).extract 14 15) = ⟨([92, 117, 48, 48, 49, 101] : List UInt8).toArray⟩ from by kernel_rfl]
            refine (WriteString_z b _ [92, 117, 48, 48, 49, 101] w4 HB3.out (by simp only [List.length_cons, List.length_nil]; omega)).mono ?_
            rintro e w5 ⟨rfl, hb5, hf5⟩
            have HB5 : Hid (BldZ b (l ++ 34 :: (s.take (j + 1)).flatMap quoteC) w5) := Lib.hid (by rw [HQ.out, show quoteC 30 = [92, 117, 48, 48, 49, 101] from by decide]; simpa using hb5)
            have HF5 := Lib.hid (HF3.out.trans hf5)
            have HR5 := Lib.hid (hf5.block g _ HR3.out hgb HFR.out)
            clear hb5 hf5
            go_wp2_with fail
            go_roundg (gk - 1)
            case measure => omega
            case rel => exact ⟨j + 1, by first | rfl | (congr 1), by omega, HB5, HF5, HR5⟩
          · have hbi : bits BinOp.and IntKind.u8 31 15 = 15 := by decide
            have hw2 : IntKind.u8.wrap 2 = 2 := by decide
            have hw16 : IntKind.u8.wrap 16 = 16 := by decide
            go_still_tail 15, (by kernel_rfl)
            change wpList _ _ _ _ _ w3.drew
            have HB3 := Lib.hid (show BldZ b (l ++ 34 :: (s.take j).flatMap quoteC) w3.drew from HBW.out)
            have HF3 := Lib.hid (show FrZ b w w3.drew from ⟨HFW.out.os, HFW.out.tape, HFW.out.output, HFW.out.size, HFW.out.low, HFW.out.block⟩)
            have HR3 := Lib.hid (show w3.drew.heap[g]? = some (.cells cur 5 fr) from HRW.out)
            clear HBW HFW HRW
            generalize w3.drew = w4 at *
            go_wp2_with fail
            rw [show (((⟨#[92, 117, 48, 48]⟩ : ByteArray) ++ (⟨#[48, 49, 50, 51, 52, 53, 54, 55, 56, 57, 97, 98, 99, 100, 101, 102]⟩ : ByteArray).extract 1 2) ++ (⟨#[48, 49, 50, 51, 52, 53, 54, 55, 56, 57, 97, 98, 99, 100, 101, 102]⟩ : ByteArray).extract 15 16) = ⟨([92, 117, 48, 48, 49, 102] : List UInt8).toArray⟩ from by kernel_rfl]
            refine (WriteString_z b _ [92, 117, 48, 48, 49, 102] w4 HB3.out (by simp only [List.length_cons, List.length_nil]; omega)).mono ?_
            rintro e w5 ⟨rfl, hb5, hf5⟩
            have HB5 : Hid (BldZ b (l ++ 34 :: (s.take (j + 1)).flatMap quoteC) w5) := Lib.hid (by rw [HQ.out, show quoteC 31 = [92, 117, 48, 48, 49, 102] from by decide]; simpa using hb5)
            have HF5 := Lib.hid (HF3.out.trans hf5)
            have HR5 := Lib.hid (hf5.block g _ HR3.out hgb HFR.out)
            clear hb5 hf5
            go_wp2_with fail
            go_roundg (gk - 1)
            case measure => omega
            case rel => exact ⟨j + 1, by first | rfl | (congr 1), by omega, HB5, HF5, HR5⟩
        · have q3 : decide (((x.toNat : Nat) : Int) < 32) = false := decide_eq_false (by omega)
          have hqc2 := hqc.resolve_left h32
          rw [hqc2] at HQ
          clear hlow h0 hqc h32 hqc2
          go_wp2_with fail
          refine (WriteByte_z b _ ((x.toNat : Nat) : Int) x rfl w3 HBW.out (by omega)).mono ?_
          rintro e w5 ⟨rfl, hb5, hf5⟩
          have HB5 : Hid (BldZ b (l ++ 34 :: (s.take (j + 1)).flatMap quoteC) w5) := Lib.hid (by rw [HQ.out]; simpa using hb5)
          have HF5 := Lib.hid (HFW.out.trans hf5)
          have HR5 := Lib.hid (hf5.block g _ HRW.out hgb HFR.out)
          clear hb5 hf5
          go_wp2_with fail
          go_roundg (gk - 1)
          case measure => omega
          case rel => exact ⟨j + 1, by first | rfl | (congr 1), by omega, HB5, HF5, HR5⟩
    · have hge : ¬ (j : Int) < (s.length : Int) := by omega
      have HBE : Hid (BldZ b (l ++ 34 :: s.flatMap quoteC) wr) := Lib.hid (by have := HBW.out; rwa [List.take_of_length_le (by omega)] at this)
      have hln : (l ++ 34 :: s.flatMap quoteC).length ≤ 10700000 := by
        have := flatq_len s
        simp only [List.length_append, List.length_cons] at *
        omega
      go_wp2_with fail
      refine (WriteByte_z b _ 34 34 rfl wr HBE.out (by omega)).mono ?_
      rintro e w5 ⟨rfl, hb5, hf5⟩
      have HB5 : Hid (BldZ b (l ++ quoteL s) w5) := Lib.hid (by unfold quoteL; simpa using hb5)
      have HF5 := Lib.hid (HFW.out.trans hf5)
      clear hb5 hf5
      go_wp2_with fail
      go_end0
      exact ⟨rfl, HB5.out, HF5.out⟩
end Go.Proofs.Ytfcokdkbjajohaa
/- json: comma; what is written of a row. -/
set_option linter.unusedVariables false
namespace Go.Proofs.Ytfcokdkbjajohaa
open Go.RowKit

set_option maxRecDepth 100000 in
set_option maxHeartbeats 8000000 in
theorem jcomma_any (b : Nat) (l : List UInt8) (i : Nat) (w : World) (h : BldZ b l w) (hl : l.length ≤ 100000000) :
    Calls Try.prog 35 #[.pointer (some ⟨b, 0, none⟩), .int .i64 (i : Int)] w fun e w' => e = .returned (.tuple #[]) ∧ BldZ b (l ++ if i = 0 then [] else [44]) w' ∧ FrZ b w w' := by
  have H := Lib.hid h
  clear h
  by_cases hi : i = 0
  · subst hi
    go_enter Try.func35, Try.ntmps35
    go_wp2_with fail
    go_end0
    exact ⟨rfl, by simpa using H.out, FrZ.refl b w⟩
  · have hd : decide ((0 : Int) < ((i : Nat) : Int)) = true := decide_eq_true (by omega)
    have hi0 : 0 < i := by omega
    clear hi
    go_enter Try.func35, Try.ntmps35
    go_wp2_with fail
    refine (WriteByte_z b l 44 44 rfl w H.out (by omega)).mono ?_
    rintro e w1 ⟨rfl, hb1, hf1⟩
    have HB1 := Lib.hid hb1
    have HF1 := Lib.hid hf1
    clear hb1 hf1
    go_wp2_with fail
    go_end0
    exact ⟨rfl, by simpa [show i ≠ 0 by omega] using HB1.out, HF1.out⟩
theorem plainL_snoc (v : JV) : ∀ (l : List JV) (f : Bool), plainL f (l ++ [v]) = plainL f l ++ ((if f = true ∧ l = [] then [] else [44]) ++ plainJ v)
  | [], f => by cases f <;> simp [plainL]
  | x :: l, f => by
    simp only [List.cons_append, plainL]
    rw [plainL_snoc v l false]
    simp
theorem plainM_snoc (n : List UInt8) (v : JV) : ∀ (m : List (List UInt8 × JV)) (f : Bool), plainM f (m ++ [(n, v)]) = plainM f m ++ ((if f = true ∧ m = [] then [] else [44]) ++ (quoteL n ++ (58 :: plainJ v)))
  | [], f => by cases f <;> simp [plainM]
  | (k, x) :: m, f => by
    simp only [List.cons_append, plainM]
    rw [plainM_snoc n v m false]
    simp
theorem plainL_take (l : List JV) (j : Nat) (h : j < l.length) : plainL true (l.take (j + 1)) = plainL true (l.take j) ++ ((if j = 0 then [] else [44]) ++ plainJ l[j]) := by
  rw [List.take_add_one, List.getElem?_eq_getElem h, Option.toList_some, plainL_snoc]
  congr 2
  by_cases e : j = 0
  · subst e; simp
  · rw [if_neg e, if_neg]
    rintro ⟨_, h2⟩
    have := congrArg List.length h2
    simp only [List.length_take, List.length_nil] at this
    omega
theorem plainM_take (m : List (List UInt8 × JV)) (j : Nat) (h : j < m.length) : plainM true (m.take (j + 1)) = plainM true (m.take j) ++ ((if j = 0 then [] else [44]) ++ (quoteL m[j].1 ++ (58 :: plainJ m[j].2))) := by
  rw [List.take_add_one, List.getElem?_eq_getElem h, Option.toList_some, plainM_snoc]
  congr 2
  by_cases e : j = 0
  · subst e; simp
  · rw [if_neg e, if_neg]
    rintro ⟨_, h2⟩
    have := congrArg List.length h2
    simp only [List.length_take, List.length_nil] at this
    omega
end Go.Proofs.Ytfcokdkbjajohaa
/- json: write. -/
set_option linter.unusedVariables false
namespace Go.Proofs.Ytfcokdkbjajohaa
open Go.RowKit

/-- What write does with a value. -/
def WriteC (b : Nat) (v : JV) : Prop := ∀ cs l w, Rep (· < b) w cs v → BldZ b l w → l.length + (plainJ v).length ≤ 100000 →
  Calls Try.prog 19 #[.agg cs.toArray, .pointer (some ⟨b, 0, none⟩)] w fun e w' => e = .returned (.tuple #[]) ∧ BldZ b (l ++ plainJ v) w' ∧ FrZ b w w'
set_option maxRecDepth 100000 in
set_option maxHeartbeats 32000000 in
theorem jwrite_leaf (b : Nat) (k : Int) (y : Bool) (t : List UInt8) (li : List JV) (m : List (List UInt8 × JV)) (h5 : k ≠ 5) (h6 : k ≠ 6) : WriteC b (.mk k y t li m) := by
  intro cs l w h hb hl
  obtain ⟨a, c, a', c', cl, cm, rfl, -⟩ := h.parts
  simp only [JV.kind, JV.yes, JV.text, JV.list, JV.mem, strV] at *
  have HBw := Lib.hid (show ∀ ob, BldZ b l (w.alloc ob) from fun ob => hb.below ((Below.refl _ _).alloc (Nat.le_refl _) _))
  have HFw : Hid (∀ ob, FrZ b w (w.alloc ob)) := Lib.hid fun ob => FrZ.of_below ((Below.refl _ _).alloc (Nat.le_refl _) _) (Nat.le_of_lt hb.lt)
  have HPJ : Hid (plainJ (.mk k y t li m) = if k = 1 then [110, 117, 108, 108] else if k = 2 then (if y then [116, 114, 117, 101] else [102, 97, 108, 115, 101]) else if k = 3 then t else if k = 4 then quoteL t else if k = 5 then 91 :: (plainL true li ++ [93]) else if k = 6 then 123 :: (plainM true m ++ [125]) else []) := Lib.hid (by rw [plainJ])
  have HL := Lib.hid hl
  clear h hb hl
  by_cases h1 : k = 1
  · subst h1
    have HE : Hid (plainJ (.mk 1 y t li m) = [110, 117, 108, 108]) := Lib.hid (by rw [HPJ.out]; rfl)
    rw [HE.out] at HL
    clear h5 h6 HPJ
    go_enter Try.func19, Try.ntmps19
    go_wp2_with fail
    refine (WriteString_z b l [110, 117, 108, 108] _ (HBw.out _) (by have := HL.out; simp only [List.length_cons, List.length_nil] at *; omega)).mono ?_
    rintro e w2 ⟨rfl, hb2, hf2⟩
    have HB2 := Lib.hid hb2
    have HF2 := Lib.hid ((HFw.out _).trans hf2)
    clear hb2 hf2
    go_wp2_with fail
    go_end0
    exact ⟨rfl, by rw [HE.out]; exact HB2.out, HF2.out⟩
  by_cases h2 : k = 2
  · subst h2
    cases y with
    | true =>
      have HE : Hid (plainJ (.mk 2 true t li m) = [116, 114, 117, 101]) := Lib.hid (by rw [HPJ.out]; rfl)
      rw [HE.out] at HL
      clear h5 h6 HPJ
      go_enter Try.func19, Try.ntmps19
      go_wp2_with fail
      refine (Try.strconv_FormatBool true _).mono ?_
      rintro e w1 ⟨rfl, rfl⟩
      go_wp2_with fail
      refine (WriteString_z b l [116, 114, 117, 101] _ (HBw.out _) (by have := HL.out; simp only [List.length_cons, List.length_nil] at *; omega)).mono ?_
      rintro e w2 ⟨rfl, hb2, hf2⟩
      have HB2 := Lib.hid hb2
      have HF2 := Lib.hid ((HFw.out _).trans hf2)
      clear hb2 hf2
      go_wp2_with fail
      go_end0
      exact ⟨rfl, by rw [HE.out]; exact HB2.out, HF2.out⟩
    | false =>
      have HE : Hid (plainJ (.mk 2 false t li m) = [102, 97, 108, 115, 101]) := Lib.hid (by rw [HPJ.out]; rfl)
      rw [HE.out] at HL
      clear h5 h6 HPJ
      go_enter Try.func19, Try.ntmps19
      go_wp2_with fail
      refine (Try.strconv_FormatBool false _).mono ?_
      rintro e w1 ⟨rfl, rfl⟩
      go_wp2_with fail
      refine (WriteString_z b l [102, 97, 108, 115, 101] _ (HBw.out _) (by have := HL.out; simp only [List.length_cons, List.length_nil] at *; omega)).mono ?_
      rintro e w2 ⟨rfl, hb2, hf2⟩
      have HB2 := Lib.hid hb2
      have HF2 := Lib.hid ((HFw.out _).trans hf2)
      clear hb2 hf2
      go_wp2_with fail
      go_end0
      exact ⟨rfl, by rw [HE.out]; exact HB2.out, HF2.out⟩
  by_cases h3 : k = 3
  · subst h3
    have HE : Hid (plainJ (.mk 3 y t li m) = t) := Lib.hid (by rw [HPJ.out]; rfl)
    rw [HE.out] at HL
    clear h5 h6 HPJ
    go_enter Try.func19, Try.ntmps19
    go_wp2_with fail
    refine (WriteString_z b l t _ (HBw.out _) (by have := HL.out; omega)).mono ?_
    rintro e w2 ⟨rfl, hb2, hf2⟩
    have HB2 := Lib.hid hb2
    have HF2 := Lib.hid ((HFw.out _).trans hf2)
    clear hb2 hf2
    go_wp2_with fail
    go_end0
    exact ⟨rfl, by rw [HE.out]; exact HB2.out, HF2.out⟩
  by_cases h4 : k = 4
  · subst h4
    have HE : Hid (plainJ (.mk 4 y t li m) = quoteL t) := Lib.hid (by rw [HPJ.out]; rfl)
    rw [HE.out] at HL
    clear h5 h6 HPJ
    go_enter Try.func19, Try.ntmps19
    go_wp2_with fail
    refine (jquote_any b l t _ (HBw.out _) (by have := HL.out; have := quote_len t; unfold quoteL at *; simp only [List.length_cons, List.length_append] at *; omega) (by have := HL.out; omega)).mono ?_
    rintro e w2 ⟨rfl, hb2, hf2⟩
    have HB2 := Lib.hid hb2
    have HF2 := Lib.hid ((HFw.out _).trans hf2)
    clear hb2 hf2
    go_wp2_with fail
    go_end0
    exact ⟨rfl, by rw [HE.out]; exact HB2.out, HF2.out⟩
  have HE : Hid (plainJ (.mk k y t li m) = []) := Lib.hid (by rw [HPJ.out, if_neg h1, if_neg h2, if_neg h3, if_neg h4, if_neg h5, if_neg h6])
  have q1 : (k == 1) = false := by simp [h1]
  have q2 : (k == 2) = false := by simp [h2]
  have q3 : (k == 3) = false := by simp [h3]
  have q4 : (k == 4) = false := by simp [h4]
  have q5 : (k == 5) = false := by simp [h5]
  have q6 : (k == 6) = false := by simp [h6]
  clear h1 h2 h3 h4 h5 h6 HPJ
  go_enter Try.func19, Try.ntmps19
  go_wp2_with fail
  go_end0
  exact ⟨rfl, by rw [HE.out, List.append_nil]; exact HBw.out _, HFw.out _⟩
end Go.Proofs.Ytfcokdkbjajohaa
/- json: write, of an array. -/
set_option linter.unusedVariables false
namespace Go.Proofs.Ytfcokdkbjajohaa
open Go.RowKit

theorem plainL_pre : ∀ (a b : List JV) (f : Bool), (plainL f a).length ≤ (plainL f (a ++ b)).length
  | [], b, f => by simp [plainL]
  | x :: a, b, f => by
    have := plainL_pre a b false
    simp only [List.cons_append, plainL, List.length_append]
    omega
theorem plainL_take_le (l : List JV) (j : Nat) (f : Bool) : (plainL f (l.take j)).length ≤ (plainL f l).length := by
  have := plainL_pre (l.take j) (l.drop j) f
  rwa [List.take_append_drop] at this
theorem plainL_false : ∀ (l : List JV), l.length ≤ (plainL false l).length
  | [] => by simp
  | x :: l => by
    have := plainL_false l
    simp only [plainL, List.length_append, List.length_cons, Bool.false_eq_true, if_false]
    omega
theorem plainL_true (l : List JV) : l.length ≤ (plainL true l).length + 1 := by
  cases l with
  | nil => simp
  | cons x l =>
    have := plainL_false l
    simp only [plainL, List.length_append, List.length_cons, if_true]
    omega
theorem list_cells {ok : Nat → Prop} {w : World} {a : Option Addr} {l : List JV} {cl : List (List Value)} (h3 : RdO ok w a cl.flatten) (h4 : Reps ok w cl l) (j : Nat) (hj : j < l.length) :
    ∃ b off k2 y2 t2 a2 l2 c2 a3 l3 c3, a = some ⟨b, off, none⟩ ∧ Rep ok w [.int .i64 k2, .bool y2, .string ⟨t2⟩, .slice a2 l2 c2, .slice a3 l3 c3] l[j] ∧ w.cell? ⟨b, off + j * 5, none⟩ = some (.int .i64 k2) ∧ w.cell? ⟨b, off + j * 5 + 1, none⟩ = some (.bool y2) ∧ w.cell? ⟨b, off + j * 5 + 2, none⟩ = some (.string ⟨t2⟩) ∧ w.cell? ⟨b, off + j * 5 + 3, none⟩ = some (.slice a2 l2 c2) ∧ w.cell? ⟨b, off + j * 5 + 4, none⟩ = some (.slice a3 l3 c3) := by
  have hjc : j < cl.length := by rw [h4.1]; exact hj
  have hr := h4.2 j hjc hj
  have hg := fun i hi => flat5_get h4 j hjc i hi
  obtain ⟨a2, c2, a3, c3, _, _, hcs, _⟩ := hr.parts
  rw [hcs] at hr hg
  unfold strV at hr hg
  rcases h3 with h | ⟨b, off, e, _, hc⟩
  · have := flat5_len h4
    rw [h] at this
    simp only [List.length_nil] at this
    omega
  · exact ⟨b, off, _, _, _, _, _, _, _, _, _, e, hr, hc _ _ (hg 0 (by decide)), hc _ _ (hg 1 (by decide)), hc _ _ (hg 2 (by decide)), hc _ _ (hg 3 (by decide)), hc _ _ (hg 4 (by decide))⟩
set_option maxRecDepth 100000 in
set_option maxHeartbeats 32000000 in
theorem jwrite_arr (b : Nat) (y : Bool) (t : List UInt8) (li : List JV) (m : List (List UInt8 × JV)) (ih : ∀ x ∈ li, WriteC b x) : WriteC b (.mk 5 y t li m) := by
  intro cs l w h hb hl
  obtain ⟨a, c, a', c', cl, cm, rfl, h1, h2, -⟩ := h.parts
  simp only [JV.kind, JV.yes, JV.text, JV.list, JV.mem, strV] at *
  have HBw := Lib.hid (show ∀ ob, BldZ b l (w.alloc ob) from fun ob => hb.below ((Below.refl _ _).alloc (Nat.le_refl _) _))
  have HFw : Hid (∀ ob, FrZ b w (w.alloc ob)) := Lib.hid fun ob => FrZ.of_below ((Below.refl _ _).alloc (Nat.le_refl _) _) (Nat.le_of_lt hb.lt)
  have HPJ : Hid (plainJ (.mk 5 y t li m) = 91 :: (plainL true li ++ [93])) := Lib.hid (by rw [plainJ]; rfl)
  have hbw := hb.lt
  have HL : Hid (l.length + (plainL true li).length + 2 ≤ 100000) := Lib.hid (by
    rw [HPJ.out] at hl
    simp only [List.length_cons, List.length_append, List.length_nil] at hl
    omega)
  have HLE := Lib.hid (fun j => plainL_take_le li j true)
  have HLI : Hid (li.length ≤ 100000) := Lib.hid (by have := plainL_true li; have := HL.out; omega)
  have H1 := Lib.hid h1
  have H2 := Lib.hid h2
  have HIH := Lib.hid ih
  clear h hb hl h1 h2 ih
  go_enter Try.func19, Try.ntmps19
  go_upto_region 11 with (fail)
  have hx0 := heap_alloc_new w (.cells #[.int .i64 5, .bool y, .string ⟨t.toArray⟩, .slice a li.length c, .slice a' m.length c'] 28)
  have HB0 := Lib.hid (HBw.out (.cells #[.int .i64 5, .bool y, .string ⟨t.toArray⟩, .slice a li.length c, .slice a' m.length c'] 28))
  have HF0 := Lib.hid (HFw.out (.cells #[.int .i64 5, .bool y, .string ⟨t.toArray⟩, .slice a li.length c, .slice a' m.length c'] 28))
  generalize w.alloc _ = w0 at *
  have HX0 := Lib.hid hx0
  clear hx0 HBw HFw
  go_wp2_with fail
  refine (WriteByte_z b l 91 91 rfl w0 HB0.out (by have := HL.out; omega)).mono ?_
  rintro e w1 ⟨rfl, hb1, hf1⟩
  have HB1 := Lib.hid hb1
  have HF1 := Lib.hid (HF0.out.trans hf1)
  have hx1 := hf1.block w.heap.size _ HX0.out (by omega) (fun c e => by simp at e)
  have k3 : w1.cell? ⟨w.heap.size, 3, none⟩ = some (.slice a li.length c) := by rw [Lib.cell_of_heap hx1]; rfl
  clear hb1 hf1 hx1
  have hli : li.length ≤ 100000 := HLI.out
  go_wp2_with fail
  go_loopg [40] li.length (fun k iv wr => ∃ j : Nat, iv = .int .i64 (j : Int) ∧ j + k = li.length ∧ Hid (BldZ b (l ++ 91 :: plainL true (li.take j)) wr) ∧ Hid (FrZ b w wr))
  case atStart => exact ⟨0, rfl, by omega, Lib.hid (by simpa [plainL] using HB1.out), HF1⟩
  case round =>
    obtain ⟨j, rfl, hj, HBW, HFW⟩ := hrel
    by_cases hlt : j < li.length
    · have hltI : (j : Int) < (li.length : Int) := by omega
      obtain ⟨br, off, k2, y2, t2, a2, l2, c2, a3, l3, c3, ea, hrep, i0, i1, i2, i3, i4⟩ := list_cells (RdO.keep H1.out fun k hk _ => HFW.out.low k hk) (H2.out.keep fun k hk _ => HFW.out.low k hk) j hlt
      subst ea
      have HREP := Lib.hid hrep
      have HT := Lib.hid (plainL_take li j hlt)
      have HI := Lib.hid (HIH.out li[j] (List.getElem_mem hlt))
      have HLJ : Hid ((plainL true (li.take j)).length + ((if j = 0 then ([] : List UInt8) else [44]).length + (plainJ li[j]).length) ≤ (plainL true li).length) := Lib.hid (by
        have := HLE.out (j + 1)
        rw [HT.out] at this
        simpa only [List.length_append] using this)
      clear hrep
      go_upto_region 15 with (fail)
      have hx4 := heap_alloc_new wr (.cells #[.int .i64 k2, .bool y2, .string ⟨t2⟩, .slice a2 l2 c2, .slice a3 l3 c3] 28)
      have hb4 : Below wr.heap.size wr (wr.alloc (.cells #[.int .i64 k2, .bool y2, .string ⟨t2⟩, .slice a2 l2 c2, .slice a3 l3 c3] 28)) := (Below.refl _ _).alloc (Nat.le_refl _) _
      generalize wr.alloc _ = w4 at *
      have HX4 := Lib.hid hx4
      have HB4 := Lib.hid (HBW.out.below hb4)
      have hbr := HBW.out.lt
      have HF4 := Lib.hid (HFW.out.trans (FrZ.of_below hb4 (Nat.le_of_lt hbr)))
      have HREP4 := Lib.hid (HREP.out.under hb4)
      clear hx4 hb4 i0 i1 i2 i3 i4
      go_wp2_with fail
      refine (jcomma_any b _ j w4 HB4.out (by have := HL.out; have := HLE.out j; simp only [List.length_append, List.length_cons]; omega)).mono ?_
      rintro e w5 ⟨rfl, hb5, hf5⟩
      have HB5 := Lib.hid hb5
      have HF5 := Lib.hid (HF4.out.trans hf5)
      have HX5 := Lib.hid (hf5.block wr.heap.size _ HX4.out (by omega) (fun c e => by simp at e))
      have HREP5 := Lib.hid (HREP4.out.keep fun k hk _ => hf5.low k hk)
      have v0 : w5.cell? ⟨wr.heap.size, 0, none⟩ = some (.int .i64 k2) := by rw [Lib.cell_of_heap HX5.out]; rfl
      have v1 : w5.cell? ⟨wr.heap.size, 1, none⟩ = some (.bool y2) := by rw [Lib.cell_of_heap HX5.out]; rfl
      have v2 : w5.cell? ⟨wr.heap.size, 2, none⟩ = some (.string ⟨t2⟩) := by rw [Lib.cell_of_heap HX5.out]; rfl
      have v3 : w5.cell? ⟨wr.heap.size, 3, none⟩ = some (.slice a2 l2 c2) := by rw [Lib.cell_of_heap HX5.out]; rfl
      have v4 : w5.cell? ⟨wr.heap.size, 4, none⟩ = some (.slice a3 l3 c3) := by rw [Lib.cell_of_heap HX5.out]; rfl
      clear hb5 hf5
      go_wp2_with fail
      refine (HI.out [.int .i64 k2, .bool y2, .string ⟨t2⟩, .slice a2 l2 c2, .slice a3 l3 c3] _ w5 HREP5.out HB5.out (by have := HL.out; have := HLJ.out; simp only [List.length_append, List.length_cons] at *; omega)).mono ?_
      rintro e w6 ⟨rfl, hb6, hf6⟩
      have HB6 : Hid (BldZ b (l ++ 91 :: plainL true (li.take (j + 1))) w6) := Lib.hid (by rw [HT.out]; simpa using hb6)
      have HF6 := Lib.hid (HF5.out.trans hf6)
      clear hb6 hf6
      go_wp2_with fail
      go_roundg (gk - 1)
      case measure => omega
      case rel => exact ⟨j + 1, by first | rfl | (congr 1), by omega, HB6, HF6⟩
    · have hge : ¬ (j : Int) < (li.length : Int) := by omega
      have HBE : Hid (BldZ b (l ++ 91 :: plainL true li) wr) := Lib.hid (by have := HBW.out; rwa [List.take_of_length_le (by omega)] at this)
      go_wp2_with fail
      refine (WriteByte_z b _ 93 93 rfl wr HBE.out (by have := HL.out; simp only [List.length_append, List.length_cons]; omega)).mono ?_
      rintro e w5 ⟨rfl, hb5, hf5⟩
      have HB5 : Hid (BldZ b (l ++ plainJ (.mk 5 y t li m)) w5) := Lib.hid (by rw [HPJ.out]; simpa using hb5)
      have HF5 := Lib.hid (HFW.out.trans hf5)
      clear hb5 hf5
      go_wp2_with fail
      go_end0
      exact ⟨rfl, HB5.out, HF5.out⟩
end Go.Proofs.Ytfcokdkbjajohaa
/- json: write, of an object. -/
set_option linter.unusedVariables false
namespace Go.Proofs.Ytfcokdkbjajohaa
open Go.RowKit

theorem plainM_pre : ∀ (a b : List (List UInt8 × JV)) (f : Bool), (plainM f a).length ≤ (plainM f (a ++ b)).length
  | [], b, f => by simp [plainM]
  | (n, x) :: a, b, f => by
    have := plainM_pre a b false
    simp only [List.cons_append, plainM, List.length_append, List.length_cons]
    omega
theorem plainM_take_le (l : List (List UInt8 × JV)) (j : Nat) (f : Bool) : (plainM f (l.take j)).length ≤ (plainM f l).length := by
  have := plainM_pre (l.take j) (l.drop j) f
  rwa [List.take_append_drop] at this
theorem plainM_true : ∀ (l : List (List UInt8 × JV)) (f : Bool), l.length ≤ (plainM f l).length
  | [], f => by simp
  | (n, x) :: l, f => by
    have := plainM_true l false
    simp only [plainM, List.length_append, List.length_cons]
    omega
set_option maxRecDepth 100000 in
set_option maxHeartbeats 32000000 in
theorem jwrite_obj (b : Nat) (y : Bool) (t : List UInt8) (li : List JV) (m : List (List UInt8 × JV)) (ih : ∀ x ∈ m, WriteC b x.2) : WriteC b (.mk 6 y t li m) := by
  intro cs l w h hb hl
  obtain ⟨a, c, a', c', cl, cm, rfl, -, -, h1, h2, -⟩ := h.parts
  simp only [JV.kind, JV.yes, JV.text, JV.list, JV.mem, strV] at *
  have HBw := Lib.hid (show ∀ ob, BldZ b l (w.alloc ob) from fun ob => hb.below ((Below.refl _ _).alloc (Nat.le_refl _) _))
  have HFw : Hid (∀ ob, FrZ b w (w.alloc ob)) := Lib.hid fun ob => FrZ.of_below ((Below.refl _ _).alloc (Nat.le_refl _) _) (Nat.le_of_lt hb.lt)
  have HPJ : Hid (plainJ (.mk 6 y t li m) = 123 :: (plainM true m ++ [125])) := Lib.hid (by rw [plainJ]; rfl)
  have hbw := hb.lt
  have HL : Hid (l.length + (plainM true m).length + 2 ≤ 100000) := Lib.hid (by
    rw [HPJ.out] at hl
    simp only [List.length_cons, List.length_append, List.length_nil] at hl
    omega)
  have HLE := Lib.hid (fun j => plainM_take_le m j true)
  have HLI : Hid (m.length ≤ 100000) := Lib.hid (by have := plainM_true m true; have := HL.out; omega)
  have H1 := Lib.hid h1
  have H2 := Lib.hid h2
  have HIH := Lib.hid ih
  clear h hb hl h1 h2 ih
  go_enter Try.func19, Try.ntmps19
  go_upto_region 20 with (fail)
  have hx0 := heap_alloc_new w (.cells #[.int .i64 6, .bool y, .string ⟨t.toArray⟩, .slice a li.length c, .slice a' m.length c'] 28)
  have HB0 := Lib.hid (HBw.out (.cells #[.int .i64 6, .bool y, .string ⟨t.toArray⟩, .slice a li.length c, .slice a' m.length c'] 28))
  have HF0 := Lib.hid (HFw.out (.cells #[.int .i64 6, .bool y, .string ⟨t.toArray⟩, .slice a li.length c, .slice a' m.length c'] 28))
  generalize w.alloc _ = w0 at *
  have HX0 := Lib.hid hx0
  clear hx0 HBw HFw
  go_wp2_with fail
  refine (WriteByte_z b l 123 123 rfl w0 HB0.out (by have := HL.out; omega)).mono ?_
  rintro e w1 ⟨rfl, hb1, hf1⟩
  have HB1 := Lib.hid hb1
  have HF1 := Lib.hid (HF0.out.trans hf1)
  have hx1 := hf1.block w.heap.size _ HX0.out (by omega) (fun c e => by simp at e)
  have k3 : w1.cell? ⟨w.heap.size, 4, none⟩ = some (.slice a' m.length c') := by rw [Lib.cell_of_heap hx1]; rfl
  clear hb1 hf1 hx1
  have hli : m.length ≤ 100000 := HLI.out
  go_wp2_with fail
  go_loopg [61] m.length (fun k iv wr => ∃ j : Nat, iv = .int .i64 (j : Int) ∧ j + k = m.length ∧ Hid (BldZ b (l ++ 123 :: plainM true (m.take j)) wr) ∧ Hid (FrZ b w wr))
  case atStart => exact ⟨0, rfl, by omega, Lib.hid (by simpa [plainM] using HB1.out), HF1⟩
  case round =>
    obtain ⟨j, rfl, hj, HBW, HFW⟩ := hrel
    by_cases hlt : j < m.length
    · have hltI : (j : Int) < (m.length : Int) := by omega
      obtain ⟨br, off, k2, y2, t2, a2, l2, c2, a3, l3, c3, ea, hrep, i0, i1, i2, i3, i4, i5⟩ := mem_cells' (RdO.keep H1.out fun k hk _ => HFW.out.low k hk) (H2.out.keep fun k hk _ => HFW.out.low k hk) j hlt
      subst ea
      have HREP := Lib.hid hrep
      obtain ⟨nm, hnm⟩ : ∃ x, m[j].1 = x := ⟨_, rfl⟩
      have HT : Hid (plainM true (m.take (j + 1)) = plainM true (m.take j) ++ ((if j = 0 then [] else [44]) ++ (quoteL nm ++ (58 :: plainJ m[j].2)))) := Lib.hid (by rw [plainM_take m j hlt, hnm])
      rw [hnm] at i0
      clear hnm
      have HI := Lib.hid (HIH.out m[j] (List.getElem_mem hlt))
      have HLJ : Hid ((plainM true (m.take j)).length + ((if j = 0 then ([] : List UInt8) else [44]).length + ((quoteL nm).length + ((plainJ m[j].2).length + 1))) ≤ (plainM true m).length) := Lib.hid (by
        have := HLE.out (j + 1)
        rw [HT.out] at this
        simpa only [List.length_append, List.length_cons] using this)
      clear hrep
      go_upto_region 24 with (fail)
      have hx4 := heap_alloc_new wr (.cells #[.string ⟨nm.toArray⟩, .int .i64 k2, .bool y2, .string ⟨t2⟩, .slice a2 l2 c2, .slice a3 l3 c3] 38)
      have hb4 : Below wr.heap.size wr (wr.alloc (.cells #[.string ⟨nm.toArray⟩, .int .i64 k2, .bool y2, .string ⟨t2⟩, .slice a2 l2 c2, .slice a3 l3 c3] 38)) := (Below.refl _ _).alloc (Nat.le_refl _) _
      generalize wr.alloc _ = w4 at *
      have HX4 := Lib.hid hx4
      have HB4 := Lib.hid (HBW.out.below hb4)
      have hbr := HBW.out.lt
      have HF4 := Lib.hid (HFW.out.trans (FrZ.of_below hb4 (Nat.le_of_lt hbr)))
      have HREP4 := Lib.hid (HREP.out.under hb4)
      clear hx4 hb4 i0 i1 i2 i3 i4 i5
      go_wp2_with fail
      refine (jcomma_any b _ j w4 HB4.out (by have := HL.out; have := HLE.out j; simp only [List.length_append, List.length_cons]; omega)).mono ?_
      rintro e w5 ⟨rfl, hb5, hf5⟩
      have HB5 := Lib.hid hb5
      have HF5 := Lib.hid (HF4.out.trans hf5)
      have HX5 := Lib.hid (hf5.block wr.heap.size _ HX4.out (by omega) (fun c e => by simp at e))
      have HREP5 := Lib.hid (HREP4.out.keep fun k hk _ => hf5.low k hk)
      have n0 : w5.cell? ⟨wr.heap.size, 0, none⟩ = some (.string ⟨nm.toArray⟩) := by rw [Lib.cell_of_heap HX5.out]; rfl
      clear hb5 hf5
      go_wp2_with fail
      refine (jquote_any b _ nm w5 HB5.out (by have := HL.out; have := HLJ.out; have := quote_len nm; unfold quoteL at *; simp only [List.length_append, List.length_cons, List.length_nil] at *; omega) (by have := HL.out; have := HLJ.out; simp only [List.length_append, List.length_cons] at *; omega)).mono ?_
      rintro e w7 ⟨rfl, hb7, hf7⟩
      have HB7 := Lib.hid hb7
      have HF7 := Lib.hid (HF5.out.trans hf7)
      have HX7 := Lib.hid (hf7.block wr.heap.size _ HX5.out (by omega) (fun c e => by simp at e))
      have HREP7 := Lib.hid (HREP5.out.keep fun k hk _ => hf7.low k hk)
      clear hb7 hf7 n0
      go_wp2_with fail
      refine (WriteByte_z b _ 58 58 rfl w7 HB7.out (by have := HL.out; have := HLJ.out; simp only [List.length_append, List.length_cons] at *; omega)).mono ?_
      rintro e w8 ⟨rfl, hb8, hf8⟩
      have HB8 := Lib.hid hb8
      have HF8 := Lib.hid (HF7.out.trans hf8)
      have HX8 := Lib.hid (hf8.block wr.heap.size _ HX7.out (by omega) (fun c e => by simp at e))
      have HREP8 := Lib.hid (HREP7.out.keep fun k hk _ => hf8.low k hk)
      have v0 : w8.cell? ⟨wr.heap.size, 0, none⟩ = some (.string ⟨nm.toArray⟩) := by rw [Lib.cell_of_heap HX8.out]; rfl
      have v1 : w8.cell? ⟨wr.heap.size, 1, none⟩ = some (.int .i64 k2) := by rw [Lib.cell_of_heap HX8.out]; rfl
      have v2 : w8.cell? ⟨wr.heap.size, 2, none⟩ = some (.bool y2) := by rw [Lib.cell_of_heap HX8.out]; rfl
      have v3 : w8.cell? ⟨wr.heap.size, 3, none⟩ = some (.string ⟨t2⟩) := by rw [Lib.cell_of_heap HX8.out]; rfl
      have v4 : w8.cell? ⟨wr.heap.size, 4, none⟩ = some (.slice a2 l2 c2) := by rw [Lib.cell_of_heap HX8.out]; rfl
      have v5 : w8.cell? ⟨wr.heap.size, 5, none⟩ = some (.slice a3 l3 c3) := by rw [Lib.cell_of_heap HX8.out]; rfl
      clear hb8 hf8
      go_wp2_with fail
      refine (HI.out [.int .i64 k2, .bool y2, .string ⟨t2⟩, .slice a2 l2 c2, .slice a3 l3 c3] _ w8 HREP8.out HB8.out (by have := HL.out; have := HLJ.out; simp only [List.length_append, List.length_cons, List.length_nil] at *; omega)).mono ?_
      rintro e w6 ⟨rfl, hb6, hf6⟩
      have HB6 : Hid (BldZ b (l ++ 123 :: plainM true (m.take (j + 1))) w6) := Lib.hid (by rw [HT.out]; simpa using hb6)
      have HF6 := Lib.hid (HF8.out.trans hf6)
      clear hb6 hf6
      go_wp2_with fail
      go_roundg (gk - 1)
      case measure => omega
      case rel => exact ⟨j + 1, by first | rfl | (congr 1), by omega, HB6, HF6⟩
    · have hge : ¬ (j : Int) < (m.length : Int) := by omega
      have HBE : Hid (BldZ b (l ++ 123 :: plainM true m) wr) := Lib.hid (by have := HBW.out; rwa [List.take_of_length_le (by omega)] at this)
      go_wp2_with fail
      refine (WriteByte_z b _ 125 125 rfl wr HBE.out (by have := HL.out; simp only [List.length_append, List.length_cons]; omega)).mono ?_
      rintro e w5 ⟨rfl, hb5, hf5⟩
      have HB5 : Hid (BldZ b (l ++ plainJ (.mk 6 y t li m)) w5) := Lib.hid (by rw [HPJ.out]; simpa using hb5)
      have HF5 := Lib.hid (HFW.out.trans hf5)
      clear hb5 hf5
      go_wp2_with fail
      go_end0
      exact ⟨rfl, HB5.out, HF5.out⟩
end Go.Proofs.Ytfcokdkbjajohaa
/- json: Right, of rows. -/
set_option linter.unusedVariables false
namespace Go.Proofs.Ytfcokdkbjajohaa
open Go.RowKit

/-- What Right says of a value. -/
def RightC (v : JV) : Prop := ∀ (ok : Nat → Prop) cs w, Rep ok w cs v → Calls Try.prog 6 #[.agg cs.toArray] w fun e w' => e = .returned (.bool (rightJ v)) ∧ Below w.heap.size w w'
set_option maxRecDepth 100000 in
set_option maxHeartbeats 8000000 in
theorem jright1_any (v : JV) (hv : RightC v) (ok : Nat → Prop) (cs : List Value) (w : World) (h : Rep ok w cs v) :
    Calls Try.prog 17 #[.agg cs.toArray] w fun e w' => e = .returned (.bool (!rightJ v)) ∧ Below w.heap.size w w' := by
  obtain ⟨a, c, a', c', cl, cm, rfl, -⟩ := h.parts
  unfold strV at *
  have hb : ∀ ob, Below w.heap.size w (w.alloc ob) := fun ob => (Below.refl _ _).alloc (Nat.le_refl _) _
  have HB := Lib.hid hb
  have HC : Hid (∀ ob, Calls Try.prog 6 #[.agg #[.int .i64 v.kind, .bool v.yes, .string ⟨v.text.toArray⟩, .slice a v.list.length c, .slice a' v.mem.length c']] (w.alloc ob) fun e w' => e = .returned (.bool (rightJ v)) ∧ Below (w.alloc ob).heap.size (w.alloc ob) w') := Lib.hid fun ob => hv ok _ _ (h.under (hb ob))
  clear h hb hv
  go_enter Try.func17, Try.ntmps17
  go_wp2_with fail
  refine (HC.out _).mono ?_
  rintro e w2 ⟨rfl, hb2⟩
  have HB2 := Lib.hid ((HB.out _).trans (hb2.mono (by simp)))
  clear hb2
  go_wp2_with fail
  refine bodyPost_ret (results_tmp rfl _ _ _) rfl ?_
  exact ⟨rfl, HB2.out⟩
theorem rightL_drop {l : List JV} {j : Nat} (h : j < l.length) : rightL (l.drop j) = (rightJ l[j] && rightL (l.drop (j + 1))) := by
  rw [List.drop_eq_getElem_cons h]
  rfl
set_option maxRecDepth 100000 in
set_option maxHeartbeats 8000000 in
theorem jindexf_any (l : List JV) (hv : ∀ x ∈ l, RightC x) (ok : Nat → Prop) (a : Option Addr) (c : Nat) (cl : List (List Value)) (w : World) (h1 : RdO ok w a cl.flatten) (h2 : Reps ok w cl l) (hl : l.length ≤ 10000000) :
    Calls Try.prog 28 #[.slice a l.length c, .func (.func 17) #[] #[]] w fun e w' => Below w.heap.size w w' ∧ ∃ i : Int, e = .returned (.int .i64 i) ∧ decide (0 ≤ i) = !rightL l := by
  have H1 := Lib.hid h1.lt
  have H2 := Lib.hid (show Reps (fun b => ok b ∧ b < w.heap.size) w cl l from h2.lt)
  have HV := Lib.hid hv
  clear h1 h2 hv
  go_enter Try.func28, Try.ntmps28
  go_wp2_with fail
  go_loopg [8] l.length (fun k iv wr => ∃ j : Nat, iv = .int .i64 (j : Int) ∧ j + k = l.length ∧ Hid (rightL l = rightL (l.drop j)) ∧ Hid (Below w.heap.size w wr))
  case atStart => exact ⟨0, rfl, by omega, Lib.hid rfl, Lib.hid (Below.refl _ _)⟩
  case round =>
    obtain ⟨j, rfl, hj, hd, HB⟩ := hrel
    by_cases hlt : j < l.length
    · have hltI : (j : Int) < (l.length : Int) := by omega
      obtain ⟨br, off, k2, y2, t2, a2, l2, c2, a3, l3, c3, ea, hrep, i0, i1, i2, i3, i4⟩ := list_cells (RdO.keep H1.out fun k hk _ => HB.out.block k hk.2) (H2.out.keep fun k hk _ => HB.out.block k hk.2) j hlt
      subst ea
      have HD := Lib.hid (rightL_drop hlt)
      have HC := Lib.hid (jright1_any l[j] (HV.out _ (List.getElem_mem hlt)) _ _ wr hrep)
      clear hrep
      obtain ⟨rb, hrb⟩ : ∃ x, rightJ l[j] = x := ⟨_, rfl⟩
      rw [hrb] at HC HD
      clear hrb
      cases rb with
      | true =>
        go_wp2_with fail
        refine HC.out.mono ?_
        rintro e w2 ⟨rfl, hb2⟩
        have HB2 := Lib.hid (HB.out.trans (hb2.mono HB.out.size))
        clear hb2
        go_wp2_with fail
        go_roundg (gk - 1)
        case measure => omega
        case rel => exact ⟨j + 1, by first | rfl | (congr 1), by omega, Lib.hid (by rw [hd.out, HD.out]; rfl), HB2⟩
      | false =>
        go_wp2_with fail
        refine HC.out.mono ?_
        rintro e w2 ⟨rfl, hb2⟩
        have HB2 := Lib.hid (HB.out.trans (hb2.mono HB.out.size))
        clear hb2
        go_wp2_with fail
        refine bodyPost_ret (results_tmp rfl _ _ _) rfl ?_
        exact ⟨HB2.out, (j : Int), rfl, by rw [hd.out, HD.out]; simp⟩
    · have hge : ¬ (j : Int) < (l.length : Int) := by omega
      have HE : Hid (rightL l = true) := Lib.hid (by rw [hd.out, List.drop_eq_nil_of_le (by omega)]; rfl)
      go_wp2_with fail
      refine bodyPost_ret (results_tmp rfl _ _ _) rfl ?_
      exact ⟨HB.out, -1, rfl, by rw [HE.out]; rfl⟩
set_option maxRecDepth 100000 in
set_option maxHeartbeats 8000000 in
theorem jcontains_any (l : List JV) (hv : ∀ x ∈ l, RightC x) (ok : Nat → Prop) (a : Option Addr) (c : Nat) (cl : List (List Value)) (w : World) (h1 : RdO ok w a cl.flatten) (h2 : Reps ok w cl l) (hl : l.length ≤ 10000000) :
    Calls Try.prog 16 #[.slice a l.length c, .func (.func 17) #[] #[]] w fun e w' => e = .returned (.bool (!rightL l)) ∧ Below w.heap.size w w' := by
  have HI := Lib.hid (jindexf_any l hv ok a c cl w h1 h2 hl)
  clear hv h1 h2
  go_enter Try.func16, Try.ntmps16
  go_wp2_with fail
  refine HI.out.mono ?_
  rintro e w2 ⟨hb2, i, rfl, hi⟩
  have HB2 := Lib.hid hb2
  have HIX := Lib.hid hi
  clear hb2 hi
  go_wp2_with fail
  refine bodyPost_ret (results_tmp rfl _ _ _) rfl ?_
  exact ⟨by rw [← HIX.out]; rfl, HB2.out⟩
end Go.Proofs.Ytfcokdkbjajohaa
/- json: Right, of all but arrays and objects. -/
set_option linter.unusedVariables false
namespace Go.Proofs.Ytfcokdkbjajohaa
open Go.RowKit

theorem right_eq (k : Int) (y : Bool) (t : List UInt8) (l : List JV) (m : List (List UInt8 × JV)) : rightJ (.mk k y t l m) = (bareB k y t l.length m.length && (k == 1 || k == 2 || (k == 3 && numericB t) || (k == 4 && toldB t) || (k == 5 && rightL l) || (k == 6 && rightM m))) := by
  rw [rightJ]
  unfold bareB
  cases l <;> cases m <;> rfl
set_option maxRecDepth 100000 in
set_option maxHeartbeats 16000000 in
theorem jright_leaf (k : Int) (y : Bool) (t : List UInt8) (l : List JV) (m : List (List UInt8 × JV)) (h5 : k ≠ 5) (h6 : k ≠ 6) (ht : t.length ≤ 140737488351232) (h3n : k = 3 → t.length ≤ 1000000) : RightC (.mk k y t l m) := by
  have H3N := Lib.hid h3n
  clear h3n
  intro ok cs w h
  obtain ⟨a, c, a', c', cl, cm, rfl, -⟩ := h.parts
  simp only [JV.kind, JV.yes, JV.text, JV.list, JV.mem, strV] at *
  have HW : Hid (∀ ob, Below w.heap.size w (w.alloc ob)) := Lib.hid fun ob => (Below.refl _ _).alloc (Nat.le_refl _) _
  have HRT := Lib.hid (right_eq k y t l m)
  have q5 : (k == 5) = false := by simp [h5]
  have q6 : (k == 6) = false := by simp [h6]
  have HB : Hid (∀ ob, Calls Try.prog 13 #[.agg #[.int .i64 k, .bool y, .string ⟨t.toArray⟩, .slice a l.length c, .slice a' m.length c']] (w.alloc ob) fun e w' => e = .returned (.bool (bareB k y t l.length m.length)) ∧ Below (w.alloc ob).heap.size (w.alloc ob) w') := Lib.hid fun ob => jbare_any k y t a a' l.length m.length c c' (w.alloc ob)
  have HG : Hid (∀ ob, (w.alloc ob).heap[w.heap.size]? = some ob) := Lib.hid fun ob => heap_alloc_new w ob
  have HZ : Hid (∀ ob, (w.alloc ob).heap.size = w.heap.size + 1) := Lib.hid fun ob => by simp
  clear h h5 h6
  go_enter Try.func6, Try.ntmps6
  go_wp2_with fail
  refine (HB.out _).mono ?_
  rintro e w2 ⟨rfl, hb2⟩
  have HB2 := Lib.hid ((HW.out _).trans (hb2.mono (by simp)))
  have hx2 := (hb2.block w.heap.size (by simp)).trans (HG.out _)
  have c0 : w2.cell? ⟨w.heap.size, 0, none⟩ = some (.int .i64 k) := by rw [Lib.cell_of_heap hx2]; rfl
  have c2 : w2.cell? ⟨w.heap.size, 2, none⟩ = some (.string ⟨t.toArray⟩) := by rw [Lib.cell_of_heap hx2]; rfl
  clear hb2 hx2 HB HG HZ
  cases hbb : bareB k y t l.length m.length with
  | false =>
    rw [hbb] at HRT
    clear hbb
    go_wp2_with fail
    refine bodyPost_ret (results_tmp rfl _ _ _) rfl ?_
    exact ⟨by rw [HRT.out]; rfl, HB2.out⟩
  | true =>
    rw [hbb] at HRT
    clear hbb
    by_cases h3 : k = 3
    · subst h3
      have H3 := Lib.hid (H3N.out rfl)
      clear H3N
      have HE : Hid (rightJ (.mk 3 y t l m) = numericB t) := Lib.hid (by rw [HRT.out]; cases numericB t <;> rfl)
      clear HRT
      go_wp2_with fail
      refine (jnumeric_any t w2 H3.out).mono ?_
      rintro e w3 ⟨rfl, hb3⟩
      have HB3 := Lib.hid (HB2.out.trans (hb3.mono HB2.out.size))
      clear hb3
      go_wp2_with fail
      refine bodyPost_ret (results_tmp rfl _ _ _) rfl ?_
      exact ⟨by rw [HE.out]; rfl, HB3.out⟩
    by_cases h4 : k = 4
    · subst h4
      have HE : Hid (rightJ (.mk 4 y t l m) = toldB t) := Lib.hid (by rw [HRT.out]; cases toldB t <;> rfl)
      clear HRT
      go_wp2_with fail
      refine (told_any t w2 ht).mono ?_
      rintro e w3 ⟨rfl, hb3⟩
      have HB3 := Lib.hid (HB2.out.trans (hb3.mono HB2.out.size))
      clear hb3
      go_wp2_with fail
      refine bodyPost_ret (results_tmp rfl _ _ _) rfl ?_
      exact ⟨by rw [HE.out]; rfl, HB3.out⟩
    have q3 : (k == 3) = false := by simp [h3]
    have q4 : (k == 4) = false := by simp [h4]
    clear h3 h4
    rw [q3, q4, q5, q6] at HRT
    by_cases h1 : k = 1
    · subst h1
      have HE : Hid (rightJ (.mk 1 y t l m) = true) := Lib.hid (by rw [HRT.out]; rfl)
      clear HRT
      go_wp2_with fail
      refine bodyPost_ret (results_tmp rfl _ _ _) rfl ?_
      exact ⟨by rw [HE.out]; rfl, HB2.out⟩
    by_cases h2 : k = 2
    · subst h2
      have HE : Hid (rightJ (.mk 2 y t l m) = true) := Lib.hid (by rw [HRT.out]; rfl)
      clear HRT
      go_wp2_with fail
      refine bodyPost_ret (results_tmp rfl _ _ _) rfl ?_
      exact ⟨by rw [HE.out]; rfl, HB2.out⟩
    have q1 : (k == 1) = false := by simp [h1]
    have q2 : (k == 2) = false := by simp [h2]
    have HE : Hid (rightJ (.mk k y t l m) = false) := Lib.hid (by rw [HRT.out, q1, q2]; rfl)
    clear h1 h2 HRT
    go_wp2_with fail
    refine bodyPost_ret (results_tmp rfl _ _ _) rfl ?_
    exact ⟨by rw [HE.out]; rfl, HB2.out⟩
end Go.Proofs.Ytfcokdkbjajohaa
/- json: names unlike are as many, sorted and without runs. Plain. -/
set_option linter.unusedVariables false
namespace Go.Proofs.Ytfcokdkbjajohaa

theorem getM_none (n : List UInt8) : ∀ m : List (List UInt8 × JV), (getM n m).isNone = decide (n ∉ m.map Prod.fst)
  | [] => by simp [getM]
  | p :: m => by
    have ih := getM_none n m
    rw [getM]
    by_cases h : p.1 = n
    · simp [h]
    · have h' : ¬ n = p.1 := fun e => h e.symm
      simp only [h, if_false, ih, List.map_cons, List.mem_cons, h', false_or]
theorem rightM_eq : ∀ m : List (List UInt8 × JV), rightM m = (m.all (fun p => toldB p.1 && rightJ p.2) && decide (m.map Prod.fst).Nodup)
  | [] => rfl
  | (n, v) :: m => by
    have ih := rightM_eq m
    rw [rightM, ih, getM_none]
    simp only [List.all_cons, List.map_cons, List.nodup_cons]
    cases toldB n <;> cases rightJ v <;> cases (m.all fun p => toldB p.1 && rightJ p.2) <;> simp
def leL (x y : List UInt8) : Bool := decide (x ≤ y)
theorem leL_trans (a b c : List UInt8) (h1 : leL a b = true) (h2 : leL b c = true) : leL a c = true := by
  unfold leL at *
  simp only [decide_eq_true_eq] at *
  exact List.le_trans h1 h2
theorem leL_total (a b : List UInt8) : (leL a b || leL b a) = true := by
  unfold leL
  simp only [Bool.or_eq_true, decide_eq_true_eq]
  exact List.le_total a b
theorem keeps_lt {zs : List (List UInt8)} (h : (Lib.compact zs).length = zs.length) (j : Nat) (hj : j < zs.length) : Lib.keeps zs.toArray j = true := by
  unfold Lib.compact Lib.compactUpTo at h
  rw [List.length_map] at h
  have h2 : ((List.range zs.length).filter (Lib.keeps zs.toArray)).length = (List.range zs.length).length := by rw [h]; simp
  have h3 := List.length_filter_eq_length_iff.1 h2
  exact h3 j (List.mem_range.2 hj)
theorem compact_nodup (l : List (List UInt8)) : decide ((Lib.compact (l.mergeSort leL)).length = l.length) = decide l.Nodup := by
  have hp := List.mergeSort_perm l leL
  have hl : (l.mergeSort leL).length = l.length := hp.length_eq
  have hs := List.pairwise_mergeSort leL_trans leL_total l
  have hn : (l.mergeSort leL).Nodup ↔ l.Nodup := hp.nodup_iff
  rw [← hl]
  rw [decide_eq_decide, ← hn]
  generalize l.mergeSort leL = s at *
  constructor
  · intro h
    have hk := keeps_lt h
    unfold List.Nodup
    rw [List.pairwise_iff_getElem] at hs ⊢
    intro i j hi hj hij
    have h1 := hk (i + 1) (by omega)
    have h2 : s[i + 1]'(by omega) ≠ s[i] := by
      unfold Lib.keeps at h1
      intro e
      have e1 : s.toArray[i + 1]! = s[i + 1]'(by omega) := by rw [getElem!_pos _ _ (by simp; omega)]; simp
      have e2 : s.toArray[i + 1 - 1]! = s[i] := by
        rw [show i + 1 - 1 = i by omega, getElem!_pos _ _ (by simpa using hi)]; simp
      rw [e1, e2] at h1
      simp [e] at h1
    have h3 := hs i (i + 1) hi (by omega) (by omega)
    intro e
    by_cases h5 : j = i + 1
    · subst h5
      exact h2 e.symm
    · have h4 := hs (i + 1) j (by omega) hj (by omega)
      unfold leL at h3 h4
      simp only [decide_eq_true_eq] at h3 h4
      rw [← e] at h4
      exact h2 (List.le_antisymm h4 h3)
  · intro h
    rw [Lib.compact_all]
    intro j hj
    by_cases h0 : j = 0
    · subst h0
      simp [Lib.keeps]
    · apply Lib.keeps_pos
      rw [getElem!_pos _ _ (by simpa using hj), getElem!_pos _ _ (by simp; omega)]
      simp only [List.getElem_toArray]
      intro e
      unfold List.Nodup at h
      rw [List.pairwise_iff_getElem] at h
      exact h (j - 1) j (by omega) hj (by omega) e.symm
end Go.Proofs.Ytfcokdkbjajohaa
/- json: names sorted, and their runs cut. -/
set_option linter.unusedVariables false
namespace Go.Proofs.Ytfcokdkbjajohaa
open Go.RowKit

/-- Compact of a row that is sorted: how much is left. -/
def CutC (B : Nat) (lv : Value) (ns : List (List UInt8)) (w1 : World) : Prop := ∀ w2 : World, w2.heap = w1.heap → Calls Try.prog 30 #[lv] w2 fun e w3 => (∃ a c, e = .returned (.slice a (Lib.compact (ns.mergeSort leL)).length c)) ∧ Below B w2 w3
theorem holds_heap {w w' : World} {g : Nat} {d : Array (List UInt8)} (h : Sort.Holds encStr w g 0 d) (e : w'.heap = w.heap) : Sort.Holds encStr w' g 0 d := by
  intro j hj
  have := h j hj
  unfold World.cell? World.frozen? at *
  rw [e]
  exact this
theorem below_grownBy {B g : Nat} {w w' : World} (h : w.grownBy w' (some g)) (hg : B ≤ g) (hB : B ≤ w.heap.size) : Below B w w' :=
  ⟨h.os, h.tape, h.output, h.size, fun k hk => h.block k (by omega) (by simp; omega)⟩
theorem sort_cut (B : Nat) (lv : Value) (ns : List (List UInt8)) (w : World) (h : w.ownsRow B 9 1 lv ns.length (ns.map encStr)) (hB : B ≤ w.heap.size) (hl : ns.length ≤ 100000000) :
    Calls Try.prog 29 #[lv] w fun e w1 => e = .returned (.tuple #[]) ∧ Below B w w1 ∧ CutC B lv ns w1 := by
  rcases h.2 with ⟨rfl, hn⟩ | ⟨g, cap, cur, rfl, hbase, hb, h1, h2, h3, h4⟩
  · have : ns = [] := List.eq_nil_of_length_eq_zero hn
    subst this
    refine (Any.slices_Sort_string_none Try.lays190 none 0 w).mono ?_
    rintro e w1 ⟨rfl, rfl⟩
    refine ⟨rfl, Below.refl _ _, ?_⟩
    intro w2 hw2
    refine (Try.slices_Compact_string_empty none 0 w2).mono ?_
    rintro e w3 ⟨rfl, rfl⟩
    have e0 : (Lib.compact (([] : List (List UInt8)).mergeSort leL)).length = 0 := by rw [List.mergeSort_nil]; rfl
    rw [e0]
    exact ⟨⟨_, _, rfl⟩, Below.refl _ _⟩
  · have hlt := (Array.getElem?_eq_some_iff.1 hb).1
    refine (Try.slices_Sort_string g 0 cap ns w (holds_of_block hb (by simpa using h4)) hlt (by omega)).mono ?_
    rintro e w1 ⟨rfl, n, os, rfl⟩
    have hperm := List.mergeSort_perm ns leL
    have hlen : (ns.mergeSort leL).length = ns.length := hperm.length_eq
    have hown := ownsRow_sorted (n := n) (os := os) (ts := ns.mergeSort leL) hlen hbase hb h1 h2 h3
    refine ⟨rfl, below_grownBy (grownBy_sorted _) hbase hB, ?_⟩
    intro w2 hw2
    obtain ⟨_, ⟨h0, _⟩ | ⟨g', cap', cur', h0, hbase', hb', h1', h2', h3', h4'⟩⟩ := hown
    · cases h0
    simp only [Value.slice.injEq, Option.some.injEq, Addr.mk.injEq, and_true, true_and] at h0
    obtain ⟨rfl, rfl⟩ := h0
    have hH := holds_heap (w' := w2) (holds_of_block (ss := ns.mergeSort leL) hb' (by rw [hlen]; simpa using h4')) hw2
    have hC := Try.slices_Compact_string g 0 cap (ns.mergeSort leL) w2 hH (by omega) (by omega)
    rw [hlen] at hC
    refine hC.mono ?_
    rintro e w3 ⟨rfl, q, rfl⟩
    have hsz : B ≤ w2.heap.size := by rw [hw2]; simp; omega
    have hgb := grownBy_sorted (w := w2) (g := g) (n := q) (os := #[]) (Lib.compact (ns.mergeSort leL) ++ List.replicate (ns.length - (Lib.compact (ns.mergeSort leL)).length) []).toArray
    rw [Sort.grow_empty] at hgb
    exact ⟨⟨_, _, rfl⟩, below_grownBy hgb hbase hsz⟩
end Go.Proofs.Ytfcokdkbjajohaa
/- A statement whose order is open: each operation lays a value; what holds of the memory is said by what has been done. -/
set_option linter.unusedVariables false
namespace Go.Proofs.Ytfcokdkbjajohaa
open Go.RowKit

theorem wp_region_val {P : Program} {id : Nat} {l : List Oper} {Q : Exit → Act → World → Prop} {a : Act} {w : World} (hm : P.follows .mixedOrders = true)
    (hac : ((List.range l.length).all fun i => ((l[i]?).map fun o => o.after.all fun e => !Region.binds .any e || decide (e.on < i)).getD true) = true)
    (ds : List Nat) (hds : (l.map (·.dst)) = ds.map some) (hnd : ds.Nodup) (hlt : ds.all (fun d => decide (d < a.tmps.size)) = true)
    (V : Nat → Value → Prop) (R : (Nat → Bool) → World → Prop) (R0 : R (fun _ => false) w.drew)
    (step : ∀ i o, l[i]? = some o → ∀ b a' w', Fr ds a a' → R b w' → b i = false → (∀ j, (o.after.any fun e => Region.binds .any e && e.on == j) = true → b j = true ∧ V j (a'.tmps.getD (ds.getD j 0) undef)) →
      wpOp P l.toArray Q i (fun a'' w'' => ∃ v, a'' = a'.put (some (ds.getD i 0)) v ∧ V i v ∧ R (fun j => if j = i then true else b j) w'') a' w')
    (done : ∀ b a' w', Fr ds a a' → (∀ i, i < l.length → b i = true) → R b w' → (∀ j, j < l.length → V j (a'.tmps.getD (ds.getD j 0) undef)) → Q .normal a' w') :
    (Code.region id l.toArray true).wp P Q a w := by
  have hlen : l.length = ds.length := by have := congrArg List.length hds; simpa using this
  have hmem : ∀ j, j < l.length → ds.getD j 0 ∈ ds := by
    intro j hj
    rw [List.getD_eq_getElem?_getD, List.getElem?_eq_getElem (by omega)]
    exact List.getElem_mem _
  have hinj : ∀ i j, i < l.length → j < l.length → ds.getD i 0 = ds.getD j 0 → i = j := by
    intro i j hi hj e
    rw [List.getD_eq_getElem?_getD, List.getElem?_eq_getElem (by omega), List.getD_eq_getElem?_getD, List.getElem?_eq_getElem (by omega)] at e
    exact (List.getElem_inj hnd).1 e
  refine wp_region_inv hm hac (fun b a' w' => Fr ds a a' ∧ R b w' ∧ ∀ j, j < l.length → b j = true → V j (a'.tmps.getD (ds.getD j 0) undef)) ?_ ?_ ?_
  · exact ⟨Fr.refl _ _, R0, fun j _ h => by cases h⟩
  · rintro b a' w' ⟨hf, hb, hall⟩ i o ho hbi hpre
    have hil : i < l.length := (List.getElem?_eq_some_iff.1 ho).1
    refine wpOp_mono ?_ (step i o ho b a' w' hf hb hbi ?_)
    · rintro a'' w'' ⟨v, rfl, hv, hb'⟩
      refine ⟨hf.put (hmem i hil) v, hb', fun j hj hbj => ?_⟩
      by_cases e : j = i
      · subst e
        rw [put_at]
        · exact hv
        · rw [hf.size]
          have := (List.all_eq_true.1 hlt) _ (hmem j hil)
          simpa using this
      · simp only [e, if_false] at hbj
        rw [put_other _ _ _ _ (fun e' => e (hinj _ _ hj hil e'))]
        exact hall j hj hbj
    · intro j hj
      obtain ⟨k, hk, hj⟩ := Array.any_eq_true.1 hj
      obtain ⟨e, he, e1⟩ : ∃ e, e ∈ o.after ∧ e = o.after[k] := ⟨_, Array.getElem_mem hk, rfl⟩
      rw [← e1] at hj
      simp only [Bool.and_eq_true, beq_iff_eq] at hj
      obtain ⟨hbd, rfl⟩ := hj
      have h1 : b e.on = true := by
        simp only [Array.all_eq_true_iff_forall_mem] at hpre
        have := hpre e he
        rw [hbd] at this
        simpa using this
      have h2 : e.on < i := by
        have hac' := (List.all_eq_true.1 hac) i (List.mem_range.2 hil)
        simp only [ho, Option.map_some, Option.getD_some, Array.all_eq_true_iff_forall_mem] at hac'
        have := hac' e he
        rw [hbd] at this
        simpa using this
      exact ⟨h1, hall e.on (by omega) h1⟩
  · rintro b a' w' ⟨hf, hb, hall⟩ hdone
    exact done b a' w' hf hdone hb fun j hj => hall j hj (hdone j hj)
end Go.Proofs.Ytfcokdkbjajohaa
/- Parts of strings, for the walks. -/
set_option linter.unusedVariables false
namespace Go.Proofs.Ytfcokdkbjajohaa
open Go.RowKit

theorem st_cat (a b : List UInt8) : (⟨a.toArray⟩ : ByteArray) ++ (⟨b.toArray⟩ : ByteArray) = ⟨(a ++ b).toArray⟩ := by
  apply ByteArray.ext
  simp
theorem st_mid (l : List UInt8) (i j : Nat) (hij : i ≤ j) (hj : j ≤ l.length) (I J : Int) (hI : I = i) (hJ : J = j) (w : World) :
    (Instr.slice 9 (.string ⟨l.toArray⟩) (some (.int .i64 I)) (some (.int .i64 J)) none).run Try.prog w = .ok (.string ⟨((l.drop i).take (j - i)).toArray⟩) w := by
  subst hI hJ
  rw [run_slice_string w 9 _ .i64 .i64 (i : Int) (j : Int) Try.underlying9 (by omega) (by omega) (by simp [ByteArray.size]; omega)]
  congr 2
  apply ByteArray.ext
  apply Array.ext'
  simp [ByteArray.data_extract]
theorem st_one (l : List UInt8) (i : Nat) (h : i < l.length) (w : World) :
    (Instr.slice 9 (.string ⟨l.toArray⟩) (some (.int .i64 (i : Int))) (some (.int .i64 ((i : Int) + 1))) none).run Try.prog w = .ok (.string ⟨[l[i]].toArray⟩) w := by
  rw [st_mid l i (i + 1) (by omega) (by omega) _ _ rfl (by omega) w]
  have e : (l.drop i).take (i + 1 - i) = [l[i]] := by
    rw [show i + 1 - i = 1 by omega, List.drop_eq_getElem_cons h]
    rfl
  rw [e]
/-- One of the sixteen low digits, by numbers of bytes or whole ones. -/
theorem lows_fin : ∀ n : Fin 16, (⟨#[48, 49, 50, 51, 52, 53, 54, 55, 56, 57, 97, 98, 99, 100, 101, 102]⟩ : ByteArray).extract n.val (n.val + 1) = ⟨#[lowL n.val]⟩ := by decide +kernel
theorem lows_slice8 (n : Nat) (hn : n < 16) (LO HI : Int) (hL : LO = n) (hH : HI = n + 1) (w : World) :
    (Instr.slice 9 (.string ⟨#[48, 49, 50, 51, 52, 53, 54, 55, 56, 57, 97, 98, 99, 100, 101, 102]⟩) (some (.int .u8 LO)) (some (.int .u8 HI)) none).run Try.prog w = .ok (.string ⟨#[lowL n]⟩) w := by
  subst hL hH
  rw [run_slice_string w 9 _ .u8 .u8 (n : Int) ((n : Int) + 1) Try.underlying9 (by omega) (by omega) (by simp [ByteArray.size]; omega)]
  have e := lows_fin ⟨n, hn⟩
  simp only at e
  rw [show ((n : Int)).toNat = n by omega, show ((n : Int) + 1).toNat = n + 1 by omega, e]
theorem lows_slice64 (n : Nat) (hn : n < 16) (LO HI : Int) (hL : LO = n) (hH : HI = n + 1) (w : World) :
    (Instr.slice 9 (.string ⟨#[48, 49, 50, 51, 52, 53, 54, 55, 56, 57, 97, 98, 99, 100, 101, 102]⟩) (some (.int .i64 LO)) (some (.int .i64 HI)) none).run Try.prog w = .ok (.string ⟨#[lowL n]⟩) w := by
  subst hL hH
  rw [run_slice_string w 9 _ .i64 .i64 (n : Int) ((n : Int) + 1) Try.underlying9 (by omega) (by omega) (by simp [ByteArray.size]; omega)]
  have e := lows_fin ⟨n, hn⟩
  simp only at e
  rw [show ((n : Int)).toNat = n by omega, show ((n : Int) + 1).toNat = n + 1 by omega, e]
end Go.Proofs.Ytfcokdkbjajohaa
/- What the walks of json's laws use of the kit. -/
namespace Go.Proofs.Ytfcokdkbjajohaa
end Go.Proofs.Ytfcokdkbjajohaa
/- json: named. -/
set_option linter.unusedVariables false
namespace Go.Proofs.Ytfcokdkbjajohaa
open Go.RowKit

theorem ent_compact : ∀ args w, (callFunc 30 args).run Try.prog w = .ok (.enter 30 args) w := run_enters Try.func30 (by kernel_rfl) rfl
def memOK (p : List UInt8 × JV) : Bool := toldB p.1 && rightJ p.2
theorem info_strJ : (Try.prog.info? 9).map (fun i => (i.zero, i.size, i.bytes)) = some (some (.string ⟨#[]⟩), 1, 16) := by kernel_rfl
theorem all_drop {m : List (List UInt8 × JV)} {j : Nat} (h : j < m.length) : (m.drop j).all memOK = ((toldB m[j].1 && rightJ m[j].2) && (m.drop (j + 1)).all memOK) := by
  rw [List.drop_eq_getElem_cons h, List.all_cons]
  rfl
def namesV (m : List (List UInt8 × JV)) : List Value := m.map fun p => encStr p.1
theorem namesV_eq (m : List (List UInt8 × JV)) : namesV m = (m.map Prod.fst).map encStr := by rw [List.map_map]; rfl
theorem namesV_len (m : List (List UInt8 × JV)) : (namesV m).length = m.length := by simp [namesV]
theorem names_take {m : List (List UInt8 × JV)} {j : Nat} (h : j < m.length) : (namesV m).take (j + 1) = (namesV m).take j ++ [.string ⟨m[j].1.toArray⟩] := by
  rw [List.take_succ_eq_append_getElem (by rw [namesV_len]; exact h)]
  simp [namesV]
set_option maxRecDepth 100000 in
set_option maxHeartbeats 16000000 in
theorem jnamed_any (k : Int) (y : Bool) (t : List UInt8) (l : List JV) (m : List (List UInt8 × JV)) (hv : ∀ x ∈ m, RightC x.2) (hn : ∀ x ∈ m, x.1.length ≤ 140737488351232) (hm : m.length ≤ 10000000) (ok : Nat → Prop) (cs : List Value) (w : World) (h : Rep ok w cs (.mk k y t l m)) :
    Calls Try.prog 18 #[.agg cs.toArray] w fun e w' => e = .returned (.bool (rightM m)) ∧ Below w.heap.size w w' := by
  obtain ⟨a, c, a', c', cl, cm, rfl, -, -, h3, h4, -, -⟩ := h.parts
  simp only [JV.kind, JV.yes, JV.text, JV.list, JV.mem, strV] at *
  obtain ⟨i0, hi, hz0, hz1, hz2⟩ := info_parts info_strJ
  have HI := Lib.hid hi
  have HZ0 := Lib.hid hz0
  have HZ1 := Lib.hid hz1
  have HZ2 := Lib.hid hz2
  have H3 := Lib.hid h3.lt
  have H4 := Lib.hid h4.lt
  have HV := Lib.hid hv
  have HN := Lib.hid hn
  have HRM := Lib.hid (rightM_eq m)
  clear h h3 h4 hi hz0 hz1 hz2 hv hn
  go_enter Try.func18, Try.ntmps18
  go_upto_region 1 with (fail)
  have hb1 : Below w.heap.size w (w.alloc (.cells #[.int .i64 k, .bool y, .string ⟨t.toArray⟩, .slice a l.length c, .slice a' m.length c'] 28)) := (Below.refl _ _).alloc (Nat.le_refl _) _
  have hx1 := heap_alloc_new w (.cells #[.int .i64 k, .bool y, .string ⟨t.toArray⟩, .slice a l.length c, .slice a' m.length c'] 28)
  have hs1 : (w.alloc (.cells #[.int .i64 k, .bool y, .string ⟨t.toArray⟩, .slice a l.length c, .slice a' m.length c'] 28)).heap.size = w.heap.size + 1 := by simp
  generalize w.alloc _ = w1 at *
  have HB1 := Lib.hid hb1
  have HX1 := Lib.hid hx1
  have v4 : w1.cell? ⟨w.heap.size, 4, none⟩ = some (.slice a' m.length c') := by rw [Lib.cell_of_heap hx1]; rfl
  clear hb1 hx1
  go_wp2_with fail
  go_loopg [3, 9] m.length (fun k lv iv wr => ∃ (j : Nat) (rv : Value), rv = lv ∧ iv = .int .i64 (j : Int) ∧ j + k = m.length ∧ Hid (m.all memOK = (m.drop j).all memOK) ∧ Hid (wr.ownsRow (w.heap.size + 1) 9 1 lv j ((namesV m).take j)) ∧ Hid (Below (w.heap.size + 1) w1 wr))
  case atStart => exact ⟨0, _, rfl, rfl, by omega, Lib.hid rfl, Lib.hid (World.ownsRow_nil _ _ _ _), Lib.hid (Below.refl _ _)⟩
  case round =>
    obtain ⟨j, rv, rfl, rfl, hj, HD, HW, HB⟩ := hrel
    have hszB : w1.heap.size ≤ wr.heap.size := HB.out.size
    have HBW := Lib.hid (HB1.out.trans (HB.out.mono (Nat.le_succ _)))
    by_cases hlt : j < m.length
    · have hltI : (j : Int) < (m.length : Int) := by omega
      obtain ⟨b, off, k2, y2, t2, a2, l2, c2, a3, l3, c3, ea, hrep, i0', i1, i2, i3, i4, i5⟩ := mem_cells' (H3.out.keep fun b hb _ => HBW.out.block b hb.2) (H4.out.keep fun b hb _ => HBW.out.block b hb.2) j hlt
      subst ea
      have HREP := Lib.hid hrep
      have HAD := Lib.hid (all_drop hlt)
      have HNT := Lib.hid (names_take hlt)
      have HC := Lib.hid (HV.out m[j] (List.getElem_mem hlt))
      have hnl := HN.out m[j] (List.getElem_mem hlt)
      generalize m[j] = p at *
      obtain ⟨nm, pv⟩ := p
      simp only at HAD HNT HC hnl i0' HREP
      clear hrep
      go_upto_region 5 with (fail)
      have hbm : Below wr.heap.size wr (wr.alloc (.cells #[.string ⟨nm.toArray⟩, .int .i64 k2, .bool y2, .string ⟨t2⟩, .slice a2 l2 c2, .slice a3 l3 c3] 38)) := (Below.refl _ _).alloc (Nat.le_refl _) _
      have hxm := heap_alloc_new wr (.cells #[.string ⟨nm.toArray⟩, .int .i64 k2, .bool y2, .string ⟨t2⟩, .slice a2 l2 c2, .slice a3 l3 c3] 38)
      generalize wr.alloc (.cells #[.string ⟨nm.toArray⟩, .int .i64 k2, .bool y2, .string ⟨t2⟩, .slice a2 l2 c2, .slice a3 l3 c3] 38) = w4 at *
      have HBM := Lib.hid hbm
      have HXM := Lib.hid hxm
      have hsm : wr.heap.size < w4.heap.size := (Array.getElem?_eq_some_iff.1 hxm).1
      have q0 : w4.cell? ⟨wr.heap.size, 0, none⟩ = some (.string ⟨nm.toArray⟩) := by rw [Lib.cell_of_heap hxm]; rfl
      clear hbm hxm i0' i1 i2 i3 i4 i5
      go_wp2_with fail
      refine (told_any nm w4 hnl).mono ?_
      rintro e w5 ⟨rfl, hb5⟩
      have HB5 := Lib.hid (HBM.out.trans (hb5.mono HBM.out.size))
      have hx5 := (hb5.block _ hsm).trans HXM.out
      have HX5 := Lib.hid hx5
      have hs5 : wr.heap.size < w5.heap.size := Nat.lt_of_lt_of_le hsm hb5.size
      have q1 : w5.cell? ⟨wr.heap.size, 1, none⟩ = some (.int .i64 k2) := by rw [Lib.cell_of_heap hx5]; rfl
      have q2 : w5.cell? ⟨wr.heap.size, 2, none⟩ = some (.bool y2) := by rw [Lib.cell_of_heap hx5]; rfl
      have q3 : w5.cell? ⟨wr.heap.size, 3, none⟩ = some (.string ⟨t2⟩) := by rw [Lib.cell_of_heap hx5]; rfl
      have q4 : w5.cell? ⟨wr.heap.size, 4, none⟩ = some (.slice a2 l2 c2) := by rw [Lib.cell_of_heap hx5]; rfl
      have q5 : w5.cell? ⟨wr.heap.size, 5, none⟩ = some (.slice a3 l3 c3) := by rw [Lib.cell_of_heap hx5]; rfl
      clear hb5 hx5 q0 v4
      cases ht : toldB nm with
      | false =>
        rw [ht] at HAD
        have HF : Hid (rightM m = false) := Lib.hid (by rw [HRM.out]; show (m.all memOK && _) = false; rw [HD.out, HAD.out]; rfl)
        have HBZ := Lib.hid (HBW.out.trans (HB5.out.mono HBW.out.size))
        go_wp2_with fail
        refine bodyPost_ret (results_tmp rfl _ _ _) rfl ?_
        exact ⟨by rw [HF.out]; rfl, HBZ.out⟩
      | true =>
        rw [ht] at HAD
        have HREP5 := Lib.hid (HREP.out.under HB5.out)
        go_wp2_with fail
        refine (HC.out _ _ w5 HREP5.out).mono ?_
        rintro e w6 ⟨rfl, hb6⟩
        have HB6 := Lib.hid (HB5.out.trans (hb6.mono HB5.out.size))
        have hx6 := (hb6.block _ hs5).trans HX5.out
        have g0 : w6.cell? ⟨wr.heap.size, 0, none⟩ = some (.string ⟨nm.toArray⟩) := by rw [Lib.cell_of_heap hx6]; rfl
        clear hb6 hx6 q1 q2 q3 q4 q5
        cases hr : rightJ pv with
        | false =>
          rw [hr] at HAD
          have HF : Hid (rightM m = false) := Lib.hid (by rw [HRM.out]; show (m.all memOK && _) = false; rw [HD.out, HAD.out]; rfl)
          have HBZ := Lib.hid (HBW.out.trans (HB6.out.mono HBW.out.size))
          go_wp2_with fail
          refine bodyPost_ret (results_tmp rfl _ _ _) rfl ?_
          exact ⟨by rw [HF.out]; rfl, HBZ.out⟩
        | true =>
          rw [hr] at HAD
          have HW6 := Lib.hid (own_below HW.out HB6.out)
          have hs6 : w.heap.size + 1 ≤ w6.heap.size := by have := HB6.out.size; omega
          have HBZ := Lib.hid (HB.out.trans (HB6.out.mono (by omega)))
          go_wp2_with (at_builtin; refine wpList_append_new rfl (.tmp 23) (.tmp 26) 36 rfl (w.heap.size + 1) 9 i0 _ 1 16 Try.underlying36 HI.out HZ0.out HZ1.out HZ2.out rfl (by decide) _ _ _ rfl (HW6.out.alloc _) w6.heap.size 1 #[.string ⟨nm.toArray⟩] 9 (0, 0) ?c1 rfl rfl ?c2 ?c3 ?c4 ?c5 ?_)
          case c1 => exact heap_alloc_new _ _
          case c2 => rfl
          case c3 => omega
          case c4 => omega
          case c5 => simp; omega
          intro v' w8 hown' hgrow
          have HB8 := Lib.hid (below_own (HBZ.out.alloc (by omega) _) (HW6.out.alloc _) hgrow (by simp; omega))
          have HW8 := Lib.hid hown'
          clear hown' hgrow HW
          go_wp2_with fail
          go_roundg (gk - 1)
          case measure => omega
          case rel => exact ⟨j + 1, _, rfl, by first | rfl | (congr 1), by omega, Lib.hid (by rw [HD.out, HAD.out]; rfl), Lib.hid (by rw [HNT.out]; exact HW8.out), HB8⟩
    · have hge : ¬ (j : Int) < (m.length : Int) := by omega
      obtain rfl : j = m.length := by omega
      have HA : Hid (rightM m = decide (m.map Prod.fst).Nodup) := Lib.hid (by
        rw [HRM.out]
        show (m.all memOK && _) = _
        rw [HD.out, List.drop_eq_nil_of_le (Nat.le_refl _)]
        rfl)
      have hown : wr.ownsRow (w.heap.size + 1) 9 1 rv (m.map Prod.fst).length ((m.map Prod.fst).map encStr) := by
        have := HW.out
        rw [List.take_of_length_le (by rw [namesV_len]; exact Nat.le_refl _), namesV_eq] at this
        rw [List.length_map]
        exact this
      have HS := Lib.hid (sort_cut (w.heap.size + 1) rv (m.map Prod.fst) wr hown (by omega) (by rw [List.length_map]; omega))
      clear hown
      have HVX := Lib.hid ((HB.out.block w.heap.size (by omega)).trans HX1.out)
      clear v4 HI HZ0 HZ1 HZ2
      go_wp2_with fail
      refine HS.out.mono ?_
      rintro e w7 ⟨rfl, hb7, hcut⟩
      have HB7 := Lib.hid hb7
      have HCUT := Lib.hid hcut
      have hx7 := (hb7.block w.heap.size (by omega)).trans HVX.out
      have HX7 := Lib.hid hx7
      have HBE := Lib.hid (HBW.out.trans (hb7.mono (Nat.le_succ _)))
      have hs7 : w.heap.size + 1 ≤ w7.heap.size := Nat.le_trans (by omega) hb7.size
      clear hb7 hcut hx7
      go_upto_region 10 with (fail)
      refine wp_region_val (by kernel_rfl) (by kernel_rfl) [31, 32, 33, 34, 35, 36, 37, 2] rfl (by decide) (by kernel_rfl)
        (fun i => [fun v => v = rv, fun v => ∃ a c, v = .slice a (Lib.compact ((m.map Prod.fst).mergeSort leL)).length c, fun v => v = .int .i64 ((Lib.compact ((m.map Prod.fst).mergeSort leL)).length : Nat), fun v => v = .pointer (some ⟨w.heap.size, 4, none⟩), fun v => v = .slice a' m.length c', fun v => v = .int .i64 (m.length : Nat), fun v => v = .bool (rightM m), fun v => v = .bool (rightM m)].getD i fun _ => True)
        (fun b w' => Below (w.heap.size + 1) w7 w' ∧ (b 1 = false → w'.heap = w7.heap)) ?_ ?_ ?_
      · exact ⟨(Below.refl _ _).drew, fun _ => rfl⟩
      · intro i o ho b ax w' hf ⟨hb, hh⟩ hbi hd
        have keep : i ≠ 1 → Below (w.heap.size + 1) w7 w' ∧ ((if 1 = i then true else b 1) = false → w'.heap = w7.heap) := fun hne => ⟨hb, fun e => hh (by simpa [Ne.symm hne] using e)⟩
        rcases i with _ | _ | _ | _ | _ | _ | _ | _ | i
        · cases ho
          refine op_step rfl rfl (op_value (v := rv) (w' := w') ?_ ⟨_, rfl, rfl, keep (by decide)⟩)
          have t3 : ax.tmps.getD 3 undef = rv := (hf.same 3 (by decide)).trans rfl
          simp only [execOp, Act.eval, t3]
          go_simp
        · cases ho
          obtain ⟨_, t31⟩ := hd 0 (by kernel_rfl)
          have t31' : ax.tmps.getD 31 undef = rv := t31
          refine op_step rfl rfl (op_call ent_compact rfl (by simp only [List.map_toArray, List.map_cons, List.map_nil, Act.eval, t31']) ((HCUT.out w' (hh hbi)).mono ?_))
          rintro e w'' ⟨⟨ac, cc, rfl⟩, hb'⟩
          exact .inl ⟨_, rfl, _, rfl, ⟨_, _, rfl⟩, hb.trans hb', fun e => by simp at e⟩
        · cases ho
          obtain ⟨_, ac, cc, t32⟩ := hd 1 (by kernel_rfl)
          have t32' : ax.tmps.getD 32 undef = .slice ac (Lib.compact ((m.map Prod.fst).mergeSort leL)).length cc := t32
          generalize (Lib.compact ((m.map Prod.fst).mergeSort leL)).length = N at *
          refine op_step rfl rfl (op_value (v := .int .i64 (N : Nat)) (w' := w') ?_ ⟨_, rfl, rfl, keep (by decide)⟩)
          simp only [execOp, resolve, invoke, builtin]
          go_simp
        · cases ho
          refine op_step rfl rfl (op_value (v := .pointer (some ⟨w.heap.size, 4, none⟩)) (w' := w') ?_ ⟨_, rfl, rfl, keep (by decide)⟩)
          have t1 : ax.tmps.getD 1 undef = .pointer (some ⟨w.heap.size, 0, none⟩) := (hf.same 1 (by decide)).trans rfl
          simp only [execOp, Act.eval, t1]
          go_simp
        · cases ho
          obtain ⟨_, t34⟩ := hd 3 (by kernel_rfl)
          have t34' : ax.tmps.getD 34 undef = .pointer (some ⟨w.heap.size, 4, none⟩) := t34
          have c4 : w'.cell? ⟨w.heap.size, 4, none⟩ = some (.slice a' m.length c') := by rw [Lib.cell_of_heap ((hb.block w.heap.size (by omega)).trans HX7.out)]; rfl
          refine op_step rfl rfl (op_value (v := .slice a' m.length c') (w' := w') ?_ ⟨_, rfl, rfl, keep (by decide)⟩)
          simp only [execOp, Act.eval, t34']
          go_simp
        · cases ho
          obtain ⟨_, t35⟩ := hd 4 (by kernel_rfl)
          have t35' : ax.tmps.getD 35 undef = .slice a' m.length c' := t35
          refine op_step rfl rfl (op_value (v := .int .i64 (m.length : Nat)) (w' := w') ?_ ⟨_, rfl, rfl, keep (by decide)⟩)
          simp only [execOp, resolve, invoke, builtin]
          go_simp
        · cases ho
          obtain ⟨_, t33⟩ := hd 2 (by kernel_rfl)
          obtain ⟨_, t36⟩ := hd 5 (by kernel_rfl)
          have t33' : ax.tmps.getD 33 undef = .int .i64 ((Lib.compact ((m.map Prod.fst).mergeSort leL)).length : Nat) := t33
          have t36' : ax.tmps.getD 36 undef = .int .i64 (m.length : Nat) := t36
          have hq : ((((Lib.compact ((m.map Prod.fst).mergeSort leL)).length : Nat) : Int) == (m.length : Int)) = rightM m := by
            rw [HA.out, ← compact_nodup, List.length_map, Bool.eq_iff_iff]
            simp only [beq_iff_eq, decide_eq_true_eq]
            omega
          generalize (Lib.compact ((m.map Prod.fst).mergeSort leL)).length = N at *
          refine op_step rfl rfl (op_value (v := .bool (rightM m)) (w' := w') ?_ ⟨_, rfl, rfl, keep (by decide)⟩)
          simp only [execOp, Act.eval, t33', t36']
          go_simp
        · cases ho
          obtain ⟨_, t37⟩ := hd 6 (by kernel_rfl)
          have t37' : ax.tmps.getD 37 undef = .bool (rightM m) := t37
          refine op_step rfl rfl (op_value (v := .bool (rightM m)) (w' := w') ?_ ⟨_, rfl, rfl, keep (by decide)⟩)
          simp only [execOp, Act.eval, t37']
          go_simp
        · simp at ho
      · intro b ax w' hf hall ⟨hb, _⟩ hd
        have t2 : ax.tmps.getD 2 undef = .bool (rightM m) := hd 7 (by decide)
        have hdf : ax.defers = [] := hf.defers
        have HBL := Lib.hid (HBE.out.trans (hb.mono (Nat.le_succ _)))
        clear hf hall hb hd
        go_wp2_with fail
        refine bodyPost_ret (results_tmp rfl _ _ _) hdf ?_
        exact ⟨by rw [t2], HBL.out⟩
end Go.Proofs.Ytfcokdkbjajohaa
/- json: how great a value is. Plain. -/
set_option linter.unusedVariables false
namespace Go.Proofs.Ytfcokdkbjajohaa

mutual
/-- How great a value is. -/
def sizeJ : JV → Nat
  | .mk k y t l m => 1 + t.length + sizeL l + sizeM m
def sizeL : List JV → Nat
  | [] => 0
  | v :: l => sizeJ v + sizeL l
def sizeM : List (List UInt8 × JV) → Nat
  | [] => 0
  | (n, v) :: m => 1 + n.length + sizeJ v + sizeM m
end
theorem size_pos (v : JV) : 1 ≤ sizeJ v := by
  obtain ⟨k, y, t, l, m⟩ := v
  rw [sizeJ]; omega
theorem size_list : ∀ {l : List JV} {x : JV}, x ∈ l → sizeJ x ≤ sizeL l
  | y :: l, x, h => by
    rw [sizeL]
    rcases List.mem_cons.1 h with rfl | h
    · omega
    · have := size_list h; omega
theorem size_mem : ∀ {m : List (List UInt8 × JV)} {x : List UInt8 × JV}, x ∈ m → 1 + x.1.length + sizeJ x.2 ≤ sizeM m
  | y :: l, x, h => by
    obtain ⟨n, v⟩ := y
    rw [sizeM]
    rcases List.mem_cons.1 h with rfl | h
    · show 1 + n.length + sizeJ v ≤ _
      omega
    · have := size_mem h; omega
theorem len_size : ∀ l : List JV, l.length ≤ sizeL l
  | [] => by simp [sizeL]
  | v :: l => by
    have := len_size l
    have := size_pos v
    rw [sizeL, List.length_cons]; omega
theorem lenM_size : ∀ m : List (List UInt8 × JV), m.length ≤ sizeM m
  | [] => by simp [sizeM]
  | (n, v) :: l => by
    have := lenM_size l
    rw [sizeM, List.length_cons]; omega
theorem quoteC_six : ∀ c : UInt8, (quoteC c).length ≤ 6 := u8_all _ (by decide +kernel)
theorem quote_len6 : ∀ s : List UInt8, (s.flatMap quoteC).length ≤ 6 * s.length
  | [] => by simp
  | c :: s => by
    have := quote_len6 s
    have := quoteC_six c
    rw [List.flatMap_cons, List.length_append, List.length_cons]; omega
theorem quoteL_len6 (s : List UInt8) : (quoteL s).length ≤ 6 * s.length + 2 := by
  have := quote_len6 s
  unfold quoteL
  simp only [List.length_cons, List.length_append, List.length_nil]
  omega
mutual
theorem plain_size : ∀ v : JV, (plainJ v).length + 1 ≤ 8 * sizeJ v
  | .mk k y t l m => by
    have h1 := plainL_size l true
    have h2 := plainM_size m true
    have h3 := quoteL_len6 t
    rw [plainJ, sizeJ]
    split
    · simp; omega
    split
    · split <;> simp <;> omega
    split
    · omega
    split
    · omega
    split
    · simp only [List.length_cons, List.length_append, List.length_nil]; omega
    split
    · simp only [List.length_cons, List.length_append, List.length_nil]; omega
    · simp; omega
theorem plainL_size : ∀ (l : List JV) (f : Bool), (plainL f l).length ≤ 8 * sizeL l
  | [], f => by simp [plainL]
  | v :: l, f => by
    have h1 := plain_size v
    have h2 := plainL_size l false
    rw [plainL, sizeL]
    cases f <;> simp <;> omega
theorem plainM_size : ∀ (l : List (List UInt8 × JV)) (f : Bool), (plainM f l).length ≤ 8 * sizeM l
  | [], f => by simp [plainM]
  | (n, v) :: l, f => by
    have h1 := plain_size v
    have h2 := plainM_size l false
    have h3 := quoteL_len6 n
    rw [plainM, sizeM]
    cases f <;> simp <;> omega
end
mutual
theorem depth_size : ∀ v : JV, depthJ v ≤ sizeJ v
  | .mk k y t l m => by
    have h1 := depthL_size l
    have h2 := depthM_size m
    rw [depthJ, sizeJ]
    split
    · omega
    split <;> omega
theorem depthL_size : ∀ l : List JV, depthL l ≤ sizeL l
  | [] => by simp [depthL]
  | v :: l => by
    have h1 := depth_size v
    have h2 := depthL_size l
    rw [depthL, sizeL]; omega
theorem depthM_size : ∀ l : List (List UInt8 × JV), depthM l ≤ sizeM l
  | [] => by simp [depthM]
  | (n, v) :: l => by
    have h1 := depth_size v
    have h2 := depthM_size l
    rw [depthM, sizeM]; omega
end
end Go.Proofs.Ytfcokdkbjajohaa
/- json: Right, of any value. -/
set_option linter.unusedVariables false
namespace Go.Proofs.Ytfcokdkbjajohaa
open Go.RowKit

set_option maxRecDepth 100000 in
set_option maxHeartbeats 16000000 in
theorem jright_arr (y : Bool) (t : List UInt8) (l : List JV) (m : List (List UInt8 × JV)) (hv : ∀ x ∈ l, RightC x) (hl : l.length ≤ 10000000) : RightC (.mk 5 y t l m) := by
  intro ok cs w h
  have HR0 := Lib.hid h.lt
  obtain ⟨a, c, a', c', cl, cm, rfl, h1, h2, -⟩ := h.parts
  simp only [JV.kind, JV.yes, JV.text, JV.list, JV.mem, strV] at *
  have H1 := Lib.hid h1.lt
  have H2 := Lib.hid h2.lt
  have HV := Lib.hid hv
  have HW : Hid (∀ ob, Below w.heap.size w (w.alloc ob)) := Lib.hid fun ob => (Below.refl _ _).alloc (Nat.le_refl _) _
  have HRT := Lib.hid (right_eq 5 y t l m)
  have HB : Hid (∀ ob, Calls Try.prog 13 #[.agg #[.int .i64 5, .bool y, .string ⟨t.toArray⟩, .slice a l.length c, .slice a' m.length c']] (w.alloc ob) fun e w' => e = .returned (.bool (bareB 5 y t l.length m.length)) ∧ Below (w.alloc ob).heap.size (w.alloc ob) w') := Lib.hid fun ob => jbare_any 5 y t a a' l.length m.length c c' (w.alloc ob)
  have HG : Hid (∀ ob, (w.alloc ob).heap[w.heap.size]? = some ob) := Lib.hid fun ob => heap_alloc_new w ob
  clear h h1 h2 hv
  go_enter Try.func6, Try.ntmps6
  go_wp2_with fail
  refine (HB.out _).mono ?_
  rintro e w2 ⟨rfl, hb2⟩
  have HB2 := Lib.hid ((HW.out _).trans (hb2.mono (by simp)))
  have hx2 := (hb2.block w.heap.size (by simp)).trans (HG.out _)
  have c0 : w2.cell? ⟨w.heap.size, 0, none⟩ = some (.int .i64 5) := by rw [Lib.cell_of_heap hx2]; rfl
  have c3 : w2.cell? ⟨w.heap.size, 3, none⟩ = some (.slice a l.length c) := by rw [Lib.cell_of_heap hx2]; rfl
  clear hb2 hx2 HB HG
  cases hbb : bareB 5 y t l.length m.length with
  | false =>
    rw [hbb] at HRT
    clear hbb
    go_wp2_with fail
    refine bodyPost_ret (results_tmp rfl _ _ _) rfl ?_
    exact ⟨by rw [HRT.out]; rfl, HB2.out⟩
  | true =>
    have HE : Hid (rightJ (.mk 5 y t l m) = rightL l) := Lib.hid (by rw [HRT.out, hbb]; cases rightL l <;> rfl)
    clear HRT hbb
    go_wp2_with fail
    refine (jcontains_any l HV.out _ a c cl w2 (H1.out.keep fun b hb _ => HB2.out.block b hb.2) (H2.out.keep fun b hb _ => HB2.out.block b hb.2) hl).mono ?_
    rintro e w3 ⟨rfl, hb3⟩
    have HB3 := Lib.hid (HB2.out.trans (hb3.mono HB2.out.size))
    clear hb3
    go_wp2_with fail
    refine bodyPost_ret (results_tmp rfl _ _ _) rfl ?_
    exact ⟨by rw [HE.out]; cases rightL l <;> rfl, HB3.out⟩
set_option maxRecDepth 100000 in
set_option maxHeartbeats 16000000 in
theorem jright_obj (y : Bool) (t : List UInt8) (l : List JV) (m : List (List UInt8 × JV)) (hv : ∀ x ∈ m, RightC x.2) (hn : ∀ x ∈ m, x.1.length ≤ 140737488351232) (hm : m.length ≤ 10000000) : RightC (.mk 6 y t l m) := by
  intro ok cs w h
  have HR0 := Lib.hid h.lt
  have hND := jnamed_any 6 y t l m hv hn hm
  obtain ⟨a, c, a', c', cl, cm, rfl, -⟩ := h.parts
  simp only [JV.kind, JV.yes, JV.text, JV.list, JV.mem, strV] at *
  have HND := Lib.hid hND
  have HW : Hid (∀ ob, Below w.heap.size w (w.alloc ob)) := Lib.hid fun ob => (Below.refl _ _).alloc (Nat.le_refl _) _
  have HRT := Lib.hid (right_eq 6 y t l m)
  have HB : Hid (∀ ob, Calls Try.prog 13 #[.agg #[.int .i64 6, .bool y, .string ⟨t.toArray⟩, .slice a l.length c, .slice a' m.length c']] (w.alloc ob) fun e w' => e = .returned (.bool (bareB 6 y t l.length m.length)) ∧ Below (w.alloc ob).heap.size (w.alloc ob) w') := Lib.hid fun ob => jbare_any 6 y t a a' l.length m.length c c' (w.alloc ob)
  have HG : Hid (∀ ob, (w.alloc ob).heap[w.heap.size]? = some ob) := Lib.hid fun ob => heap_alloc_new w ob
  clear h hND hv hn
  go_enter Try.func6, Try.ntmps6
  go_wp2_with fail
  refine (HB.out _).mono ?_
  rintro e w2 ⟨rfl, hb2⟩
  have HB2 := Lib.hid ((HW.out _).trans (hb2.mono (by simp)))
  have hx2 := (hb2.block w.heap.size (by simp)).trans (HG.out _)
  have c0 : w2.cell? ⟨w.heap.size, 0, none⟩ = some (.int .i64 6) := by rw [Lib.cell_of_heap hx2]; rfl
  have c1 : w2.cell? ⟨w.heap.size, 1, none⟩ = some (.bool y) := by rw [Lib.cell_of_heap hx2]; rfl
  have c2 : w2.cell? ⟨w.heap.size, 2, none⟩ = some (.string ⟨t.toArray⟩) := by rw [Lib.cell_of_heap hx2]; rfl
  have c3 : w2.cell? ⟨w.heap.size, 3, none⟩ = some (.slice a l.length c) := by rw [Lib.cell_of_heap hx2]; rfl
  have c4 : w2.cell? ⟨w.heap.size, 4, none⟩ = some (.slice a' m.length c') := by rw [Lib.cell_of_heap hx2]; rfl
  clear hb2 hx2 HB HG
  cases hbb : bareB 6 y t l.length m.length with
  | false =>
    rw [hbb] at HRT
    clear hbb
    go_wp2_with fail
    refine bodyPost_ret (results_tmp rfl _ _ _) rfl ?_
    exact ⟨by rw [HRT.out]; rfl, HB2.out⟩
  | true =>
    have HE : Hid (rightJ (.mk 6 y t l m) = rightM m) := Lib.hid (by rw [HRT.out, hbb]; cases rightM m <;> rfl)
    clear HRT hbb
    go_wp2_with fail
    refine (HND.out _ [.int .i64 6, .bool y, .string ⟨t.toArray⟩, .slice a l.length c, .slice a' m.length c'] w2 (HR0.out.keep fun b hb _ => HB2.out.block b hb.2)).mono ?_
    rintro e w3 ⟨rfl, hb3⟩
    have HB3 := Lib.hid (HB2.out.trans (hb3.mono HB2.out.size))
    clear hb3
    go_wp2_with fail
    refine bodyPost_ret (results_tmp rfl _ _ _) rfl ?_
    exact ⟨by rw [HE.out]; rfl, HB3.out⟩
theorem jright_size : ∀ (N : Nat) (v : JV), sizeJ v ≤ N → sizeJ v ≤ 1000000 → RightC v := by
  intro N
  induction N with
  | zero => intro v h; have := size_pos v; omega
  | succ N ih =>
    intro v h hb
    obtain ⟨k, y, t, l, m⟩ := v
    have hs : sizeJ (.mk k y t l m) = 1 + t.length + sizeL l + sizeM m := by rw [sizeJ]
    by_cases h5 : k = 5
    · subst h5
      refine jright_arr y t l m (fun x hx => ?_) (by have := len_size l; omega)
      have := size_list hx
      exact ih x (by omega) (by omega)
    by_cases h6 : k = 6
    · subst h6
      refine jright_obj y t l m (fun x hx => ?_) (fun x hx => ?_) (by have := lenM_size m; omega)
      · have := size_mem hx
        exact ih x.2 (by omega) (by omega)
      · have := size_mem hx; omega
    exact jright_leaf k y t l m h5 h6 (by omega) (fun _ => by omega)
/-- Right, of any value that isn't too great. -/
theorem jright (v : JV) (h : sizeJ v ≤ 1000000) : RightC v := jright_size _ v (Nat.le_refl _) h
end Go.Proofs.Ytfcokdkbjajohaa
/- json: Depth. -/
set_option linter.unusedVariables false
namespace Go.Proofs.Ytfcokdkbjajohaa
open Go.RowKit

/-- What Depth says of a value. -/
def DepthC (v : JV) : Prop := ∀ (ok : Nat → Prop) cs w, Rep ok w cs v → Calls Try.prog 12 #[.agg cs.toArray] w fun e w' => e = .returned (.int .i64 (depthJ v : Nat)) ∧ Below w.heap.size w w'
theorem depthL_take {l : List JV} {j : Nat} (h : j < l.length) : depthL (l.take (j + 1)) = max (depthL (l.take j)) (depthJ l[j]) := by
  have key : ∀ (a : List JV) (v : JV), depthL (a ++ [v]) = max (depthL a) (depthJ v) := by
    intro a v
    induction a with
    | nil => simp [depthL]
    | cons x a ih =>
      simp only [List.cons_append, depthL, ih]
      omega
  rw [List.take_succ_eq_append_getElem h, key]
theorem depthM_take {l : List (List UInt8 × JV)} {j : Nat} (h : j < l.length) : depthM (l.take (j + 1)) = max (depthM (l.take j)) (depthJ l[j].2) := by
  have key : ∀ (a : List (List UInt8 × JV)) (v : List UInt8 × JV), depthM (a ++ [v]) = max (depthM a) (depthJ v.2) := by
    intro a v
    induction a with
    | nil => simp [depthM]
    | cons x a ih =>
      simp only [List.cons_append, depthM, ih]
      omega
  rw [List.take_succ_eq_append_getElem h, key]
set_option maxRecDepth 100000 in
set_option maxHeartbeats 16000000 in
theorem jdepth_leaf (k : Int) (y : Bool) (t : List UInt8) (l : List JV) (m : List (List UInt8 × JV)) (h5 : k ≠ 5) (h6 : k ≠ 6) : DepthC (.mk k y t l m) := by
  intro ok cs w h
  obtain ⟨a, c, a', c', cl, cm, rfl, -⟩ := h.parts
  simp only [JV.kind, JV.yes, JV.text, JV.list, JV.mem, strV] at *
  have HW : Hid (∀ ob, Below w.heap.size w (w.alloc ob)) := Lib.hid fun ob => (Below.refl _ _).alloc (Nat.le_refl _) _
  have q5 : (k == 5) = false := by simp [h5]
  have q6 : (k == 6) = false := by simp [h6]
  have HD : Hid (depthJ (.mk k y t l m) = 1) := Lib.hid (by rw [depthJ, if_neg h5, if_neg h6])
  clear h h5 h6
  go_enter Try.func12, Try.ntmps12
  go_wp2_with fail
  refine bodyPost_ret (results_tmp rfl _ _ _) rfl ?_
  exact ⟨by rw [HD.out]; rfl, HW.out _⟩
set_option maxRecDepth 100000 in
set_option maxHeartbeats 16000000 in
theorem jdepth_arr (y : Bool) (t : List UInt8) (l : List JV) (m : List (List UInt8 × JV)) (hv : ∀ x ∈ l, DepthC x) (hl : sizeL l ≤ 1000000) : DepthC (.mk 5 y t l m) := by
  intro ok cs w h
  obtain ⟨a, c, a', c', cl, cm, rfl, h1, h2, -⟩ := h.parts
  simp only [JV.kind, JV.yes, JV.text, JV.list, JV.mem, strV] at *
  have H1 := Lib.hid h1.lt
  have H2 := Lib.hid h2.lt
  have HV := Lib.hid hv
  have hll : l.length ≤ 1000000 := by have := len_size l; omega
  have HSL := Lib.hid hl
  have HD : Hid (depthJ (.mk 5 y t l m) = depthL l + 1) := Lib.hid (by rw [depthJ, if_pos rfl])
  clear h h1 h2 hv hl
  go_enter Try.func12, Try.ntmps12
  go_upto_region 2 with (fail)
  have hb1 : Below w.heap.size w (w.alloc (.cells #[.int .i64 5, .bool y, .string ⟨t.toArray⟩, .slice a l.length c, .slice a' m.length c'] 28)) := (Below.refl _ _).alloc (Nat.le_refl _) _
  have hx1 := heap_alloc_new w (.cells #[.int .i64 5, .bool y, .string ⟨t.toArray⟩, .slice a l.length c, .slice a' m.length c'] 28)
  generalize w.alloc _ = w1 at *
  have HB1 := Lib.hid hb1
  have HX1 := Lib.hid hx1
  have hs1 : w.heap.size < w1.heap.size := (Array.getElem?_eq_some_iff.1 hx1).1
  have v0 : w1.cell? ⟨w.heap.size, 0, none⟩ = some (.int .i64 5) := by rw [Lib.cell_of_heap hx1]; rfl
  have v3 : w1.cell? ⟨w.heap.size, 3, none⟩ = some (.slice a l.length c) := by rw [Lib.cell_of_heap hx1]; rfl
  clear hb1 hx1
  go_wp2_with fail
  go_loopg [3, 14] l.length (fun k acc iv wr => ∃ j d : Nat, acc = .int .i64 (d : Int) ∧ iv = .int .i64 (j : Int) ∧ j + k = l.length ∧ d ≤ 1000000 ∧ Hid (d = depthL (l.take j)) ∧ Hid (Below w1.heap.size w1 wr))
  case atStart => exact ⟨0, 0, rfl, rfl, by omega, by omega, Lib.hid rfl, Lib.hid (Below.refl _ _)⟩
  case round =>
    obtain ⟨j, d, rfl, rfl, hj, hd, HDD, HB⟩ := hrel
    have HBW := Lib.hid (HB1.out.trans (HB.out.mono (Nat.le_of_lt hs1)))
    by_cases hlt : j < l.length
    · have hltI : (j : Int) < (l.length : Int) := by omega
      obtain ⟨br, off, k2, y2, t2, a2, l2, c2, a3, l3, c3, ea, hrep, i0, i1, i2, i3, i4⟩ := list_cells (H1.out.keep fun b hb _ => HBW.out.block b hb.2) (H2.out.keep fun b hb _ => HBW.out.block b hb.2) j hlt
      subst ea
      have HREP := Lib.hid hrep
      have HC := Lib.hid (HV.out l[j] (List.getElem_mem hlt))
      have HT := Lib.hid (depthL_take hlt)
      have hdx : depthJ l[j] ≤ 1000000 := by
        have h1 := depth_size l[j]
        have h2 := size_list (List.getElem_mem hlt)
        have := HSL.out
        omega
      generalize l[j] = x at *
      clear hrep v0 v3
      go_upto_region 6 with (fail)
      have hb4 : Below wr.heap.size wr (wr.alloc (.cells #[.int .i64 k2, .bool y2, .string ⟨t2⟩, .slice a2 l2 c2, .slice a3 l3 c3] 28)) := (Below.refl _ _).alloc (Nat.le_refl _) _
      have hx4 := heap_alloc_new wr (.cells #[.int .i64 k2, .bool y2, .string ⟨t2⟩, .slice a2 l2 c2, .slice a3 l3 c3] 28)
      generalize wr.alloc (.cells #[.int .i64 k2, .bool y2, .string ⟨t2⟩, .slice a2 l2 c2, .slice a3 l3 c3] 28) = w4 at *
      have HB4 := Lib.hid (HB.out.trans (hb4.mono HB.out.size))
      have HREP4 := Lib.hid (HREP.out.under hb4)
      have v0 : w4.cell? ⟨wr.heap.size, 0, none⟩ = some (.int .i64 k2) := by rw [Lib.cell_of_heap hx4]; rfl
      have v1 : w4.cell? ⟨wr.heap.size, 1, none⟩ = some (.bool y2) := by rw [Lib.cell_of_heap hx4]; rfl
      have v2 : w4.cell? ⟨wr.heap.size, 2, none⟩ = some (.string ⟨t2⟩) := by rw [Lib.cell_of_heap hx4]; rfl
      have v3 : w4.cell? ⟨wr.heap.size, 3, none⟩ = some (.slice a2 l2 c2) := by rw [Lib.cell_of_heap hx4]; rfl
      have v4 : w4.cell? ⟨wr.heap.size, 4, none⟩ = some (.slice a3 l3 c3) := by rw [Lib.cell_of_heap hx4]; rfl
      clear hb4 hx4 i0 i1 i2 i3 i4
      go_wp2_with fail
      refine (HC.out _ _ w4 HREP4.out).mono ?_
      rintro e w5 ⟨rfl, hb5⟩
      have HB5 := Lib.hid (HB4.out.trans (hb5.mono HB4.out.size))
      obtain ⟨dx, hdx2⟩ : ∃ dx, depthJ x = dx := ⟨_, rfl⟩
      rw [hdx2] at HT hdx ⊢
      clear hb5 hdx2 v0 v1 v2 v3 v4
      go_wp2_with fail
      go_roundg (gk - 1)
      case measure => omega
      case rel => exact ⟨j + 1, max d dx, by first | rfl | (congr 1; omega), by first | rfl | (congr 1), by omega, by omega, Lib.hid (by rw [HT.out, ← HDD.out]), HB5⟩
    · have hge : ¬ (j : Int) < (l.length : Int) := by omega
      have HE : Hid (depthL l = d) := Lib.hid (by rw [HDD.out, List.take_of_length_le (by omega)])
      have c0 : wr.cell? ⟨w.heap.size, 0, none⟩ = some (.int .i64 5) := by rw [Lib.cell_of_heap ((HB.out.block _ hs1).trans HX1.out)]; rfl
      clear v0 v3
      go_wp2_with fail
      refine bodyPost_ret (results_tmp rfl _ _ _) rfl ?_
      exact ⟨by rw [HD.out, HE.out]; first | rfl | (congr 1), HBW.out⟩
set_option maxRecDepth 100000 in
set_option maxHeartbeats 16000000 in
theorem jdepth_obj (y : Bool) (t : List UInt8) (l : List JV) (m : List (List UInt8 × JV)) (hv : ∀ x ∈ m, DepthC x.2) (hl : sizeM m ≤ 1000000) : DepthC (.mk 6 y t l m) := by
  intro ok cs w h
  obtain ⟨a, c, a', c', cl, cm, rfl, -, -, h1, h2, -⟩ := h.parts
  simp only [JV.kind, JV.yes, JV.text, JV.list, JV.mem, strV] at *
  have H1 := Lib.hid h1.lt
  have H2 := Lib.hid h2.lt
  have HV := Lib.hid hv
  have hll : m.length ≤ 1000000 := by have := lenM_size m; omega
  have HSL := Lib.hid hl
  have HD : Hid (depthJ (.mk 6 y t l m) = depthM m + 1) := Lib.hid (by rw [depthJ, if_neg (by decide), if_pos rfl])
  clear h h1 h2 hv hl
  go_enter Try.func12, Try.ntmps12
  go_upto_region 2 with (fail)
  have hb1 : Below w.heap.size w (w.alloc (.cells #[.int .i64 6, .bool y, .string ⟨t.toArray⟩, .slice a l.length c, .slice a' m.length c'] 28)) := (Below.refl _ _).alloc (Nat.le_refl _) _
  have hx1 := heap_alloc_new w (.cells #[.int .i64 6, .bool y, .string ⟨t.toArray⟩, .slice a l.length c, .slice a' m.length c'] 28)
  generalize w.alloc _ = w1 at *
  have HB1 := Lib.hid hb1
  have hs1 : w.heap.size < w1.heap.size := (Array.getElem?_eq_some_iff.1 hx1).1
  have v0 : w1.cell? ⟨w.heap.size, 0, none⟩ = some (.int .i64 6) := by rw [Lib.cell_of_heap hx1]; rfl
  have v4 : w1.cell? ⟨w.heap.size, 4, none⟩ = some (.slice a' m.length c') := by rw [Lib.cell_of_heap hx1]; rfl
  clear hb1 hx1
  go_wp2_with fail
  go_loopg [3, 29] m.length (fun k acc iv wr => ∃ j d : Nat, acc = .int .i64 (d : Int) ∧ iv = .int .i64 (j : Int) ∧ j + k = m.length ∧ d ≤ 1000000 ∧ Hid (d = depthM (m.take j)) ∧ Hid (Below w1.heap.size w1 wr))
  case atStart => exact ⟨0, 0, rfl, rfl, by omega, by omega, Lib.hid rfl, Lib.hid (Below.refl _ _)⟩
  case round =>
    obtain ⟨j, d, rfl, rfl, hj, hd, HDD, HB⟩ := hrel
    have HBW := Lib.hid (HB1.out.trans (HB.out.mono (Nat.le_of_lt hs1)))
    by_cases hlt : j < m.length
    · have hltI : (j : Int) < (m.length : Int) := by omega
      obtain ⟨br, off, k2, y2, t2, a2, l2, c2, a3, l3, c3, ea, hrep, i0, i1, i2, i3, i4, i5⟩ := mem_cells' (H1.out.keep fun b hb _ => HBW.out.block b hb.2) (H2.out.keep fun b hb _ => HBW.out.block b hb.2) j hlt
      subst ea
      have HREP := Lib.hid hrep
      have HC := Lib.hid (HV.out m[j] (List.getElem_mem hlt))
      have HT := Lib.hid (depthM_take hlt)
      have hdx : depthJ m[j].2 ≤ 1000000 := by
        have h1 := depth_size m[j].2
        have h2 := size_mem (List.getElem_mem hlt)
        have := HSL.out
        omega
      generalize m[j] = x at *
      obtain ⟨nm, x⟩ := x
      simp only at HREP HC HT hdx i0
      clear hrep v0 v4
      go_upto_region 12 with (fail)
      have hb4 : Below wr.heap.size wr (wr.alloc (.cells #[.string ⟨nm.toArray⟩, .int .i64 k2, .bool y2, .string ⟨t2⟩, .slice a2 l2 c2, .slice a3 l3 c3] 38)) := (Below.refl _ _).alloc (Nat.le_refl _) _
      have hx4 := heap_alloc_new wr (.cells #[.string ⟨nm.toArray⟩, .int .i64 k2, .bool y2, .string ⟨t2⟩, .slice a2 l2 c2, .slice a3 l3 c3] 38)
      generalize wr.alloc (.cells #[.string ⟨nm.toArray⟩, .int .i64 k2, .bool y2, .string ⟨t2⟩, .slice a2 l2 c2, .slice a3 l3 c3] 38) = w4 at *
      have HB4 := Lib.hid (HB.out.trans (hb4.mono HB.out.size))
      have HREP4 := Lib.hid (HREP.out.under hb4)
      have v0 : w4.cell? ⟨wr.heap.size, 1, none⟩ = some (.int .i64 k2) := by rw [Lib.cell_of_heap hx4]; rfl
      have v1 : w4.cell? ⟨wr.heap.size, 2, none⟩ = some (.bool y2) := by rw [Lib.cell_of_heap hx4]; rfl
      have v2 : w4.cell? ⟨wr.heap.size, 3, none⟩ = some (.string ⟨t2⟩) := by rw [Lib.cell_of_heap hx4]; rfl
      have v3 : w4.cell? ⟨wr.heap.size, 4, none⟩ = some (.slice a2 l2 c2) := by rw [Lib.cell_of_heap hx4]; rfl
      have v4 : w4.cell? ⟨wr.heap.size, 5, none⟩ = some (.slice a3 l3 c3) := by rw [Lib.cell_of_heap hx4]; rfl
      clear hb4 hx4 i0 i1 i2 i3 i4 i5
      go_wp2_with fail
      refine (HC.out _ _ w4 HREP4.out).mono ?_
      rintro e w5 ⟨rfl, hb5⟩
      have HB5 := Lib.hid (HB4.out.trans (hb5.mono HB4.out.size))
      obtain ⟨dx, hdx2⟩ : ∃ dx, depthJ x = dx := ⟨_, rfl⟩
      rw [hdx2] at HT hdx ⊢
      clear hb5 hdx2 v0 v1 v2 v3 v4
      go_wp2_with fail
      go_roundg (gk - 1)
      case measure => omega
      case rel => exact ⟨j + 1, max d dx, by first | rfl | (congr 1; omega), by first | rfl | (congr 1), by omega, by omega, Lib.hid (by rw [HT.out, ← HDD.out]), HB5⟩
    · have hge : ¬ (j : Int) < (m.length : Int) := by omega
      have HE : Hid (depthM m = d) := Lib.hid (by rw [HDD.out, List.take_of_length_le (by omega)])
      clear v0 v4
      go_wp2_with fail
      refine bodyPost_ret (results_tmp rfl _ _ _) rfl ?_
      exact ⟨by rw [HD.out, HE.out]; first | rfl | (congr 1), HBW.out⟩
theorem jdepth_size : ∀ (N : Nat) (v : JV), sizeJ v ≤ N → sizeJ v ≤ 1000000 → DepthC v := by
  intro N
  induction N with
  | zero => intro v h; have := size_pos v; omega
  | succ N ih =>
    intro v h hb
    obtain ⟨k, y, t, l, m⟩ := v
    have hs : sizeJ (.mk k y t l m) = 1 + t.length + sizeL l + sizeM m := by rw [sizeJ]
    by_cases h5 : k = 5
    · subst h5
      refine jdepth_arr y t l m (fun x hx => ?_) (by omega)
      have := size_list hx
      exact ih x (by omega) (by omega)
    by_cases h6 : k = 6
    · subst h6
      refine jdepth_obj y t l m (fun x hx => ?_) (by omega)
      have := size_mem hx
      exact ih x.2 (by omega) (by omega)
    exact jdepth_leaf k y t l m h5 h6
theorem jdepth (v : JV) (h : sizeJ v ≤ 1000000) : DepthC v := jdepth_size _ v (Nat.le_refl _) h
end Go.Proofs.Ytfcokdkbjajohaa
/- json: write, of any value; depth. -/
set_option linter.unusedVariables false
namespace Go.Proofs.Ytfcokdkbjajohaa
open Go.RowKit

theorem jwrite_any (b : Nat) : ∀ (N : Nat) (v : JV), SizeOf.sizeOf v ≤ N → WriteC b v := by
  intro N
  induction N with
  | zero =>
    intro v h
    obtain ⟨k, y, t, l, m⟩ := v
    simp at h
  | succ N ih =>
    intro v h
    obtain ⟨k, y, t, l, m⟩ := v
    have hs : SizeOf.sizeOf (JV.mk k y t l m) = 1 + SizeOf.sizeOf k + SizeOf.sizeOf y + SizeOf.sizeOf t + SizeOf.sizeOf l + SizeOf.sizeOf m := by simp
    by_cases h5 : k = 5
    · subst h5
      exact jwrite_arr b y t l m fun x hx => ih x (by have := sizeOf_list hx; omega)
    by_cases h6 : k = 6
    · subst h6
      exact jwrite_obj b y t l m fun x hx => ih x.2 (by have := sizeOf_mem hx; omega)
    exact jwrite_leaf b k y t l m h5 h6
theorem jwrite (b : Nat) (v : JV) : WriteC b v := jwrite_any b _ v (Nat.le_refl _)
end Go.Proofs.Ytfcokdkbjajohaa
/- json: Print. -/
set_option linter.unusedVariables false
namespace Go.Proofs.Ytfcokdkbjajohaa
open Go.RowKit

set_option maxRecDepth 100000 in
set_option maxHeartbeats 16000000 in
theorem jprint_any (v : JV) (hv : RightC v) (ok : Nat → Prop) (cs : List Value) (w : World) (h : Rep ok w cs v) (hl : (plainJ v).length ≤ 100000) :
    Calls Try.prog 7 #[.agg cs.toArray] w fun e w' => e = .returned (.tuple #[.string ⟨(if rightJ v then plainJ v else []).toArray⟩, .int .i64 (if rightJ v then 0 else 10)]) ∧ Below w.heap.size w w' := by
  obtain ⟨a, c, a', c', cl, cm, rfl, -⟩ := h.parts
  unfold strV at *
  have HR0 := Lib.hid h.lt
  have HV := Lib.hid hv
  clear h hv
  go_enter Try.func7, Try.ntmps7
  go_upto_region 1 with (fail)
  have hb1 : Below w.heap.size w (w.alloc (.cells #[.int .i64 v.kind, .bool v.yes, .string ⟨v.text.toArray⟩, .slice a v.list.length c, .slice a' v.mem.length c'] 28)) := (Below.refl _ _).alloc (Nat.le_refl _) _
  have hx1 := heap_alloc_new w (.cells #[.int .i64 v.kind, .bool v.yes, .string ⟨v.text.toArray⟩, .slice a v.list.length c, .slice a' v.mem.length c'] 28)
  generalize w.alloc _ = w1 at *
  have HB1 := Lib.hid hb1
  have HX1 := Lib.hid hx1
  have hs1 : w.heap.size < w1.heap.size := (Array.getElem?_eq_some_iff.1 hx1).1
  have HR1 := Lib.hid (HR0.out.under hb1)
  have v0 : w1.cell? ⟨w.heap.size, 0, none⟩ = some (.int .i64 v.kind) := by rw [Lib.cell_of_heap hx1]; rfl
  have v1 : w1.cell? ⟨w.heap.size, 1, none⟩ = some (.bool v.yes) := by rw [Lib.cell_of_heap hx1]; rfl
  have v2 : w1.cell? ⟨w.heap.size, 2, none⟩ = some (.string ⟨v.text.toArray⟩) := by rw [Lib.cell_of_heap hx1]; rfl
  have v3 : w1.cell? ⟨w.heap.size, 3, none⟩ = some (.slice a v.list.length c) := by rw [Lib.cell_of_heap hx1]; rfl
  have v4 : w1.cell? ⟨w.heap.size, 4, none⟩ = some (.slice a' v.mem.length c') := by rw [Lib.cell_of_heap hx1]; rfl
  clear hb1 hx1 HR0
  go_wp2_with fail
  refine (HV.out _ _ w1 HR1.out).mono ?_
  rintro e w2 ⟨rfl, hb2⟩
  have HB2 := Lib.hid (HB1.out.trans (hb2.mono HB1.out.size))
  have HX2 := Lib.hid ((hb2.block _ hs1).trans HX1.out)
  have hs2 : w.heap.size < w2.heap.size := Nat.lt_of_lt_of_le hs1 hb2.size
  have HR2 := Lib.hid (HR1.out.under hb2)
  clear hb2 v0 v1 v2 v3 v4 HR1 HX1 HB1
  cases hr : rightJ v with
  | false =>
    go_wp2_with fail
    all_goals (refine bodyPost_ret (v := .tuple #[.string ⟨#[]⟩, .int .i64 10]) (by simp [results, Try.results7, go_sem]) rfl ?_; exact ⟨rfl, HB2.out⟩)
  | true =>
    go_upto_region 4 with (fail)
    have HBN := Lib.hid (BldZ.fresh w2)
    have hb3 : Below w2.heap.size w2 (w2.alloc (.cells #[.pointer none, .slice none 0 0] 52 (0, 0))) := (Below.refl _ _).alloc (Nat.le_refl _) _
    generalize w2.alloc _ = w3 at *
    have HX3 := Lib.hid ((hb3.block _ hs2).trans HX2.out)
    have HB3 := Lib.hid (HB2.out.trans (hb3.mono HB2.out.size))
    have HR3 := Lib.hid ((HR2.out.under hb3).mono fun k hk => (show k < w2.heap.size by have := hk.2; omega))
    have v0 : w3.cell? ⟨w.heap.size, 0, none⟩ = some (.int .i64 v.kind) := by rw [Lib.cell_of_heap HX3.out]; rfl
    have v1 : w3.cell? ⟨w.heap.size, 1, none⟩ = some (.bool v.yes) := by rw [Lib.cell_of_heap HX3.out]; rfl
    have v2 : w3.cell? ⟨w.heap.size, 2, none⟩ = some (.string ⟨v.text.toArray⟩) := by rw [Lib.cell_of_heap HX3.out]; rfl
    have v3 : w3.cell? ⟨w.heap.size, 3, none⟩ = some (.slice a v.list.length c) := by rw [Lib.cell_of_heap HX3.out]; rfl
    have v4 : w3.cell? ⟨w.heap.size, 4, none⟩ = some (.slice a' v.mem.length c') := by rw [Lib.cell_of_heap HX3.out]; rfl
    clear hb3
    go_wp2_with fail
    refine (jwrite w2.heap.size v _ [] w3 HR3.out HBN.out (by simpa using hl)).mono ?_
    rintro e w4 ⟨rfl, hb4, hf4⟩
    have HB4 := Lib.hid hb4
    have HF4 := Lib.hid (HB3.out.trans (hf4.below.mono (Nat.le_of_lt hs2)))
    clear hb4 hf4
    go_wp2_with fail
    refine (BString_any w2.heap.size _ w4 HB4.out.bld).mono ?_
    rintro e w5 ⟨rfl, _, hb5, _⟩
    have HB5 := Lib.hid (HF4.out.trans (hb5.mono (Nat.le_of_lt hs2)))
    clear hb5
    go_wp2_with fail
    refine bodyPost_ret (v := .tuple #[.string ⟨(plainJ v).toArray⟩, .int .i64 0]) (by simp [results, Try.results7, go_sem]) rfl ?_
    exact ⟨rfl, HB5.out⟩
end Go.Proofs.Ytfcokdkbjajohaa
/- The anchor of klaxonlaw06. -/
set_option linter.unusedVariables false
namespace Go.Proofs.Ytfcokdkbjajohaa
open Go.RowKit

def ancB : List UInt8 := [123, 32, 34, 97, 34, 32, 58, 32, 91, 49, 44, 32, 45, 48, 46, 53, 101, 51, 44, 32, 34, 92, 117, 48, 48, 101, 57, 92, 110, 34, 93, 32, 125]
def ancC : Array Value := (Lib.byteCells ancB).toArray
def ancV : JV := jobj [([97], jarr [jnum [49], jnum [45, 48, 46, 53, 101, 51], jstr [195, 169, 10]])]
set_option maxRecDepth 100000 in
theorem anc_parse : parseL ancB 3 = (ancV, 0) := by kernel_rfl
theorem anc_right : rightJ ancV = true := by decide +kernel
theorem anc_plain : plainJ ancV = [123, 34, 97, 34, 58, 91, 49, 44, 45, 48, 46, 53, 101, 51, 44, 34, 195, 169, 92, 110, 34, 93, 125] := by decide +kernel
theorem anc_depth : depthJ ancV = 3 := by decide +kernel
theorem anc_size : sizeJ ancV ≤ 1000 := by decide +kernel
set_option maxRecDepth 100000 in
set_option maxHeartbeats 16000000 in
theorem anchor06_any (w : World) : Calls Try.prog 4 #[] w fun e w' => e = .returned (.bool true) ∧ Below w.heap.size w w' := by
  have kc := fun (w : World) (C : Array Value) (n c : Nat) => Lib.run_convert_bytes_const (P := Try.prog) w 43 5 C n c Try.underlying43 Try.underlying5
  go_enter Try.func4, Try.ntmps4
  go_wp2_with fail
  generalize hw1 : w.alloc _ = w1
  have hA : Rd w1 (some ⟨w.heap.size, 0, none⟩) ancB := by rw [← hw1]; exact Rd.of_lit (T := 5) (fr := (33, 34)) _ (by rw [heap_alloc_new]; rfl)
  have HB1 : Hid (Below w.heap.size w w1) := Lib.hid (by rw [← hw1]; exact (Below.refl _ _).alloc (Nat.le_refl _) _)
  clear kc hw1
  refine (parse_any ancB (some ⟨w.heap.size, 0, none⟩) 33 3 w1 hA (by decide)).mono ?_
  rw [anc_parse]
  rintro e w2 ⟨hb2, cs, A, rfl, hrep⟩
  have HB2 := Lib.hid (HB1.out.trans (hb2.mono HB1.out.size))
  have HR2 := Lib.hid hrep
  obtain ⟨a, c, a', c', cl, cm, rfl, -⟩ := hrep.parts
  unfold strV at *
  clear hb2 hrep hA HB1
  generalize ancV.text = tx at *
  generalize ancV.kind = kx at *
  generalize ancV.yes = yx at *
  generalize ancV.list.length = lx at *
  generalize ancV.mem.length = mx at *
  go_upto_region 2 with (fail)
  generalize hw3 : w2.alloc _ = w3
  have hb3 : Below w2.heap.size w2 w3 := by rw [← hw3]; exact (Below.refl _ _).alloc (Nat.le_refl _) _
  have hx3 : w3.heap[w2.heap.size]? = some (.cells #[.int .i64 kx, .bool yx, .string ⟨tx.toArray⟩, .slice a lx c, .slice a' mx c'] 28 (0, 0)) := by rw [← hw3]; exact heap_alloc_new _ _
  have HB3 := Lib.hid (HB2.out.trans (hb3.mono HB2.out.size))
  have HR3 := Lib.hid (HR2.out.under hb3)
  have HX3 := Lib.hid hx3
  have hs3 : w2.heap.size < w3.heap.size := (Array.getElem?_eq_some_iff.1 hx3).1
  have v0 : w3.cell? ⟨w2.heap.size, 0, none⟩ = some (.int .i64 kx) := by rw [Lib.cell_of_heap hx3]; rfl
  have v1 : w3.cell? ⟨w2.heap.size, 1, none⟩ = some (.bool yx) := by rw [Lib.cell_of_heap hx3]; rfl
  have v2 : w3.cell? ⟨w2.heap.size, 2, none⟩ = some (.string ⟨tx.toArray⟩) := by rw [Lib.cell_of_heap hx3]; rfl
  have v3 : w3.cell? ⟨w2.heap.size, 3, none⟩ = some (.slice a lx c) := by rw [Lib.cell_of_heap hx3]; rfl
  have v4 : w3.cell? ⟨w2.heap.size, 4, none⟩ = some (.slice a' mx c') := by rw [Lib.cell_of_heap hx3]; rfl
  clear hw3 hb3 hx3 HR2 HB2
  go_wp2_with fail
  refine (jprint_any ancV (jright ancV (Nat.le_trans anc_size (by decide))) _ [.int .i64 kx, .bool yx, .string ⟨tx.toArray⟩, .slice a lx c, .slice a' mx c'] w3 HR3.out (by rw [anc_plain]; decide)).mono ?_
  rw [anc_right, anc_plain]
  rintro e w4 ⟨rfl, hb4⟩
  have HB4 := Lib.hid (HB3.out.trans (hb4.mono HB3.out.size))
  have HR4 := Lib.hid (HR3.out.under hb4)
  have hx4 := (hb4.block _ hs3).trans HX3.out
  have u0 : w4.cell? ⟨w2.heap.size, 0, none⟩ = some (.int .i64 kx) := by rw [Lib.cell_of_heap hx4]; rfl
  have u1 : w4.cell? ⟨w2.heap.size, 1, none⟩ = some (.bool yx) := by rw [Lib.cell_of_heap hx4]; rfl
  have u2 : w4.cell? ⟨w2.heap.size, 2, none⟩ = some (.string ⟨tx.toArray⟩) := by rw [Lib.cell_of_heap hx4]; rfl
  have u3 : w4.cell? ⟨w2.heap.size, 3, none⟩ = some (.slice a lx c) := by rw [Lib.cell_of_heap hx4]; rfl
  have u4 : w4.cell? ⟨w2.heap.size, 4, none⟩ = some (.slice a' mx c') := by rw [Lib.cell_of_heap hx4]; rfl
  clear hb4 hx4 v0 v1 v2 v3 v4 HX3 HR3 HB3 hs3
  go_wp2_with fail
  refine (jdepth ancV (Nat.le_trans anc_size (by decide)) _ _ w4 HR4.out).mono ?_
  rw [anc_depth]
  rintro e w5 ⟨rfl, hb5⟩
  have HB5 := Lib.hid (HB4.out.trans (hb5.mono HB4.out.size))
  clear hb5 u0 u1 u2 u3 u4
  go_wp2_with fail
  refine bodyPost_ret (results_tmp rfl _ _ _) rfl ?_
  exact ⟨rfl, HB5.out⟩
end Go.Proofs.Ytfcokdkbjajohaa
/- json: Same. -/
set_option linter.unusedVariables false
namespace Go.Proofs.Ytfcokdkbjajohaa
open Go.RowKit

def sameJ (v u : JV) : Bool := rightJ v && (rightJ u && (plainJ v == plainJ u))
theorem same_self {v : JV} (h : rightJ v = true) : sameJ v v = true := by simp [sameJ, h]
set_option maxRecDepth 100000 in
set_option maxHeartbeats 16000000 in
theorem jsame_any (v u : JV) (ok ok' : Nat → Prop) (cs cs' : List Value) (w : World) (h : Rep ok w cs v) (h' : Rep ok' w cs' u) (hv : sizeJ v ≤ 12000) (hu : sizeJ u ≤ 12000) :
    Calls Try.prog 9 #[.agg cs.toArray, .agg cs'.toArray] w fun e w' => e = .returned (.bool (sameJ v u)) ∧ Below w.heap.size w w' := by
  have hpv := plain_size v
  have hpu := plain_size u
  have HR := Lib.hid h.lt
  have HR' := Lib.hid h'.lt
  obtain ⟨a, c, a', c', cl, cm, rfl, -⟩ := h.parts
  obtain ⟨xa, xc, xa', xc', xcl, xcm, rfl, -⟩ := h'.parts
  unfold strV at *
  have HP : Hid (∀ w1, Rep (fun b => ok b ∧ b < w.heap.size) w1 [.int .i64 v.kind, .bool v.yes, .string ⟨v.text.toArray⟩, .slice a v.list.length c, .slice a' v.mem.length c'] v → _) := Lib.hid fun w1 h1 => jprint_any v (jright v (by omega)) _ _ w1 h1 (by omega)
  have HP' : Hid (∀ w1, Rep (fun b => ok' b ∧ b < w.heap.size) w1 [.int .i64 u.kind, .bool u.yes, .string ⟨u.text.toArray⟩, .slice xa u.list.length xc, .slice xa' u.mem.length xc'] u → _) := Lib.hid fun w1 h1 => jprint_any u (jright u (by omega)) _ _ w1 h1 (by omega)
  have HSM : Hid (sameJ v u = (rightJ v && (rightJ u && ((if rightJ v then plainJ v else []) == (if rightJ u then plainJ u else []))))) := Lib.hid (by
    unfold sameJ
    cases rightJ v <;> cases rightJ u <;> rfl)
  clear h h' hpv hpu
  generalize sameJ v u = SM at *
  generalize v.kind = k1 at *
  generalize v.yes = y1 at *
  generalize v.text = t1 at *
  generalize v.list.length = l1 at *
  generalize v.mem.length = m1 at *
  generalize u.kind = k2 at *
  generalize u.yes = y2 at *
  generalize u.text = t2 at *
  generalize u.list.length = l2 at *
  generalize u.mem.length = m2 at *
  generalize hPV : (if rightJ v then plainJ v else []) = PV at *
  generalize hPU : (if rightJ u then plainJ u else []) = PU at *
  go_enter Try.func9, Try.ntmps9
  go_upto_region 1 with (fail)
  generalize hw1 : (w.alloc _).alloc _ = w1
  have hb1 : Below w.heap.size w w1 := by rw [← hw1]; exact ((Below.refl _ _).alloc (Nat.le_refl _) _).alloc (by simp) _
  have hx1 : w1.heap[w.heap.size]? = some (.cells #[.int .i64 k1, .bool y1, .string ⟨t1.toArray⟩, .slice a l1 c, .slice a' m1 c'] 28 (0, 0)) := by rw [← hw1]; exact block_alloc (heap_alloc_new w _) _
  have hx2 : w1.heap[w.heap.size + 1]? = some (.cells #[.int .i64 k2, .bool y2, .string ⟨t2.toArray⟩, .slice xa l2 xc, .slice xa' m2 xc'] 28 (0, 0)) := by
    rw [← hw1]
    have e : w.heap.size + 1 = (w.alloc (.cells #[.int .i64 k1, .bool y1, .string ⟨t1.toArray⟩, .slice a l1 c, .slice a' m1 c'] 28)).heap.size := by simp
    rw [e]
    exact heap_alloc_new _ _
  have HB1 := Lib.hid hb1
  have HX1 := Lib.hid hx1
  have HX2 := Lib.hid hx2
  have hs1 : w.heap.size + 1 < w1.heap.size := (Array.getElem?_eq_some_iff.1 hx2).1
  have v0 : w1.cell? ⟨w.heap.size, 0, none⟩ = some (.int .i64 k1) := by rw [Lib.cell_of_heap hx1]; rfl
  have v1 : w1.cell? ⟨w.heap.size, 1, none⟩ = some (.bool y1) := by rw [Lib.cell_of_heap hx1]; rfl
  have v2 : w1.cell? ⟨w.heap.size, 2, none⟩ = some (.string ⟨t1.toArray⟩) := by rw [Lib.cell_of_heap hx1]; rfl
  have v3 : w1.cell? ⟨w.heap.size, 3, none⟩ = some (.slice a l1 c) := by rw [Lib.cell_of_heap hx1]; rfl
  have v4 : w1.cell? ⟨w.heap.size, 4, none⟩ = some (.slice a' m1 c') := by rw [Lib.cell_of_heap hx1]; rfl
  clear hw1 hb1 hx1 hx2
  go_wp2_with fail
  refine (HP.out w1 (HR.out.keep fun b hb _ => HB1.out.block b hb.2)).mono ?_
  rintro e w2 ⟨rfl, hb2⟩
  have HB2 := Lib.hid (HB1.out.trans (hb2.mono HB1.out.size))
  have hx2 := (hb2.block _ hs1).trans HX2.out
  have u0 : w2.cell? ⟨w.heap.size + 1, 0, none⟩ = some (.int .i64 k2) := by rw [Lib.cell_of_heap hx2]; rfl
  have u1 : w2.cell? ⟨w.heap.size + 1, 1, none⟩ = some (.bool y2) := by rw [Lib.cell_of_heap hx2]; rfl
  have u2 : w2.cell? ⟨w.heap.size + 1, 2, none⟩ = some (.string ⟨t2.toArray⟩) := by rw [Lib.cell_of_heap hx2]; rfl
  have u3 : w2.cell? ⟨w.heap.size + 1, 3, none⟩ = some (.slice xa l2 xc) := by rw [Lib.cell_of_heap hx2]; rfl
  have u4 : w2.cell? ⟨w.heap.size + 1, 4, none⟩ = some (.slice xa' m2 xc') := by rw [Lib.cell_of_heap hx2]; rfl
  clear hb2 hx2 v0 v1 v2 v3 v4
  generalize rightJ v = r1 at *
  cases r1 <;>
  · go_wp2_with fail
    refine (HP'.out w2 (HR'.out.keep fun b hb _ => HB2.out.block b hb.2)).mono ?_
    rintro e w3 ⟨rfl, hb3⟩
    have HB3 := Lib.hid (HB2.out.trans (hb3.mono HB2.out.size))
    clear hb3 u0 u1 u2 u3 u4
    generalize rightJ u = r2 at *
    cases r2 <;>
    · go_wp2_with fail
      refine bodyPost_ret (results_tmp rfl _ _ _) rfl ?_
      exact ⟨by rw [HSM.out]; simp, HB3.out⟩
end Go.Proofs.Ytfcokdkbjajohaa
/- A value in a row, the last one open. Plain; its rows in memory. -/
set_option linter.unusedVariables false
namespace Go.Proofs.Ytfcokdkbjajohaa
open Go.RowKit

structure ND where
  kind : Int
  kids : Int
  yes : Bool
  text : List UInt8
  name : List UInt8
def kidsN (kids : Int) (len : Nat) : Nat := (min (min (max kids 0) (len : Int)) 6).toNat
def cutN (x : ND) (o : Nat) : Nat := if x.kind = 5 ∨ x.kind = 6 then kidsN x.kids o else 0
theorem kidsN_le (k : Int) (o : Nat) : kidsN k o ≤ o ∧ kidsN k o ≤ 6 := by unfold kidsN; omega
theorem cutN_le (x : ND) (o : Nat) : cutN x o ≤ o ∧ cutN x o ≤ 6 := by
  unfold cutN
  split
  · exact kidsN_le _ _
  · omega
/-- A node's value, of those that stand open. -/
def nodeJ (x : ND) (ks : List (List UInt8 × JV)) : JV := .mk x.kind x.yes x.text (if x.kind = 5 then ks.map Prod.snd else []) (if x.kind = 5 then [] else ks)
def treeStep (o : List (List UInt8 × JV)) (x : ND) : List (List UInt8 × JV) :=
  o.take (o.length - cutN x o.length) ++ [(x.name, nodeJ x (o.drop (o.length - cutN x o.length)))]
def treeOpen (l : List ND) : List (List UInt8 × JV) := l.foldl treeStep []
def shortN (x : ND) : Bool := decide (x.text.length ≤ 100) && decide (x.name.length ≤ 60)
/-- Tree.Value: the value; none: there is none, or it is too great. -/
def treeV (l : List ND) : Option JV := if l.length ≤ 40 ∧ l.all shortN = true then (treeOpen l).getLast?.map Prod.snd else none
theorem sizeM_app : ∀ (a b : List (List UInt8 × JV)), sizeM (a ++ b) = sizeM a + sizeM b
  | [], b => by simp [sizeM]
  | (n, v) :: a, b => by
    have := sizeM_app a b
    simp only [List.cons_append, sizeM, this]
    omega
theorem sizeL_snd : ∀ (a : List (List UInt8 × JV)), sizeL (a.map Prod.snd) ≤ sizeM a
  | [] => by simp [sizeL]
  | (n, v) :: a => by
    have := sizeL_snd a
    simp only [List.map_cons, sizeL, sizeM]
    omega
theorem size_node (x : ND) (ks : List (List UInt8 × JV)) : sizeJ (nodeJ x ks) ≤ 1 + x.text.length + sizeM ks := by
  have := sizeL_snd ks
  unfold nodeJ
  rw [sizeJ]
  split
  · simp only [sizeM]; omega
  · simp only [sizeL]; omega
theorem size_step (o : List (List UInt8 × JV)) (x : ND) (h : shortN x = true) : sizeM (treeStep o x) ≤ sizeM o + 162 := by
  unfold shortN at h
  simp only [Bool.and_eq_true, decide_eq_true_eq] at h
  have h1 := size_node x (o.drop (o.length - cutN x o.length))
  have h2 := sizeM_app (o.take (o.length - cutN x o.length)) (o.drop (o.length - cutN x o.length))
  rw [List.take_append_drop] at h2
  unfold treeStep
  rw [sizeM_app]
  simp only [sizeM]
  omega
theorem size_fold : ∀ (l : List ND) (o : List (List UInt8 × JV)), l.all shortN = true → sizeM (l.foldl treeStep o) ≤ sizeM o + 162 * l.length
  | [], o, _ => by simp
  | x :: l, o, h => by
    simp only [List.all_cons, Bool.and_eq_true] at h
    have h1 := size_step o x h.1
    have h2 := size_fold l (treeStep o x) h.2
    simp only [List.foldl_cons, List.length_cons]
    omega
/-- A tree's value isn't great. -/
theorem tree_size {l : List ND} {v : JV} (h : treeV l = some v) : sizeJ v ≤ 6500 := by
  unfold treeV at h
  split at h
  · rename_i hc
    have h1 := size_fold l [] hc.2
    simp only [sizeM] at h1
    cases hg : (treeOpen l).getLast? with
    | none => rw [hg] at h; cases h
    | some p =>
      rw [hg] at h
      simp only [Option.map_some, Option.some.injEq] at h
      subst h
      have h2 := size_mem (List.mem_of_getLast? hg)
      unfold treeOpen at h2
      omega
  · cases h
theorem step_len (o : List (List UInt8 × JV)) (x : ND) : (treeStep o x).length ≤ o.length + 1 := by
  unfold treeStep
  simp only [List.length_append, List.length_take, List.length_cons, List.length_nil]
  omega
theorem open_take {l : List ND} {j : Nat} (h : j < l.length) : treeOpen (l.take (j + 1)) = treeStep (treeOpen (l.take j)) l[j] := by
  unfold treeOpen
  rw [List.take_succ_eq_append_getElem h, List.foldl_append]
  rfl
/-- A node's cells. -/
def ndCell (x : ND) : List Value := [.int .i64 x.kind, .int .i64 x.kids, .bool x.yes, strV x.text, strV x.name]
theorem memCells_take : ∀ (m : List (List UInt8 × JV)) (cm : List (List Value)) (k : Nat), cm.length = m.length → (∀ r ∈ cm, r.length = 5) → memCells (m.take k) (cm.take k) = (memCells m cm).take (k * 6)
  | m, cm, 0, h, _ => by cases m <;> cases cm <;> simp [memCells]
  | [], cm, k + 1, h, _ => by
    have : cm = [] := List.eq_nil_of_length_eq_zero h
    subst this
    simp [memCells]
  | p :: m, [], k + 1, h, _ => by simp at h
  | p :: m, r :: cm, k + 1, h, h5 => by
    have hr := h5 r (by simp)
    have ih := memCells_take m cm k (by simpa using h) (fun x hx => h5 x (by simp [hx]))
    simp only [List.take_succ_cons, memCells]
    rw [ih, show (k + 1) * 6 = (k * 6 + 5) + 1 by omega, List.take_succ_cons, List.take_append, List.take_of_length_le (l := r) (by omega), hr, show k * 6 + 5 - 5 = k * 6 by omega]
theorem reps_rows {ok : Nat → Prop} {w : World} {cm : List (List Value)} {m : List (List UInt8 × JV)} (h : RepsM ok w cm m) : ∀ r ∈ cm, r.length = 5 := by
  intro r hr
  obtain ⟨i, hi, rfl⟩ := List.mem_iff_getElem.1 hr
  exact (h.2 i hi (by rw [← h.1]; exact hi)).len
theorem RepsM.take {ok : Nat → Prop} {w : World} {cm : List (List Value)} {m : List (List UInt8 × JV)} (h : RepsM ok w cm m) (k : Nat) : RepsM ok w (cm.take k) (m.take k) := by
  refine ⟨by simp [h.1], fun i hi hj => ?_⟩
  simp only [List.length_take] at hi hj
  have := h.2 i (by omega) (by omega)
  simpa using this
theorem RepsM.drop {ok : Nat → Prop} {w : World} {cm : List (List Value)} {m : List (List UInt8 × JV)} (h : RepsM ok w cm m) (k : Nat) : RepsM ok w (cm.drop k) (m.drop k) := by
  refine ⟨by simp [h.1], fun i hi hj => ?_⟩
  simp only [List.length_drop] at hi hj
  have := h.2 (k + i) (by omega) (by omega)
  simpa using this
theorem RepsM.snd {ok : Nat → Prop} {w : World} {cm : List (List Value)} {m : List (List UInt8 × JV)} (h : RepsM ok w cm m) : Reps ok w cm (m.map Prod.snd) := by
  refine ⟨by simp [h.1], fun i hi hj => ?_⟩
  have := h.2 i hi (by simpa using hj)
  simpa using this
theorem own_cut {B : Nat} {E : TypeId} {sz : Nat} {w : World} {a : Option Addr} {n c : Nat} {xs : List Value} (h : w.ownsRow B E sz (.slice a n c) n xs) (k : Nat) (hk : k ≤ n) : w.ownsRow B E sz (.slice a k c) k (xs.take (k * sz)) := by
  have hmul : k * sz ≤ n * sz := Nat.mul_le_mul_right _ hk
  refine ⟨by rw [List.length_take, h.1]; omega, ?_⟩
  rcases h.2 with ⟨h1, h2⟩ | ⟨g, cap, cur, h1, hB, hg, h3, h4, h5, h6⟩
  · simp only [Value.slice.injEq] at h1
    obtain ⟨rfl, rfl, rfl⟩ := h1
    exact .inl ⟨by rw [show k = 0 by omega], by omega⟩
  · simp only [Value.slice.injEq, true_and] at h1
    obtain ⟨rfl, rfl⟩ := h1
    refine .inr ⟨g, c, cur, rfl, hB, hg, by omega, h4, h5, ?_⟩
    rw [← h6, List.take_take, Nat.min_eq_left hmul]
theorem wpList_append_at {ops : Array Oper} {rest : List Oper} {o : Oper} {a : Act} {w : World} {Q : Exit → Act → World → Prop} (hgd : o.guard = none) (s x : Operand) (t : TypeId)
    (ho : o.op = .call { callee := .builtin .append, args := #[s, x], argTypes := #[t, t] })
    (base : Nat) (e : TypeId) (size bytes : Nat) (ht : Try.prog.underlying t = some (.slice e)) (hinfo : ((Try.prog.info? e).bind fun i => i.zero.map fun z => (i.size, i.bytes, z.cells.size)) = some (size, bytes, size)) (hsz : 0 < size)
    (v : Value) (n : Nat) (xs : List Value) (hs : a.eval s = v) (hown : w.ownsRow base e size v n xs)
    (g c : Nat) (cs : Array Value) (T : TypeId) (fr : Nat × Nat) (hg : w.heap[g]? = some (.cells cs T fr)) (hx : a.eval x = .slice (some ⟨g, 0, none⟩) 1 c) (hl : cs.size = size) (h1 : ∀ u ∈ cs.toList, u.oneCell' = true)
    (hbytes : (n + 1) * bytes ≤ 140737488355328) (hn : n ≤ 140737488355328) (hbase : base ≤ w.heap.size)
    (h : ∀ v' w', w'.ownsRow base e size v' (n + 1) (xs ++ cs.toList) → w.grownBy w' v.ownBlock → (v'.ownBlock = v.ownBlock ∨ v'.ownBlock = some w.heap.size) → wpList Try.prog ops Q rest (a.put o.dst v') w') : wpList Try.prog ops Q (o :: rest) a w := by
  refine wpList_plain hgd fun K hK' => ?_
  refine op_append s x t ho base e size bytes ht hinfo hsz v n xs hs hown ⟨g, 0, none⟩ 1 c cs.toList hx (by simpa using hl) (fun j u hu => ?_) h1 (by unfold maxLen; omega) hbytes hbase fun v' w' h2 h3 h5 => hK' _ _ (h v' w' h2 h3 h5)
  rw [Addr.add_lit, Nat.zero_add, Lib.cell_of_heap hg, ← Array.getElem?_toList]
  exact hu
end Go.Proofs.Ytfcokdkbjajohaa
