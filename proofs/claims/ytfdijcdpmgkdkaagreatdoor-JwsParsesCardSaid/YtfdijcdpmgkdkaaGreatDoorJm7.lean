/- Merged: JsQu, JsWr, JsWt, JsWa, JsWo, JsRa, JsRb, JsWw, JsPr, JsSc, Val, JsNm, JsRc, Jw1, Mac3, Mac5. -/
import Derived.Sort.OwnSorted
import Derived.Shelf.Slices.In.SortNone
import Derived.Lib.SlBytesConst
import Derived.Deep.LoopGhost
import Derived.Deep.QuietTactic
import Derived.BigQuiet
import Derived.Test.YtfdijcdpmgkdkaaGreatDoorJm1
import Derived.Test.YtfdijcdpmgkdkaaGreatDoorJm2
import Derived.Test.YtfdijcdpmgkdkaaGreatDoorJm3
import Derived.Test.YtfdijcdpmgkdkaaGreatDoorJm4
import Derived.Test.YtfdijcdpmgkdkaaGreatDoorJm5
import Derived.Test.YtfdijcdpmgkdkaaGreatDoorJm6
set_option linter.unusedVariables false
namespace Go.Proofs.YtfdijcdpmgkdkaaGreatDoor
open Go.RowKit

theorem low_tab (c : UInt8) : (c.toNat < 32 ∧ ¬ 0 ≤ Lib.indexByte escMeans c) → c = 0 ∨ c = 1 ∨ c = 2 ∨ c = 3 ∨ c = 4 ∨ c = 5 ∨ c = 6 ∨ c = 7 ∨ c = 11 ∨ c = 14 ∨ c = 15 ∨ c = 16 ∨ c = 17 ∨ c = 18 ∨ c = 19 ∨ c = 20 ∨ c = 21 ∨ c = 22 ∨ c = 23 ∨ c = 24 ∨ c = 25 ∨ c = 26 ∨ c = 27 ∨ c = 28 ∨ c = 29 ∨ c = 30 ∨ c = 31 :=
  u8_every (fun c => (c.toNat < 32 ∧ ¬ 0 ≤ Lib.indexByte escMeans c) → c = 0 ∨ c = 1 ∨ c = 2 ∨ c = 3 ∨ c = 4 ∨ c = 5 ∨ c = 6 ∨ c = 7 ∨ c = 11 ∨ c = 14 ∨ c = 15 ∨ c = 16 ∨ c = 17 ∨ c = 18 ∨ c = 19 ∨ c = 20 ∨ c = 21 ∨ c = 22 ∨ c = 23 ∨ c = 24 ∨ c = 25 ∨ c = 26 ∨ c = 27 ∨ c = 28 ∨ c = 29 ∨ c = 30 ∨ c = 31) (by decide +kernel) c
theorem quote_tab (c : UInt8) : (0 ≤ Lib.indexByte escMeans c ∧ (Lib.indexByte escMeans c).toNat < 7 ∧ quoteC c = [92, escNames.getD (Lib.indexByte escMeans c).toNat 0]) ∨ (¬ 0 ≤ Lib.indexByte escMeans c ∧ (c.toNat < 32 ∨ quoteC c = [c])) :=
  u8_every (fun c => (0 ≤ Lib.indexByte escMeans c ∧ (Lib.indexByte escMeans c).toNat < 7 ∧ quoteC c = [92, escNames.getD (Lib.indexByte escMeans c).toNat 0]) ∨ (¬ 0 ≤ Lib.indexByte escMeans c ∧ (c.toNat < 32 ∨ quoteC c = [c]))) (by decide +kernel) c
/-- []byte(s): a row whose frozen part lies behind it. -/
theorem bytes_row (l : List UInt8) (w : World) (hl : l.length ≤ 1000000) : ∃ g c w' cur fr, (convert 9 41 (.string ⟨l.toArray⟩)).run Tryz.prog w = .ok (.slice (some ⟨g, 0, none⟩) l.length c) w' ∧ Below w.heap.size w w' ∧ w.heap.size ≤ g ∧ w'.heap[g]? = some (.cells cur 5 fr) ∧ fr ≠ (0, 0) ∧ ∀ j (h : j < l.length), cur[j]? = some (.int .u8 (l[j].toNat : Nat)) := by
  have h := Lib.run_convert_string_bytes (P := Tryz.prog) w 9 41 5 ⟨l.toArray⟩ Tryz.underlying9 Tryz.underlying41 Tryz.underlying5
  have hs : (⟨l.toArray⟩ : ByteArray).size = l.length := by simp [ByteArray.size]
  rw [hs] at h
  refine ⟨_, _, _, _, _, h, ⟨rfl, rfl, rfl, by rw [Lib.bytesWorld_size]; omega, fun k hk => Lib.bytesWorld_at_old _ _ _ _ hk⟩, Nat.le_refl _, Lib.bytesWorld_at_new w 5 ⟨l.toArray⟩, by simp, fun j hj => ?_⟩
  simp [Lib.bytesCells, Array.getElem?_append, hj]
theorem flat_quote (s : List UInt8) (j : Nat) (h : j < s.length) : (s.take (j + 1)).flatMap quoteC = (s.take j).flatMap quoteC ++ quoteC s[j] := by
  rw [List.take_add_one, List.getElem?_eq_getElem h]
  simp only [Option.toList_some, List.flatMap_append, List.flatMap_cons, List.flatMap_nil, List.append_nil]
theorem quoteC_len (c : UInt8) : (quoteC c).length ≤ 6 := u8_every (fun c => (quoteC c).length ≤ 6) (by decide +kernel) c
theorem flatq_len (s : List UInt8) : (s.flatMap quoteC).length ≤ 6 * s.length := by
  induction s with
  | nil => simp
  | cons c s ih =>
    have := quoteC_len c
    simp only [List.flatMap_cons, List.length_append, List.length_cons]
    omega
set_option maxRecDepth 100000 in
set_option maxHeartbeats 32000000 in
theorem jquote_any (b : Nat) (l s : List UInt8) (w : World) (h : BldZ b l w) (hs : s.length ≤ 100000) (hl : l.length ≤ 10000000) :
    Calls Tryz.prog 91 #[.pointer (some ⟨b, 0, none⟩), .string ⟨s.toArray⟩] w fun e w' => e = .returned (.tuple #[]) ∧ BldZ b (l ++ quoteL s) w' ∧ FrZ b w w' := by
  have H := Lib.hid h
  clear h
  go_enter Tryz.func91, Tryz.ntmps91
  go_wp2_with fail
  refine (WriteByte_z b l 34 34 rfl w H.out (by omega)).mono ?_
  rintro e w1 ⟨rfl, hb1, hf1⟩
  obtain ⟨g, c, w2, cur, fr, hcv, hbe, hg, hrow, hfr, hcur⟩ := bytes_row s w1 (by omega)
  have HB2 := Lib.hid (hb1.below hbe)
  have HF2 := Lib.hid (hf1.trans (FrZ.of_below hbe (Nat.le_of_lt hb1.lt)))
  have HROW := Lib.hid hrow
  have HCUR := Lib.hid hcur
  have HFR : Hid (∀ c : Array Value, Obj.cells cur 5 fr ≠ .cells c 5 (0, 0)) := Lib.hid fun c e => hfr (by injection e)
  have hgb : g ≠ b := by have := hb1.lt; omega
  clear hb1 hf1 hbe hrow hfr hcur H
  go_wp2_with fail
  go_loopg [12] s.length (fun k iv wr => ∃ j : Nat, iv = .int .i64 (j : Int) ∧ j + k = s.length ∧ Hid (BldZ b (l ++ 34 :: (s.take j).flatMap quoteC) wr) ∧ Hid (FrZ b w wr) ∧ Hid (wr.heap[g]? = some (.cells cur 5 fr)))
  case atStart => exact ⟨0, rfl, by omega, Lib.hid (by simpa using HB2.out), HF2, HROW⟩
  case round =>
    obtain ⟨j, rfl, hj, HBW, HFW, HRW⟩ := hrel
    by_cases hlt : j < s.length
    · have hltI : (j : Int) < (s.length : Int) := by omega
      obtain ⟨x, hx⟩ : ∃ x, s[j] = x := ⟨_, rfl⟩
      have hcell : wr.cell? ⟨g, j, none⟩ = some (.int .u8 (x.toNat : Nat)) := by rw [Lib.cell_of_heap HRW.out, HCUR.out j hlt, hx]
      have HQ : Hid ((s.take (j + 1)).flatMap quoteC = (s.take j).flatMap quoteC ++ quoteC x) := Lib.hid (by rw [flat_quote s j hlt, hx])
      have hln : (l ++ 34 :: (s.take j).flatMap quoteC).length ≤ 10700000 := by
        have := flatq_len (s.take j)
        simp only [List.length_append, List.length_cons, List.length_take] at *
        omega
      have htab := quote_tab x
      have hlow := low_tab x
      clear hx
      go_wp2_with fail
      refine (Tryz.strings_IndexByte ⟨#[8, 12, 10, 13, 9, 34, 92]⟩ ((x.toNat : Nat) : Int) wr).mono ?_
      rintro e w3 ⟨rfl, rfl⟩
      rw [byte_arg, show (⟨#[8, 12, 10, 13, 9, 34, 92]⟩ : ByteArray).data.toList = escMeans from rfl]
      obtain ⟨ix, hix⟩ : ∃ ix, Lib.indexByte escMeans x = ix := ⟨_, rfl⟩
      rw [hix] at htab hlow ⊢
      clear hix
      rcases htab with ⟨h0, h7, hqc⟩ | ⟨h0, hqc⟩
      · obtain ⟨i, rfl⟩ : ∃ i : Nat, ix = (i : Int) := ⟨ix.toNat, by omega⟩
        simp only [Int.toNat_natCast] at h7 hqc
        obtain ⟨dd, hdd⟩ : ∃ dd, escNames.getD i 0 = dd := ⟨_, rfl⟩
        rw [hdd] at hqc
        have hixx : ∀ w, (Instr.index 9 (.string ⟨#[98, 102, 110, 114, 116, 34, 92]⟩) (.int .i64 (i : Int))).run Tryz.prog w = .ok (.int .u8 (dd.toNat : Nat)) w := by
          have h1 := str_at escNames i h7
          have h2 : escNames[i]'h7 = dd := by rw [← hdd, List.getD_eq_getElem?_getD, List.getElem?_eq_getElem h7]; rfl
          rw [h2] at h1
          exact h1
        have q1 : decide ((0 : Int) ≤ ((i : Nat) : Int)) = true := decide_eq_true (by omega)
        rw [hqc] at HQ
        clear hlow h0 h7 hqc hdd
        go_wp2_with fail
        refine (WriteByte_z b _ 92 92 rfl w3 HBW.out (by omega)).mono ?_
        rintro e w4 ⟨rfl, hb4, hf4⟩
        have HB4 := Lib.hid hb4
        have HF4 := Lib.hid (HFW.out.trans hf4)
        have HR4 := Lib.hid (hf4.block g _ HRW.out hgb HFR.out)
        clear hb4 hf4
        go_wp2_with fail
        refine (WriteByte_z b _ ((dd.toNat : Nat) : Int) dd rfl w4 HB4.out (by simp only [List.length_append, List.length_cons, List.length_nil] at *; omega)).mono ?_
        rintro e w5 ⟨rfl, hb5, hf5⟩
        have HB5 : Hid (BldZ b (l ++ 34 :: (s.take (j + 1)).flatMap quoteC) w5) := Lib.hid (by rw [HQ.out]; simpa using hb5)
        have HF5 := Lib.hid (HF4.out.trans hf5)
        have HR5 := Lib.hid (hf5.block g _ HR4.out hgb HFR.out)
        clear hb5 hf5
        go_wp2_with fail
        go_roundg (gk - 1)
        case measure => omega
        case rel => exact ⟨j + 1, by first | rfl | (congr 1), by omega, HB5, HF5, HR5⟩
      · have q1 : decide ((0 : Int) ≤ ix) = false := decide_eq_false (by omega)
        by_cases h32 : x.toNat < 32
        · have hl2 := hlow ⟨h32, h0⟩
          clear hlow hqc h0
          have q3 : decide (((x.toNat : Nat) : Int) < 32) = true := decide_eq_true (by omega)
          clear h32
          go_upto_region 10 with (fail)
          rcases hl2 with rfl | rfl | rfl | rfl | rfl | rfl | rfl | rfl | rfl | rfl | rfl | rfl | rfl | rfl | rfl | rfl | rfl | rfl | rfl | rfl | rfl | rfl | rfl | rfl | rfl | rfl | rfl
          · have hbi : bits BinOp.and IntKind.u8 0 15 = 0 := by decide
            have hw1 : IntKind.u8.wrap 1 = 1 := by decide
            go_still_tail 15, (by kernel_rfl)
            change wpList _ _ _ _ _ w3.drew
            have HB3 := Lib.hid (show BldZ b (l ++ 34 :: (s.take j).flatMap quoteC) w3.drew from HBW.out)
            have HF3 := Lib.hid (show FrZ b w w3.drew from ⟨HFW.out.os, HFW.out.tape, HFW.out.output, HFW.out.size, HFW.out.low, HFW.out.block⟩)
            have HR3 := Lib.hid (show w3.drew.heap[g]? = some (.cells cur 5 fr) from HRW.out)
            clear HBW HFW HRW
            generalize w3.drew = w4 at *
            go_wp2_with fail
            rw [show (((⟨#[92, 117, 48, 48]⟩ : ByteArray) ++ (⟨#[48, 49, 50, 51, 52, 53, 54, 55, 56, 57, 97, 98, 99, 100, 101, 102]⟩ : ByteArray).extract 0 1) ++ (⟨#[48, 49, 50, 51, 52, 53, 54, 55, 56, 57, 97, 98, 99, 100, 101, 102]⟩ : ByteArray).extract 0 1) = ⟨([92, 117, 48, 48, 48, 48] : List UInt8).toArray⟩ from by kernel_rfl]
            refine (WriteString_z b _ [92, 117, 48, 48, 48, 48] w4 HB3.out (by simp only [List.length_cons, List.length_nil]; omega)).mono ?_
            rintro e w5 ⟨rfl, hb5, hf5⟩
            have HB5 : Hid (BldZ b (l ++ 34 :: (s.take (j + 1)).flatMap quoteC) w5) := Lib.hid (by rw [HQ.out, show quoteC 0 = [92, 117, 48, 48, 48, 48] from by decide]; simpa using hb5)
            have HF5 := Lib.hid (HF3.out.trans hf5)
            have HR5 := Lib.hid (hf5.block g _ HR3.out hgb HFR.out)
            clear hb5 hf5
            go_wp2_with fail
            go_roundg (gk - 1)
            case measure => omega
            case rel => exact ⟨j + 1, by first | rfl | (congr 1), by omega, HB5, HF5, HR5⟩
          · have hbi : bits BinOp.and IntKind.u8 1 15 = 1 := by decide
            have hw1 : IntKind.u8.wrap 1 = 1 := by decide
            have hw2 : IntKind.u8.wrap 2 = 2 := by decide
            go_still_tail 15, (by kernel_rfl)
            change wpList _ _ _ _ _ w3.drew
            have HB3 := Lib.hid (show BldZ b (l ++ 34 :: (s.take j).flatMap quoteC) w3.drew from HBW.out)
            have HF3 := Lib.hid (show FrZ b w w3.drew from ⟨HFW.out.os, HFW.out.tape, HFW.out.output, HFW.out.size, HFW.out.low, HFW.out.block⟩)
            have HR3 := Lib.hid (show w3.drew.heap[g]? = some (.cells cur 5 fr) from HRW.out)
            clear HBW HFW HRW
            generalize w3.drew = w4 at *
            go_wp2_with fail
            rw [show (((⟨#[92, 117, 48, 48]⟩ : ByteArray) ++ (⟨#[48, 49, 50, 51, 52, 53, 54, 55, 56, 57, 97, 98, 99, 100, 101, 102]⟩ : ByteArray).extract 0 1) ++ (⟨#[48, 49, 50, 51, 52, 53, 54, 55, 56, 57, 97, 98, 99, 100, 101, 102]⟩ : ByteArray).extract 1 2) = ⟨([92, 117, 48, 48, 48, 49] : List UInt8).toArray⟩ from by kernel_rfl]
            refine (WriteString_z b _ [92, 117, 48, 48, 48, 49] w4 HB3.out (by simp only [List.length_cons, List.length_nil]; omega)).mono ?_
            rintro e w5 ⟨rfl, hb5, hf5⟩
            have HB5 : Hid (BldZ b (l ++ 34 :: (s.take (j + 1)).flatMap quoteC) w5) := Lib.hid (by rw [HQ.out, show quoteC 1 = [92, 117, 48, 48, 48, 49] from by decide]; simpa using hb5)
            have HF5 := Lib.hid (HF3.out.trans hf5)
            have HR5 := Lib.hid (hf5.block g _ HR3.out hgb HFR.out)
            clear hb5 hf5
            go_wp2_with fail
            go_roundg (gk - 1)
            case measure => omega
            case rel => exact ⟨j + 1, by first | rfl | (congr 1), by omega, HB5, HF5, HR5⟩
          · have hbi : bits BinOp.and IntKind.u8 2 15 = 2 := by decide
            have hw1 : IntKind.u8.wrap 1 = 1 := by decide
            have hw3 : IntKind.u8.wrap 3 = 3 := by decide
            go_still_tail 15, (by kernel_rfl)
            change wpList _ _ _ _ _ w3.drew
            have HB3 := Lib.hid (show BldZ b (l ++ 34 :: (s.take j).flatMap quoteC) w3.drew from HBW.out)
            have HF3 := Lib.hid (show FrZ b w w3.drew from ⟨HFW.out.os, HFW.out.tape, HFW.out.output, HFW.out.size, HFW.out.low, HFW.out.block⟩)
            have HR3 := Lib.hid (show w3.drew.heap[g]? = some (.cells cur 5 fr) from HRW.out)
            clear HBW HFW HRW
            generalize w3.drew = w4 at *
            go_wp2_with fail
            rw [show (((⟨#[92, 117, 48, 48]⟩ : ByteArray) ++ (⟨#[48, 49, 50, 51, 52, 53, 54, 55, 56, 57, 97, 98, 99, 100, 101, 102]⟩ : ByteArray).extract 0 1) ++ (⟨#[48, 49, 50, 51, 52, 53, 54, 55, 56, 57, 97, 98, 99, 100, 101, 102]⟩ : ByteArray).extract 2 3) = ⟨([92, 117, 48, 48, 48, 50] : List UInt8).toArray⟩ from by kernel_rfl]
            refine (WriteString_z b _ [92, 117, 48, 48, 48, 50] w4 HB3.out (by simp only [List.length_cons, List.length_nil]; omega)).mono ?_
            rintro e w5 ⟨rfl, hb5, hf5⟩
            have HB5 : Hid (BldZ b (l ++ 34 :: (s.take (j + 1)).flatMap quoteC) w5) := Lib.hid (by rw [HQ.out, show quoteC 2 = [92, 117, 48, 48, 48, 50] from by decide]; simpa using hb5)
            have HF5 := Lib.hid (HF3.out.trans hf5)
            have HR5 := Lib.hid (hf5.block g _ HR3.out hgb HFR.out)
            clear hb5 hf5
            go_wp2_with fail
            go_roundg (gk - 1)
            case measure => omega
            case rel => exact ⟨j + 1, by first | rfl | (congr 1), by omega, HB5, HF5, HR5⟩
          · have hbi : bits BinOp.and IntKind.u8 3 15 = 3 := by decide
            have hw1 : IntKind.u8.wrap 1 = 1 := by decide
            have hw4 : IntKind.u8.wrap 4 = 4 := by decide
            go_still_tail 15, (by kernel_rfl)
            change wpList _ _ _ _ _ w3.drew
            have HB3 := Lib.hid (show BldZ b (l ++ 34 :: (s.take j).flatMap quoteC) w3.drew from HBW.out)
            have HF3 := Lib.hid (show FrZ b w w3.drew from ⟨HFW.out.os, HFW.out.tape, HFW.out.output, HFW.out.size, HFW.out.low, HFW.out.block⟩)
            have HR3 := Lib.hid (show w3.drew.heap[g]? = some (.cells cur 5 fr) from HRW.out)
            clear HBW HFW HRW
            generalize w3.drew = w4 at *
            go_wp2_with fail
            rw [show (((⟨#[92, 117, 48, 48]⟩ : ByteArray) ++ (⟨#[48, 49, 50, 51, 52, 53, 54, 55, 56, 57, 97, 98, 99, 100, 101, 102]⟩ : ByteArray).extract 0 1) ++ (⟨#[48, 49, 50, 51, 52, 53, 54, 55, 56, 57, 97, 98, 99, 100, 101, 102]⟩ : ByteArray).extract 3 4) = ⟨([92, 117, 48, 48, 48, 51] : List UInt8).toArray⟩ from by kernel_rfl]
            refine (WriteString_z b _ [92, 117, 48, 48, 48, 51] w4 HB3.out (by simp only [List.length_cons, List.length_nil]; omega)).mono ?_
            rintro e w5 ⟨rfl, hb5, hf5⟩
            have HB5 : Hid (BldZ b (l ++ 34 :: (s.take (j + 1)).flatMap quoteC) w5) := Lib.hid (by rw [HQ.out, show quoteC 3 = [92, 117, 48, 48, 48, 51] from by decide]; simpa using hb5)
            have HF5 := Lib.hid (HF3.out.trans hf5)
            have HR5 := Lib.hid (hf5.block g _ HR3.out hgb HFR.out)
            clear hb5 hf5
            go_wp2_with fail
            go_roundg (gk - 1)
            case measure => omega
            case rel => exact ⟨j + 1, by first | rfl | (congr 1), by omega, HB5, HF5, HR5⟩
          · have hbi : bits BinOp.and IntKind.u8 4 15 = 4 := by decide
            have hw1 : IntKind.u8.wrap 1 = 1 := by decide
            have hw5 : IntKind.u8.wrap 5 = 5 := by decide
            go_still_tail 15, (by kernel_rfl)
            change wpList _ _ _ _ _ w3.drew
            have HB3 := Lib.hid (show BldZ b (l ++ 34 :: (s.take j).flatMap quoteC) w3.drew from HBW.out)
            have HF3 := Lib.hid (show FrZ b w w3.drew from ⟨HFW.out.os, HFW.out.tape, HFW.out.output, HFW.out.size, HFW.out.low, HFW.out.block⟩)
            have HR3 := Lib.hid (show w3.drew.heap[g]? = some (.cells cur 5 fr) from HRW.out)
            clear HBW HFW HRW
            generalize w3.drew = w4 at *
            go_wp2_with fail
            rw [show (((⟨#[92, 117, 48, 48]⟩ : ByteArray) ++ (⟨#[48, 49, 50, 51, 52, 53, 54, 55, 56, 57, 97, 98, 99, 100, 101, 102]⟩ : ByteArray).extract 0 1) ++ (⟨#[48, 49, 50, 51, 52, 53, 54, 55, 56, 57, 97, 98, 99, 100, 101, 102]⟩ : ByteArray).extract 4 5) = ⟨([92, 117, 48, 48, 48, 52] : List UInt8).toArray⟩ from by kernel_rfl]
            refine (WriteString_z b _ [92, 117, 48, 48, 48, 52] w4 HB3.out (by simp only [List.length_cons, List.length_nil]; omega)).mono ?_
            rintro e w5 ⟨rfl, hb5, hf5⟩
            have HB5 : Hid (BldZ b (l ++ 34 :: (s.take (j + 1)).flatMap quoteC) w5) := Lib.hid (by rw [HQ.out, show quoteC 4 = [92, 117, 48, 48, 48, 52] from by decide]; simpa using hb5)
            have HF5 := Lib.hid (HF3.out.trans hf5)
            have HR5 := Lib.hid (hf5.block g _ HR3.out hgb HFR.out)
            clear hb5 hf5
            go_wp2_with fail
            go_roundg (gk - 1)
            case measure => omega
            case rel => exact ⟨j + 1, by first | rfl | (congr 1), by omega, HB5, HF5, HR5⟩
          · have hbi : bits BinOp.and IntKind.u8 5 15 = 5 := by decide
            have hw1 : IntKind.u8.wrap 1 = 1 := by decide
            have hw6 : IntKind.u8.wrap 6 = 6 := by decide
            go_still_tail 15, (by kernel_rfl)
            change wpList _ _ _ _ _ w3.drew
            have HB3 := Lib.hid (show BldZ b (l ++ 34 :: (s.take j).flatMap quoteC) w3.drew from HBW.out)
            have HF3 := Lib.hid (show FrZ b w w3.drew from ⟨HFW.out.os, HFW.out.tape, HFW.out.output, HFW.out.size, HFW.out.low, HFW.out.block⟩)
            have HR3 := Lib.hid (show w3.drew.heap[g]? = some (.cells cur 5 fr) from HRW.out)
            clear HBW HFW HRW
            generalize w3.drew = w4 at *
            go_wp2_with fail
            rw [show (((⟨#[92, 117, 48, 48]⟩ : ByteArray) ++ (⟨#[48, 49, 50, 51, 52, 53, 54, 55, 56, 57, 97, 98, 99, 100, 101, 102]⟩ : ByteArray).extract 0 1) ++ (⟨#[48, 49, 50, 51, 52, 53, 54, 55, 56, 57, 97, 98, 99, 100, 101, 102]⟩ : ByteArray).extract 5 6) = ⟨([92, 117, 48, 48, 48, 53] : List UInt8).toArray⟩ from by kernel_rfl]
            refine (WriteString_z b _ [92, 117, 48, 48, 48, 53] w4 HB3.out (by simp only [List.length_cons, List.length_nil]; omega)).mono ?_
            rintro e w5 ⟨rfl, hb5, hf5⟩
            have HB5 : Hid (BldZ b (l ++ 34 :: (s.take (j + 1)).flatMap quoteC) w5) := Lib.hid (by rw [HQ.out, show quoteC 5 = [92, 117, 48, 48, 48, 53] from by decide]; simpa using hb5)
            have HF5 := Lib.hid (HF3.out.trans hf5)
            have HR5 := Lib.hid (hf5.block g _ HR3.out hgb HFR.out)
            clear hb5 hf5
            go_wp2_with fail
            go_roundg (gk - 1)
            case measure => omega
            case rel => exact ⟨j + 1, by first | rfl | (congr 1), by omega, HB5, HF5, HR5⟩
          · have hbi : bits BinOp.and IntKind.u8 6 15 = 6 := by decide
            have hw1 : IntKind.u8.wrap 1 = 1 := by decide
            have hw7 : IntKind.u8.wrap 7 = 7 := by decide
            go_still_tail 15, (by kernel_rfl)
            change wpList _ _ _ _ _ w3.drew
            have HB3 := Lib.hid (show BldZ b (l ++ 34 :: (s.take j).flatMap quoteC) w3.drew from HBW.out)
            have HF3 := Lib.hid (show FrZ b w w3.drew from ⟨HFW.out.os, HFW.out.tape, HFW.out.output, HFW.out.size, HFW.out.low, HFW.out.block⟩)
            have HR3 := Lib.hid (show w3.drew.heap[g]? = some (.cells cur 5 fr) from HRW.out)
            clear HBW HFW HRW
            generalize w3.drew = w4 at *
            go_wp2_with fail
            rw [show (((⟨#[92, 117, 48, 48]⟩ : ByteArray) ++ (⟨#[48, 49, 50, 51, 52, 53, 54, 55, 56, 57, 97, 98, 99, 100, 101, 102]⟩ : ByteArray).extract 0 1) ++ (⟨#[48, 49, 50, 51, 52, 53, 54, 55, 56, 57, 97, 98, 99, 100, 101, 102]⟩ : ByteArray).extract 6 7) = ⟨([92, 117, 48, 48, 48, 54] : List UInt8).toArray⟩ from by kernel_rfl]
            refine (WriteString_z b _ [92, 117, 48, 48, 48, 54] w4 HB3.out (by simp only [List.length_cons, List.length_nil]; omega)).mono ?_
            rintro e w5 ⟨rfl, hb5, hf5⟩
            have HB5 : Hid (BldZ b (l ++ 34 :: (s.take (j + 1)).flatMap quoteC) w5) := Lib.hid (by rw [HQ.out, show quoteC 6 = [92, 117, 48, 48, 48, 54] from by decide]; simpa using hb5)
            have HF5 := Lib.hid (HF3.out.trans hf5)
            have HR5 := Lib.hid (hf5.block g _ HR3.out hgb HFR.out)
            clear hb5 hf5
            go_wp2_with fail
            go_roundg (gk - 1)
            case measure => omega
            case rel => exact ⟨j + 1, by first | rfl | (congr 1), by omega, HB5, HF5, HR5⟩
          · have hbi : bits BinOp.and IntKind.u8 7 15 = 7 := by decide
            have hw1 : IntKind.u8.wrap 1 = 1 := by decide
            have hw8 : IntKind.u8.wrap 8 = 8 := by decide
            go_still_tail 15, (by kernel_rfl)
            change wpList _ _ _ _ _ w3.drew
            have HB3 := Lib.hid (show BldZ b (l ++ 34 :: (s.take j).flatMap quoteC) w3.drew from HBW.out)
            have HF3 := Lib.hid (show FrZ b w w3.drew from ⟨HFW.out.os, HFW.out.tape, HFW.out.output, HFW.out.size, HFW.out.low, HFW.out.block⟩)
            have HR3 := Lib.hid (show w3.drew.heap[g]? = some (.cells cur 5 fr) from HRW.out)
            clear HBW HFW HRW
            generalize w3.drew = w4 at *
            go_wp2_with fail
            rw [show (((⟨#[92, 117, 48, 48]⟩ : ByteArray) ++ (⟨#[48, 49, 50, 51, 52, 53, 54, 55, 56, 57, 97, 98, 99, 100, 101, 102]⟩ : ByteArray).extract 0 1) ++ (⟨#[48, 49, 50, 51, 52, 53, 54, 55, 56, 57, 97, 98, 99, 100, 101, 102]⟩ : ByteArray).extract 7 8) = ⟨([92, 117, 48, 48, 48, 55] : List UInt8).toArray⟩ from by kernel_rfl]
            refine (WriteString_z b _ [92, 117, 48, 48, 48, 55] w4 HB3.out (by simp only [List.length_cons, List.length_nil]; omega)).mono ?_
            rintro e w5 ⟨rfl, hb5, hf5⟩
            have HB5 : Hid (BldZ b (l ++ 34 :: (s.take (j + 1)).flatMap quoteC) w5) := Lib.hid (by rw [HQ.out, show quoteC 7 = [92, 117, 48, 48, 48, 55] from by decide]; simpa using hb5)
            have HF5 := Lib.hid (HF3.out.trans hf5)
            have HR5 := Lib.hid (hf5.block g _ HR3.out hgb HFR.out)
            clear hb5 hf5
            go_wp2_with fail
            go_roundg (gk - 1)
            case measure => omega
            case rel => exact ⟨j + 1, by first | rfl | (congr 1), by omega, HB5, HF5, HR5⟩
          · have hbi : bits BinOp.and IntKind.u8 11 15 = 11 := by decide
            have hw1 : IntKind.u8.wrap 1 = 1 := by decide
            have hw12 : IntKind.u8.wrap 12 = 12 := by decide
            go_still_tail 15, (by kernel_rfl)
            change wpList _ _ _ _ _ w3.drew
            have HB3 := Lib.hid (show BldZ b (l ++ 34 :: (s.take j).flatMap quoteC) w3.drew from HBW.out)
            have HF3 := Lib.hid (show FrZ b w w3.drew from ⟨HFW.out.os, HFW.out.tape, HFW.out.output, HFW.out.size, HFW.out.low, HFW.out.block⟩)
            have HR3 := Lib.hid (show w3.drew.heap[g]? = some (.cells cur 5 fr) from HRW.out)
            clear HBW HFW HRW
            generalize w3.drew = w4 at *
            go_wp2_with fail
            rw [show (((⟨#[92, 117, 48, 48]⟩ : ByteArray) ++ (⟨#[48, 49, 50, 51, 52, 53, 54, 55, 56, 57, 97, 98, 99, 100, 101, 102]⟩ : ByteArray).extract 0 1) ++ (⟨#[48, 49, 50, 51, 52, 53, 54, 55, 56, 57, 97, 98, 99, 100, 101, 102]⟩ : ByteArray).extract 11 12) = ⟨([92, 117, 48, 48, 48, 98] : List UInt8).toArray⟩ from by kernel_rfl]
            refine (WriteString_z b _ [92, 117, 48, 48, 48, 98] w4 HB3.out (by simp only [List.length_cons, List.length_nil]; omega)).mono ?_
            rintro e w5 ⟨rfl, hb5, hf5⟩
            have HB5 : Hid (BldZ b (l ++ 34 :: (s.take (j + 1)).flatMap quoteC) w5) := Lib.hid (by rw [HQ.out, show quoteC 11 = [92, 117, 48, 48, 48, 98] from by decide]; simpa using hb5)
            have HF5 := Lib.hid (HF3.out.trans hf5)
            have HR5 := Lib.hid (hf5.block g _ HR3.out hgb HFR.out)
            clear hb5 hf5
            go_wp2_with fail
            go_roundg (gk - 1)
            case measure => omega
            case rel => exact ⟨j + 1, by first | rfl | (congr 1), by omega, HB5, HF5, HR5⟩
          · have hbi : bits BinOp.and IntKind.u8 14 15 = 14 := by decide
            have hw1 : IntKind.u8.wrap 1 = 1 := by decide
            have hw15 : IntKind.u8.wrap 15 = 15 := by decide
            go_still_tail 15, (by kernel_rfl)
            change wpList _ _ _ _ _ w3.drew
            have HB3 := Lib.hid (show BldZ b (l ++ 34 :: (s.take j).flatMap quoteC) w3.drew from HBW.out)
            have HF3 := Lib.hid (show FrZ b w w3.drew from ⟨HFW.out.os, HFW.out.tape, HFW.out.output, HFW.out.size, HFW.out.low, HFW.out.block⟩)
            have HR3 := Lib.hid (show w3.drew.heap[g]? = some (.cells cur 5 fr) from HRW.out)
            clear HBW HFW HRW
            generalize w3.drew = w4 at *
            go_wp2_with fail
            rw [show (((⟨#[92, 117, 48, 48]⟩ : ByteArray) ++ (⟨#[48, 49, 50, 51, 52, 53, 54, 55, 56, 57, 97, 98, 99, 100, 101, 102]⟩ : ByteArray).extract 0 1) ++ (⟨#[48, 49, 50, 51, 52, 53, 54, 55, 56, 57, 97, 98, 99, 100, 101, 102]⟩ : ByteArray).extract 14 15) = ⟨([92, 117, 48, 48, 48, 101] : List UInt8).toArray⟩ from by kernel_rfl]
            refine (WriteString_z b _ [92, 117, 48, 48, 48, 101] w4 HB3.out (by simp only [List.length_cons, List.length_nil]; omega)).mono ?_
            rintro e w5 ⟨rfl, hb5, hf5⟩
            have HB5 : Hid (BldZ b (l ++ 34 :: (s.take (j + 1)).flatMap quoteC) w5) := Lib.hid (by rw [HQ.out, show quoteC 14 = [92, 117, 48, 48, 48, 101] from by decide]; simpa using hb5)
            have HF5 := Lib.hid (HF3.out.trans hf5)
            have HR5 := Lib.hid (hf5.block g _ HR3.out hgb HFR.out)
            clear hb5 hf5
            go_wp2_with fail
            go_roundg (gk - 1)
            case measure => omega
            case rel => exact ⟨j + 1, by first | rfl | (congr 1), by omega, HB5, HF5, HR5⟩
          · have hbi : bits BinOp.and IntKind.u8 15 15 = 15 := by decide
            have hw1 : IntKind.u8.wrap 1 = 1 := by decide
            have hw16 : IntKind.u8.wrap 16 = 16 := by decide
            go_still_tail 15, (by kernel_rfl)
            change wpList _ _ _ _ _ w3.drew
            have HB3 := Lib.hid (show BldZ b (l ++ 34 :: (s.take j).flatMap quoteC) w3.drew from HBW.out)
            have HF3 := Lib.hid (show FrZ b w w3.drew from ⟨HFW.out.os, HFW.out.tape, HFW.out.output, HFW.out.size, HFW.out.low, HFW.out.block⟩)
            have HR3 := Lib.hid (show w3.drew.heap[g]? = some (.cells cur 5 fr) from HRW.out)
            clear HBW HFW HRW
            generalize w3.drew = w4 at *
            go_wp2_with fail
            rw [show (((⟨#[92, 117, 48, 48]⟩ : ByteArray) ++ (⟨#[48, 49, 50, 51, 52, 53, 54, 55, 56, 57, 97, 98, 99, 100, 101, 102]⟩ : ByteArray).extract 0 1) ++ (⟨#[48, 49, 50, 51, 52, 53, 54, 55, 56, 57, 97, 98, 99, 100, 101, 102]⟩ : ByteArray).extract 15 16) = ⟨([92, 117, 48, 48, 48, 102] : List UInt8).toArray⟩ from by kernel_rfl]
            refine (WriteString_z b _ [92, 117, 48, 48, 48, 102] w4 HB3.out (by simp only [List.length_cons, List.length_nil]; omega)).mono ?_
            rintro e w5 ⟨rfl, hb5, hf5⟩
            have HB5 : Hid (BldZ b (l ++ 34 :: (s.take (j + 1)).flatMap quoteC) w5) := Lib.hid (by rw [HQ.out, show quoteC 15 = [92, 117, 48, 48, 48, 102] from by decide]; simpa using hb5)
            have HF5 := Lib.hid (HF3.out.trans hf5)
            have HR5 := Lib.hid (hf5.block g _ HR3.out hgb HFR.out)
            clear hb5 hf5
            go_wp2_with fail
            go_roundg (gk - 1)
            case measure => omega
            case rel => exact ⟨j + 1, by first | rfl | (congr 1), by omega, HB5, HF5, HR5⟩
          · have hbi : bits BinOp.and IntKind.u8 16 15 = 0 := by decide
            have hw1 : IntKind.u8.wrap 1 = 1 := by decide
            have hw2 : IntKind.u8.wrap 2 = 2 := by decide
            go_still_tail 15, (by kernel_rfl)
            change wpList _ _ _ _ _ w3.drew
            have HB3 := Lib.hid (show BldZ b (l ++ 34 :: (s.take j).flatMap quoteC) w3.drew from HBW.out)
            have HF3 := Lib.hid (show FrZ b w w3.drew from ⟨HFW.out.os, HFW.out.tape, HFW.out.output, HFW.out.size, HFW.out.low, HFW.out.block⟩)
            have HR3 := Lib.hid (show w3.drew.heap[g]? = some (.cells cur 5 fr) from HRW.out)
            clear HBW HFW HRW
            generalize w3.drew = w4 at *
            go_wp2_with fail
            rw [show (((⟨#[92, 117, 48, 48]⟩ : ByteArray) ++ (⟨#[48, 49, 50, 51, 52, 53, 54, 55, 56, 57, 97, 98, 99, 100, 101, 102]⟩ : ByteArray).extract 1 2) ++ (⟨#[48, 49, 50, 51, 52, 53, 54, 55, 56, 57, 97, 98, 99, 100, 101, 102]⟩ : ByteArray).extract 0 1) = ⟨([92, 117, 48, 48, 49, 48] : List UInt8).toArray⟩ from by kernel_rfl]
            refine (WriteString_z b _ [92, 117, 48, 48, 49, 48] w4 HB3.out (by simp only [List.length_cons, List.length_nil]; omega)).mono ?_
            rintro e w5 ⟨rfl, hb5, hf5⟩
            have HB5 : Hid (BldZ b (l ++ 34 :: (s.take (j + 1)).flatMap quoteC) w5) := Lib.hid (by rw [HQ.out, show quoteC 16 = [92, 117, 48, 48, 49, 48] from by decide]; simpa using hb5)
            have HF5 := Lib.hid (HF3.out.trans hf5)
            have HR5 := Lib.hid (hf5.block g _ HR3.out hgb HFR.out)
            clear hb5 hf5
            go_wp2_with fail
            go_roundg (gk - 1)
            case measure => omega
            case rel => exact ⟨j + 1, by first | rfl | (congr 1), by omega, HB5, HF5, HR5⟩
          · have hbi : bits BinOp.and IntKind.u8 17 15 = 1 := by decide
            have hw2 : IntKind.u8.wrap 2 = 2 := by decide
            go_still_tail 15, (by kernel_rfl)
            change wpList _ _ _ _ _ w3.drew
            have HB3 := Lib.hid (show BldZ b (l ++ 34 :: (s.take j).flatMap quoteC) w3.drew from HBW.out)
            have HF3 := Lib.hid (show FrZ b w w3.drew from ⟨HFW.out.os, HFW.out.tape, HFW.out.output, HFW.out.size, HFW.out.low, HFW.out.block⟩)
            have HR3 := Lib.hid (show w3.drew.heap[g]? = some (.cells cur 5 fr) from HRW.out)
            clear HBW HFW HRW
            generalize w3.drew = w4 at *
            go_wp2_with fail
            rw [show (((⟨#[92, 117, 48, 48]⟩ : ByteArray) ++ (⟨#[48, 49, 50, 51, 52, 53, 54, 55, 56, 57, 97, 98, 99, 100, 101, 102]⟩ : ByteArray).extract 1 2) ++ (⟨#[48, 49, 50, 51, 52, 53, 54, 55, 56, 57, 97, 98, 99, 100, 101, 102]⟩ : ByteArray).extract 1 2) = ⟨([92, 117, 48, 48, 49, 49] : List UInt8).toArray⟩ from by kernel_rfl]
            refine (WriteString_z b _ [92, 117, 48, 48, 49, 49] w4 HB3.out (by simp only [List.length_cons, List.length_nil]; omega)).mono ?_
            rintro e w5 ⟨rfl, hb5, hf5⟩
            have HB5 : Hid (BldZ b (l ++ 34 :: (s.take (j + 1)).flatMap quoteC) w5) := Lib.hid (by rw [HQ.out, show quoteC 17 = [92, 117, 48, 48, 49, 49] from by decide]; simpa using hb5)
            have HF5 := Lib.hid (HF3.out.trans hf5)
            have HR5 := Lib.hid (hf5.block g _ HR3.out hgb HFR.out)
            clear hb5 hf5
            go_wp2_with fail
            go_roundg (gk - 1)
            case measure => omega
            case rel => exact ⟨j + 1, by first | rfl | (congr 1), by omega, HB5, HF5, HR5⟩
          · have hbi : bits BinOp.and IntKind.u8 18 15 = 2 := by decide
            have hw2 : IntKind.u8.wrap 2 = 2 := by decide
            have hw3 : IntKind.u8.wrap 3 = 3 := by decide
            go_still_tail 15, (by kernel_rfl)
            change wpList _ _ _ _ _ w3.drew
            have HB3 := Lib.hid (show BldZ b (l ++ 34 :: (s.take j).flatMap quoteC) w3.drew from HBW.out)
            have HF3 := Lib.hid (show FrZ b w w3.drew from ⟨HFW.out.os, HFW.out.tape, HFW.out.output, HFW.out.size, HFW.out.low, HFW.out.block⟩)
            have HR3 := Lib.hid (show w3.drew.heap[g]? = some (.cells cur 5 fr) from HRW.out)
            clear HBW HFW HRW
            generalize w3.drew = w4 at *
            go_wp2_with fail
            rw [show (((⟨#[92, 117, 48, 48]⟩ : ByteArray) ++ (⟨#[48, 49, 50, 51, 52, 53, 54, 55, 56, 57, 97, 98, 99, 100, 101, 102]⟩ : ByteArray).extract 1 2) ++ (⟨#[48, 49, 50, 51, 52, 53, 54, 55, 56, 57, 97, 98, 99, 100, 101, 102]⟩ : ByteArray).extract 2 3) = ⟨([92, 117, 48, 48, 49, 50] : List UInt8).toArray⟩ from by kernel_rfl]
            refine (WriteString_z b _ [92, 117, 48, 48, 49, 50] w4 HB3.out (by simp only [List.length_cons, List.length_nil]; omega)).mono ?_
            rintro e w5 ⟨rfl, hb5, hf5⟩
            have HB5 : Hid (BldZ b (l ++ 34 :: (s.take (j + 1)).flatMap quoteC) w5) := Lib.hid (by rw [HQ.out, show quoteC 18 = [92, 117, 48, 48, 49, 50] from by decide]; simpa using hb5)
            have HF5 := Lib.hid (HF3.out.trans hf5)
            have HR5 := Lib.hid (hf5.block g _ HR3.out hgb HFR.out)
            clear hb5 hf5
            go_wp2_with fail
            go_roundg (gk - 1)
            case measure => omega
            case rel => exact ⟨j + 1, by first | rfl | (congr 1), by omega, HB5, HF5, HR5⟩
          · have hbi : bits BinOp.and IntKind.u8 19 15 = 3 := by decide
            have hw2 : IntKind.u8.wrap 2 = 2 := by decide
            have hw4 : IntKind.u8.wrap 4 = 4 := by decide
            go_still_tail 15, (by kernel_rfl)
            change wpList _ _ _ _ _ w3.drew
            have HB3 := Lib.hid (show BldZ b (l ++ 34 :: (s.take j).flatMap quoteC) w3.drew from HBW.out)
            have HF3 := Lib.hid (show FrZ b w w3.drew from ⟨HFW.out.os, HFW.out.tape, HFW.out.output, HFW.out.size, HFW.out.low, HFW.out.block⟩)
            have HR3 := Lib.hid (show w3.drew.heap[g]? = some (.cells cur 5 fr) from HRW.out)
            clear HBW HFW HRW
            generalize w3.drew = w4 at *
            go_wp2_with fail
            rw [show (((⟨#[92, 117, 48, 48]⟩ : ByteArray) ++ (⟨#[48, 49, 50, 51, 52, 53, 54, 55, 56, 57, 97, 98, 99, 100, 101, 102]⟩ : ByteArray).extract 1 2) ++ (⟨#[48, 49, 50, 51, 52, 53, 54, 55, 56, 57, 97, 98, 99, 100, 101, 102]⟩ : ByteArray).extract 3 4) = ⟨([92, 117, 48, 48, 49, 51] : List UInt8).toArray⟩ from by kernel_rfl]
            refine (WriteString_z b _ [92, 117, 48, 48, 49, 51] w4 HB3.out (by simp only [List.length_cons, List.length_nil]; omega)).mono ?_
            rintro e w5 ⟨rfl, hb5, hf5⟩
            have HB5 : Hid (BldZ b (l ++ 34 :: (s.take (j + 1)).flatMap quoteC) w5) := Lib.hid (by rw [HQ.out, show quoteC 19 = [92, 117, 48, 48, 49, 51] from by decide]; simpa using hb5)
            have HF5 := Lib.hid (HF3.out.trans hf5)
            have HR5 := Lib.hid (hf5.block g _ HR3.out hgb HFR.out)
            clear hb5 hf5
            go_wp2_with fail
            go_roundg (gk - 1)
            case measure => omega
            case rel => exact ⟨j + 1, by first | rfl | (congr 1), by omega, HB5, HF5, HR5⟩
          · have hbi : bits BinOp.and IntKind.u8 20 15 = 4 := by decide
            have hw2 : IntKind.u8.wrap 2 = 2 := by decide
            have hw5 : IntKind.u8.wrap 5 = 5 := by decide
            go_still_tail 15, (by kernel_rfl)
            change wpList _ _ _ _ _ w3.drew
            have HB3 := Lib.hid (show BldZ b (l ++ 34 :: (s.take j).flatMap quoteC) w3.drew from HBW.out)
            have HF3 := Lib.hid (show FrZ b w w3.drew from ⟨HFW.out.os, HFW.out.tape, HFW.out.output, HFW.out.size, HFW.out.low, HFW.out.block⟩)
            have HR3 := Lib.hid (show w3.drew.heap[g]? = some (.cells cur 5 fr) from HRW.out)
            clear HBW HFW HRW
            generalize w3.drew = w4 at *
            go_wp2_with fail
            rw [show (((⟨#[92, 117, 48, 48]⟩ : ByteArray) ++ (⟨#[48, 49, 50, 51, 52, 53, 54, 55, 56, 57, 97, 98, 99, 100, 101, 102]⟩ : ByteArray).extract 1 2) ++ (⟨#[48, 49, 50, 51, 52, 53, 54, 55, 56, 57, 97, 98, 99, 100, 101, 102]⟩ : ByteArray).extract 4 5) = ⟨([92, 117, 48, 48, 49, 52] : List UInt8).toArray⟩ from by kernel_rfl]
            refine (WriteString_z b _ [92, 117, 48, 48, 49, 52] w4 HB3.out (by simp only [List.length_cons, List.length_nil]; omega)).mono ?_
            rintro e w5 ⟨rfl, hb5, hf5⟩
            have HB5 : Hid (BldZ b (l ++ 34 :: (s.take (j + 1)).flatMap quoteC) w5) := Lib.hid (by rw [HQ.out, show quoteC 20 = [92, 117, 48, 48, 49, 52] from by decide]; simpa using hb5)
            have HF5 := Lib.hid (HF3.out.trans hf5)
            have HR5 := Lib.hid (hf5.block g _ HR3.out hgb HFR.out)
            clear hb5 hf5
            go_wp2_with fail
            go_roundg (gk - 1)
            case measure => omega
            case rel => exact ⟨j + 1, by first | rfl | (congr 1), by omega, HB5, HF5, HR5⟩
          · have hbi : bits BinOp.and IntKind.u8 21 15 = 5 := by decide
            have hw2 : IntKind.u8.wrap 2 = 2 := by decide
            have hw6 : IntKind.u8.wrap 6 = 6 := by decide
            go_still_tail 15, (by kernel_rfl)
            change wpList _ _ _ _ _ w3.drew
            have HB3 := Lib.hid (show BldZ b (l ++ 34 :: (s.take j).flatMap quoteC) w3.drew from HBW.out)
            have HF3 := Lib.hid (show FrZ b w w3.drew from ⟨HFW.out.os, HFW.out.tape, HFW.out.output, HFW.out.size, HFW.out.low, HFW.out.block⟩)
            have HR3 := Lib.hid (show w3.drew.heap[g]? = some (.cells cur 5 fr) from HRW.out)
            clear HBW HFW HRW
            generalize w3.drew = w4 at *
            go_wp2_with fail
            rw [show (((⟨#[92, 117, 48, 48]⟩ : ByteArray) ++ (⟨#[48, 49, 50, 51, 52, 53, 54, 55, 56, 57, 97, 98, 99, 100, 101, 102]⟩ : ByteArray).extract 1 2) ++ (⟨#[48, 49, 50, 51, 52, 53, 54, 55, 56, 57, 97, 98, 99, 100, 101, 102]⟩ : ByteArray).extract 5 6) = ⟨([92, 117, 48, 48, 49, 53] : List UInt8).toArray⟩ from by kernel_rfl]
            refine (WriteString_z b _ [92, 117, 48, 48, 49, 53] w4 HB3.out (by simp only [List.length_cons, List.length_nil]; omega)).mono ?_
            rintro e w5 ⟨rfl, hb5, hf5⟩
            have HB5 : Hid (BldZ b (l ++ 34 :: (s.take (j + 1)).flatMap quoteC) w5) := Lib.hid (by rw [HQ.out, show quoteC 21 = [92, 117, 48, 48, 49, 53] from by decide]; simpa using hb5)
            have HF5 := Lib.hid (HF3.out.trans hf5)
            have HR5 := Lib.hid (hf5.block g _ HR3.out hgb HFR.out)
            clear hb5 hf5
            go_wp2_with fail
            go_roundg (gk - 1)
            case measure => omega
            case rel => exact ⟨j + 1, by first | rfl | (congr 1), by omega, HB5, HF5, HR5⟩
          · have hbi : bits BinOp.and IntKind.u8 22 15 = 6 := by decide
            have hw2 : IntKind.u8.wrap 2 = 2 := by decide
            have hw7 : IntKind.u8.wrap 7 = 7 := by decide
            go_still_tail 15, (by kernel_rfl)
            change wpList _ _ _ _ _ w3.drew
            have HB3 := Lib.hid (show BldZ b (l ++ 34 :: (s.take j).flatMap quoteC) w3.drew from HBW.out)
            have HF3 := Lib.hid (show FrZ b w w3.drew from ⟨HFW.out.os, HFW.out.tape, HFW.out.output, HFW.out.size, HFW.out.low, HFW.out.block⟩)
            have HR3 := Lib.hid (show w3.drew.heap[g]? = some (.cells cur 5 fr) from HRW.out)
            clear HBW HFW HRW
            generalize w3.drew = w4 at *
            go_wp2_with fail
            rw [show (((⟨#[92, 117, 48, 48]⟩ : ByteArray) ++ (⟨#[48, 49, 50, 51, 52, 53, 54, 55, 56, 57, 97, 98, 99, 100, 101, 102]⟩ : ByteArray).extract 1 2) ++ (⟨#[48, 49, 50, 51, 52, 53, 54, 55, 56, 57, 97, 98, 99, 100, 101, 102]⟩ : ByteArray).extract 6 7) = ⟨([92, 117, 48, 48, 49, 54] : List UInt8).toArray⟩ from by kernel_rfl]
            refine (WriteString_z b _ [92, 117, 48, 48, 49, 54] w4 HB3.out (by simp only [List.length_cons, List.length_nil]; omega)).mono ?_
            rintro e w5 ⟨rfl, hb5, hf5⟩
            have HB5 : Hid (BldZ b (l ++ 34 :: (s.take (j + 1)).flatMap quoteC) w5) := Lib.hid (by rw [HQ.out, show quoteC 22 = [92, 117, 48, 48, 49, 54] from by decide]; simpa using hb5)
            have HF5 := Lib.hid (HF3.out.trans hf5)
            have HR5 := Lib.hid (hf5.block g _ HR3.out hgb HFR.out)
            clear hb5 hf5
            go_wp2_with fail
            go_roundg (gk - 1)
            case measure => omega
            case rel => exact ⟨j + 1, by first | rfl | (congr 1), by omega, HB5, HF5, HR5⟩
          · have hbi : bits BinOp.and IntKind.u8 23 15 = 7 := by decide
            have hw2 : IntKind.u8.wrap 2 = 2 := by decide
            have hw8 : IntKind.u8.wrap 8 = 8 := by decide
            go_still_tail 15, (by kernel_rfl)
            change wpList _ _ _ _ _ w3.drew
            have HB3 := Lib.hid (show BldZ b (l ++ 34 :: (s.take j).flatMap quoteC) w3.drew from HBW.out)
            have HF3 := Lib.hid (show FrZ b w w3.drew from ⟨HFW.out.os, HFW.out.tape, HFW.out.output, HFW.out.size, HFW.out.low, HFW.out.block⟩)
            have HR3 := Lib.hid (show w3.drew.heap[g]? = some (.cells cur 5 fr) from HRW.out)
            clear HBW HFW HRW
            generalize w3.drew = w4 at *
            go_wp2_with fail
            rw [show (((⟨#[92, 117, 48, 48]⟩ : ByteArray) ++ (⟨#[48, 49, 50, 51, 52, 53, 54, 55, 56, 57, 97, 98, 99, 100, 101, 102]⟩ : ByteArray).extract 1 2) ++ (⟨#[48, 49, 50, 51, 52, 53, 54, 55, 56, 57, 97, 98, 99, 100, 101, 102]⟩ : ByteArray).extract 7 8) = ⟨([92, 117, 48, 48, 49, 55] : List UInt8).toArray⟩ from by kernel_rfl]
            refine (WriteString_z b _ [92, 117, 48, 48, 49, 55] w4 HB3.out (by simp only [List.length_cons, List.length_nil]; omega)).mono ?_
            rintro e w5 ⟨rfl, hb5, hf5⟩
            have HB5 : Hid (BldZ b (l ++ 34 :: (s.take (j + 1)).flatMap quoteC) w5) := Lib.hid (by rw [HQ.out, show quoteC 23 = [92, 117, 48, 48, 49, 55] from by decide]; simpa using hb5)
            have HF5 := Lib.hid (HF3.out.trans hf5)
            have HR5 := Lib.hid (hf5.block g _ HR3.out hgb HFR.out)
            clear hb5 hf5
            go_wp2_with fail
            go_roundg (gk - 1)
            case measure => omega
            case rel => exact ⟨j + 1, by first | rfl | (congr 1), by omega, HB5, HF5, HR5⟩
          · have hbi : bits BinOp.and IntKind.u8 24 15 = 8 := by decide
            have hw2 : IntKind.u8.wrap 2 = 2 := by decide
            have hw9 : IntKind.u8.wrap 9 = 9 := by decide
            go_still_tail 15, (by kernel_rfl)
            change wpList _ _ _ _ _ w3.drew
            have HB3 := Lib.hid (show BldZ b (l ++ 34 :: (s.take j).flatMap quoteC) w3.drew from HBW.out)
            have HF3 := Lib.hid (show FrZ b w w3.drew from ⟨HFW.out.os, HFW.out.tape, HFW.out.output, HFW.out.size, HFW.out.low, HFW.out.block⟩)
            have HR3 := Lib.hid (show w3.drew.heap[g]? = some (.cells cur 5 fr) from HRW.out)
            clear HBW HFW HRW
            generalize w3.drew = w4 at *
            go_wp2_with fail
            rw [show (((⟨#[92, 117, 48, 48]⟩ : ByteArray) ++ (⟨#[48, 49, 50, 51, 52, 53, 54, 55, 56, 57, 97, 98, 99, 100, 101, 102]⟩ : ByteArray).extract 1 2) ++ (⟨#[48, 49, 50, 51, 52, 53, 54, 55, 56, 57, 97, 98, 99, 100, 101, 102]⟩ : ByteArray).extract 8 9) = ⟨([92, 117, 48, 48, 49, 56] : List UInt8).toArray⟩ from by kernel_rfl]
            refine (WriteString_z b _ [92, 117, 48, 48, 49, 56] w4 HB3.out (by simp only [List.length_cons, List.length_nil]; omega)).mono ?_
            rintro e w5 ⟨rfl, hb5, hf5⟩
            have HB5 : Hid (BldZ b (l ++ 34 :: (s.take (j + 1)).flatMap quoteC) w5) := Lib.hid (by rw [HQ.out, show quoteC 24 = [92, 117, 48, 48, 49, 56] from by decide]; simpa using hb5)
            have HF5 := Lib.hid (HF3.out.trans hf5)
            have HR5 := Lib.hid (hf5.block g _ HR3.out hgb HFR.out)
            clear hb5 hf5
            go_wp2_with fail
            go_roundg (gk - 1)
            case measure => omega
            case rel => exact ⟨j + 1, by first | rfl | (congr 1), by omega, HB5, HF5, HR5⟩
          · have hbi : bits BinOp.and IntKind.u8 25 15 = 9 := by decide
            have hw2 : IntKind.u8.wrap 2 = 2 := by decide
            have hw10 : IntKind.u8.wrap 10 = 10 := by decide
            go_still_tail 15, (by kernel_rfl)
            change wpList _ _ _ _ _ w3.drew
            have HB3 := Lib.hid (show BldZ b (l ++ 34 :: (s.take j).flatMap quoteC) w3.drew from HBW.out)
            have HF3 := Lib.hid (show FrZ b w w3.drew from ⟨HFW.out.os, HFW.out.tape, HFW.out.output, HFW.out.size, HFW.out.low, HFW.out.block⟩)
            have HR3 := Lib.hid (show w3.drew.heap[g]? = some (.cells cur 5 fr) from HRW.out)
            clear HBW HFW HRW
            generalize w3.drew = w4 at *
            go_wp2_with fail
            rw [show (((⟨#[92, 117, 48, 48]⟩ : ByteArray) ++ (⟨#[48, 49, 50, 51, 52, 53, 54, 55, 56, 57, 97, 98, 99, 100, 101, 102]⟩ : ByteArray).extract 1 2) ++ (⟨#[48, 49, 50, 51, 52, 53, 54, 55, 56, 57, 97, 98, 99, 100, 101, 102]⟩ : ByteArray).extract 9 10) = ⟨([92, 117, 48, 48, 49, 57] : List UInt8).toArray⟩ from by kernel_rfl]
            refine (WriteString_z b _ [92, 117, 48, 48, 49, 57] w4 HB3.out (by simp only [List.length_cons, List.length_nil]; omega)).mono ?_
            rintro e w5 ⟨rfl, hb5, hf5⟩
            have HB5 : Hid (BldZ b (l ++ 34 :: (s.take (j + 1)).flatMap quoteC) w5) := Lib.hid (by rw [HQ.out, show quoteC 25 = [92, 117, 48, 48, 49, 57] from by decide]; simpa using hb5)
            have HF5 := Lib.hid (HF3.out.trans hf5)
            have HR5 := Lib.hid (hf5.block g _ HR3.out hgb HFR.out)
            clear hb5 hf5
            go_wp2_with fail
            go_roundg (gk - 1)
            case measure => omega
            case rel => exact ⟨j + 1, by first | rfl | (congr 1), by omega, HB5, HF5, HR5⟩
          · have hbi : bits BinOp.and IntKind.u8 26 15 = 10 := by decide
            have hw2 : IntKind.u8.wrap 2 = 2 := by decide
            have hw11 : IntKind.u8.wrap 11 = 11 := by decide
            go_still_tail 15, (by kernel_rfl)
            change wpList _ _ _ _ _ w3.drew
            have HB3 := Lib.hid (show BldZ b (l ++ 34 :: (s.take j).flatMap quoteC) w3.drew from HBW.out)
            have HF3 := Lib.hid (show FrZ b w w3.drew from ⟨HFW.out.os, HFW.out.tape, HFW.out.output, HFW.out.size, HFW.out.low, HFW.out.block⟩)
            have HR3 := Lib.hid (show w3.drew.heap[g]? = some (.cells cur 5 fr) from HRW.out)
            clear HBW HFW HRW
            generalize w3.drew = w4 at *
            go_wp2_with fail
            rw [show (((⟨#[92, 117, 48, 48]⟩ : ByteArray) ++ (⟨#[48, 49, 50, 51, 52, 53, 54, 55, 56, 57, 97, 98, 99, 100, 101, 102]⟩ : ByteArray).extract 1 2) ++ (⟨#[48, 49, 50, 51, 52, 53, 54, 55, 56, 57, 97, 98, 99, 100, 101, 102]⟩ : ByteArray).extract 10 11) = ⟨([92, 117, 48, 48, 49, 97] : List UInt8).toArray⟩ from by kernel_rfl]
            refine (WriteString_z b _ [92, 117, 48, 48, 49, 97] w4 HB3.out (by simp only [List.length_cons, List.length_nil]; omega)).mono ?_
            rintro e w5 ⟨rfl, hb5, hf5⟩
            have HB5 : Hid (BldZ b (l ++ 34 :: (s.take (j + 1)).flatMap quoteC) w5) := Lib.hid (by rw [HQ.out, show quoteC 26 = [92, 117, 48, 48, 49, 97] from by decide]; simpa using hb5)
            have HF5 := Lib.hid (HF3.out.trans hf5)
            have HR5 := Lib.hid (hf5.block g _ HR3.out hgb HFR.out)
            clear hb5 hf5
            go_wp2_with fail
            go_roundg (gk - 1)
            case measure => omega
            case rel => exact ⟨j + 1, by first | rfl | (congr 1), by omega, HB5, HF5, HR5⟩
          · have hbi : bits BinOp.and IntKind.u8 27 15 = 11 := by decide
            have hw2 : IntKind.u8.wrap 2 = 2 := by decide
            have hw12 : IntKind.u8.wrap 12 = 12 := by decide
            go_still_tail 15, (by kernel_rfl)
            change wpList _ _ _ _ _ w3.drew
            have HB3 := Lib.hid (show BldZ b (l ++ 34 :: (s.take j).flatMap quoteC) w3.drew from HBW.out)
            have HF3 := Lib.hid (show FrZ b w w3.drew from ⟨HFW.out.os, HFW.out.tape, HFW.out.output, HFW.out.size, HFW.out.low, HFW.out.block⟩)
            have HR3 := Lib.hid (show w3.drew.heap[g]? = some (.cells cur 5 fr) from HRW.out)
            clear HBW HFW HRW
            generalize w3.drew = w4 at *
            go_wp2_with fail
            rw [show (((⟨#[92, 117, 48, 48]⟩ : ByteArray) ++ (⟨#[48, 49, 50, 51, 52, 53, 54, 55, 56, 57, 97, 98, 99, 100, 101, 102]⟩ : ByteArray).extract 1 2) ++ (⟨#[48, 49, 50, 51, 52, 53, 54, 55, 56, 57, 97, 98, 99, 100, 101, 102]⟩ : ByteArray).extract 11 12) = ⟨([92, 117, 48, 48, 49, 98] : List UInt8).toArray⟩ from by kernel_rfl]
            refine (WriteString_z b _ [92, 117, 48, 48, 49, 98] w4 HB3.out (by simp only [List.length_cons, List.length_nil]; omega)).mono ?_
            rintro e w5 ⟨rfl, hb5, hf5⟩
            have HB5 : Hid (BldZ b (l ++ 34 :: (s.take (j + 1)).flatMap quoteC) w5) := Lib.hid (by rw [HQ.out, show quoteC 27 = [92, 117, 48, 48, 49, 98] from by decide]; simpa using hb5)
            have HF5 := Lib.hid (HF3.out.trans hf5)
            have HR5 := Lib.hid (hf5.block g _ HR3.out hgb HFR.out)
            clear hb5 hf5
            go_wp2_with fail
            go_roundg (gk - 1)
            case measure => omega
            case rel => exact ⟨j + 1, by first | rfl | (congr 1), by omega, HB5, HF5, HR5⟩
          · have hbi : bits BinOp.and IntKind.u8 28 15 = 12 := by decide
            have hw2 : IntKind.u8.wrap 2 = 2 := by decide
            have hw13 : IntKind.u8.wrap 13 = 13 := by decide
            go_still_tail 15, (by kernel_rfl)
            change wpList _ _ _ _ _ w3.drew
            have HB3 := Lib.hid (show BldZ b (l ++ 34 :: (s.take j).flatMap quoteC) w3.drew from HBW.out)
            have HF3 := Lib.hid (show FrZ b w w3.drew from ⟨HFW.out.os, HFW.out.tape, HFW.out.output, HFW.out.size, HFW.out.low, HFW.out.block⟩)
            have HR3 := Lib.hid (show w3.drew.heap[g]? = some (.cells cur 5 fr) from HRW.out)
            clear HBW HFW HRW
            generalize w3.drew = w4 at *
            go_wp2_with fail
            rw [show (((⟨#[92, 117, 48, 48]⟩ : ByteArray) ++ (⟨#[48, 49, 50, 51, 52, 53, 54, 55, 56, 57, 97, 98, 99, 100, 101, 102]⟩ : ByteArray).extract 1 2) ++ (⟨#[48, 49, 50, 51, 52, 53, 54, 55, 56, 57, 97, 98, 99, 100, 101, 102]⟩ : ByteArray).extract 12 13) = ⟨([92, 117, 48, 48, 49, 99] : List UInt8).toArray⟩ from by kernel_rfl]
            refine (WriteString_z b _ [92, 117, 48, 48, 49, 99] w4 HB3.out (by simp only [List.length_cons, List.length_nil]; omega)).mono ?_
            rintro e w5 ⟨rfl, hb5, hf5⟩
            have HB5 : Hid (BldZ b (l ++ 34 :: (s.take (j + 1)).flatMap quoteC) w5) := Lib.hid (by rw [HQ.out, show quoteC 28 = [92, 117, 48, 48, 49, 99] from by decide]; simpa using hb5)
            have HF5 := Lib.hid (HF3.out.trans hf5)
            have HR5 := Lib.hid (hf5.block g _ HR3.out hgb HFR.out)
            clear hb5 hf5
            go_wp2_with fail
            go_roundg (gk - 1)
            case measure => omega
            case rel => exact ⟨j + 1, by first | rfl | (congr 1), by omega, HB5, HF5, HR5⟩
          · have hbi : bits BinOp.and IntKind.u8 29 15 = 13 := by decide
            have hw2 : IntKind.u8.wrap 2 = 2 := by decide
            have hw14 : IntKind.u8.wrap 14 = 14 := by decide
            go_still_tail 15, (by kernel_rfl)
            change wpList _ _ _ _ _ w3.drew
            have HB3 := Lib.hid (show BldZ b (l ++ 34 :: (s.take j).flatMap quoteC) w3.drew from HBW.out)
            have HF3 := Lib.hid (show FrZ b w w3.drew from ⟨HFW.out.os, HFW.out.tape, HFW.out.output, HFW.out.size, HFW.out.low, HFW.out.block⟩)
            have HR3 := Lib.hid (show w3.drew.heap[g]? = some (.cells cur 5 fr) from HRW.out)
            clear HBW HFW HRW
            generalize w3.drew = w4 at *
            go_wp2_with fail
            rw [show (((⟨#[92, 117, 48, 48]⟩ : ByteArray) ++ (⟨#[48, 49, 50, 51, 52, 53, 54, 55, 56, 57, 97, 98, 99, 100, 101, 102]⟩ : ByteArray).extract 1 2) ++ (⟨#[48, 49, 50, 51, 52, 53, 54, 55, 56, 57, 97, 98, 99, 100, 101, 102]⟩ : ByteArray).extract 13 14) = ⟨([92, 117, 48, 48, 49, 100] : List UInt8).toArray⟩ from by kernel_rfl]
            refine (WriteString_z b _ [92, 117, 48, 48, 49, 100] w4 HB3.out (by simp only [List.length_cons, List.length_nil]; omega)).mono ?_
            rintro e w5 ⟨rfl, hb5, hf5⟩
            have HB5 : Hid (BldZ b (l ++ 34 :: (s.take (j + 1)).flatMap quoteC) w5) := Lib.hid (by rw [HQ.out, show quoteC 29 = [92, 117, 48, 48, 49, 100] from by decide]; simpa using hb5)
            have HF5 := Lib.hid (HF3.out.trans hf5)
            have HR5 := Lib.hid (hf5.block g _ HR3.out hgb HFR.out)
            clear hb5 hf5
            go_wp2_with fail
            go_roundg (gk - 1)
            case measure => omega
            case rel => exact ⟨j + 1, by first | rfl | (congr 1), by omega, HB5, HF5, HR5⟩
          · have hbi : bits BinOp.and IntKind.u8 30 15 = 14 := by decide
            have hw2 : IntKind.u8.wrap 2 = 2 := by decide
            have hw15 : IntKind.u8.wrap 15 = 15 := by decide
            go_still_tail 15, (by kernel_rfl)
            change wpList _ _ _ _ _ w3.drew
            have HB3 := Lib.hid (show BldZ b (l ++ 34 :: (s.take j).flatMap quoteC) w3.drew from HBW.out)
            have HF3 := Lib.hid (show FrZ b w w3.drew from ⟨HFW.out.os, HFW.out.tape, HFW.out.output, HFW.out.size, HFW.out.low, HFW.out.block⟩)
            have HR3 := Lib.hid (show w3.drew.heap[g]? = some (.cells cur 5 fr) from HRW.out)
            clear HBW HFW HRW
            generalize w3.drew = w4 at *
            go_wp2_with fail
            rw [show (((⟨#[92, 117, 48, 48]⟩ : ByteArray) ++ (⟨#[48, 49, 50, 51, 52, 53, 54, 55, 56, 57, 97, 98, 99, 100, 101, 102]⟩ : ByteArray).extract 1 2) ++ (⟨#[48, 49, 50, 51, 52, 53, 54, 55, 56, 57, 97, 98, 99, 100, 101, 102]⟩ : ByteArray).extract 14 15) = ⟨([92, 117, 48, 48, 49, 101] : List UInt8).toArray⟩ from by kernel_rfl]
            refine (WriteString_z b _ [92, 117, 48, 48, 49, 101] w4 HB3.out (by simp only [List.length_cons, List.length_nil]; omega)).mono ?_
            rintro e w5 ⟨rfl, hb5, hf5⟩
            have HB5 : Hid (BldZ b (l ++ 34 :: (s.take (j + 1)).flatMap quoteC) w5) := Lib.hid (by rw [HQ.out, show quoteC 30 = [92, 117, 48, 48, 49, 101] from by decide]; simpa using hb5)
            have HF5 := Lib.hid (HF3.out.trans hf5)
            have HR5 := Lib.hid (hf5.block g _ HR3.out hgb HFR.out)
            clear hb5 hf5
            go_wp2_with fail
            go_roundg (gk - 1)
            case measure => omega
            case rel => exact ⟨j + 1, by first | rfl | (congr 1), by omega, HB5, HF5, HR5⟩
          · have hbi : bits BinOp.and IntKind.u8 31 15 = 15 := by decide
            have hw2 : IntKind.u8.wrap 2 = 2 := by decide
            have hw16 : IntKind.u8.wrap 16 = 16 := by decide
            go_still_tail 15, (by kernel_rfl)
            change wpList _ _ _ _ _ w3.drew
            have HB3 := Lib.hid (show BldZ b (l ++ 34 :: (s.take j).flatMap quoteC) w3.drew from HBW.out)
            have HF3 := Lib.hid (show FrZ b w w3.drew from ⟨HFW.out.os, HFW.out.tape, HFW.out.output, HFW.out.size, HFW.out.low, HFW.out.block⟩)
            have HR3 := Lib.hid (show w3.drew.heap[g]? = some (.cells cur 5 fr) from HRW.out)
            clear HBW HFW HRW
            generalize w3.drew = w4 at *
            go_wp2_with fail
            rw [show (((⟨#[92, 117, 48, 48]⟩ : ByteArray) ++ (⟨#[48, 49, 50, 51, 52, 53, 54, 55, 56, 57, 97, 98, 99, 100, 101, 102]⟩ : ByteArray).extract 1 2) ++ (⟨#[48, 49, 50, 51, 52, 53, 54, 55, 56, 57, 97, 98, 99, 100, 101, 102]⟩ : ByteArray).extract 15 16) = ⟨([92, 117, 48, 48, 49, 102] : List UInt8).toArray⟩ from by kernel_rfl]
            refine (WriteString_z b _ [92, 117, 48, 48, 49, 102] w4 HB3.out (by simp only [List.length_cons, List.length_nil]; omega)).mono ?_
            rintro e w5 ⟨rfl, hb5, hf5⟩
            have HB5 : Hid (BldZ b (l ++ 34 :: (s.take (j + 1)).flatMap quoteC) w5) := Lib.hid (by rw [HQ.out, show quoteC 31 = [92, 117, 48, 48, 49, 102] from by decide]; simpa using hb5)
            have HF5 := Lib.hid (HF3.out.trans hf5)
            have HR5 := Lib.hid (hf5.block g _ HR3.out hgb HFR.out)
            clear hb5 hf5
            go_wp2_with fail
            go_roundg (gk - 1)
            case measure => omega
            case rel => exact ⟨j + 1, by first | rfl | (congr 1), by omega, HB5, HF5, HR5⟩
        · have q3 : decide (((x.toNat : Nat) : Int) < 32) = false := decide_eq_false (by omega)
          have hqc2 := hqc.resolve_left h32
          rw [hqc2] at HQ
          clear hlow h0 hqc h32 hqc2
          go_wp2_with fail
          refine (WriteByte_z b _ ((x.toNat : Nat) : Int) x rfl w3 HBW.out (by omega)).mono ?_
          rintro e w5 ⟨rfl, hb5, hf5⟩
          have HB5 : Hid (BldZ b (l ++ 34 :: (s.take (j + 1)).flatMap quoteC) w5) := Lib.hid (by rw [HQ.out]; simpa using hb5)
          have HF5 := Lib.hid (HFW.out.trans hf5)
          have HR5 := Lib.hid (hf5.block g _ HRW.out hgb HFR.out)
          clear hb5 hf5
          go_wp2_with fail
          go_roundg (gk - 1)
          case measure => omega
          case rel => exact ⟨j + 1, by first | rfl | (congr 1), by omega, HB5, HF5, HR5⟩
    · have hge : ¬ (j : Int) < (s.length : Int) := by omega
      have HBE : Hid (BldZ b (l ++ 34 :: s.flatMap quoteC) wr) := Lib.hid (by have := HBW.out; rwa [List.take_of_length_le (by omega)] at this)
      have hln : (l ++ 34 :: s.flatMap quoteC).length ≤ 10700000 := by
        have := flatq_len s
        simp only [List.length_append, List.length_cons] at *
        omega
      go_wp2_with fail
      refine (WriteByte_z b _ 34 34 rfl wr HBE.out (by omega)).mono ?_
      rintro e w5 ⟨rfl, hb5, hf5⟩
      have HB5 : Hid (BldZ b (l ++ quoteL s) w5) := Lib.hid (by unfold quoteL; simpa using hb5)
      have HF5 := Lib.hid (HFW.out.trans hf5)
      clear hb5 hf5
      go_wp2_with fail
      go_end0
      exact ⟨rfl, HB5.out, HF5.out⟩
end Go.Proofs.YtfdijcdpmgkdkaaGreatDoor
set_option linter.unusedVariables false
namespace Go.Proofs.YtfdijcdpmgkdkaaGreatDoor
open Go.RowKit

set_option maxRecDepth 100000 in
set_option maxHeartbeats 8000000 in
theorem jcomma_any (b : Nat) (l : List UInt8) (i : Nat) (w : World) (h : BldZ b l w) (hl : l.length ≤ 100000000) :
    Calls Tryz.prog 92 #[.pointer (some ⟨b, 0, none⟩), .int .i64 (i : Int)] w fun e w' => e = .returned (.tuple #[]) ∧ BldZ b (l ++ if i = 0 then [] else [44]) w' ∧ FrZ b w w' := by
  have H := Lib.hid h
  clear h
  by_cases hi : i = 0
  · subst hi
    go_enter Tryz.func92, Tryz.ntmps92
    go_wp2_with fail
    go_end0
    exact ⟨rfl, by simpa using H.out, FrZ.refl b w⟩
  · have hd : decide ((0 : Int) < ((i : Nat) : Int)) = true := decide_eq_true (by omega)
    have hi0 : 0 < i := by omega
    clear hi
    go_enter Tryz.func92, Tryz.ntmps92
    go_wp2_with fail
    refine (WriteByte_z b l 44 44 rfl w H.out (by omega)).mono ?_
    rintro e w1 ⟨rfl, hb1, hf1⟩
    have HB1 := Lib.hid hb1
    have HF1 := Lib.hid hf1
    clear hb1 hf1
    go_wp2_with fail
    go_end0
    exact ⟨rfl, by simpa [show i ≠ 0 by omega] using HB1.out, HF1.out⟩
theorem plainL_snoc (v : JV) : ∀ (l : List JV) (f : Bool), plainL f (l ++ [v]) = plainL f l ++ ((if f = true ∧ l = [] then [] else [44]) ++ plainJ v)
  | [], f => by cases f <;> simp [plainL]
  | x :: l, f => by
    simp only [List.cons_append, plainL]
    rw [plainL_snoc v l false]
    simp
theorem plainM_snoc (n : List UInt8) (v : JV) : ∀ (m : List (List UInt8 × JV)) (f : Bool), plainM f (m ++ [(n, v)]) = plainM f m ++ ((if f = true ∧ m = [] then [] else [44]) ++ (quoteL n ++ (58 :: plainJ v)))
  | [], f => by cases f <;> simp [plainM]
  | (k, x) :: m, f => by
    simp only [List.cons_append, plainM]
    rw [plainM_snoc n v m false]
    simp
theorem plainL_take (l : List JV) (j : Nat) (h : j < l.length) : plainL true (l.take (j + 1)) = plainL true (l.take j) ++ ((if j = 0 then [] else [44]) ++ plainJ l[j]) := by
  rw [List.take_add_one, List.getElem?_eq_getElem h, Option.toList_some, plainL_snoc]
  congr 2
  by_cases e : j = 0
  · subst e; simp
  · rw [if_neg e, if_neg]
    rintro ⟨_, h2⟩
    have := congrArg List.length h2
    simp only [List.length_take, List.length_nil] at this
    omega
theorem plainM_take (m : List (List UInt8 × JV)) (j : Nat) (h : j < m.length) : plainM true (m.take (j + 1)) = plainM true (m.take j) ++ ((if j = 0 then [] else [44]) ++ (quoteL m[j].1 ++ (58 :: plainJ m[j].2))) := by
  rw [List.take_add_one, List.getElem?_eq_getElem h, Option.toList_some, plainM_snoc]
  congr 2
  by_cases e : j = 0
  · subst e; simp
  · rw [if_neg e, if_neg]
    rintro ⟨_, h2⟩
    have := congrArg List.length h2
    simp only [List.length_take, List.length_nil] at this
    omega
end Go.Proofs.YtfdijcdpmgkdkaaGreatDoor
set_option linter.unusedVariables false
namespace Go.Proofs.YtfdijcdpmgkdkaaGreatDoor
open Go.RowKit

/-- What write does with a value. -/
def WriteC (b : Nat) (v : JV) : Prop := ∀ cs l w, Rep (· < b) w cs v → BldZ b l w → l.length + (plainJ v).length ≤ 100000 →
  Calls Tryz.prog 52 #[.agg cs.toArray, .pointer (some ⟨b, 0, none⟩)] w fun e w' => e = .returned (.tuple #[]) ∧ BldZ b (l ++ plainJ v) w' ∧ FrZ b w w'
set_option maxRecDepth 100000 in
set_option maxHeartbeats 32000000 in
theorem jwrite_leaf (b : Nat) (k : Int) (y : Bool) (t : List UInt8) (li : List JV) (m : List (List UInt8 × JV)) (h5 : k ≠ 5) (h6 : k ≠ 6) : WriteC b (.mk k y t li m) := by
  intro cs l w h hb hl
  obtain ⟨a, c, a', c', cl, cm, rfl, -⟩ := h.parts
  simp only [JV.kind, JV.yes, JV.text, JV.list, JV.mem, strV] at *
  have HBw := Lib.hid (show ∀ ob, BldZ b l (w.alloc ob) from fun ob => hb.below ((Below.refl _ _).alloc (Nat.le_refl _) _))
  have HFw : Hid (∀ ob, FrZ b w (w.alloc ob)) := Lib.hid fun ob => FrZ.of_below ((Below.refl _ _).alloc (Nat.le_refl _) _) (Nat.le_of_lt hb.lt)
  have HPJ : Hid (plainJ (.mk k y t li m) = if k = 1 then [110, 117, 108, 108] else if k = 2 then (if y then [116, 114, 117, 101] else [102, 97, 108, 115, 101]) else if k = 3 then t else if k = 4 then quoteL t else if k = 5 then 91 :: (plainL true li ++ [93]) else if k = 6 then 123 :: (plainM true m ++ [125]) else []) := Lib.hid (by rw [plainJ])
  have HL := Lib.hid hl
  clear h hb hl
  by_cases h1 : k = 1
  · subst h1
    have HE : Hid (plainJ (.mk 1 y t li m) = [110, 117, 108, 108]) := Lib.hid (by rw [HPJ.out]; rfl)
    rw [HE.out] at HL
    clear h5 h6 HPJ
    go_enter Tryz.func52, Tryz.ntmps52
    go_wp2_with fail
    refine (WriteString_z b l [110, 117, 108, 108] _ (HBw.out _) (by have := HL.out; simp only [List.length_cons, List.length_nil] at *; omega)).mono ?_
    rintro e w2 ⟨rfl, hb2, hf2⟩
    have HB2 := Lib.hid hb2
    have HF2 := Lib.hid ((HFw.out _).trans hf2)
    clear hb2 hf2
    go_wp2_with fail
    go_end0
    exact ⟨rfl, by rw [HE.out]; exact HB2.out, HF2.out⟩
  by_cases h2 : k = 2
  · subst h2
    cases y with
    | true =>
      have HE : Hid (plainJ (.mk 2 true t li m) = [116, 114, 117, 101]) := Lib.hid (by rw [HPJ.out]; rfl)
      rw [HE.out] at HL
      clear h5 h6 HPJ
      go_enter Tryz.func52, Tryz.ntmps52
      go_wp2_with fail
      refine (Tryz.strconv_FormatBool true _).mono ?_
      rintro e w1 ⟨rfl, rfl⟩
      go_wp2_with fail
      refine (WriteString_z b l [116, 114, 117, 101] _ (HBw.out _) (by have := HL.out; simp only [List.length_cons, List.length_nil] at *; omega)).mono ?_
      rintro e w2 ⟨rfl, hb2, hf2⟩
      have HB2 := Lib.hid hb2
      have HF2 := Lib.hid ((HFw.out _).trans hf2)
      clear hb2 hf2
      go_wp2_with fail
      go_end0
      exact ⟨rfl, by rw [HE.out]; exact HB2.out, HF2.out⟩
    | false =>
      have HE : Hid (plainJ (.mk 2 false t li m) = [102, 97, 108, 115, 101]) := Lib.hid (by rw [HPJ.out]; rfl)
      rw [HE.out] at HL
      clear h5 h6 HPJ
      go_enter Tryz.func52, Tryz.ntmps52
      go_wp2_with fail
      refine (Tryz.strconv_FormatBool false _).mono ?_
      rintro e w1 ⟨rfl, rfl⟩
      go_wp2_with fail
      refine (WriteString_z b l [102, 97, 108, 115, 101] _ (HBw.out _) (by have := HL.out; simp only [List.length_cons, List.length_nil] at *; omega)).mono ?_
      rintro e w2 ⟨rfl, hb2, hf2⟩
      have HB2 := Lib.hid hb2
      have HF2 := Lib.hid ((HFw.out _).trans hf2)
      clear hb2 hf2
      go_wp2_with fail
      go_end0
      exact ⟨rfl, by rw [HE.out]; exact HB2.out, HF2.out⟩
  by_cases h3 : k = 3
  · subst h3
    have HE : Hid (plainJ (.mk 3 y t li m) = t) := Lib.hid (by rw [HPJ.out]; rfl)
    rw [HE.out] at HL
    clear h5 h6 HPJ
    go_enter Tryz.func52, Tryz.ntmps52
    go_wp2_with fail
    refine (WriteString_z b l t _ (HBw.out _) (by have := HL.out; omega)).mono ?_
    rintro e w2 ⟨rfl, hb2, hf2⟩
    have HB2 := Lib.hid hb2
    have HF2 := Lib.hid ((HFw.out _).trans hf2)
    clear hb2 hf2
    go_wp2_with fail
    go_end0
    exact ⟨rfl, by rw [HE.out]; exact HB2.out, HF2.out⟩
  by_cases h4 : k = 4
  · subst h4
    have HE : Hid (plainJ (.mk 4 y t li m) = quoteL t) := Lib.hid (by rw [HPJ.out]; rfl)
    rw [HE.out] at HL
    clear h5 h6 HPJ
    go_enter Tryz.func52, Tryz.ntmps52
    go_wp2_with fail
    refine (jquote_any b l t _ (HBw.out _) (by have := HL.out; have := quote_len t; unfold quoteL at *; simp only [List.length_cons, List.length_append] at *; omega) (by have := HL.out; omega)).mono ?_
    rintro e w2 ⟨rfl, hb2, hf2⟩
    have HB2 := Lib.hid hb2
    have HF2 := Lib.hid ((HFw.out _).trans hf2)
    clear hb2 hf2
    go_wp2_with fail
    go_end0
    exact ⟨rfl, by rw [HE.out]; exact HB2.out, HF2.out⟩
  have HE : Hid (plainJ (.mk k y t li m) = []) := Lib.hid (by rw [HPJ.out, if_neg h1, if_neg h2, if_neg h3, if_neg h4, if_neg h5, if_neg h6])
  have q1 : (k == 1) = false := by simp [h1]
  have q2 : (k == 2) = false := by simp [h2]
  have q3 : (k == 3) = false := by simp [h3]
  have q4 : (k == 4) = false := by simp [h4]
  have q5 : (k == 5) = false := by simp [h5]
  have q6 : (k == 6) = false := by simp [h6]
  clear h1 h2 h3 h4 h5 h6 HPJ
  go_enter Tryz.func52, Tryz.ntmps52
  go_wp2_with fail
  go_end0
  exact ⟨rfl, by rw [HE.out, List.append_nil]; exact HBw.out _, HFw.out _⟩
end Go.Proofs.YtfdijcdpmgkdkaaGreatDoor
set_option linter.unusedVariables false
namespace Go.Proofs.YtfdijcdpmgkdkaaGreatDoor
open Go.RowKit

theorem plainL_pre : ∀ (a b : List JV) (f : Bool), (plainL f a).length ≤ (plainL f (a ++ b)).length
  | [], b, f => by simp [plainL]
  | x :: a, b, f => by
    have := plainL_pre a b false
    simp only [List.cons_append, plainL, List.length_append]
    omega
theorem plainL_take_le (l : List JV) (j : Nat) (f : Bool) : (plainL f (l.take j)).length ≤ (plainL f l).length := by
  have := plainL_pre (l.take j) (l.drop j) f
  rwa [List.take_append_drop] at this
theorem plainL_false : ∀ (l : List JV), l.length ≤ (plainL false l).length
  | [] => by simp
  | x :: l => by
    have := plainL_false l
    simp only [plainL, List.length_append, List.length_cons, Bool.false_eq_true, if_false]
    omega
theorem plainL_true (l : List JV) : l.length ≤ (plainL true l).length + 1 := by
  cases l with
  | nil => simp
  | cons x l =>
    have := plainL_false l
    simp only [plainL, List.length_append, List.length_cons, if_true]
    omega
theorem list_cells {ok : Nat → Prop} {w : World} {a : Option Addr} {l : List JV} {cl : List (List Value)} (h3 : RdO ok w a cl.flatten) (h4 : Reps ok w cl l) (j : Nat) (hj : j < l.length) :
    ∃ b off k2 y2 t2 a2 l2 c2 a3 l3 c3, a = some ⟨b, off, none⟩ ∧ Rep ok w [.int .i64 k2, .bool y2, .string ⟨t2⟩, .slice a2 l2 c2, .slice a3 l3 c3] l[j] ∧ w.cell? ⟨b, off + j * 5, none⟩ = some (.int .i64 k2) ∧ w.cell? ⟨b, off + j * 5 + 1, none⟩ = some (.bool y2) ∧ w.cell? ⟨b, off + j * 5 + 2, none⟩ = some (.string ⟨t2⟩) ∧ w.cell? ⟨b, off + j * 5 + 3, none⟩ = some (.slice a2 l2 c2) ∧ w.cell? ⟨b, off + j * 5 + 4, none⟩ = some (.slice a3 l3 c3) := by
  have hjc : j < cl.length := by rw [h4.1]; exact hj
  have hr := h4.2 j hjc hj
  have hg := fun i hi => flat5_get h4 j hjc i hi
  obtain ⟨a2, c2, a3, c3, _, _, hcs, _⟩ := hr.parts
  rw [hcs] at hr hg
  unfold strV at hr hg
  rcases h3 with h | ⟨b, off, e, _, hc⟩
  · have := flat5_len h4
    rw [h] at this
    simp only [List.length_nil] at this
    omega
  · exact ⟨b, off, _, _, _, _, _, _, _, _, _, e, hr, hc _ _ (hg 0 (by decide)), hc _ _ (hg 1 (by decide)), hc _ _ (hg 2 (by decide)), hc _ _ (hg 3 (by decide)), hc _ _ (hg 4 (by decide))⟩
set_option maxRecDepth 100000 in
set_option maxHeartbeats 32000000 in
theorem jwrite_arr (b : Nat) (y : Bool) (t : List UInt8) (li : List JV) (m : List (List UInt8 × JV)) (ih : ∀ x ∈ li, WriteC b x) : WriteC b (.mk 5 y t li m) := by
  intro cs l w h hb hl
  obtain ⟨a, c, a', c', cl, cm, rfl, h1, h2, -⟩ := h.parts
  simp only [JV.kind, JV.yes, JV.text, JV.list, JV.mem, strV] at *
  have HBw := Lib.hid (show ∀ ob, BldZ b l (w.alloc ob) from fun ob => hb.below ((Below.refl _ _).alloc (Nat.le_refl _) _))
  have HFw : Hid (∀ ob, FrZ b w (w.alloc ob)) := Lib.hid fun ob => FrZ.of_below ((Below.refl _ _).alloc (Nat.le_refl _) _) (Nat.le_of_lt hb.lt)
  have HPJ : Hid (plainJ (.mk 5 y t li m) = 91 :: (plainL true li ++ [93])) := Lib.hid (by rw [plainJ]; rfl)
  have hbw := hb.lt
  have HL : Hid (l.length + (plainL true li).length + 2 ≤ 100000) := Lib.hid (by
    rw [HPJ.out] at hl
    simp only [List.length_cons, List.length_append, List.length_nil] at hl
    omega)
  have HLE := Lib.hid (fun j => plainL_take_le li j true)
  have HLI : Hid (li.length ≤ 100000) := Lib.hid (by have := plainL_true li; have := HL.out; omega)
  have H1 := Lib.hid h1
  have H2 := Lib.hid h2
  have HIH := Lib.hid ih
  clear h hb hl h1 h2 ih
  go_enter Tryz.func52, Tryz.ntmps52
  go_upto_region 11 with (fail)
  have hx0 := heap_alloc_new w (.cells #[.int .i64 5, .bool y, .string ⟨t.toArray⟩, .slice a li.length c, .slice a' m.length c'] 26)
  have HB0 := Lib.hid (HBw.out (.cells #[.int .i64 5, .bool y, .string ⟨t.toArray⟩, .slice a li.length c, .slice a' m.length c'] 26))
  have HF0 := Lib.hid (HFw.out (.cells #[.int .i64 5, .bool y, .string ⟨t.toArray⟩, .slice a li.length c, .slice a' m.length c'] 26))
  generalize w.alloc _ = w0 at *
  have HX0 := Lib.hid hx0
  clear hx0 HBw HFw
  go_wp2_with fail
  refine (WriteByte_z b l 91 91 rfl w0 HB0.out (by have := HL.out; omega)).mono ?_
  rintro e w1 ⟨rfl, hb1, hf1⟩
  have HB1 := Lib.hid hb1
  have HF1 := Lib.hid (HF0.out.trans hf1)
  have hx1 := hf1.block w.heap.size _ HX0.out (by omega) (fun c e => by simp at e)
  have k3 : w1.cell? ⟨w.heap.size, 3, none⟩ = some (.slice a li.length c) := by rw [Lib.cell_of_heap hx1]; rfl
  clear hb1 hf1 hx1
  have hli : li.length ≤ 100000 := HLI.out
  go_wp2_with fail
  go_loopg [40] li.length (fun k iv wr => ∃ j : Nat, iv = .int .i64 (j : Int) ∧ j + k = li.length ∧ Hid (BldZ b (l ++ 91 :: plainL true (li.take j)) wr) ∧ Hid (FrZ b w wr))
  case atStart => exact ⟨0, rfl, by omega, Lib.hid (by simpa [plainL] using HB1.out), HF1⟩
  case round =>
    obtain ⟨j, rfl, hj, HBW, HFW⟩ := hrel
    by_cases hlt : j < li.length
    · have hltI : (j : Int) < (li.length : Int) := by omega
      obtain ⟨br, off, k2, y2, t2, a2, l2, c2, a3, l3, c3, ea, hrep, i0, i1, i2, i3, i4⟩ := list_cells (RdO.keep H1.out fun k hk _ => HFW.out.low k hk) (H2.out.keep fun k hk _ => HFW.out.low k hk) j hlt
      subst ea
      have HREP := Lib.hid hrep
      have HT := Lib.hid (plainL_take li j hlt)
      have HI := Lib.hid (HIH.out li[j] (List.getElem_mem hlt))
      have HLJ : Hid ((plainL true (li.take j)).length + ((if j = 0 then ([] : List UInt8) else [44]).length + (plainJ li[j]).length) ≤ (plainL true li).length) := Lib.hid (by
        have := HLE.out (j + 1)
        rw [HT.out] at this
        simpa only [List.length_append] using this)
      clear hrep
      go_upto_region 15 with (fail)
      have hx4 := heap_alloc_new wr (.cells #[.int .i64 k2, .bool y2, .string ⟨t2⟩, .slice a2 l2 c2, .slice a3 l3 c3] 26)
      have hb4 : Below wr.heap.size wr (wr.alloc (.cells #[.int .i64 k2, .bool y2, .string ⟨t2⟩, .slice a2 l2 c2, .slice a3 l3 c3] 26)) := (Below.refl _ _).alloc (Nat.le_refl _) _
      generalize wr.alloc _ = w4 at *
      have HX4 := Lib.hid hx4
      have HB4 := Lib.hid (HBW.out.below hb4)
      have hbr := HBW.out.lt
      have HF4 := Lib.hid (HFW.out.trans (FrZ.of_below hb4 (Nat.le_of_lt hbr)))
      have HREP4 := Lib.hid (HREP.out.under hb4)
      clear hx4 hb4 i0 i1 i2 i3 i4
      go_wp2_with fail
      refine (jcomma_any b _ j w4 HB4.out (by have := HL.out; have := HLE.out j; simp only [List.length_append, List.length_cons]; omega)).mono ?_
      rintro e w5 ⟨rfl, hb5, hf5⟩
      have HB5 := Lib.hid hb5
      have HF5 := Lib.hid (HF4.out.trans hf5)
      have HX5 := Lib.hid (hf5.block wr.heap.size _ HX4.out (by omega) (fun c e => by simp at e))
      have HREP5 := Lib.hid (HREP4.out.keep fun k hk _ => hf5.low k hk)
      have v0 : w5.cell? ⟨wr.heap.size, 0, none⟩ = some (.int .i64 k2) := by rw [Lib.cell_of_heap HX5.out]; rfl
      have v1 : w5.cell? ⟨wr.heap.size, 1, none⟩ = some (.bool y2) := by rw [Lib.cell_of_heap HX5.out]; rfl
      have v2 : w5.cell? ⟨wr.heap.size, 2, none⟩ = some (.string ⟨t2⟩) := by rw [Lib.cell_of_heap HX5.out]; rfl
      have v3 : w5.cell? ⟨wr.heap.size, 3, none⟩ = some (.slice a2 l2 c2) := by rw [Lib.cell_of_heap HX5.out]; rfl
      have v4 : w5.cell? ⟨wr.heap.size, 4, none⟩ = some (.slice a3 l3 c3) := by rw [Lib.cell_of_heap HX5.out]; rfl
      clear hb5 hf5
      go_wp2_with fail
      refine (HI.out [.int .i64 k2, .bool y2, .string ⟨t2⟩, .slice a2 l2 c2, .slice a3 l3 c3] _ w5 HREP5.out HB5.out (by have := HL.out; have := HLJ.out; simp only [List.length_append, List.length_cons] at *; omega)).mono ?_
      rintro e w6 ⟨rfl, hb6, hf6⟩
      have HB6 : Hid (BldZ b (l ++ 91 :: plainL true (li.take (j + 1))) w6) := Lib.hid (by rw [HT.out]; simpa using hb6)
      have HF6 := Lib.hid (HF5.out.trans hf6)
      clear hb6 hf6
      go_wp2_with fail
      go_roundg (gk - 1)
      case measure => omega
      case rel => exact ⟨j + 1, by first | rfl | (congr 1), by omega, HB6, HF6⟩
    · have hge : ¬ (j : Int) < (li.length : Int) := by omega
      have HBE : Hid (BldZ b (l ++ 91 :: plainL true li) wr) := Lib.hid (by have := HBW.out; rwa [List.take_of_length_le (by omega)] at this)
      go_wp2_with fail
      refine (WriteByte_z b _ 93 93 rfl wr HBE.out (by have := HL.out; simp only [List.length_append, List.length_cons]; omega)).mono ?_
      rintro e w5 ⟨rfl, hb5, hf5⟩
      have HB5 : Hid (BldZ b (l ++ plainJ (.mk 5 y t li m)) w5) := Lib.hid (by rw [HPJ.out]; simpa using hb5)
      have HF5 := Lib.hid (HFW.out.trans hf5)
      clear hb5 hf5
      go_wp2_with fail
      go_end0
      exact ⟨rfl, HB5.out, HF5.out⟩
end Go.Proofs.YtfdijcdpmgkdkaaGreatDoor
set_option linter.unusedVariables false
namespace Go.Proofs.YtfdijcdpmgkdkaaGreatDoor
open Go.RowKit

theorem plainM_pre : ∀ (a b : List (List UInt8 × JV)) (f : Bool), (plainM f a).length ≤ (plainM f (a ++ b)).length
  | [], b, f => by simp [plainM]
  | (n, x) :: a, b, f => by
    have := plainM_pre a b false
    simp only [List.cons_append, plainM, List.length_append, List.length_cons]
    omega
theorem plainM_take_le (l : List (List UInt8 × JV)) (j : Nat) (f : Bool) : (plainM f (l.take j)).length ≤ (plainM f l).length := by
  have := plainM_pre (l.take j) (l.drop j) f
  rwa [List.take_append_drop] at this
theorem plainM_true : ∀ (l : List (List UInt8 × JV)) (f : Bool), l.length ≤ (plainM f l).length
  | [], f => by simp
  | (n, x) :: l, f => by
    have := plainM_true l false
    simp only [plainM, List.length_append, List.length_cons]
    omega
set_option maxRecDepth 100000 in
set_option maxHeartbeats 32000000 in
theorem jwrite_obj (b : Nat) (y : Bool) (t : List UInt8) (li : List JV) (m : List (List UInt8 × JV)) (ih : ∀ x ∈ m, WriteC b x.2) : WriteC b (.mk 6 y t li m) := by
  intro cs l w h hb hl
  obtain ⟨a, c, a', c', cl, cm, rfl, -, -, h1, h2, -⟩ := h.parts
  simp only [JV.kind, JV.yes, JV.text, JV.list, JV.mem, strV] at *
  have HBw := Lib.hid (show ∀ ob, BldZ b l (w.alloc ob) from fun ob => hb.below ((Below.refl _ _).alloc (Nat.le_refl _) _))
  have HFw : Hid (∀ ob, FrZ b w (w.alloc ob)) := Lib.hid fun ob => FrZ.of_below ((Below.refl _ _).alloc (Nat.le_refl _) _) (Nat.le_of_lt hb.lt)
  have HPJ : Hid (plainJ (.mk 6 y t li m) = 123 :: (plainM true m ++ [125])) := Lib.hid (by rw [plainJ]; rfl)
  have hbw := hb.lt
  have HL : Hid (l.length + (plainM true m).length + 2 ≤ 100000) := Lib.hid (by
    rw [HPJ.out] at hl
    simp only [List.length_cons, List.length_append, List.length_nil] at hl
    omega)
  have HLE := Lib.hid (fun j => plainM_take_le m j true)
  have HLI : Hid (m.length ≤ 100000) := Lib.hid (by have := plainM_true m true; have := HL.out; omega)
  have H1 := Lib.hid h1
  have H2 := Lib.hid h2
  have HIH := Lib.hid ih
  clear h hb hl h1 h2 ih
  go_enter Tryz.func52, Tryz.ntmps52
  go_upto_region 20 with (fail)
  have hx0 := heap_alloc_new w (.cells #[.int .i64 6, .bool y, .string ⟨t.toArray⟩, .slice a li.length c, .slice a' m.length c'] 26)
  have HB0 := Lib.hid (HBw.out (.cells #[.int .i64 6, .bool y, .string ⟨t.toArray⟩, .slice a li.length c, .slice a' m.length c'] 26))
  have HF0 := Lib.hid (HFw.out (.cells #[.int .i64 6, .bool y, .string ⟨t.toArray⟩, .slice a li.length c, .slice a' m.length c'] 26))
  generalize w.alloc _ = w0 at *
  have HX0 := Lib.hid hx0
  clear hx0 HBw HFw
  go_wp2_with fail
  refine (WriteByte_z b l 123 123 rfl w0 HB0.out (by have := HL.out; omega)).mono ?_
  rintro e w1 ⟨rfl, hb1, hf1⟩
  have HB1 := Lib.hid hb1
  have HF1 := Lib.hid (HF0.out.trans hf1)
  have hx1 := hf1.block w.heap.size _ HX0.out (by omega) (fun c e => by simp at e)
  have k3 : w1.cell? ⟨w.heap.size, 4, none⟩ = some (.slice a' m.length c') := by rw [Lib.cell_of_heap hx1]; rfl
  clear hb1 hf1 hx1
  have hli : m.length ≤ 100000 := HLI.out
  go_wp2_with fail
  go_loopg [61] m.length (fun k iv wr => ∃ j : Nat, iv = .int .i64 (j : Int) ∧ j + k = m.length ∧ Hid (BldZ b (l ++ 123 :: plainM true (m.take j)) wr) ∧ Hid (FrZ b w wr))
  case atStart => exact ⟨0, rfl, by omega, Lib.hid (by simpa [plainM] using HB1.out), HF1⟩
  case round =>
    obtain ⟨j, rfl, hj, HBW, HFW⟩ := hrel
    by_cases hlt : j < m.length
    · have hltI : (j : Int) < (m.length : Int) := by omega
      obtain ⟨br, off, k2, y2, t2, a2, l2, c2, a3, l3, c3, ea, hrep, i0, i1, i2, i3, i4, i5⟩ := mem_cells' (RdO.keep H1.out fun k hk _ => HFW.out.low k hk) (H2.out.keep fun k hk _ => HFW.out.low k hk) j hlt
      subst ea
      have HREP := Lib.hid hrep
      obtain ⟨nm, hnm⟩ : ∃ x, m[j].1 = x := ⟨_, rfl⟩
      have HT : Hid (plainM true (m.take (j + 1)) = plainM true (m.take j) ++ ((if j = 0 then [] else [44]) ++ (quoteL nm ++ (58 :: plainJ m[j].2)))) := Lib.hid (by rw [plainM_take m j hlt, hnm])
      rw [hnm] at i0
      clear hnm
      have HI := Lib.hid (HIH.out m[j] (List.getElem_mem hlt))
      have HLJ : Hid ((plainM true (m.take j)).length + ((if j = 0 then ([] : List UInt8) else [44]).length + ((quoteL nm).length + ((plainJ m[j].2).length + 1))) ≤ (plainM true m).length) := Lib.hid (by
        have := HLE.out (j + 1)
        rw [HT.out] at this
        simpa only [List.length_append, List.length_cons] using this)
      clear hrep
      go_upto_region 24 with (fail)
      have hx4 := heap_alloc_new wr (.cells #[.string ⟨nm.toArray⟩, .int .i64 k2, .bool y2, .string ⟨t2⟩, .slice a2 l2 c2, .slice a3 l3 c3] 35)
      have hb4 : Below wr.heap.size wr (wr.alloc (.cells #[.string ⟨nm.toArray⟩, .int .i64 k2, .bool y2, .string ⟨t2⟩, .slice a2 l2 c2, .slice a3 l3 c3] 35)) := (Below.refl _ _).alloc (Nat.le_refl _) _
      generalize wr.alloc _ = w4 at *
      have HX4 := Lib.hid hx4
      have HB4 := Lib.hid (HBW.out.below hb4)
      have hbr := HBW.out.lt
      have HF4 := Lib.hid (HFW.out.trans (FrZ.of_below hb4 (Nat.le_of_lt hbr)))
      have HREP4 := Lib.hid (HREP.out.under hb4)
      clear hx4 hb4 i0 i1 i2 i3 i4 i5
      go_wp2_with fail
      refine (jcomma_any b _ j w4 HB4.out (by have := HL.out; have := HLE.out j; simp only [List.length_append, List.length_cons]; omega)).mono ?_
      rintro e w5 ⟨rfl, hb5, hf5⟩
      have HB5 := Lib.hid hb5
      have HF5 := Lib.hid (HF4.out.trans hf5)
      have HX5 := Lib.hid (hf5.block wr.heap.size _ HX4.out (by omega) (fun c e => by simp at e))
      have HREP5 := Lib.hid (HREP4.out.keep fun k hk _ => hf5.low k hk)
      have n0 : w5.cell? ⟨wr.heap.size, 0, none⟩ = some (.string ⟨nm.toArray⟩) := by rw [Lib.cell_of_heap HX5.out]; rfl
      clear hb5 hf5
      go_wp2_with fail
      refine (jquote_any b _ nm w5 HB5.out (by have := HL.out; have := HLJ.out; have := quote_len nm; unfold quoteL at *; simp only [List.length_append, List.length_cons, List.length_nil] at *; omega) (by have := HL.out; have := HLJ.out; simp only [List.length_append, List.length_cons] at *; omega)).mono ?_
      rintro e w7 ⟨rfl, hb7, hf7⟩
      have HB7 := Lib.hid hb7
      have HF7 := Lib.hid (HF5.out.trans hf7)
      have HX7 := Lib.hid (hf7.block wr.heap.size _ HX5.out (by omega) (fun c e => by simp at e))
      have HREP7 := Lib.hid (HREP5.out.keep fun k hk _ => hf7.low k hk)
      clear hb7 hf7 n0
      go_wp2_with fail
      refine (WriteByte_z b _ 58 58 rfl w7 HB7.out (by have := HL.out; have := HLJ.out; simp only [List.length_append, List.length_cons] at *; omega)).mono ?_
      rintro e w8 ⟨rfl, hb8, hf8⟩
      have HB8 := Lib.hid hb8
      have HF8 := Lib.hid (HF7.out.trans hf8)
      have HX8 := Lib.hid (hf8.block wr.heap.size _ HX7.out (by omega) (fun c e => by simp at e))
      have HREP8 := Lib.hid (HREP7.out.keep fun k hk _ => hf8.low k hk)
      have v0 : w8.cell? ⟨wr.heap.size, 0, none⟩ = some (.string ⟨nm.toArray⟩) := by rw [Lib.cell_of_heap HX8.out]; rfl
      have v1 : w8.cell? ⟨wr.heap.size, 1, none⟩ = some (.int .i64 k2) := by rw [Lib.cell_of_heap HX8.out]; rfl
      have v2 : w8.cell? ⟨wr.heap.size, 2, none⟩ = some (.bool y2) := by rw [Lib.cell_of_heap HX8.out]; rfl
      have v3 : w8.cell? ⟨wr.heap.size, 3, none⟩ = some (.string ⟨t2⟩) := by rw [Lib.cell_of_heap HX8.out]; rfl
      have v4 : w8.cell? ⟨wr.heap.size, 4, none⟩ = some (.slice a2 l2 c2) := by rw [Lib.cell_of_heap HX8.out]; rfl
      have v5 : w8.cell? ⟨wr.heap.size, 5, none⟩ = some (.slice a3 l3 c3) := by rw [Lib.cell_of_heap HX8.out]; rfl
      clear hb8 hf8
      go_wp2_with fail
      refine (HI.out [.int .i64 k2, .bool y2, .string ⟨t2⟩, .slice a2 l2 c2, .slice a3 l3 c3] _ w8 HREP8.out HB8.out (by have := HL.out; have := HLJ.out; simp only [List.length_append, List.length_cons, List.length_nil] at *; omega)).mono ?_
      rintro e w6 ⟨rfl, hb6, hf6⟩
      have HB6 : Hid (BldZ b (l ++ 123 :: plainM true (m.take (j + 1))) w6) := Lib.hid (by rw [HT.out]; simpa using hb6)
      have HF6 := Lib.hid (HF8.out.trans hf6)
      clear hb6 hf6
      go_wp2_with fail
      go_roundg (gk - 1)
      case measure => omega
      case rel => exact ⟨j + 1, by first | rfl | (congr 1), by omega, HB6, HF6⟩
    · have hge : ¬ (j : Int) < (m.length : Int) := by omega
      have HBE : Hid (BldZ b (l ++ 123 :: plainM true m) wr) := Lib.hid (by have := HBW.out; rwa [List.take_of_length_le (by omega)] at this)
      go_wp2_with fail
      refine (WriteByte_z b _ 125 125 rfl wr HBE.out (by have := HL.out; simp only [List.length_append, List.length_cons]; omega)).mono ?_
      rintro e w5 ⟨rfl, hb5, hf5⟩
      have HB5 : Hid (BldZ b (l ++ plainJ (.mk 6 y t li m)) w5) := Lib.hid (by rw [HPJ.out]; simpa using hb5)
      have HF5 := Lib.hid (HFW.out.trans hf5)
      clear hb5 hf5
      go_wp2_with fail
      go_end0
      exact ⟨rfl, HB5.out, HF5.out⟩
end Go.Proofs.YtfdijcdpmgkdkaaGreatDoor
set_option linter.unusedVariables false
namespace Go.Proofs.YtfdijcdpmgkdkaaGreatDoor
open Go.RowKit

/-- What Right says of a value. -/
def RightC (v : JV) : Prop := ∀ (ok : Nat → Prop) cs w, Rep ok w cs v → Calls Tryz.prog 14 #[.agg cs.toArray] w fun e w' => e = .returned (.bool (rightJ v)) ∧ Below w.heap.size w w'
set_option maxRecDepth 100000 in
set_option maxHeartbeats 8000000 in
theorem jright1_any (v : JV) (hv : RightC v) (ok : Nat → Prop) (cs : List Value) (w : World) (h : Rep ok w cs v) :
    Calls Tryz.prog 47 #[.agg cs.toArray] w fun e w' => e = .returned (.bool (!rightJ v)) ∧ Below w.heap.size w w' := by
  obtain ⟨a, c, a', c', cl, cm, rfl, -⟩ := h.parts
  unfold strV at *
  have hb : ∀ ob, Below w.heap.size w (w.alloc ob) := fun ob => (Below.refl _ _).alloc (Nat.le_refl _) _
  have HB := Lib.hid hb
  have HC : Hid (∀ ob, Calls Tryz.prog 14 #[.agg #[.int .i64 v.kind, .bool v.yes, .string ⟨v.text.toArray⟩, .slice a v.list.length c, .slice a' v.mem.length c']] (w.alloc ob) fun e w' => e = .returned (.bool (rightJ v)) ∧ Below (w.alloc ob).heap.size (w.alloc ob) w') := Lib.hid fun ob => hv ok _ _ (h.under (hb ob))
  clear h hb hv
  go_enter Tryz.func47, Tryz.ntmps47
  go_wp2_with fail
  refine (HC.out _).mono ?_
  rintro e w2 ⟨rfl, hb2⟩
  have HB2 := Lib.hid ((HB.out _).trans (hb2.mono (by simp)))
  clear hb2
  go_wp2_with fail
  refine bodyPost_ret (results_tmp rfl _ _ _) rfl ?_
  exact ⟨rfl, HB2.out⟩
theorem rightL_drop {l : List JV} {j : Nat} (h : j < l.length) : rightL (l.drop j) = (rightJ l[j] && rightL (l.drop (j + 1))) := by
  rw [List.drop_eq_getElem_cons h]
  rfl
set_option maxRecDepth 100000 in
set_option maxHeartbeats 8000000 in
theorem jindexf_any (l : List JV) (hv : ∀ x ∈ l, RightC x) (ok : Nat → Prop) (a : Option Addr) (c : Nat) (cl : List (List Value)) (w : World) (h1 : RdO ok w a cl.flatten) (h2 : Reps ok w cl l) (hl : l.length ≤ 10000000) :
    Calls Tryz.prog 85 #[.slice a l.length c, .func (.func 47) #[] #[]] w fun e w' => Below w.heap.size w w' ∧ ∃ i : Int, e = .returned (.int .i64 i) ∧ decide (0 ≤ i) = !rightL l := by
  have H1 := Lib.hid h1.lt
  have H2 := Lib.hid (show Reps (fun b => ok b ∧ b < w.heap.size) w cl l from h2.lt)
  have HV := Lib.hid hv
  clear h1 h2 hv
  go_enter Tryz.func85, Tryz.ntmps85
  go_wp2_with fail
  go_loopg [8] l.length (fun k iv wr => ∃ j : Nat, iv = .int .i64 (j : Int) ∧ j + k = l.length ∧ Hid (rightL l = rightL (l.drop j)) ∧ Hid (Below w.heap.size w wr))
  case atStart => exact ⟨0, rfl, by omega, Lib.hid rfl, Lib.hid (Below.refl _ _)⟩
  case round =>
    obtain ⟨j, rfl, hj, hd, HB⟩ := hrel
    by_cases hlt : j < l.length
    · have hltI : (j : Int) < (l.length : Int) := by omega
      obtain ⟨br, off, k2, y2, t2, a2, l2, c2, a3, l3, c3, ea, hrep, i0, i1, i2, i3, i4⟩ := list_cells (RdO.keep H1.out fun k hk _ => HB.out.block k hk.2) (H2.out.keep fun k hk _ => HB.out.block k hk.2) j hlt
      subst ea
      have HD := Lib.hid (rightL_drop hlt)
      have HC := Lib.hid (jright1_any l[j] (HV.out _ (List.getElem_mem hlt)) _ _ wr hrep)
      clear hrep
      obtain ⟨rb, hrb⟩ : ∃ x, rightJ l[j] = x := ⟨_, rfl⟩
      rw [hrb] at HC HD
      clear hrb
      cases rb with
      | true =>
        go_wp2_with fail
        refine HC.out.mono ?_
        rintro e w2 ⟨rfl, hb2⟩
        have HB2 := Lib.hid (HB.out.trans (hb2.mono HB.out.size))
        clear hb2
        go_wp2_with fail
        go_roundg (gk - 1)
        case measure => omega
        case rel => exact ⟨j + 1, by first | rfl | (congr 1), by omega, Lib.hid (by rw [hd.out, HD.out]; rfl), HB2⟩
      | false =>
        go_wp2_with fail
        refine HC.out.mono ?_
        rintro e w2 ⟨rfl, hb2⟩
        have HB2 := Lib.hid (HB.out.trans (hb2.mono HB.out.size))
        clear hb2
        go_wp2_with fail
        refine bodyPost_ret (results_tmp rfl _ _ _) rfl ?_
        exact ⟨HB2.out, (j : Int), rfl, by rw [hd.out, HD.out]; simp⟩
    · have hge : ¬ (j : Int) < (l.length : Int) := by omega
      have HE : Hid (rightL l = true) := Lib.hid (by rw [hd.out, List.drop_eq_nil_of_le (by omega)]; rfl)
      go_wp2_with fail
      refine bodyPost_ret (results_tmp rfl _ _ _) rfl ?_
      exact ⟨HB.out, -1, rfl, by rw [HE.out]; rfl⟩
set_option maxRecDepth 100000 in
set_option maxHeartbeats 8000000 in
theorem jcontains_any (l : List JV) (hv : ∀ x ∈ l, RightC x) (ok : Nat → Prop) (a : Option Addr) (c : Nat) (cl : List (List Value)) (w : World) (h1 : RdO ok w a cl.flatten) (h2 : Reps ok w cl l) (hl : l.length ≤ 10000000) :
    Calls Tryz.prog 46 #[.slice a l.length c, .func (.func 47) #[] #[]] w fun e w' => e = .returned (.bool (!rightL l)) ∧ Below w.heap.size w w' := by
  have HI := Lib.hid (jindexf_any l hv ok a c cl w h1 h2 hl)
  clear hv h1 h2
  go_enter Tryz.func46, Tryz.ntmps46
  go_wp2_with fail
  refine HI.out.mono ?_
  rintro e w2 ⟨hb2, i, rfl, hi⟩
  have HB2 := Lib.hid hb2
  have HIX := Lib.hid hi
  clear hb2 hi
  go_wp2_with fail
  refine bodyPost_ret (results_tmp rfl _ _ _) rfl ?_
  exact ⟨by rw [← HIX.out]; rfl, HB2.out⟩
end Go.Proofs.YtfdijcdpmgkdkaaGreatDoor
set_option linter.unusedVariables false
namespace Go.Proofs.YtfdijcdpmgkdkaaGreatDoor
open Go.RowKit

theorem right_eq (k : Int) (y : Bool) (t : List UInt8) (l : List JV) (m : List (List UInt8 × JV)) : rightJ (.mk k y t l m) = (bareB k y t l.length m.length && (k == 1 || k == 2 || (k == 3 && numericB t) || (k == 4 && toldB t) || (k == 5 && rightL l) || (k == 6 && rightM m))) := by
  rw [rightJ]
  unfold bareB
  cases l <;> cases m <;> rfl
set_option maxRecDepth 100000 in
set_option maxHeartbeats 16000000 in
theorem jright_leaf (k : Int) (y : Bool) (t : List UInt8) (l : List JV) (m : List (List UInt8 × JV)) (h5 : k ≠ 5) (h6 : k ≠ 6) (ht : t.length ≤ 1000000) : RightC (.mk k y t l m) := by
  intro ok cs w h
  obtain ⟨a, c, a', c', cl, cm, rfl, -⟩ := h.parts
  simp only [JV.kind, JV.yes, JV.text, JV.list, JV.mem, strV] at *
  have HW : Hid (∀ ob, Below w.heap.size w (w.alloc ob)) := Lib.hid fun ob => (Below.refl _ _).alloc (Nat.le_refl _) _
  have HRT := Lib.hid (right_eq k y t l m)
  have q5 : (k == 5) = false := by simp [h5]
  have q6 : (k == 6) = false := by simp [h6]
  have HB : Hid (∀ ob, Calls Tryz.prog 43 #[.agg #[.int .i64 k, .bool y, .string ⟨t.toArray⟩, .slice a l.length c, .slice a' m.length c']] (w.alloc ob) fun e w' => e = .returned (.bool (bareB k y t l.length m.length)) ∧ Below (w.alloc ob).heap.size (w.alloc ob) w') := Lib.hid fun ob => jbare_any k y t a a' l.length m.length c c' (w.alloc ob)
  have HG : Hid (∀ ob, (w.alloc ob).heap[w.heap.size]? = some ob) := Lib.hid fun ob => heap_alloc_new w ob
  have HZ : Hid (∀ ob, (w.alloc ob).heap.size = w.heap.size + 1) := Lib.hid fun ob => by simp
  clear h h5 h6
  go_enter Tryz.func14, Tryz.ntmps14
  go_wp2_with fail
  refine (HB.out _).mono ?_
  rintro e w2 ⟨rfl, hb2⟩
  have HB2 := Lib.hid ((HW.out _).trans (hb2.mono (by simp)))
  have hx2 := (hb2.block w.heap.size (by simp)).trans (HG.out _)
  have c0 : w2.cell? ⟨w.heap.size, 0, none⟩ = some (.int .i64 k) := by rw [Lib.cell_of_heap hx2]; rfl
  have c2 : w2.cell? ⟨w.heap.size, 2, none⟩ = some (.string ⟨t.toArray⟩) := by rw [Lib.cell_of_heap hx2]; rfl
  clear hb2 hx2 HB HG HZ
  cases hbb : bareB k y t l.length m.length with
  | false =>
    rw [hbb] at HRT
    clear hbb
    go_wp2_with fail
    refine bodyPost_ret (results_tmp rfl _ _ _) rfl ?_
    exact ⟨by rw [HRT.out]; rfl, HB2.out⟩
  | true =>
    rw [hbb] at HRT
    clear hbb
    by_cases h3 : k = 3
    · subst h3
      have HE : Hid (rightJ (.mk 3 y t l m) = numericB t) := Lib.hid (by rw [HRT.out]; cases numericB t <;> rfl)
      clear HRT
      go_wp2_with fail
      refine (jnumeric_any t w2 ht).mono ?_
      rintro e w3 ⟨rfl, hb3⟩
      have HB3 := Lib.hid (HB2.out.trans (hb3.mono HB2.out.size))
      clear hb3
      go_wp2_with fail
      refine bodyPost_ret (results_tmp rfl _ _ _) rfl ?_
      exact ⟨by rw [HE.out]; rfl, HB3.out⟩
    by_cases h4 : k = 4
    · subst h4
      have HE : Hid (rightJ (.mk 4 y t l m) = toldB t) := Lib.hid (by rw [HRT.out]; cases toldB t <;> rfl)
      clear HRT
      go_wp2_with fail
      refine (told_any t w2 ht).mono ?_
      rintro e w3 ⟨rfl, hb3⟩
      have HB3 := Lib.hid (HB2.out.trans (hb3.mono HB2.out.size))
      clear hb3
      go_wp2_with fail
      refine bodyPost_ret (results_tmp rfl _ _ _) rfl ?_
      exact ⟨by rw [HE.out]; rfl, HB3.out⟩
    have q3 : (k == 3) = false := by simp [h3]
    have q4 : (k == 4) = false := by simp [h4]
    clear h3 h4
    rw [q3, q4, q5, q6] at HRT
    by_cases h1 : k = 1
    · subst h1
      have HE : Hid (rightJ (.mk 1 y t l m) = true) := Lib.hid (by rw [HRT.out]; rfl)
      clear HRT
      go_wp2_with fail
      refine bodyPost_ret (results_tmp rfl _ _ _) rfl ?_
      exact ⟨by rw [HE.out]; rfl, HB2.out⟩
    by_cases h2 : k = 2
    · subst h2
      have HE : Hid (rightJ (.mk 2 y t l m) = true) := Lib.hid (by rw [HRT.out]; rfl)
      clear HRT
      go_wp2_with fail
      refine bodyPost_ret (results_tmp rfl _ _ _) rfl ?_
      exact ⟨by rw [HE.out]; rfl, HB2.out⟩
    have q1 : (k == 1) = false := by simp [h1]
    have q2 : (k == 2) = false := by simp [h2]
    have HE : Hid (rightJ (.mk k y t l m) = false) := Lib.hid (by rw [HRT.out, q1, q2]; rfl)
    clear h1 h2 HRT
    go_wp2_with fail
    refine bodyPost_ret (results_tmp rfl _ _ _) rfl ?_
    exact ⟨by rw [HE.out]; rfl, HB2.out⟩
end Go.Proofs.YtfdijcdpmgkdkaaGreatDoor
set_option linter.unusedVariables false
namespace Go.Proofs.YtfdijcdpmgkdkaaGreatDoor
open Go.RowKit

theorem jwrite_any (b : Nat) : ∀ (N : Nat) (v : JV), SizeOf.sizeOf v ≤ N → WriteC b v := by
  intro N
  induction N with
  | zero =>
    intro v h
    obtain ⟨k, y, t, l, m⟩ := v
    simp at h
  | succ N ih =>
    intro v h
    obtain ⟨k, y, t, l, m⟩ := v
    have hs : SizeOf.sizeOf (JV.mk k y t l m) = 1 + SizeOf.sizeOf k + SizeOf.sizeOf y + SizeOf.sizeOf t + SizeOf.sizeOf l + SizeOf.sizeOf m := by simp
    by_cases h5 : k = 5
    · subst h5
      exact jwrite_arr b y t l m fun x hx => ih x (by have := sizeOf_list hx; omega)
    by_cases h6 : k = 6
    · subst h6
      exact jwrite_obj b y t l m fun x hx => ih x.2 (by have := sizeOf_mem hx; omega)
    exact jwrite_leaf b k y t l m h5 h6
theorem jwrite (b : Nat) (v : JV) : WriteC b v := jwrite_any b _ v (Nat.le_refl _)
end Go.Proofs.YtfdijcdpmgkdkaaGreatDoor
set_option linter.unusedVariables false
namespace Go.Proofs.YtfdijcdpmgkdkaaGreatDoor
open Go.RowKit

set_option maxRecDepth 100000 in
set_option maxHeartbeats 16000000 in
theorem jprint_any (v : JV) (hv : RightC v) (ok : Nat → Prop) (cs : List Value) (w : World) (h : Rep ok w cs v) (hl : (plainJ v).length ≤ 100000) :
    Calls Tryz.prog 21 #[.agg cs.toArray] w fun e w' => e = .returned (.tuple #[.string ⟨(if rightJ v then plainJ v else []).toArray⟩, .int .i64 (if rightJ v then 0 else 10)]) ∧ Below w.heap.size w w' := by
  obtain ⟨a, c, a', c', cl, cm, rfl, -⟩ := h.parts
  unfold strV at *
  have HR0 := Lib.hid h.lt
  have HV := Lib.hid hv
  clear h hv
  go_enter Tryz.func21, Tryz.ntmps21
  go_upto_region 1 with (fail)
  have hb1 : Below w.heap.size w (w.alloc (.cells #[.int .i64 v.kind, .bool v.yes, .string ⟨v.text.toArray⟩, .slice a v.list.length c, .slice a' v.mem.length c'] 26)) := (Below.refl _ _).alloc (Nat.le_refl _) _
  have hx1 := heap_alloc_new w (.cells #[.int .i64 v.kind, .bool v.yes, .string ⟨v.text.toArray⟩, .slice a v.list.length c, .slice a' v.mem.length c'] 26)
  generalize w.alloc _ = w1 at *
  have HB1 := Lib.hid hb1
  have HX1 := Lib.hid hx1
  have hs1 : w.heap.size < w1.heap.size := (Array.getElem?_eq_some_iff.1 hx1).1
  have HR1 := Lib.hid (HR0.out.under hb1)
  have v0 : w1.cell? ⟨w.heap.size, 0, none⟩ = some (.int .i64 v.kind) := by rw [Lib.cell_of_heap hx1]; rfl
  have v1 : w1.cell? ⟨w.heap.size, 1, none⟩ = some (.bool v.yes) := by rw [Lib.cell_of_heap hx1]; rfl
  have v2 : w1.cell? ⟨w.heap.size, 2, none⟩ = some (.string ⟨v.text.toArray⟩) := by rw [Lib.cell_of_heap hx1]; rfl
  have v3 : w1.cell? ⟨w.heap.size, 3, none⟩ = some (.slice a v.list.length c) := by rw [Lib.cell_of_heap hx1]; rfl
  have v4 : w1.cell? ⟨w.heap.size, 4, none⟩ = some (.slice a' v.mem.length c') := by rw [Lib.cell_of_heap hx1]; rfl
  clear hb1 hx1 HR0
  go_wp2_with fail
  refine (HV.out _ _ w1 HR1.out).mono ?_
  rintro e w2 ⟨rfl, hb2⟩
  have HB2 := Lib.hid (HB1.out.trans (hb2.mono HB1.out.size))
  have HX2 := Lib.hid ((hb2.block _ hs1).trans HX1.out)
  have hs2 : w.heap.size < w2.heap.size := Nat.lt_of_lt_of_le hs1 hb2.size
  have HR2 := Lib.hid (HR1.out.under hb2)
  clear hb2 v0 v1 v2 v3 v4 HR1 HX1 HB1
  cases hr : rightJ v with
  | false =>
    go_wp2_with fail
    all_goals (refine bodyPost_ret (v := .tuple #[.string ⟨#[]⟩, .int .i64 10]) (by simp [results, Tryz.results21, go_sem]) rfl ?_; exact ⟨rfl, HB2.out⟩)
  | true =>
    go_upto_region 4 with (fail)
    have HBN := Lib.hid (BldZ.fresh w2)
    have hb3 : Below w2.heap.size w2 (w2.alloc (.cells #[.pointer none, .slice none 0 0] 87 (0, 0))) := (Below.refl _ _).alloc (Nat.le_refl _) _
    generalize w2.alloc _ = w3 at *
    have HX3 := Lib.hid ((hb3.block _ hs2).trans HX2.out)
    have HB3 := Lib.hid (HB2.out.trans (hb3.mono HB2.out.size))
    have HR3 := Lib.hid ((HR2.out.under hb3).mono fun k hk => (show k < w2.heap.size by have := hk.2; omega))
    have v0 : w3.cell? ⟨w.heap.size, 0, none⟩ = some (.int .i64 v.kind) := by rw [Lib.cell_of_heap HX3.out]; rfl
    have v1 : w3.cell? ⟨w.heap.size, 1, none⟩ = some (.bool v.yes) := by rw [Lib.cell_of_heap HX3.out]; rfl
    have v2 : w3.cell? ⟨w.heap.size, 2, none⟩ = some (.string ⟨v.text.toArray⟩) := by rw [Lib.cell_of_heap HX3.out]; rfl
    have v3 : w3.cell? ⟨w.heap.size, 3, none⟩ = some (.slice a v.list.length c) := by rw [Lib.cell_of_heap HX3.out]; rfl
    have v4 : w3.cell? ⟨w.heap.size, 4, none⟩ = some (.slice a' v.mem.length c') := by rw [Lib.cell_of_heap HX3.out]; rfl
    clear hb3
    go_wp2_with fail
    refine (jwrite w2.heap.size v _ [] w3 HR3.out HBN.out (by simpa using hl)).mono ?_
    rintro e w4 ⟨rfl, hb4, hf4⟩
    have HB4 := Lib.hid hb4
    have HF4 := Lib.hid (HB3.out.trans (hf4.below.mono (Nat.le_of_lt hs2)))
    clear hb4 hf4
    go_wp2_with fail
    refine (BString_any w2.heap.size _ w4 HB4.out.bld).mono ?_
    rintro e w5 ⟨rfl, _, hb5, _⟩
    have HB5 := Lib.hid (HF4.out.trans (hb5.mono (Nat.le_of_lt hs2)))
    clear hb5
    go_wp2_with fail
    refine bodyPost_ret (v := .tuple #[.string ⟨(plainJ v).toArray⟩, .int .i64 0]) (by simp [results, Tryz.results21, go_sem]) rfl ?_
    exact ⟨rfl, HB5.out⟩
end Go.Proofs.YtfdijcdpmgkdkaaGreatDoor
set_option linter.unusedVariables false
namespace Go.Proofs.YtfdijcdpmgkdkaaGreatDoor
open Go.RowKit

/-- Compact of a row that is sorted: how much is left. -/
def CutC (B : Nat) (lv : Value) (ns : List (List UInt8)) (w1 : World) : Prop := ∀ w2 : World, w2.heap = w1.heap → Calls Tryz.prog 87 #[lv] w2 fun e w3 => (∃ a c, e = .returned (.slice a (Lib.compact (ns.mergeSort leL)).length c)) ∧ Below B w2 w3
theorem holds_heap {w w' : World} {g : Nat} {d : Array (List UInt8)} (h : Sort.Holds encStr w g 0 d) (e : w'.heap = w.heap) : Sort.Holds encStr w' g 0 d := by
  intro j hj
  have := h j hj
  unfold World.cell? World.frozen? at *
  rw [e]
  exact this
theorem below_grownBy {B g : Nat} {w w' : World} (h : w.grownBy w' (some g)) (hg : B ≤ g) (hB : B ≤ w.heap.size) : Below B w w' :=
  ⟨h.os, h.tape, h.output, h.size, fun k hk => h.block k (by omega) (by simp; omega)⟩
theorem sort_cut (B : Nat) (lv : Value) (ns : List (List UInt8)) (w : World) (h : w.ownsRow B 9 1 lv ns.length (ns.map encStr)) (hB : B ≤ w.heap.size) (hl : ns.length ≤ 100000000) :
    Calls Tryz.prog 86 #[lv] w fun e w1 => e = .returned (.tuple #[]) ∧ Below B w w1 ∧ CutC B lv ns w1 := by
  rcases h.2 with ⟨rfl, hn⟩ | ⟨g, cap, cur, rfl, hbase, hb, h1, h2, h3, h4⟩
  · have : ns = [] := List.eq_nil_of_length_eq_zero hn
    subst this
    refine (Any.slices_Sort_string_none Tryz.lays190 none 0 w).mono ?_
    rintro e w1 ⟨rfl, rfl⟩
    refine ⟨rfl, Below.refl _ _, ?_⟩
    intro w2 hw2
    refine (Tryz.slices_Compact_string_empty none 0 w2).mono ?_
    rintro e w3 ⟨rfl, rfl⟩
    have e0 : (Lib.compact (([] : List (List UInt8)).mergeSort leL)).length = 0 := by rw [List.mergeSort_nil]; rfl
    rw [e0]
    exact ⟨⟨_, _, rfl⟩, Below.refl _ _⟩
  · have hlt := (Array.getElem?_eq_some_iff.1 hb).1
    refine (Tryz.slices_Sort_string g 0 cap ns w (holds_of_block hb (by simpa using h4)) hlt (by omega)).mono ?_
    rintro e w1 ⟨rfl, n, os, rfl⟩
    have hperm := List.mergeSort_perm ns leL
    have hlen : (ns.mergeSort leL).length = ns.length := hperm.length_eq
    have hown := ownsRow_sorted (n := n) (os := os) (ts := ns.mergeSort leL) hlen hbase hb h1 h2 h3
    refine ⟨rfl, below_grownBy (grownBy_sorted _) hbase hB, ?_⟩
    intro w2 hw2
    obtain ⟨_, ⟨h0, _⟩ | ⟨g', cap', cur', h0, hbase', hb', h1', h2', h3', h4'⟩⟩ := hown
    · cases h0
    simp only [Value.slice.injEq, Option.some.injEq, Addr.mk.injEq, and_true, true_and] at h0
    obtain ⟨rfl, rfl⟩ := h0
    have hH := holds_heap (w' := w2) (holds_of_block (ss := ns.mergeSort leL) hb' (by rw [hlen]; simpa using h4')) hw2
    have hC := Tryz.slices_Compact_string g 0 cap (ns.mergeSort leL) w2 hH (by omega) (by omega)
    rw [hlen] at hC
    refine hC.mono ?_
    rintro e w3 ⟨rfl, q, rfl⟩
    have hsz : B ≤ w2.heap.size := by rw [hw2]; simp; omega
    have hgb := grownBy_sorted (w := w2) (g := g) (n := q) (os := #[]) (Lib.compact (ns.mergeSort leL) ++ List.replicate (ns.length - (Lib.compact (ns.mergeSort leL)).length) []).toArray
    rw [Sort.grow_empty] at hgb
    exact ⟨⟨_, _, rfl⟩, below_grownBy hgb hbase hsz⟩
end Go.Proofs.YtfdijcdpmgkdkaaGreatDoor
set_option linter.unusedVariables false
namespace Go.Proofs.YtfdijcdpmgkdkaaGreatDoor
open Go.RowKit

theorem wp_region_val {P : Program} {id : Nat} {l : List Oper} {Q : Exit → Act → World → Prop} {a : Act} {w : World} (hm : P.follows .mixedOrders = true)
    (hac : ((List.range l.length).all fun i => ((l[i]?).map fun o => o.after.all fun e => !Region.binds .any e || decide (e.on < i)).getD true) = true)
    (ds : List Nat) (hds : (l.map (·.dst)) = ds.map some) (hnd : ds.Nodup) (hlt : ds.all (fun d => decide (d < a.tmps.size)) = true)
    (V : Nat → Value → Prop) (R : (Nat → Bool) → World → Prop) (R0 : R (fun _ => false) w.drew)
    (step : ∀ i o, l[i]? = some o → ∀ b a' w', Fr ds a a' → R b w' → b i = false → (∀ j, (o.after.any fun e => Region.binds .any e && e.on == j) = true → b j = true ∧ V j (a'.tmps.getD (ds.getD j 0) undef)) →
      wpOp P l.toArray Q i (fun a'' w'' => ∃ v, a'' = a'.put (some (ds.getD i 0)) v ∧ V i v ∧ R (fun j => if j = i then true else b j) w'') a' w')
    (done : ∀ b a' w', Fr ds a a' → (∀ i, i < l.length → b i = true) → R b w' → (∀ j, j < l.length → V j (a'.tmps.getD (ds.getD j 0) undef)) → Q .normal a' w') :
    (Code.region id l.toArray true).wp P Q a w := by
  have hlen : l.length = ds.length := by have := congrArg List.length hds; simpa using this
  have hmem : ∀ j, j < l.length → ds.getD j 0 ∈ ds := by
    intro j hj
    rw [List.getD_eq_getElem?_getD, List.getElem?_eq_getElem (by omega)]
    exact List.getElem_mem _
  have hinj : ∀ i j, i < l.length → j < l.length → ds.getD i 0 = ds.getD j 0 → i = j := by
    intro i j hi hj e
    rw [List.getD_eq_getElem?_getD, List.getElem?_eq_getElem (by omega), List.getD_eq_getElem?_getD, List.getElem?_eq_getElem (by omega)] at e
    exact (List.getElem_inj hnd).1 e
  refine wp_region_inv hm hac (fun b a' w' => Fr ds a a' ∧ R b w' ∧ ∀ j, j < l.length → b j = true → V j (a'.tmps.getD (ds.getD j 0) undef)) ?_ ?_ ?_
  · exact ⟨Fr.refl _ _, R0, fun j _ h => by cases h⟩
  · rintro b a' w' ⟨hf, hb, hall⟩ i o ho hbi hpre
    have hil : i < l.length := (List.getElem?_eq_some_iff.1 ho).1
    refine wpOp_mono ?_ (step i o ho b a' w' hf hb hbi ?_)
    · rintro a'' w'' ⟨v, rfl, hv, hb'⟩
      refine ⟨hf.put (hmem i hil) v, hb', fun j hj hbj => ?_⟩
      by_cases e : j = i
      · subst e
        rw [put_at]
        · exact hv
        · rw [hf.size]
          have := (List.all_eq_true.1 hlt) _ (hmem j hil)
          simpa using this
      · simp only [e, if_false] at hbj
        rw [put_other _ _ _ _ (fun e' => e (hinj _ _ hj hil e'))]
        exact hall j hj hbj
    · intro j hj
      obtain ⟨k, hk, hj⟩ := Array.any_eq_true.1 hj
      obtain ⟨e, he, e1⟩ : ∃ e, e ∈ o.after ∧ e = o.after[k] := ⟨_, Array.getElem_mem hk, rfl⟩
      rw [← e1] at hj
      simp only [Bool.and_eq_true, beq_iff_eq] at hj
      obtain ⟨hbd, rfl⟩ := hj
      have h1 : b e.on = true := by
        simp only [Array.all_eq_true_iff_forall_mem] at hpre
        have := hpre e he
        rw [hbd] at this
        simpa using this
      have h2 : e.on < i := by
        have hac' := (List.all_eq_true.1 hac) i (List.mem_range.2 hil)
        simp only [ho, Option.map_some, Option.getD_some, Array.all_eq_true_iff_forall_mem] at hac'
        have := hac' e he
        rw [hbd] at this
        simpa using this
      exact ⟨h1, hall e.on (by omega) h1⟩
  · rintro b a' w' ⟨hf, hb, hall⟩ hdone
    exact done b a' w' hf hdone hb fun j hj => hall j hj (hdone j hj)
end Go.Proofs.YtfdijcdpmgkdkaaGreatDoor
set_option linter.unusedVariables false
namespace Go.Proofs.YtfdijcdpmgkdkaaGreatDoor
open Go.RowKit

theorem ent_compact : ∀ args w, (callFunc 87 args).run Tryz.prog w = .ok (.enter 87 args) w := run_enters Tryz.func87 (by kernel_rfl) rfl
def memOK (p : List UInt8 × JV) : Bool := toldB p.1 && rightJ p.2
theorem info_strJ : (Tryz.prog.info? 9).map (fun i => (i.zero, i.size, i.bytes)) = some (some (.string ⟨#[]⟩), 1, 16) := by kernel_rfl
theorem all_drop {m : List (List UInt8 × JV)} {j : Nat} (h : j < m.length) : (m.drop j).all memOK = ((toldB m[j].1 && rightJ m[j].2) && (m.drop (j + 1)).all memOK) := by
  rw [List.drop_eq_getElem_cons h, List.all_cons]
  rfl
def namesV (m : List (List UInt8 × JV)) : List Value := m.map fun p => encStr p.1
theorem namesV_eq (m : List (List UInt8 × JV)) : namesV m = (m.map Prod.fst).map encStr := by rw [List.map_map]; rfl
theorem namesV_len (m : List (List UInt8 × JV)) : (namesV m).length = m.length := by simp [namesV]
theorem names_take {m : List (List UInt8 × JV)} {j : Nat} (h : j < m.length) : (namesV m).take (j + 1) = (namesV m).take j ++ [.string ⟨m[j].1.toArray⟩] := by
  rw [List.take_succ_eq_append_getElem (by rw [namesV_len]; exact h)]
  simp [namesV]
set_option maxRecDepth 100000 in
set_option maxHeartbeats 16000000 in
theorem jnamed_any (k : Int) (y : Bool) (t : List UInt8) (l : List JV) (m : List (List UInt8 × JV)) (hv : ∀ x ∈ m, RightC x.2) (hn : ∀ x ∈ m, x.1.length ≤ 1000000) (hm : m.length ≤ 10000000) (ok : Nat → Prop) (cs : List Value) (w : World) (h : Rep ok w cs (.mk k y t l m)) :
    Calls Tryz.prog 48 #[.agg cs.toArray] w fun e w' => e = .returned (.bool (rightM m)) ∧ Below w.heap.size w w' := by
  obtain ⟨a, c, a', c', cl, cm, rfl, -, -, h3, h4, -, -⟩ := h.parts
  simp only [JV.kind, JV.yes, JV.text, JV.list, JV.mem, strV] at *
  obtain ⟨i0, hi, hz0, hz1, hz2⟩ := info_parts info_strJ
  have HI := Lib.hid hi
  have HZ0 := Lib.hid hz0
  have HZ1 := Lib.hid hz1
  have HZ2 := Lib.hid hz2
  have H3 := Lib.hid h3.lt
  have H4 := Lib.hid h4.lt
  have HV := Lib.hid hv
  have HN := Lib.hid hn
  have HRM := Lib.hid (rightM_eq m)
  clear h h3 h4 hi hz0 hz1 hz2 hv hn
  go_enter Tryz.func48, Tryz.ntmps48
  go_upto_region 1 with (fail)
  have hb1 : Below w.heap.size w (w.alloc (.cells #[.int .i64 k, .bool y, .string ⟨t.toArray⟩, .slice a l.length c, .slice a' m.length c'] 26)) := (Below.refl _ _).alloc (Nat.le_refl _) _
  have hx1 := heap_alloc_new w (.cells #[.int .i64 k, .bool y, .string ⟨t.toArray⟩, .slice a l.length c, .slice a' m.length c'] 26)
  have hs1 : (w.alloc (.cells #[.int .i64 k, .bool y, .string ⟨t.toArray⟩, .slice a l.length c, .slice a' m.length c'] 26)).heap.size = w.heap.size + 1 := by simp
  generalize w.alloc _ = w1 at *
  have HB1 := Lib.hid hb1
  have HX1 := Lib.hid hx1
  have v4 : w1.cell? ⟨w.heap.size, 4, none⟩ = some (.slice a' m.length c') := by rw [Lib.cell_of_heap hx1]; rfl
  clear hb1 hx1
  go_wp2_with fail
  go_loopg [3, 9] m.length (fun k lv iv wr => ∃ (j : Nat) (rv : Value), rv = lv ∧ iv = .int .i64 (j : Int) ∧ j + k = m.length ∧ Hid (m.all memOK = (m.drop j).all memOK) ∧ Hid (wr.ownsRow (w.heap.size + 1) 9 1 lv j ((namesV m).take j)) ∧ Hid (Below (w.heap.size + 1) w1 wr))
  case atStart => exact ⟨0, _, rfl, rfl, by omega, Lib.hid rfl, Lib.hid (World.ownsRow_nil _ _ _ _), Lib.hid (Below.refl _ _)⟩
  case round =>
    obtain ⟨j, rv, rfl, rfl, hj, HD, HW, HB⟩ := hrel
    have hszB : w1.heap.size ≤ wr.heap.size := HB.out.size
    have HBW := Lib.hid (HB1.out.trans (HB.out.mono (Nat.le_succ _)))
    by_cases hlt : j < m.length
    · have hltI : (j : Int) < (m.length : Int) := by omega
      obtain ⟨b, off, k2, y2, t2, a2, l2, c2, a3, l3, c3, ea, hrep, i0', i1, i2, i3, i4, i5⟩ := mem_cells' (H3.out.keep fun b hb _ => HBW.out.block b hb.2) (H4.out.keep fun b hb _ => HBW.out.block b hb.2) j hlt
      subst ea
      have HREP := Lib.hid hrep
      have HAD := Lib.hid (all_drop hlt)
      have HNT := Lib.hid (names_take hlt)
      have HC := Lib.hid (HV.out m[j] (List.getElem_mem hlt))
      have hnl := HN.out m[j] (List.getElem_mem hlt)
      generalize m[j] = p at *
      obtain ⟨nm, pv⟩ := p
      simp only at HAD HNT HC hnl i0' HREP
      clear hrep
      go_upto_region 5 with (fail)
      have hbm : Below wr.heap.size wr (wr.alloc (.cells #[.string ⟨nm.toArray⟩, .int .i64 k2, .bool y2, .string ⟨t2⟩, .slice a2 l2 c2, .slice a3 l3 c3] 35)) := (Below.refl _ _).alloc (Nat.le_refl _) _
      have hxm := heap_alloc_new wr (.cells #[.string ⟨nm.toArray⟩, .int .i64 k2, .bool y2, .string ⟨t2⟩, .slice a2 l2 c2, .slice a3 l3 c3] 35)
      generalize wr.alloc (.cells #[.string ⟨nm.toArray⟩, .int .i64 k2, .bool y2, .string ⟨t2⟩, .slice a2 l2 c2, .slice a3 l3 c3] 35) = w4 at *
      have HBM := Lib.hid hbm
      have HXM := Lib.hid hxm
      have hsm : wr.heap.size < w4.heap.size := (Array.getElem?_eq_some_iff.1 hxm).1
      have q0 : w4.cell? ⟨wr.heap.size, 0, none⟩ = some (.string ⟨nm.toArray⟩) := by rw [Lib.cell_of_heap hxm]; rfl
      clear hbm hxm i0' i1 i2 i3 i4 i5
      go_wp2_with fail
      refine (told_any nm w4 hnl).mono ?_
      rintro e w5 ⟨rfl, hb5⟩
      have HB5 := Lib.hid (HBM.out.trans (hb5.mono HBM.out.size))
      have hx5 := (hb5.block _ hsm).trans HXM.out
      have HX5 := Lib.hid hx5
      have hs5 : wr.heap.size < w5.heap.size := Nat.lt_of_lt_of_le hsm hb5.size
      have q1 : w5.cell? ⟨wr.heap.size, 1, none⟩ = some (.int .i64 k2) := by rw [Lib.cell_of_heap hx5]; rfl
      have q2 : w5.cell? ⟨wr.heap.size, 2, none⟩ = some (.bool y2) := by rw [Lib.cell_of_heap hx5]; rfl
      have q3 : w5.cell? ⟨wr.heap.size, 3, none⟩ = some (.string ⟨t2⟩) := by rw [Lib.cell_of_heap hx5]; rfl
      have q4 : w5.cell? ⟨wr.heap.size, 4, none⟩ = some (.slice a2 l2 c2) := by rw [Lib.cell_of_heap hx5]; rfl
      have q5 : w5.cell? ⟨wr.heap.size, 5, none⟩ = some (.slice a3 l3 c3) := by rw [Lib.cell_of_heap hx5]; rfl
      clear hb5 hx5 q0 v4
      cases ht : toldB nm with
      | false =>
        rw [ht] at HAD
        have HF : Hid (rightM m = false) := Lib.hid (by rw [HRM.out]; show (m.all memOK && _) = false; rw [HD.out, HAD.out]; rfl)
        have HBZ := Lib.hid (HBW.out.trans (HB5.out.mono HBW.out.size))
        go_wp2_with fail
        refine bodyPost_ret (results_tmp rfl _ _ _) rfl ?_
        exact ⟨by rw [HF.out]; rfl, HBZ.out⟩
      | true =>
        rw [ht] at HAD
        have HREP5 := Lib.hid (HREP.out.under HB5.out)
        go_wp2_with fail
        refine (HC.out _ _ w5 HREP5.out).mono ?_
        rintro e w6 ⟨rfl, hb6⟩
        have HB6 := Lib.hid (HB5.out.trans (hb6.mono HB5.out.size))
        have hx6 := (hb6.block _ hs5).trans HX5.out
        have g0 : w6.cell? ⟨wr.heap.size, 0, none⟩ = some (.string ⟨nm.toArray⟩) := by rw [Lib.cell_of_heap hx6]; rfl
        clear hb6 hx6 q1 q2 q3 q4 q5
        cases hr : rightJ pv with
        | false =>
          rw [hr] at HAD
          have HF : Hid (rightM m = false) := Lib.hid (by rw [HRM.out]; show (m.all memOK && _) = false; rw [HD.out, HAD.out]; rfl)
          have HBZ := Lib.hid (HBW.out.trans (HB6.out.mono HBW.out.size))
          go_wp2_with fail
          refine bodyPost_ret (results_tmp rfl _ _ _) rfl ?_
          exact ⟨by rw [HF.out]; rfl, HBZ.out⟩
        | true =>
          rw [hr] at HAD
          have HW6 := Lib.hid (own_below HW.out HB6.out)
          have hs6 : w.heap.size + 1 ≤ w6.heap.size := by have := HB6.out.size; omega
          have HBZ := Lib.hid (HB.out.trans (HB6.out.mono (by omega)))
          go_wp2_with (at_builtin; refine wpList_append_new rfl (.tmp 23) (.tmp 26) 53 rfl (w.heap.size + 1) 9 i0 _ 1 16 Tryz.underlying53 HI.out HZ0.out HZ1.out HZ2.out rfl (by decide) _ _ _ rfl (HW6.out.alloc _) w6.heap.size 1 #[.string ⟨nm.toArray⟩] 9 (0, 0) ?c1 rfl rfl ?c2 ?c3 ?c4 ?c5 ?_)
          case c1 => exact heap_alloc_new _ _
          case c2 => rfl
          case c3 => omega
          case c4 => omega
          case c5 => simp; omega
          intro v' w8 hown' hgrow
          have HB8 := Lib.hid (below_own (HBZ.out.alloc (by omega) _) (HW6.out.alloc _) hgrow (by simp; omega))
          have HW8 := Lib.hid hown'
          clear hown' hgrow HW
          go_wp2_with fail
          go_roundg (gk - 1)
          case measure => omega
          case rel => exact ⟨j + 1, _, rfl, by first | rfl | (congr 1), by omega, Lib.hid (by rw [HD.out, HAD.out]; rfl), Lib.hid (by rw [HNT.out]; exact HW8.out), HB8⟩
    · have hge : ¬ (j : Int) < (m.length : Int) := by omega
      obtain rfl : j = m.length := by omega
      have HA : Hid (rightM m = decide (m.map Prod.fst).Nodup) := Lib.hid (by
        rw [HRM.out]
        show (m.all memOK && _) = _
        rw [HD.out, List.drop_eq_nil_of_le (Nat.le_refl _)]
        rfl)
      have hown : wr.ownsRow (w.heap.size + 1) 9 1 rv (m.map Prod.fst).length ((m.map Prod.fst).map encStr) := by
        have := HW.out
        rw [List.take_of_length_le (by rw [namesV_len]; exact Nat.le_refl _), namesV_eq] at this
        rw [List.length_map]
        exact this
      have HS := Lib.hid (sort_cut (w.heap.size + 1) rv (m.map Prod.fst) wr hown (by omega) (by rw [List.length_map]; omega))
      clear hown
      have HVX := Lib.hid ((HB.out.block w.heap.size (by omega)).trans HX1.out)
      clear v4 HI HZ0 HZ1 HZ2
      go_wp2_with fail
      refine HS.out.mono ?_
      rintro e w7 ⟨rfl, hb7, hcut⟩
      have HB7 := Lib.hid hb7
      have HCUT := Lib.hid hcut
      have hx7 := (hb7.block w.heap.size (by omega)).trans HVX.out
      have HX7 := Lib.hid hx7
      have HBE := Lib.hid (HBW.out.trans (hb7.mono (Nat.le_succ _)))
      have hs7 : w.heap.size + 1 ≤ w7.heap.size := Nat.le_trans (by omega) hb7.size
      clear hb7 hcut hx7
      go_upto_region 10 with (fail)
      refine wp_region_val (by kernel_rfl) (by kernel_rfl) [31, 32, 33, 34, 35, 36, 37, 2] rfl (by decide) (by kernel_rfl)
        (fun i => [fun v => v = rv, fun v => ∃ a c, v = .slice a (Lib.compact ((m.map Prod.fst).mergeSort leL)).length c, fun v => v = .int .i64 ((Lib.compact ((m.map Prod.fst).mergeSort leL)).length : Nat), fun v => v = .pointer (some ⟨w.heap.size, 4, none⟩), fun v => v = .slice a' m.length c', fun v => v = .int .i64 (m.length : Nat), fun v => v = .bool (rightM m), fun v => v = .bool (rightM m)].getD i fun _ => True)
        (fun b w' => Below (w.heap.size + 1) w7 w' ∧ (b 1 = false → w'.heap = w7.heap)) ?_ ?_ ?_
      · exact ⟨(Below.refl _ _).drew, fun _ => rfl⟩
      · intro i o ho b ax w' hf ⟨hb, hh⟩ hbi hd
        have keep : i ≠ 1 → Below (w.heap.size + 1) w7 w' ∧ ((if 1 = i then true else b 1) = false → w'.heap = w7.heap) := fun hne => ⟨hb, fun e => hh (by simpa [Ne.symm hne] using e)⟩
        rcases i with _ | _ | _ | _ | _ | _ | _ | _ | i
        · cases ho
          refine op_step rfl rfl (op_value (v := rv) (w' := w') ?_ ⟨_, rfl, rfl, keep (by decide)⟩)
          have t3 : ax.tmps.getD 3 undef = rv := (hf.same 3 (by decide)).trans rfl
          simp only [execOp, Act.eval, t3]
          go_simp
        · cases ho
          obtain ⟨_, t31⟩ := hd 0 (by kernel_rfl)
          have t31' : ax.tmps.getD 31 undef = rv := t31
          refine op_step rfl rfl (op_call ent_compact rfl (by simp only [List.map_toArray, List.map_cons, List.map_nil, Act.eval, t31']) ((HCUT.out w' (hh hbi)).mono ?_))
          rintro e w'' ⟨⟨ac, cc, rfl⟩, hb'⟩
          exact .inl ⟨_, rfl, _, rfl, ⟨_, _, rfl⟩, hb.trans hb', fun e => by simp at e⟩
        · cases ho
          obtain ⟨_, ac, cc, t32⟩ := hd 1 (by kernel_rfl)
          have t32' : ax.tmps.getD 32 undef = .slice ac (Lib.compact ((m.map Prod.fst).mergeSort leL)).length cc := t32
          generalize (Lib.compact ((m.map Prod.fst).mergeSort leL)).length = N at *
          refine op_step rfl rfl (op_value (v := .int .i64 (N : Nat)) (w' := w') ?_ ⟨_, rfl, rfl, keep (by decide)⟩)
          simp only [execOp, resolve, invoke, builtin]
          go_simp
        · cases ho
          refine op_step rfl rfl (op_value (v := .pointer (some ⟨w.heap.size, 4, none⟩)) (w' := w') ?_ ⟨_, rfl, rfl, keep (by decide)⟩)
          have t1 : ax.tmps.getD 1 undef = .pointer (some ⟨w.heap.size, 0, none⟩) := (hf.same 1 (by decide)).trans rfl
          simp only [execOp, Act.eval, t1]
          go_simp
        · cases ho
          obtain ⟨_, t34⟩ := hd 3 (by kernel_rfl)
          have t34' : ax.tmps.getD 34 undef = .pointer (some ⟨w.heap.size, 4, none⟩) := t34
          have c4 : w'.cell? ⟨w.heap.size, 4, none⟩ = some (.slice a' m.length c') := by rw [Lib.cell_of_heap ((hb.block w.heap.size (by omega)).trans HX7.out)]; rfl
          refine op_step rfl rfl (op_value (v := .slice a' m.length c') (w' := w') ?_ ⟨_, rfl, rfl, keep (by decide)⟩)
          simp only [execOp, Act.eval, t34']
          go_simp
        · cases ho
          obtain ⟨_, t35⟩ := hd 4 (by kernel_rfl)
          have t35' : ax.tmps.getD 35 undef = .slice a' m.length c' := t35
          refine op_step rfl rfl (op_value (v := .int .i64 (m.length : Nat)) (w' := w') ?_ ⟨_, rfl, rfl, keep (by decide)⟩)
          simp only [execOp, resolve, invoke, builtin]
          go_simp
        · cases ho
          obtain ⟨_, t33⟩ := hd 2 (by kernel_rfl)
          obtain ⟨_, t36⟩ := hd 5 (by kernel_rfl)
          have t33' : ax.tmps.getD 33 undef = .int .i64 ((Lib.compact ((m.map Prod.fst).mergeSort leL)).length : Nat) := t33
          have t36' : ax.tmps.getD 36 undef = .int .i64 (m.length : Nat) := t36
          have hq : ((((Lib.compact ((m.map Prod.fst).mergeSort leL)).length : Nat) : Int) == (m.length : Int)) = rightM m := by
            rw [HA.out, ← compact_nodup, List.length_map, Bool.eq_iff_iff]
            simp only [beq_iff_eq, decide_eq_true_eq]
            omega
          generalize (Lib.compact ((m.map Prod.fst).mergeSort leL)).length = N at *
          refine op_step rfl rfl (op_value (v := .bool (rightM m)) (w' := w') ?_ ⟨_, rfl, rfl, keep (by decide)⟩)
          simp only [execOp, Act.eval, t33', t36']
          go_simp
        · cases ho
          obtain ⟨_, t37⟩ := hd 6 (by kernel_rfl)
          have t37' : ax.tmps.getD 37 undef = .bool (rightM m) := t37
          refine op_step rfl rfl (op_value (v := .bool (rightM m)) (w' := w') ?_ ⟨_, rfl, rfl, keep (by decide)⟩)
          simp only [execOp, Act.eval, t37']
          go_simp
        · simp at ho
      · intro b ax w' hf hall ⟨hb, _⟩ hd
        have t2 : ax.tmps.getD 2 undef = .bool (rightM m) := hd 7 (by decide)
        have hdf : ax.defers = [] := hf.defers
        have HBL := Lib.hid (HBE.out.trans (hb.mono (Nat.le_succ _)))
        clear hf hall hb hd
        go_wp2_with fail
        refine bodyPost_ret (results_tmp rfl _ _ _) hdf ?_
        exact ⟨by rw [t2], HBL.out⟩
end Go.Proofs.YtfdijcdpmgkdkaaGreatDoor
set_option linter.unusedVariables false
namespace Go.Proofs.YtfdijcdpmgkdkaaGreatDoor
open Go.RowKit

set_option maxRecDepth 100000 in
set_option maxHeartbeats 16000000 in
theorem jright_arr (y : Bool) (t : List UInt8) (l : List JV) (m : List (List UInt8 × JV)) (hv : ∀ x ∈ l, RightC x) (hl : l.length ≤ 10000000) : RightC (.mk 5 y t l m) := by
  intro ok cs w h
  have HR0 := Lib.hid h.lt
  obtain ⟨a, c, a', c', cl, cm, rfl, h1, h2, -⟩ := h.parts
  simp only [JV.kind, JV.yes, JV.text, JV.list, JV.mem, strV] at *
  have H1 := Lib.hid h1.lt
  have H2 := Lib.hid h2.lt
  have HV := Lib.hid hv
  have HW : Hid (∀ ob, Below w.heap.size w (w.alloc ob)) := Lib.hid fun ob => (Below.refl _ _).alloc (Nat.le_refl _) _
  have HRT := Lib.hid (right_eq 5 y t l m)
  have HB : Hid (∀ ob, Calls Tryz.prog 43 #[.agg #[.int .i64 5, .bool y, .string ⟨t.toArray⟩, .slice a l.length c, .slice a' m.length c']] (w.alloc ob) fun e w' => e = .returned (.bool (bareB 5 y t l.length m.length)) ∧ Below (w.alloc ob).heap.size (w.alloc ob) w') := Lib.hid fun ob => jbare_any 5 y t a a' l.length m.length c c' (w.alloc ob)
  have HG : Hid (∀ ob, (w.alloc ob).heap[w.heap.size]? = some ob) := Lib.hid fun ob => heap_alloc_new w ob
  clear h h1 h2 hv
  go_enter Tryz.func14, Tryz.ntmps14
  go_wp2_with fail
  refine (HB.out _).mono ?_
  rintro e w2 ⟨rfl, hb2⟩
  have HB2 := Lib.hid ((HW.out _).trans (hb2.mono (by simp)))
  have hx2 := (hb2.block w.heap.size (by simp)).trans (HG.out _)
  have c0 : w2.cell? ⟨w.heap.size, 0, none⟩ = some (.int .i64 5) := by rw [Lib.cell_of_heap hx2]; rfl
  have c3 : w2.cell? ⟨w.heap.size, 3, none⟩ = some (.slice a l.length c) := by rw [Lib.cell_of_heap hx2]; rfl
  clear hb2 hx2 HB HG
  cases hbb : bareB 5 y t l.length m.length with
  | false =>
    rw [hbb] at HRT
    clear hbb
    go_wp2_with fail
    refine bodyPost_ret (results_tmp rfl _ _ _) rfl ?_
    exact ⟨by rw [HRT.out]; rfl, HB2.out⟩
  | true =>
    have HE : Hid (rightJ (.mk 5 y t l m) = rightL l) := Lib.hid (by rw [HRT.out, hbb]; cases rightL l <;> rfl)
    clear HRT hbb
    go_wp2_with fail
    refine (jcontains_any l HV.out _ a c cl w2 (H1.out.keep fun b hb _ => HB2.out.block b hb.2) (H2.out.keep fun b hb _ => HB2.out.block b hb.2) hl).mono ?_
    rintro e w3 ⟨rfl, hb3⟩
    have HB3 := Lib.hid (HB2.out.trans (hb3.mono HB2.out.size))
    clear hb3
    go_wp2_with fail
    refine bodyPost_ret (results_tmp rfl _ _ _) rfl ?_
    exact ⟨by rw [HE.out]; cases rightL l <;> rfl, HB3.out⟩
set_option maxRecDepth 100000 in
set_option maxHeartbeats 16000000 in
theorem jright_obj (y : Bool) (t : List UInt8) (l : List JV) (m : List (List UInt8 × JV)) (hv : ∀ x ∈ m, RightC x.2) (hn : ∀ x ∈ m, x.1.length ≤ 1000000) (hm : m.length ≤ 10000000) : RightC (.mk 6 y t l m) := by
  intro ok cs w h
  have HR0 := Lib.hid h.lt
  have hND := jnamed_any 6 y t l m hv hn hm
  obtain ⟨a, c, a', c', cl, cm, rfl, -⟩ := h.parts
  simp only [JV.kind, JV.yes, JV.text, JV.list, JV.mem, strV] at *
  have HND := Lib.hid hND
  have HW : Hid (∀ ob, Below w.heap.size w (w.alloc ob)) := Lib.hid fun ob => (Below.refl _ _).alloc (Nat.le_refl _) _
  have HRT := Lib.hid (right_eq 6 y t l m)
  have HB : Hid (∀ ob, Calls Tryz.prog 43 #[.agg #[.int .i64 6, .bool y, .string ⟨t.toArray⟩, .slice a l.length c, .slice a' m.length c']] (w.alloc ob) fun e w' => e = .returned (.bool (bareB 6 y t l.length m.length)) ∧ Below (w.alloc ob).heap.size (w.alloc ob) w') := Lib.hid fun ob => jbare_any 6 y t a a' l.length m.length c c' (w.alloc ob)
  have HG : Hid (∀ ob, (w.alloc ob).heap[w.heap.size]? = some ob) := Lib.hid fun ob => heap_alloc_new w ob
  clear h hND hv hn
  go_enter Tryz.func14, Tryz.ntmps14
  go_wp2_with fail
  refine (HB.out _).mono ?_
  rintro e w2 ⟨rfl, hb2⟩
  have HB2 := Lib.hid ((HW.out _).trans (hb2.mono (by simp)))
  have hx2 := (hb2.block w.heap.size (by simp)).trans (HG.out _)
  have c0 : w2.cell? ⟨w.heap.size, 0, none⟩ = some (.int .i64 6) := by rw [Lib.cell_of_heap hx2]; rfl
  have c1 : w2.cell? ⟨w.heap.size, 1, none⟩ = some (.bool y) := by rw [Lib.cell_of_heap hx2]; rfl
  have c2 : w2.cell? ⟨w.heap.size, 2, none⟩ = some (.string ⟨t.toArray⟩) := by rw [Lib.cell_of_heap hx2]; rfl
  have c3 : w2.cell? ⟨w.heap.size, 3, none⟩ = some (.slice a l.length c) := by rw [Lib.cell_of_heap hx2]; rfl
  have c4 : w2.cell? ⟨w.heap.size, 4, none⟩ = some (.slice a' m.length c') := by rw [Lib.cell_of_heap hx2]; rfl
  clear hb2 hx2 HB HG
  cases hbb : bareB 6 y t l.length m.length with
  | false =>
    rw [hbb] at HRT
    clear hbb
    go_wp2_with fail
    refine bodyPost_ret (results_tmp rfl _ _ _) rfl ?_
    exact ⟨by rw [HRT.out]; rfl, HB2.out⟩
  | true =>
    have HE : Hid (rightJ (.mk 6 y t l m) = rightM m) := Lib.hid (by rw [HRT.out, hbb]; cases rightM m <;> rfl)
    clear HRT hbb
    go_wp2_with fail
    refine (HND.out _ [.int .i64 6, .bool y, .string ⟨t.toArray⟩, .slice a l.length c, .slice a' m.length c'] w2 (HR0.out.keep fun b hb _ => HB2.out.block b hb.2)).mono ?_
    rintro e w3 ⟨rfl, hb3⟩
    have HB3 := Lib.hid (HB2.out.trans (hb3.mono HB2.out.size))
    clear hb3
    go_wp2_with fail
    refine bodyPost_ret (results_tmp rfl _ _ _) rfl ?_
    exact ⟨by rw [HE.out]; rfl, HB3.out⟩
theorem jright_size : ∀ (N : Nat) (v : JV), sizeJ v ≤ N → sizeJ v ≤ 1000000 → RightC v := by
  intro N
  induction N with
  | zero => intro v h; have := size_pos v; omega
  | succ N ih =>
    intro v h hb
    obtain ⟨k, y, t, l, m⟩ := v
    have hs : sizeJ (.mk k y t l m) = 1 + t.length + sizeL l + sizeM m := by rw [sizeJ]
    by_cases h5 : k = 5
    · subst h5
      refine jright_arr y t l m (fun x hx => ?_) (by have := len_size l; omega)
      have := size_list hx
      exact ih x (by omega) (by omega)
    by_cases h6 : k = 6
    · subst h6
      refine jright_obj y t l m (fun x hx => ?_) (fun x hx => ?_) (by have := lenM_size m; omega)
      · have := size_mem hx
        exact ih x.2 (by omega) (by omega)
      · have := size_mem hx; omega
    exact jright_leaf k y t l m h5 h6 (by omega)
/-- Right, of any value that isn't too great. -/
theorem jright (v : JV) (h : sizeJ v ≤ 1000000) : RightC v := jright_size _ v (Nat.le_refl _) h
end Go.Proofs.YtfdijcdpmgkdkaaGreatDoor
set_option linter.unusedVariables false
namespace Go.Proofs.YtfdijcdpmgkdkaaGreatDoor
open Go.RowKit

set_option maxRecDepth 100000 in
set_option maxHeartbeats 4000000 in
theorem hword_any (s : List UInt8) (w : World) (hs : s.length ≤ 1000000) :
    Calls Tryz.prog 104 #[.string ⟨s.toArray⟩] w fun e w' => e = .returned (.bool (wordH s)) ∧ Below w.heap.size w w' := by
  have HT := Lib.hid (told_any s w hs)
  have HW : Hid (wordH s = (!s.isEmpty && (decide (s.length ≤ 40) && toldB s))) := Lib.hid rfl
  generalize wordH s = W at *
  generalize toldB s = T at *
  by_cases h0 : s = []
  · subst h0
    go_enter Tryz.func104, Tryz.ntmps104
    go_wp2_with fail
    refine bodyPost_ret (results_tmp rfl _ _ _) rfl ?_
    exact ⟨by rw [HW.out]; rfl, Below.refl _ _⟩
  have q0 : (s == []) = false := beq_false_of_ne h0
  have q1 : s.isEmpty = false := by cases s <;> simp_all
  by_cases h1 : s.length ≤ 40
  · have hI : ((s.length : Nat) : Int) ≤ 40 := by omega
    go_enter Tryz.func104, Tryz.ntmps104
    go_wp2_with fail
    refine HT.out.mono ?_
    rintro e w1 ⟨rfl, hb1⟩
    have HB1 := Lib.hid hb1
    clear hb1 HT
    go_wp2_with fail
    refine bodyPost_ret (results_tmp rfl _ _ _) rfl ?_
    exact ⟨by rw [HW.out, q1, decide_eq_true h1]; rfl, HB1.out⟩
  · have hI : ¬ ((s.length : Nat) : Int) ≤ 40 := by omega
    go_enter Tryz.func104, Tryz.ntmps104
    go_wp2_with fail
    refine bodyPost_ret (results_tmp rfl _ _ _) rfl ?_
    exact ⟨by rw [HW.out, q1, decide_eq_false h1]; rfl, Below.refl _ _⟩
set_option maxRecDepth 100000 in
set_option maxHeartbeats 4000000 in
theorem hright_any (k t : List UInt8) (w : World) (hk : k.length ≤ 1000000) (ht : t.length ≤ 1000000) :
    Calls Tryz.prog 68 #[.agg #[.string ⟨k.toArray⟩, .string ⟨t.toArray⟩]] w fun e w' => e = .returned (.bool (wordH k && wordH t)) ∧ Below w.heap.size w w' := by
  have HK := Lib.hid (fun w1 => hword_any k w1 hk)
  have HT := Lib.hid (fun w1 => hword_any t w1 ht)
  generalize wordH k = K at *
  generalize wordH t = T at *
  clear hk ht
  have hb1 : Below w.heap.size w (w.alloc (.cells #[.string ⟨k.toArray⟩, .string ⟨t.toArray⟩] 61)) := (Below.refl _ _).alloc (Nat.le_refl _) _
  have hx1 := heap_alloc_new w (.cells #[.string ⟨k.toArray⟩, .string ⟨t.toArray⟩] 61)
  have HB1 := Lib.hid hb1
  have HX1 := Lib.hid hx1
  clear hb1 hx1
  go_enter Tryz.func68, Tryz.ntmps68
  go_wp2_with fail
  generalize w.alloc _ = w1 at *
  have hs1 : w.heap.size < w1.heap.size := (Array.getElem?_eq_some_iff.1 HX1.out).1
  refine (HK.out w1).mono ?_
  rintro e w2 ⟨rfl, hb2⟩
  have HB2 := Lib.hid (HB1.out.trans (hb2.mono HB1.out.size))
  have hx2 := (hb2.block _ hs1).trans HX1.out
  have c1 : w2.cell? ⟨w.heap.size, 1, none⟩ = some (.string ⟨t.toArray⟩) := by rw [Lib.cell_of_heap hx2]; rfl
  clear hb2 hx2
  cases K with
  | false =>
    go_wp2_with fail
    refine bodyPost_ret (results_tmp rfl _ _ _) rfl ?_
    exact ⟨rfl, HB2.out⟩
  | true =>
    go_wp2_with fail
    refine (HT.out w2).mono ?_
    rintro e w3 ⟨rfl, hb3⟩
    have HB3 := Lib.hid (HB2.out.trans (hb3.mono HB2.out.size))
    clear hb3
    go_wp2_with fail
    refine bodyPost_ret (results_tmp rfl _ _ _) rfl ?_
    exact ⟨rfl, HB3.out⟩
theorem ent_jstrh : ∀ args w, (callFunc 13 args).run Tryz.prog w = .ok (.enter 13 args) w := run_enters Tryz.func13 (by kernel_rfl) rfl
theorem ent_obj : ∀ args w, (callFunc 18 args).run Tryz.prog w = .ok (.enter 18 args) w := run_enters Tryz.func18 (by kernel_rfl) rfl
theorem ent_jprint : ∀ args w, (callFunc 21 args).run Tryz.prog w = .ok (.enter 21 args) w := run_enters Tryz.func21 (by kernel_rfl) rfl
def strsH (k t : List UInt8) : List (List UInt8 × JV) := [(algB, jstr hsB), (kidB, jstr k), (typB, jstr t)]
def cellsH (k t : List UInt8) : List (List Value) := [[.int .i64 4, .bool false, strV hsB, .slice none 0 0, .slice none 0 0], [.int .i64 4, .bool false, strV k, .slice none 0 0, .slice none 0 0], [.int .i64 4, .bool false, strV t, .slice none 0 0, .slice none 0 0]]
def rowH (k t : List UInt8) : List Value := [.string ⟨#[97, 108, 103]⟩, .int .i64 4, .bool false, .string ⟨#[72, 83, 50, 53, 54]⟩, .slice none 0 0, .slice none 0 0, .string ⟨#[107, 105, 100]⟩, .int .i64 4, .bool false, .string ⟨k.toArray⟩, .slice none 0 0, .slice none 0 0, .string ⟨#[116, 121, 112]⟩, .int .i64 4, .bool false, .string ⟨t.toArray⟩, .slice none 0 0, .slice none 0 0]
theorem rowH_eq (k t : List UInt8) : memCells (strsH k t) (cellsH k t) = rowH k t := rfl
theorem reps_H (k t : List UInt8) (ok : Nat → Prop) (w : World) : RepsM ok w (cellsH k t) (strsH k t) := by
  refine ⟨rfl, fun i hi hj => ?_⟩
  match i, hi with
  | 0, _ => exact Rep.leaf ok w 4 false _
  | 1, _ => exact Rep.leaf ok w 4 false _
  | 2, _ => exact Rep.leaf ok w 4 false _
  | k + 3, h => exact absurd h (by simp [cellsH])
/-- The three members in a block. -/
def VMem3 (k t : List UInt8) : Value → World → Prop := fun v w => ∃ g c, v = .slice (some ⟨g, 0, none⟩) 3 c ∧ w.heap[g]? = some (.cells (rowH k t).toArray 35 (0, 0))
theorem VMem3.stab (k t : List UInt8) : Stab (VMem3 k t) := fun v w1 w2 ⟨g, c, e, h⟩ hb => ⟨g, c, e, (hb.block g (Array.getElem?_eq_some_iff.1 h).1).trans h⟩
theorem rdo_H {k t : List UInt8} {w : World} {g : Nat} (h : w.heap[g]? = some (.cells (rowH k t).toArray 35 (0, 0))) : RdO (fun _ => True) w (some ⟨g, 0, none⟩) (memCells (strsH k t) (cellsH k t)) := by
  rw [rowH_eq]
  refine .inr ⟨g, 0, rfl, trivial, fun i u hu => ?_⟩
  rw [Lib.cell_of_heap h]
  simpa using hu
theorem grow_mem3 {Q : Exit → Act → World → Prop} {o : Oper} {a : Act} {w : World} {x y z : Operand} {k t : List UInt8} (ho : o.op = .buildSlice 24 3 #[(0, x), (1, y), (2, z)])
    (hx : a.eval x = .agg #[.string ⟨#[97, 108, 103]⟩, .int .i64 4, .bool false, .string ⟨#[72, 83, 50, 53, 54]⟩, .slice none 0 0, .slice none 0 0]) (hy : a.eval y = .agg #[.string ⟨#[107, 105, 100]⟩, .int .i64 4, .bool false, .string ⟨k.toArray⟩, .slice none 0 0, .slice none 0 0]) (hz : a.eval z = .agg #[.string ⟨#[116, 121, 112]⟩, .int .i64 4, .bool false, .string ⟨t.toArray⟩, .slice none 0 0, .slice none 0 0]) : o.wp Tryz.prog a w (Grew o.dst (VMem3 k t) a w) Q := by
  refine grow_value (v := .slice (some ⟨w.heap.size, 0, none⟩) 3 3) (w' := w.alloc (.cells (rowH k t).toArray 35)) ?_ ⟨_, _, rfl, heap_alloc_new _ _⟩ ((Below.refl _ _).alloc (Nat.le_refl _) _)
  simp only [execOp, ho, List.map_toArray, List.map_cons, List.map_nil, hx, hy, hz]
  go_simp
  rfl
/-- A value's cells. -/
def VVal (v : JV) : Value → World → Prop := fun x w => ∃ cs, x = .agg cs.toArray ∧ ∃ ok, Rep ok w cs v
theorem VVal.stab (v : JV) : Stab (VVal v) := fun x w1 w2 ⟨cs, e, ok, h⟩ hb => ⟨cs, e, _, h.lt.keep fun b hb' _ => hb.block b hb'.2⟩
set_option maxRecDepth 100000 in
set_option maxHeartbeats 8000000 in
theorem header_any (k t : List UInt8) (w : World) (hk : wordH k = true) (ht : wordH t = true) :
    Calls Tryz.prog 69 #[.agg #[.string ⟨k.toArray⟩, .string ⟨t.toArray⟩]] w fun e w' => e = .returned (.string ⟨(headL k t).toArray⟩) ∧ Below w.heap.size w w' := by
  have hrt := head_right hk ht
  have hhl := headL_len hk ht
  have hsz : sizeJ (headV k t) ≤ 1000 := by
    have h1 := (wordH_told hk).2
    have h2 := (wordH_told ht).2
    have e1 := size_str k
    have e2 := size_str t
    have e3 := size_str hsB
    have e4 : hsB.length = 5 := rfl
    have e5 : algB.length = 3 := rfl
    have e6 : kidB.length = 3 := rfl
    have e7 : typB.length = 3 := rfl
    unfold headV
    simp only [jobj, sizeJ, sizeM, sizeL, e1, e2, e3, e4, e5, e6, e7, List.length_nil]
    omega
  have HPR := Lib.hid (fun ok cs w' h => jprint_any (headV k t) (jright (headV k t) (by omega)) ok cs w' h (by unfold headL at hhl; omega))
  rw [hrt] at HPR
  simp only [if_true] at HPR
  have hH : plainJ (headV k t) = headL k t := rfl
  rw [hH] at HPR
  generalize headL k t = H at *
  clear hrt hhl hsz hH hk ht
  go_enter Tryz.func69, Tryz.ntmps69
  have hb1 : Below w.heap.size w (w.alloc (.cells #[.string ⟨k.toArray⟩, .string ⟨t.toArray⟩] 61)) := (Below.refl _ _).alloc (Nat.le_refl _) _
  have hx1 := heap_alloc_new w (.cells #[.string ⟨k.toArray⟩, .string ⟨t.toArray⟩] 61)
  go_upto_region 1 with (fail)
  generalize w.alloc _ = w1 at *
  have HB1 := Lib.hid hb1
  have hxg : w.heap.size < w1.heap.size := (Array.getElem?_eq_some_iff.1 hx1).1
  have HC0 : Hid (∀ w', Below w1.heap.size w1 w' → w'.cell? ⟨w.heap.size, 0, none⟩ = some (.string ⟨k.toArray⟩)) := Lib.hid fun w' hb => by rw [Lib.cell_of_heap ((hb.block _ hxg).trans hx1)]; rfl
  have HC1 : Hid (∀ w', Below w1.heap.size w1 w' → w'.cell? ⟨w.heap.size, 1, none⟩ = some (.string ⟨t.toArray⟩)) := Lib.hid fun w' hb => by rw [Lib.cell_of_heap ((hb.block _ hxg).trans hx1)]; rfl
  clear hb1 hx1
  refine wp_region_grow (by kernel_rfl) (by kernel_rfl) [6, 7, 8, 9, 10, 11, 12, 13, 14, 15, 16, 17, 18, 5, 19, 20, 3, 4] rfl (by decide) (by kernel_rfl) (fun iX => [VIs ((.agg #[.int .i64 4, .bool false, .string ⟨#[72, 83, 50, 53, 54]⟩, .slice none 0 0, .slice none 0 0])), VIs (.agg #[.string ⟨#[97, 108, 103]⟩, .int .i64 4, .bool false, .string ⟨#[72, 83, 50, 53, 54]⟩, .slice none 0 0, .slice none 0 0]), VIs (.pointer (some ⟨w.heap.size, 0, none⟩)), VIs (.string ⟨k.toArray⟩), VIs ((.agg #[.int .i64 4, .bool false, .string ⟨k.toArray⟩, .slice none 0 0, .slice none 0 0])), VIs (.agg #[.string ⟨#[107, 105, 100]⟩, .int .i64 4, .bool false, .string ⟨k.toArray⟩, .slice none 0 0, .slice none 0 0]), VIs (.pointer (some ⟨w.heap.size, 1, none⟩)), VIs (.string ⟨t.toArray⟩), VIs ((.agg #[.int .i64 4, .bool false, .string ⟨t.toArray⟩, .slice none 0 0, .slice none 0 0])), VIs (.agg #[.string ⟨#[116, 121, 112]⟩, .int .i64 4, .bool false, .string ⟨t.toArray⟩, .slice none 0 0, .slice none 0 0]), VMem3 k t, VVal (headV k t), VIs (.tuple #[.string ⟨H.toArray⟩, .int .i64 0]), VIs (.tuple #[.string ⟨H.toArray⟩, .int .i64 0]), VIs (.string ⟨H.toArray⟩), VIs (.int .i64 0), VIs (.string ⟨H.toArray⟩), VIs (.int .i64 0)].getD iX fun _ _ => True) (stab_list _ ?_) ?_ ?_
  · skip
    intro V hV
    simp only [List.mem_cons, List.mem_nil_iff, or_false] at hV
    rcases hV with rfl | rfl | rfl | rfl | rfl | rfl | rfl | rfl | rfl | rfl | rfl | rfl | rfl | rfl | rfl | rfl | rfl | rfl <;> first | exact VIs.stab _ | exact VBytes.stab _ | exact VStr.stab _ | exact VParts.stab _ | exact VRow.stab _ | exact VRow8.stab _ _ | exact VMem3.stab _ _ | exact VVal.stab _
  · intro iX o ho a' w' hf hb hd
    rcases iX with _ | _ | _ | _ | _ | _ | _ | _ | _ | _ | _ | _ | _ | _ | _ | _ | _ | _ | iX
    · cases ho
      refine grow_op rfl rfl rfl ?_
      refine grow_call ent_jstrh rfl ?_
      simp only [List.map_toArray, List.map_cons, List.map_nil, Act.eval]
      exact ((jstr_fn [72, 83, 50, 53, 54] w').mono (fun e w'' ⟨h1, h2⟩ => ⟨_, h1, rfl, h2⟩))
    · cases ho
      refine grow_op rfl rfl rfl ?_
      have e0 : a'.tmps.getD 6 undef = (.agg #[.int .i64 4, .bool false, .string ⟨#[72, 83, 50, 53, 54]⟩, .slice none 0 0, .slice none 0 0]) := hd 0 (by kernel_rfl)
      refine grow_value (v := .agg #[.string ⟨#[97, 108, 103]⟩, .int .i64 4, .bool false, .string ⟨#[72, 83, 50, 53, 54]⟩, .slice none 0 0, .slice none 0 0]) (w' := w') ?_ rfl (Below.refl _ _)
      simp only [execOp, Act.eval, List.map_toArray, List.map_cons, List.map_nil, e0]
      go_simp
      try rfl
    · cases ho
      refine grow_op rfl rfl rfl ?_
      have f1 : a'.tmps.getD 1 undef = .pointer (some ⟨w.heap.size, 0, none⟩) := (hf.same 1 (by decide)).trans rfl
      refine grow_value (v := .pointer (some ⟨w.heap.size, 0, none⟩)) (w' := w') ?_ rfl (Below.refl _ _)
      simp only [execOp, Act.eval]
      go_simp
    · cases ho
      refine grow_op rfl rfl rfl ?_
      have e2 : a'.tmps.getD 8 undef = .pointer (some ⟨w.heap.size, 0, none⟩) := hd 2 (by kernel_rfl)
      have c0 := HC0.out w' hb
      refine grow_value (v := .string ⟨k.toArray⟩) (w' := w') ?_ rfl (Below.refl _ _)
      simp only [execOp, Act.eval, e2]
      go_simp
    · cases ho
      refine grow_op rfl rfl rfl ?_
      have e3 : a'.tmps.getD 9 undef = .string ⟨k.toArray⟩ := hd 3 (by kernel_rfl)
      refine grow_call ent_jstrh rfl ?_
      simp only [List.map_toArray, List.map_cons, List.map_nil, Act.eval, e3]
      exact ((jstr_fn k w').mono (fun e w'' ⟨h1, h2⟩ => ⟨_, h1, rfl, h2⟩))
    · cases ho
      refine grow_op rfl rfl rfl ?_
      have e4 : a'.tmps.getD 10 undef = (.agg #[.int .i64 4, .bool false, .string ⟨k.toArray⟩, .slice none 0 0, .slice none 0 0]) := hd 4 (by kernel_rfl)
      refine grow_value (v := .agg #[.string ⟨#[107, 105, 100]⟩, .int .i64 4, .bool false, .string ⟨k.toArray⟩, .slice none 0 0, .slice none 0 0]) (w' := w') ?_ rfl (Below.refl _ _)
      simp only [execOp, Act.eval, List.map_toArray, List.map_cons, List.map_nil, e4]
      go_simp
      try rfl
    · cases ho
      refine grow_op rfl rfl rfl ?_
      have f1 : a'.tmps.getD 1 undef = .pointer (some ⟨w.heap.size, 0, none⟩) := (hf.same 1 (by decide)).trans rfl
      refine grow_value (v := .pointer (some ⟨w.heap.size, 1, none⟩)) (w' := w') ?_ rfl (Below.refl _ _)
      simp only [execOp, Act.eval]
      go_simp
    · cases ho
      refine grow_op rfl rfl rfl ?_
      have e6 : a'.tmps.getD 12 undef = .pointer (some ⟨w.heap.size, 1, none⟩) := hd 6 (by kernel_rfl)
      have c1 := HC1.out w' hb
      refine grow_value (v := .string ⟨t.toArray⟩) (w' := w') ?_ rfl (Below.refl _ _)
      simp only [execOp, Act.eval, e6]
      go_simp
    · cases ho
      refine grow_op rfl rfl rfl ?_
      have e7 : a'.tmps.getD 13 undef = .string ⟨t.toArray⟩ := hd 7 (by kernel_rfl)
      refine grow_call ent_jstrh rfl ?_
      simp only [List.map_toArray, List.map_cons, List.map_nil, Act.eval, e7]
      exact ((jstr_fn t w').mono (fun e w'' ⟨h1, h2⟩ => ⟨_, h1, rfl, h2⟩))
    · cases ho
      refine grow_op rfl rfl rfl ?_
      have e8 : a'.tmps.getD 14 undef = (.agg #[.int .i64 4, .bool false, .string ⟨t.toArray⟩, .slice none 0 0, .slice none 0 0]) := hd 8 (by kernel_rfl)
      refine grow_value (v := .agg #[.string ⟨#[116, 121, 112]⟩, .int .i64 4, .bool false, .string ⟨t.toArray⟩, .slice none 0 0, .slice none 0 0]) (w' := w') ?_ rfl (Below.refl _ _)
      simp only [execOp, Act.eval, List.map_toArray, List.map_cons, List.map_nil, e8]
      go_simp
      try rfl
    · cases ho
      refine grow_op rfl rfl rfl ?_
      exact grow_mem3 rfl (hd 1 (by kernel_rfl)) (hd 5 (by kernel_rfl)) (hd 9 (by kernel_rfl))
    · cases ho
      refine grow_op rfl rfl rfl ?_
      obtain ⟨ag, ac, ea, hr1⟩ : VMem3 _ _ _ _ := hd 10 (by kernel_rfl)
      refine grow_call ent_obj rfl ?_
      have ea' : a'.tmps.getD 16 undef = _ := ea
      simp only [List.map_toArray, List.map_cons, List.map_nil, Act.eval, ea']
      exact ((obj_any (fun _ => True) (some ⟨ag, 0, none⟩) ac (strsH k t) (cellsH k t) w' (rdo_H hr1) (reps_H k t _ w') (show (3 : Nat) ≤ 1000000 by decide) (fun e => by cases e)).mono (fun e w'' ⟨h2, cs, h1, h3⟩ => ⟨_, h1, ⟨cs, rfl, _, h3⟩, h2⟩))
    · cases ho
      refine grow_op rfl rfl rfl ?_
      obtain ⟨cs, ea, ok, hr1⟩ : VVal _ _ _ := hd 11 (by kernel_rfl)
      refine grow_call ent_jprint rfl ?_
      have ea' : a'.tmps.getD 17 undef = _ := ea
      simp only [List.map_toArray, List.map_cons, List.map_nil, Act.eval, ea']
      exact ((HPR.out ok cs w' hr1).mono (fun e w'' ⟨h1, h2⟩ => ⟨_, h1, rfl, h2⟩))
    · cases ho
      refine grow_op rfl rfl rfl (grow_move rfl ?_)
      exact hd 12 (by kernel_rfl)
    · cases ho
      refine grow_op rfl rfl rfl ?_
      have e13 : a'.tmps.getD 5 undef = .tuple #[.string ⟨H.toArray⟩, .int .i64 0] := hd 13 (by kernel_rfl)
      refine grow_value (v := .string ⟨H.toArray⟩) (w' := w') ?_ rfl (Below.refl _ _)
      simp only [execOp, Act.eval, e13]
      go_simp
    · cases ho
      refine grow_op rfl rfl rfl ?_
      have e13 : a'.tmps.getD 5 undef = .tuple #[.string ⟨H.toArray⟩, .int .i64 0] := hd 13 (by kernel_rfl)
      refine grow_value (v := .int .i64 0) (w' := w') ?_ rfl (Below.refl _ _)
      simp only [execOp, Act.eval, e13]
      go_simp
    · cases ho
      refine grow_op rfl rfl rfl (grow_assign rfl ?_)
      exact hd 14 (by kernel_rfl)
    · cases ho
      refine grow_op rfl rfl rfl (grow_assign rfl ?_)
      exact hd 15 (by kernel_rfl)
    · simp at ho
  · intro a' w' hf hb hd
    have h3 : a'.tmps.getD 3 undef = .string ⟨H.toArray⟩ := hd 16 (by decide)
    have hsz : a'.tmps.size = 22 := hf.size.trans rfl
    have h3' : a'.tmps[3]'(by rw [hsz]; decide) = .string ⟨H.toArray⟩ := by
      rw [← h3, Array.getD_eq_getD_getElem?, Array.getElem?_eq_getElem (by rw [hsz]; decide)]
      rfl
    have hdf : a'.defers = [] := hf.defers
    have HBx := Lib.hid (HB1.out.trans (hb.mono HB1.out.size))
    clear hd hb hf h3
    go_wp2_with fail
    refine bodyPost_ret (v := .string ⟨H.toArray⟩) (by simp [results, Tryz.results69, go_sem, hsz]) (by first | exact hdf | rfl) ?_
    exact ⟨rfl, HBx.out⟩
end Go.Proofs.YtfdijcdpmgkdkaaGreatDoor
set_option linter.unusedVariables false
namespace Go.Proofs.YtfdijcdpmgkdkaaGreatDoor
open Go.RowKit

theorem ent_code : ∀ args w, (callFunc 70 args).run Tryz.prog w = .ok (.enter 70 args) w := run_enters Tryz.func70 (by kernel_rfl) rfl
theorem grow_code {Q : Exit → Act → World → Prop} {o : Oper} {a : Act} {w : World} {x y : Operand} {ts : Array TypeId} {key M : List UInt8} {ps : List (List UInt8)} (he : ps.flatten = M) (ho : o.op = .call { callee := .value (.func 70), args := #[x, y], argTypes := ts }) (hx : VBytes key (a.eval x) w) (hy : VParts ps (a.eval y) w) (hk : key.length ≤ 800000) (hps : ps.length ≤ 1000000) (hlen : M.length ≤ 800000) :
    o.wp Tryz.prog a w (Grew o.dst (VBytes (mac key M)) a w) Q := by
  subst he
  obtain ⟨ak, ck, e1, h1⟩ := hx
  obtain ⟨ap, cp, e2, h2⟩ := hy
  refine grow_call ent_code ho ?_
  simp only [List.map_toArray, List.map_cons, List.map_nil, e1, e2]
  refine (code_any ak ck _ key ps ap _ cp w h1 rfl h2 rfl hk hps hlen).mono ?_
  rintro e w' ⟨v', rfl, ht, hb⟩
  obtain ⟨a', c', h1, h2, _⟩ := ht.shape
  exact ⟨v', rfl, ⟨a', c', h1, h2⟩, hb⟩
theorem or_zero (x y : Nat) : x ||| y = 0 ↔ x = 0 ∧ y = 0 := Nat.or_eq_zero_iff
theorem xor_zero (x y : Nat) : x ^^^ y = 0 ↔ x = y := by
  constructor
  · intro h
    have h2 : x ^^^ y ^^^ y = y := by rw [h]; simp
    rwa [Nat.xor_assoc, Nat.xor_self, Nat.xor_zero] at h2
  · rintro rfl
    exact Nat.xor_self x
end Go.Proofs.YtfdijcdpmgkdkaaGreatDoor
set_option linter.unusedVariables false
namespace Go.Proofs.YtfdijcdpmgkdkaaGreatDoor
open Go.RowKit

theorem heap_new_at (w : World) (o : Obj) (h : w.heap.size < (w.alloc o).heap.size) : (w.alloc o).heap[w.heap.size] = o := by
  have h1 := heap_alloc_new w o
  rw [Array.getElem?_eq_getElem h] at h1
  simpa using h1

set_option maxRecDepth 100000 in
set_option maxHeartbeats 4000000 in
theorem rpad_any (a : Option Addr) (c : Nat) (l : List UInt8) (n : Nat) (xb : UInt8) (X : Int) (w : World) (hr : Rd w a l) (hn : n = l.length) (hX : X = (xb.toNat : Nat)) (hlen : l.length ≤ 900000) :
    Calls Tryz.prog 112 #[.slice a n c, .int .u8 X] w fun e w' => ∃ v', e = .returned v' ∧ Tl w.heap.size w' v' (padF l xb) ∧ Below w.heap.size w w' := by
  subst hn hX
  have HR := Lib.hid hr
  clear hr
  go_enter Tryz.func112, Tryz.ntmps112
  by_cases h64 : l.length ≤ 64
  · have h64I : (l.length : Int) ≤ 64 := by omega
    have HPF : Hid (padF l xb = (padK l).map (· ^^^ xb)) := Lib.hid (by unfold padF keyF; rw [if_neg (by omega)])
    have HK : Hid (Rd w a l) := HR
    have HKL : Hid (l.length = l.length) := Lib.hid rfl
    have HK64 : Hid (l.length ≤ 64) := Lib.hid h64
    have HW2 : Hid (Below w.heap.size w w) := Lib.hid (Below.refl _ _)
    go_upto_region 4 with (fail)
    go_wp2_with fail
    go_loopg [6, 5] 64 (fun k y x wr => ∃ j q co : Nat, ∃ ao : Option Addr, y = .int .i64 j ∧ x = .slice ao q co ∧ j + k = 64 ∧ Hid (Tl w.heap.size wr (.slice ao q co) ((padF l xb).take j)) ∧ Hid (Below w.heap.size w wr))
    case atStart => exact ⟨0, 0, 0, none, rfl, rfl, rfl, Lib.hid (Tl.nil _ _), Lib.hid (Below.refl _ _)⟩
    case round =>
      obtain ⟨j, q, co, ao, rfl, rfl, hj, HT, HBK⟩ := hrel
      by_cases hlt : j < 64
      · have hpl := padF_len l xb
        have hpk : (padK l).length = 64 := padK_len l (by have := HK64.out; first | omega | (have := HKL.out; omega))
        have htk : (padF l xb).take (j + 1) = (padF l xb).take j ++ [(padF l xb)[j]] := by rw [List.take_add_one, List.getElem?_eq_getElem (by omega)]; rfl
        have hat : (padF l xb)[j]? = ((padK l)[j]?).map (· ^^^ xb) := by rw [HPF.out, List.getElem?_map]
        rw [List.getElem?_eq_getElem (by omega)] at hat
        have htl : ((padF l xb).take j).length ≤ 64 := by simp; omega
        have HTLL := Lib.hid htl
        have j0 : 0 ≤ (j : Int) := by omega
        have jn : ((j : Int)).toNat = j := by omega
        have jlt : (j : Int) < 64 := by omega
        obtain ⟨pb, hpb⟩ : ∃ x, (padF l xb)[j] = x := ⟨_, rfl⟩
        rw [hpb] at htk hat
        have HTK := Lib.hid htk
        by_cases hjk : j < l.length
        · obtain ⟨bk, ok, hak, hck⟩ := (HK.out.below HBK.out).at hjk
          have hcell := hck j hjk
          have hpb2 : pb = l[j] ^^^ xb := by
            unfold padK at hat
            rw [List.getElem?_append_left hjk, List.getElem?_eq_getElem hjk] at hat
            simpa using hat
          have hxo : bits .xor .u8 ((xb.toNat : Nat) : Int) (((l[j]).toNat : Nat) : Int) = ((pb.toNat : Nat) : Int) := by
            rw [u8_xor_nat _ _ xb.toNat_lt (l[j]).toNat_lt, hpb2, UInt8.toNat_xor, Nat.xor_comm]
          have jkI : (j : Int) < ((l.length : Nat) : Int) := by have := HKL.out; omega
          obtain ⟨n1, hn1⟩ : ∃ x, (l[j]).toNat = x := ⟨_, rfl⟩
          rw [hn1] at hcell hxo
          subst hak
          clear hat hn1 hpb hpb2 htk htl hck hpl hpk hjk
          go_wp2_with (at_builtin; go_loud (refine wpList_append_tl rfl (.tmp 28) (.tmp 30) rfl w.heap.size _ _ rfl (HT.out.alloc _) (some ⟨wr.heap.size, 0, none⟩) [pb] 1 1 rfl rfl (Rd.of_lit (T := 5) (fr := (0, 0)) [pb] ?c0) ?c1 ?c2 ?_))
          case c0 => first | (rw [heap_alloc_new]; rfl) | (simp only [Lib.byteCells, List.map_cons, List.map_nil]; exact heap_new_at _ _ _)
          case c1 => have := HTLL.out; first | omega | (simp only [List.length_singleton]; omega)
          case c2 => have := HBK.out.size; first | omega | (simp; omega)
          intro a4 n4 c4 w4 hn4 ht4 hg4 how4
          have hb5 : Below w.heap.size w w4 := below_grow_tl (HBK.out.alloc HBK.out.size (.cells #[.int .u8 (pb.toNat : Int)] 5)) (HT.out.alloc _) hg4 (by have := HBK.out.size; simp; omega)
          have ht5 : Tl w.heap.size w4 (.slice a4 n4 c4) ((padF l xb).take (j + 1)) := by rw [HTK.out]; exact ht4
          have HT5 := Lib.hid ht5
          have HB5 := Lib.hid hb5
          clear hn4 ht4 hg4 how4 hb5 ht5
          go_wp2_with fail
          go_roundg (gk - 1)
          case measure => omega
          case rel => exact ⟨j + 1, n4, c4, a4, by go_num, rfl, by omega, HT5, HB5⟩
        · have hpb2 : pb = xb := by
            unfold padK at hat
            rw [List.getElem?_append_right (by omega), List.getElem?_replicate, if_pos (by omega)] at hat
            simpa using hat
          have jkI : ¬ (j : Int) < ((l.length : Nat) : Int) := by have := HKL.out; omega
          have htk2 := HTK.out
          rw [hpb2] at htk2
          have HTK := Lib.hid htk2
          clear hat hpb htk htk2 htl hpl hpk hjk hpb2
          go_wp2_with (at_builtin; go_loud (refine wpList_append_tl rfl (.tmp 28) (.tmp 30) rfl w.heap.size _ _ rfl (HT.out.alloc _) (some ⟨wr.heap.size, 0, none⟩) [xb] 1 1 rfl rfl (Rd.of_lit (T := 5) (fr := (0, 0)) [xb] ?c0) ?c1 ?c2 ?_))
          case c0 => first | (rw [heap_alloc_new]; rfl) | (simp only [Lib.byteCells, List.map_cons, List.map_nil]; exact heap_new_at _ _ _)
          case c1 => have := HTLL.out; first | omega | (simp only [List.length_singleton]; omega)
          case c2 => have := HBK.out.size; first | omega | (simp; omega)
          intro a4 n4 c4 w4 hn4 ht4 hg4 how4
          have hb5 : Below w.heap.size w w4 := below_grow_tl (HBK.out.alloc HBK.out.size (.cells #[.int .u8 (xb.toNat : Int)] 5)) (HT.out.alloc _) hg4 (by have := HBK.out.size; simp; omega)
          have ht5 : Tl w.heap.size w4 (.slice a4 n4 c4) ((padF l xb).take (j + 1)) := by rw [HTK.out]; exact ht4
          have HT5 := Lib.hid ht5
          have HB5 := Lib.hid hb5
          clear hn4 ht4 hg4 how4 hb5 ht5
          go_wp2_with fail
          go_roundg (gk - 1)
          case measure => omega
          case rel => exact ⟨j + 1, n4, c4, a4, by go_num, rfl, by omega, HT5, HB5⟩
      · obtain rfl : j = 64 := by omega
        have ht := HT.out
        rw [List.take_of_length_le (by rw [padF_len]; exact Nat.le_refl _)] at ht
        have htw := ht.mono HW2.out.size
        have hbw := HW2.out.trans (HBK.out.mono HW2.out.size)
        have HTW := Lib.hid htw
        have HBW := Lib.hid hbw
        clear ht htw hbw HT HBK
        go_wp2_with fail
        go_ret
        exact ⟨_, rfl, HTW.out, HBW.out⟩
  · have h64I : (64 : Int) < (l.length : Int) := by omega
    have hkf : padF l xb = (padK (sha l)).map (· ^^^ xb) := by unfold padF keyF; rw [if_pos (by omega)]
    have HPF := Lib.hid hkf
    have HSM := Lib.hid (sum_ref l a l.length c w HR.out rfl hlen)
    clear hkf
    go_wp2_with fail
    refine HSM.out.mono ?_
    rintro e w2 ⟨v2, rfl, ht2, hb2⟩
    obtain ⟨ak, ck, rfl, hrk, _⟩ := ht2.shape
    rw [sha_len]
    have HK := Lib.hid hrk
    have HKL : Hid ((sha l).length = 32) := Lib.hid (sha_len l)
    have HK64 : Hid (32 ≤ 64) := Lib.hid (by decide)
    have HW2 := Lib.hid hb2
    clear ht2 hb2 hrk HSM
    go_upto_region 4 with (fail)
    go_wp2_with fail
    go_loopg [6, 5] 64 (fun k y x wr => ∃ j q co : Nat, ∃ ao : Option Addr, y = .int .i64 j ∧ x = .slice ao q co ∧ j + k = 64 ∧ Hid (Tl w2.heap.size wr (.slice ao q co) ((padF l xb).take j)) ∧ Hid (Below w2.heap.size w2 wr))
    case atStart => exact ⟨0, 0, 0, none, rfl, rfl, rfl, Lib.hid (Tl.nil _ _), Lib.hid (Below.refl _ _)⟩
    case round =>
      obtain ⟨j, q, co, ao, rfl, rfl, hj, HT, HBK⟩ := hrel
      by_cases hlt : j < 64
      · have hpl := padF_len l xb
        have hpk : (padK (sha l)).length = 64 := padK_len (sha l) (by have := HK64.out; first | omega | (have := HKL.out; omega))
        have htk : (padF l xb).take (j + 1) = (padF l xb).take j ++ [(padF l xb)[j]] := by rw [List.take_add_one, List.getElem?_eq_getElem (by omega)]; rfl
        have hat : (padF l xb)[j]? = ((padK (sha l))[j]?).map (· ^^^ xb) := by rw [HPF.out, List.getElem?_map]
        rw [List.getElem?_eq_getElem (by omega)] at hat
        have htl : ((padF l xb).take j).length ≤ 64 := by simp; omega
        have HTLL := Lib.hid htl
        have j0 : 0 ≤ (j : Int) := by omega
        have jn : ((j : Int)).toNat = j := by omega
        have jlt : (j : Int) < 64 := by omega
        obtain ⟨pb, hpb⟩ : ∃ x, (padF l xb)[j] = x := ⟨_, rfl⟩
        rw [hpb] at htk hat
        have HTK := Lib.hid htk
        by_cases hjk : j < (sha l).length
        · obtain ⟨bk, ok, hak, hck⟩ := (HK.out.below HBK.out).at hjk
          have hcell := hck j hjk
          have hpb2 : pb = (sha l)[j] ^^^ xb := by
            unfold padK at hat
            rw [List.getElem?_append_left hjk, List.getElem?_eq_getElem hjk] at hat
            simpa using hat
          have hxo : bits .xor .u8 ((xb.toNat : Nat) : Int) ((((sha l)[j]).toNat : Nat) : Int) = ((pb.toNat : Nat) : Int) := by
            rw [u8_xor_nat _ _ xb.toNat_lt ((sha l)[j]).toNat_lt, hpb2, UInt8.toNat_xor, Nat.xor_comm]
          have jkI : (j : Int) < ((32 : Nat) : Int) := by have := HKL.out; omega
          obtain ⟨n1, hn1⟩ : ∃ x, ((sha l)[j]).toNat = x := ⟨_, rfl⟩
          rw [hn1] at hcell hxo
          subst hak
          clear hat hn1 hpb hpb2 htk htl hck hpl hpk hjk
          go_wp2_with (at_builtin; go_loud (refine wpList_append_tl rfl (.tmp 28) (.tmp 30) rfl w2.heap.size _ _ rfl (HT.out.alloc _) (some ⟨wr.heap.size, 0, none⟩) [pb] 1 1 rfl rfl (Rd.of_lit (T := 5) (fr := (0, 0)) [pb] ?c0) ?c1 ?c2 ?_))
          case c0 => first | (rw [heap_alloc_new]; rfl) | (simp only [Lib.byteCells, List.map_cons, List.map_nil]; exact heap_new_at _ _ _)
          case c1 => have := HTLL.out; first | omega | (simp only [List.length_singleton]; omega)
          case c2 => have := HBK.out.size; first | omega | (simp; omega)
          intro a4 n4 c4 w4 hn4 ht4 hg4 how4
          have hb5 : Below w2.heap.size w2 w4 := below_grow_tl (HBK.out.alloc HBK.out.size (.cells #[.int .u8 (pb.toNat : Int)] 5)) (HT.out.alloc _) hg4 (by have := HBK.out.size; simp; omega)
          have ht5 : Tl w2.heap.size w4 (.slice a4 n4 c4) ((padF l xb).take (j + 1)) := by rw [HTK.out]; exact ht4
          have HT5 := Lib.hid ht5
          have HB5 := Lib.hid hb5
          clear hn4 ht4 hg4 how4 hb5 ht5
          go_wp2_with fail
          go_roundg (gk - 1)
          case measure => omega
          case rel => exact ⟨j + 1, n4, c4, a4, by go_num, rfl, by omega, HT5, HB5⟩
        · have hpb2 : pb = xb := by
            unfold padK at hat
            rw [List.getElem?_append_right (by omega), List.getElem?_replicate, if_pos (by omega)] at hat
            simpa using hat
          have jkI : ¬ (j : Int) < ((32 : Nat) : Int) := by have := HKL.out; omega
          have htk2 := HTK.out
          rw [hpb2] at htk2
          have HTK := Lib.hid htk2
          clear hat hpb htk htk2 htl hpl hpk hjk hpb2
          go_wp2_with (at_builtin; go_loud (refine wpList_append_tl rfl (.tmp 28) (.tmp 30) rfl w2.heap.size _ _ rfl (HT.out.alloc _) (some ⟨wr.heap.size, 0, none⟩) [xb] 1 1 rfl rfl (Rd.of_lit (T := 5) (fr := (0, 0)) [xb] ?c0) ?c1 ?c2 ?_))
          case c0 => first | (rw [heap_alloc_new]; rfl) | (simp only [Lib.byteCells, List.map_cons, List.map_nil]; exact heap_new_at _ _ _)
          case c1 => have := HTLL.out; first | omega | (simp only [List.length_singleton]; omega)
          case c2 => have := HBK.out.size; first | omega | (simp; omega)
          intro a4 n4 c4 w4 hn4 ht4 hg4 how4
          have hb5 : Below w2.heap.size w2 w4 := below_grow_tl (HBK.out.alloc HBK.out.size (.cells #[.int .u8 (xb.toNat : Int)] 5)) (HT.out.alloc _) hg4 (by have := HBK.out.size; simp; omega)
          have ht5 : Tl w2.heap.size w4 (.slice a4 n4 c4) ((padF l xb).take (j + 1)) := by rw [HTK.out]; exact ht4
          have HT5 := Lib.hid ht5
          have HB5 := Lib.hid hb5
          clear hn4 ht4 hg4 how4 hb5 ht5
          go_wp2_with fail
          go_roundg (gk - 1)
          case measure => omega
          case rel => exact ⟨j + 1, n4, c4, a4, by go_num, rfl, by omega, HT5, HB5⟩
      · obtain rfl : j = 64 := by omega
        have ht := HT.out
        rw [List.take_of_length_le (by rw [padF_len]; exact Nat.le_refl _)] at ht
        have htw := ht.mono HW2.out.size
        have hbw := HW2.out.trans (HBK.out.mono HW2.out.size)
        have HTW := Lib.hid htw
        have HBW := Lib.hid hbw
        clear ht htw hbw HT HBK
        go_wp2_with fail
        go_ret
        exact ⟨_, rfl, HTW.out, HBW.out⟩

set_option maxRecDepth 100000 in
set_option maxHeartbeats 4000000 in
theorem rcode_any (ak : Option Addr) (ck nk : Nat) (key m : List UInt8) (am : Option Addr) (n c : Nat) (w : World) (hk : Rd w ak key) (hnk : nk = key.length) (hr : Rd w am m) (hn : n = m.length) (hkl : key.length ≤ 800000) (hlen : m.length ≤ 800000) :
    Calls Tryz.prog 72 #[.slice ak nk ck, .slice am n c] w fun e w' => ∃ v', e = .returned v' ∧ Tl w.heap.size w' v' (mac key m) ∧ Below w.heap.size w w' := by
  subst hn hnk
  have HR := Lib.hid hr
  have HKY := Lib.hid hk
  clear hr hk
  go_enter Tryz.func72, Tryz.ntmps72
  go_wp2_with fail
  refine (rpad_any ak ck key key.length 0x36 54 w HKY.out rfl rfl (by omega)).mono ?_
  rintro e w1 ⟨v1, rfl, ht1, hb1⟩
  obtain ⟨a1, c1, rfl, hr1, _⟩ := ht1.shape
  obtain ⟨P, hP⟩ : ∃ P, padF key 0x36 = P := ⟨_, rfl⟩
  have hPl : P.length = 64 := by rw [← hP]; exact padF_len _ _
  rw [hP] at ht1 hr1 ⊢
  have HT1 := Lib.hid ht1
  have HB1 := Lib.hid hb1
  have HPP := Lib.hid hP
  have HPL := Lib.hid hPl
  clear ht1 hb1 hr1 hP hPl
  go_wp2_with (at_builtin; go_loud (refine wpList_append_tl rfl (.tmp 7) (.tmp 8) rfl w.heap.size _ P rfl HT1.out am m m.length c rfl rfl (HR.out.below HB1.out) ?c1 ?c2 ?_))
  case c1 => have := HPL.out; omega
  case c2 => exact HB1.out.size
  intro a2 n2 c2 w2 hn2 ht2 hg2 how2
  have hb2 : Below w.heap.size w w2 := below_grow_tl HB1.out HT1.out hg2 HB1.out.size
  obtain ⟨a', c', hsh, hr2, _⟩ := ht2.shape
  simp at hsh
  obtain ⟨rfl, rfl, rfl⟩ := hsh
  have hsm := sum_ref (P ++ m) a2 (P ++ m).length c2 w2 hr2 rfl (by rw [List.length_append]; have := HPL.out; omega)
  rw [List.length_append] at hsm
  have HSM := Lib.hid hsm
  have HB2 := Lib.hid hb2
  clear hn2 ht2 hg2 how2 hb2 hr2 hsm HT1 HB1
  go_wp2_with fail
  refine HSM.out.mono ?_
  rintro e w3 ⟨v3, rfl, ht3, hb3⟩
  obtain ⟨a3, c3, rfl, hr3, _⟩ := ht3.shape
  have hb3w := HB2.out.trans (hb3.mono HB2.out.size)
  obtain ⟨I, hI⟩ : ∃ I, sha (P ++ m) = I := ⟨_, rfl⟩
  have hIl : I.length = 32 := by rw [← hI]; exact sha_len _
  rw [hI] at hr3 ⊢
  have HR3 := Lib.hid hr3
  have HB3 := Lib.hid hb3w
  have HII := Lib.hid hI
  have HIL := Lib.hid hIl
  clear ht3 hb3 hb3w hr3 hI hIl HSM HB2
  go_wp2_with fail
  refine (rpad_any ak ck key key.length 0x5c 92 w3 (HKY.out.below HB3.out) rfl rfl (by omega)).mono ?_
  rintro e w4 ⟨v4, rfl, ht4, hb4⟩
  obtain ⟨a4, c4, rfl, hr4, _⟩ := ht4.shape
  have hb4w := HB3.out.trans (hb4.mono HB3.out.size)
  have hr34 := HR3.out.below hb4
  have ht4w := ht4.mono HB3.out.size
  obtain ⟨O, hO⟩ : ∃ O, padF key 0x5c = O := ⟨_, rfl⟩
  have hOl : O.length = 64 := by rw [← hO]; exact padF_len _ _
  rw [hO] at ht4w ⊢
  have HT4 := Lib.hid ht4w
  have HB4 := Lib.hid hb4w
  have HR4 := Lib.hid hr34
  have HOO := Lib.hid hO
  have HOL := Lib.hid hOl
  clear ht4 hb4 hr4 hb4w hr34 ht4w hO hOl HR3 HB3
  go_wp2_with (at_builtin; go_loud (refine wpList_append_tl rfl (.tmp 12) (.tmp 13) rfl w.heap.size _ O rfl HT4.out a3 I I.length c3 rfl rfl HR4.out ?c1 ?c2 ?_))
  case c1 => have := HOL.out; have := HIL.out; omega
  case c2 => exact HB4.out.size
  intro a5 n5 c5 w5 hn5 ht5 hg5 how5
  have hb5 : Below w.heap.size w w5 := below_grow_tl HB4.out HT4.out hg5 HB4.out.size
  obtain ⟨a', c', hsh, hr5, _⟩ := ht5.shape
  simp at hsh
  obtain ⟨rfl, rfl, rfl⟩ := hsh
  have hsm := sum_ref (O ++ I) a5 (O ++ I).length c5 w5 hr5 rfl (by rw [List.length_append]; have := HOL.out; have := HIL.out; omega)
  rw [List.length_append] at hsm
  have HSM := Lib.hid hsm
  have HB5 := Lib.hid hb5
  clear hn5 ht5 hg5 how5 hb5 hr5 hsm HT4 HB4 HR4
  go_wp2_with fail
  refine HSM.out.mono ?_
  rintro e w6 ⟨v6, rfl, ht6, hb6⟩
  have hmac : sha (O ++ I) = mac key m := by
    unfold mac
    rw [HOO.out, HPP.out, HII.out]
  rw [hmac] at ht6
  have hb7 := HB5.out.trans (hb6.mono HB5.out.size)
  have ht7 := ht6.mono HB5.out.size
  obtain ⟨a7, c7, rfl, _⟩ := ht7.shape
  have HT7 := Lib.hid ht7
  have HB7 := Lib.hid hb7
  rw [mac_len] at HT7 ⊢
  clear ht6 hb6 hb7 ht7 hmac HSM
  go_wp2_with fail
  go_ret
  exact ⟨_, rfl, HT7.out, HB7.out⟩
end Go.Proofs.YtfdijcdpmgkdkaaGreatDoor
