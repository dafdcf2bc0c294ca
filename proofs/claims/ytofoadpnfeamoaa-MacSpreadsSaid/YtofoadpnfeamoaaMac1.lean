/- mac.pad. -/
import Derived.Test.YtofoadpnfeamoaaGrowS
import Derived.Test.YtofoadpnfeamoaaShaL
import Derived.Laws.CopyOwn
import Derived.Laws.BitsAllLaws
set_option linter.unusedVariables false
namespace Go.Proofs.Ytofoadpnfeamoaa
open Go.RowKit

/-- Noughts behind a key. -/
def padK (k : List UInt8) : List UInt8 := k ++ List.replicate (64 - k.length) 0
/-- What a key stands for. -/
def keyF (k : List UInt8) : List UInt8 := if k.length > 64 then sha k else k
def padF (k : List UInt8) (x : UInt8) : List UInt8 := (padK (keyF k)).map (· ^^^ x)
theorem padK_len (k : List UInt8) (h : k.length ≤ 64) : (padK k).length = 64 := by simp [padK]; omega
theorem keyF_len (k : List UInt8) : (keyF k).length ≤ 64 := by
  unfold keyF
  split
  · rw [sha_len]; decide
  · omega
theorem padF_len (k : List UInt8) (x : UInt8) : (padF k x).length = 64 := by
  unfold padF
  rw [List.length_map, padK_len _ (keyF_len k)]
theorem splice_padN (n : Nat) (k : List UInt8) (h : k.length ≤ n) : splice (Lib.byteCells (edge n 0 0)) 0 (Lib.byteCells k) = Lib.byteCells (k ++ List.replicate (n - k.length) 0) := by
  simp [splice, edge, Lib.byteCells]
theorem splice_pad (k : List UInt8) (h : k.length ≤ 64) : splice (Lib.byteCells (edge 64 0 0)) 0 (Lib.byteCells k) = Lib.byteCells (padK k) := splice_padN 64 k h
/-- The first j bytes are xored. -/
def xorN (l : List UInt8) (x : UInt8) (j : Nat) : List UInt8 := (l.take j).map (· ^^^ x) ++ l.drop j
theorem xorN_zero (l : List UInt8) (x : UInt8) : xorN l x 0 = l := by simp [xorN]
theorem xorN_all (l : List UInt8) (x : UInt8) (h : l.length = 64) : xorN l x 64 = l.map (· ^^^ x) := by
  simp [xorN, List.take_of_length_le (by omega : l.length ≤ 64), List.drop_eq_nil_of_le (by omega : l.length ≤ 64)]
theorem xorN_at (l : List UInt8) (x : UInt8) (j : Nat) (h : j < l.length) : (xorN l x j)[j]? = some l[j] := by
  unfold xorN
  rw [List.getElem?_append_right (by simp; omega)]
  simp
  rw [Nat.min_eq_left (by omega)]
  simp [h]
theorem xorN_step (l : List UInt8) (x : UInt8) (j : Nat) (h : j < l.length) : (Lib.byteCells (xorN l x j)).toArray.setIfInBounds j (.int .u8 ((l[j] ^^^ x).toNat : Nat)) = (Lib.byteCells (xorN l x (j + 1))).toArray := by
  have e1 : (Lib.byteCells (xorN l x j)).set j (.int .u8 ((l[j] ^^^ x).toNat : Nat)) = Lib.byteCells ((xorN l x j).set j (l[j] ^^^ x)) := by simp [Lib.byteCells, List.map_set]
  have e2 : (xorN l x j).set j (l[j] ^^^ x) = xorN l x (j + 1) := by
    unfold xorN
    rw [List.drop_eq_getElem_cons h, List.set_append_right _ _ (by simp; omega), List.take_add_one, List.getElem?_eq_getElem h]
    simp only [List.length_map, List.length_take, Nat.min_eq_left (show j ≤ l.length by omega), Nat.sub_self, List.set_cons_zero, List.map_append, List.append_assoc, Option.toList_some, List.map_cons, List.map_nil, List.cons_append, List.nil_append]
  rw [List.setIfInBounds_toArray, e1, e2]

set_option maxRecDepth 100000 in
set_option maxHeartbeats 4000000 in
theorem pad_any (a : Option Addr) (c : Nat) (l : List UInt8) (n : Nat) (xb : UInt8) (X : Int) (w : World) (hr : Rd w a l) (hn : n = l.length) (hX : X = (xb.toNat : Nat)) (hlen : l.length ≤ 900000) :
    Calls Try.prog 51 #[.slice a n c, .int .u8 X] w fun e w' => ∃ g, e = .returned (.slice (some ⟨g, 0, none⟩) 64 64) ∧ Tl w.heap.size w' (.slice (some ⟨g, 0, none⟩) 64 64) (padF l xb) ∧ Below w.heap.size w w' := by
  subst hn hX
  have HR := Lib.hid hr
  clear hr
  obtain ⟨i0, hi, hz0, hz1, hz2⟩ := info_u8'
  have HI := Lib.hid (And.intro hi (And.intro hz0 (And.intro hz1 hz2)))
  clear hi hz0 hz1 hz2
  go_enter Try.func51, Try.ntmps51
  by_cases h64 : l.length ≤ 64
  · have h64I : (l.length : Int) ≤ 64 := by omega
    have HPF : Hid (padF l xb = (padK l).map (· ^^^ xb)) := Lib.hid (by unfold padF keyF; rw [if_neg (by omega)])
    have HK : Hid (Rd w a l) := HR
    have HKL : Hid (l.length = l.length) := Lib.hid rfl
    have HK64 : Hid (l.length ≤ 64) := Lib.hid h64
    have HW2 : Hid (Below w.heap.size w w) := Lib.hid (Below.refl _ _)
    go_upto_region 3 with (fail)
    apply wp_region_lit
    refine wpList_make_row w rfl (.const (.int .i64 64)) (.const (.int .i64 64)) 22 rfl 5 i0 (.int .u8 0) Try.underlying22 HI.out.1 HI.out.2.1 HI.out.2.2.1 rfl .i64 .i64 64 rfl rfl (by rw [HI.out.2.2.2]; decide) (by decide) ?_
    rw [edge_made 64 0]
    have hnew := heap_alloc_new w (.cells (Lib.byteCells (edge 64 0 0)).toArray 5)
    have hb3 : Below w.heap.size w (w.alloc (.cells (Lib.byteCells (edge 64 0 0)).toArray 5)) := (Below.refl _ _).alloc (Nat.le_refl _) _
    have hrk3 := HK.out.below hb3
    obtain ⟨w3, hw3⟩ : ∃ w3, w.alloc (.cells (Lib.byteCells (edge 64 0 0)).toArray 5) = w3 := ⟨_, rfl⟩
    rw [hw3] at hnew hb3 hrk3 ⊢
    obtain ⟨g, hg⟩ : ∃ g, w.heap.size = g := ⟨_, rfl⟩
    rw [hg] at hnew hb3 ⊢
    have HN := Lib.hid hnew
    have HB3 := Lib.hid hb3
    have HG := Lib.hid hg
    have HRK := Lib.hid hrk3
    clear hw3 hnew hb3 hg hrk3
    go_upto_region 4 with (fail)
    apply wp_region_lit
    iterate 2 (refine wpList_plain rfl (fun K hK => ?_); go_simp; (with_reducible refine hK _ _ ?_); clear hK K)
    refine wpList_copy_splice rfl (.tmp 14) (.tmp 15) 22 22 rfl 5 Try.underlying22 (by kernel_rfl) (some ⟨g, 0, none⟩) a 64 64 l.length c rfl rfl g 0 (Lib.byteCells (edge 64 0 0)) 5 HN.out (Lib.byteCells l) (by rw [byteCells_len, HKL.out]; exact (Nat.min_eq_left HK64.out).symm) (fun hpos => ⟨rfl, by
      rcases HRK.out with h | ⟨b, off, h, hc⟩
      · rw [h] at hpos; simp [Lib.byteCells] at hpos
      · refine ⟨_, h, fun j v hv => ?_⟩
        have hj : j < l.length := by have := (List.getElem?_eq_some_iff.1 hv).1; simpa [Lib.byteCells] using this
        simp [Lib.byteCells, hj] at hv
        rw [Addr.add_lit, hc j hj, ← hv]⟩) (by have := HK64.out; have := HKL.out; rw [byteCells_len, byteCells_len]; simp [edge]; omega) (byteCells_one l) g w HB3.out (Nat.le_refl _) ?_
    intro w4 hc4 hb4
    have hpl : splice (Lib.byteCells (edge 64 0 0)) 0 (Lib.byteCells l) = Lib.byteCells (padK l) := splice_pad l (by rw [HKL.out]; exact HK64.out)
    have hc4' := hc4.out
    rw [hpl] at hc4'
    have hplen := padK_len l (by rw [HKL.out]; exact HK64.out)
    obtain ⟨L, hL⟩ : ∃ L, padK l = L := ⟨_, rfl⟩
    rw [hL] at hc4' hplen
    have hx0 := xorN_zero L xb
    rw [← hx0] at hc4'
    have HC4 := Lib.hid hc4'
    have HB4 := Lib.hid hb4
    have HL := Lib.hid hL
    clear hc4 hb4 hpl hc4' hL hx0 HN HB3 HRK
    rw [byteCells_len]
    go_wp2_with fail
    go_loopg [19] 64 (fun k y wr => ∃ j : Nat, y = .int .i64 j ∧ j + k = 64 ∧ Hid (wr.heap[g]? = some (.cells (Lib.byteCells (xorN L xb j)).toArray 5 (0, 0))) ∧ Hid (Below g w wr))
    case atStart => exact ⟨0, rfl, rfl, HC4, HB4⟩
    case round =>
      clear HC4 HB4
      obtain ⟨j, rfl, hj, HC, HB⟩ := hrel
      by_cases hlt : j < 64
      · have hlj : j < L.length := by omega
        have hcx : wr.cell? ⟨g, j, none⟩ = some (.int .u8 ((L[j]).toNat : Nat)) := by
          rw [Lib.cell_of_heap HC.out]
          simp only [List.getElem?_toArray, Lib.byteCells, List.getElem?_map, xorN_at L xb j hlj]
          rfl
        have hfz : wr.frozen? ⟨g, j, none⟩ = false := Lib.frozen_of_heap HC.out j
        have hxo : bits .xor .u8 (((L[j]).toNat : Nat) : Int) ((xb.toNat : Nat) : Int) = (((L[j] ^^^ xb).toNat : Nat) : Int) := by
          rw [u8_xor_nat _ _ (L[j]).toNat_lt xb.toNat_lt, UInt8.toNat_xor]
        have hst := xorN_step L xb j hlj
        obtain ⟨x0, hx0⟩ : ∃ x, L[j] = x := ⟨_, rfl⟩
        rw [hx0] at hcx hxo hst
        obtain ⟨n1, hn1⟩ : ∃ x, x0.toNat = x := ⟨_, rfl⟩
        rw [hn1] at hcx hxo
        obtain ⟨x1, hx1⟩ : ∃ x, x0 ^^^ xb = x := ⟨_, rfl⟩
        rw [hx1] at hxo hst
        have HST := Lib.hid hst
        have j0 : 0 ≤ (j : Int) := by omega
        have jn : ((j : Int)).toNat = j := by omega
        have jlt : (j : Int) < 64 := by omega
        clear hst hx0 hn1 hx1
        go_wp2_with fail
        go_roundg (gk - 1)
        case measure => omega
        case rel =>
          refine ⟨j + 1, by go_num, by omega, Lib.hid ?_, Lib.hid (HB.out.setCell (by simp) _)⟩
          rw [setCell_block HC.out, HST.out]
      · obtain rfl : j = 64 := by omega
        have hc := HC.out
        rw [xorN_all L xb (by omega)] at hc
        have hbw : Below w.heap.size w wr := HW2.out.trans ((show Below w.heap.size w wr by rw [HG.out]; exact HB.out).mono HW2.out.size)
        have htl : Tl w.heap.size wr (.slice (some ⟨g, 0, none⟩) 64 64) (padF l xb) := by
          rw [HPF.out, HL.out]
          exact .inr ⟨g, 0, 64, _, by rw [List.length_map, hplen], by rw [← HG.out]; exact HW2.out.size, hc, by rw [List.length_map, hplen]; exact Nat.le_refl _, by simp [Lib.byteCells, hplen], by decide, fun i hi => by
            rw [Nat.zero_add]
            simp [Lib.byteCells] at hi ⊢
            simp [hi]⟩
        have HT := Lib.hid htl
        have HBW := Lib.hid hbw
        clear htl hbw hc
        go_wp2_with fail
        go_ret
        exact ⟨g, rfl, HT.out, HBW.out⟩
  · have h64I : (64 : Int) < (l.length : Int) := by omega
    have hkf : padF l xb = (padK (sha l)).map (· ^^^ xb) := by unfold padF keyF; rw [if_pos (by omega)]
    have HPF := Lib.hid hkf
    have hrs := RdS.one (c := c) HR.out 22
    have hsm := sum_any [l] (some ⟨w.heap.size, 0, none⟩) 1 1 _ hrs rfl (by simp) (by simp; omega)
    rw [List.flatten_singleton] at hsm
    have HSM := Lib.hid hsm
    clear hkf hrs hsm
    go_wp2_with fail
    refine HSM.out.mono ?_
    rintro e w2 ⟨v2, rfl, ht2, hb2⟩
    obtain ⟨ak, ck, rfl, hrk, _⟩ := ht2.shape
    have hb2' : Below w.heap.size w w2 := ((Below.refl _ _).alloc (Nat.le_refl _) (.cells #[.slice a l.length c] 22)).trans (hb2.mono (by simp))
    rw [sha_len]
    have HK := Lib.hid hrk
    have HKL : Hid ((sha l).length = 32) := Lib.hid (sha_len l)
    have HK64 : Hid (32 ≤ 64) := Lib.hid (by decide)
    have HW2 := Lib.hid hb2'
    clear ht2 hb2 hb2' hrk HSM
    go_upto_region 3 with (fail)
    apply wp_region_lit
    refine wpList_make_row w2 rfl (.const (.int .i64 64)) (.const (.int .i64 64)) 22 rfl 5 i0 (.int .u8 0) Try.underlying22 HI.out.1 HI.out.2.1 HI.out.2.2.1 rfl .i64 .i64 64 rfl rfl (by rw [HI.out.2.2.2]; decide) (by decide) ?_
    rw [edge_made 64 0]
    have hnew := heap_alloc_new w2 (.cells (Lib.byteCells (edge 64 0 0)).toArray 5)
    have hb3 : Below w2.heap.size w2 (w2.alloc (.cells (Lib.byteCells (edge 64 0 0)).toArray 5)) := (Below.refl _ _).alloc (Nat.le_refl _) _
    have hrk3 := HK.out.below hb3
    obtain ⟨w3, hw3⟩ : ∃ w3, w2.alloc (.cells (Lib.byteCells (edge 64 0 0)).toArray 5) = w3 := ⟨_, rfl⟩
    rw [hw3] at hnew hb3 hrk3 ⊢
    obtain ⟨g, hg⟩ : ∃ g, w2.heap.size = g := ⟨_, rfl⟩
    rw [hg] at hnew hb3 ⊢
    have HN := Lib.hid hnew
    have HB3 := Lib.hid hb3
    have HG := Lib.hid hg
    have HRK := Lib.hid hrk3
    clear hw3 hnew hb3 hg hrk3
    go_upto_region 4 with (fail)
    apply wp_region_lit
    iterate 2 (refine wpList_plain rfl (fun K hK => ?_); go_simp; (with_reducible refine hK _ _ ?_); clear hK K)
    refine wpList_copy_splice rfl (.tmp 14) (.tmp 15) 22 22 rfl 5 Try.underlying22 (by kernel_rfl) (some ⟨g, 0, none⟩) ak 64 64 32 ck rfl rfl g 0 (Lib.byteCells (edge 64 0 0)) 5 HN.out (Lib.byteCells (sha l)) (by rw [byteCells_len, HKL.out]; exact (Nat.min_eq_left HK64.out).symm) (fun hpos => ⟨rfl, by
      rcases HRK.out with h | ⟨b, off, h, hc⟩
      · rw [h] at hpos; simp [Lib.byteCells] at hpos
      · refine ⟨_, h, fun j v hv => ?_⟩
        have hj : j < (sha l).length := by have := (List.getElem?_eq_some_iff.1 hv).1; simpa [Lib.byteCells] using this
        simp [Lib.byteCells, hj] at hv
        rw [Addr.add_lit, hc j hj, ← hv]⟩) (by have := HK64.out; have := HKL.out; rw [byteCells_len, byteCells_len]; simp [edge]; omega) (byteCells_one (sha l)) g w2 HB3.out (Nat.le_refl _) ?_
    intro w4 hc4 hb4
    have hpl : splice (Lib.byteCells (edge 64 0 0)) 0 (Lib.byteCells (sha l)) = Lib.byteCells (padK (sha l)) := splice_pad (sha l) (by rw [HKL.out]; exact HK64.out)
    have hc4' := hc4.out
    rw [hpl] at hc4'
    have hplen := padK_len (sha l) (by rw [HKL.out]; exact HK64.out)
    obtain ⟨L, hL⟩ : ∃ L, padK (sha l) = L := ⟨_, rfl⟩
    rw [hL] at hc4' hplen
    have hx0 := xorN_zero L xb
    rw [← hx0] at hc4'
    have HC4 := Lib.hid hc4'
    have HB4 := Lib.hid hb4
    have HL := Lib.hid hL
    clear hc4 hb4 hpl hc4' hL hx0 HN HB3 HRK
    rw [byteCells_len]
    go_wp2_with fail
    go_loopg [19] 64 (fun k y wr => ∃ j : Nat, y = .int .i64 j ∧ j + k = 64 ∧ Hid (wr.heap[g]? = some (.cells (Lib.byteCells (xorN L xb j)).toArray 5 (0, 0))) ∧ Hid (Below g w2 wr))
    case atStart => exact ⟨0, rfl, rfl, HC4, HB4⟩
    case round =>
      clear HC4 HB4
      obtain ⟨j, rfl, hj, HC, HB⟩ := hrel
      by_cases hlt : j < 64
      · have hlj : j < L.length := by omega
        have hcx : wr.cell? ⟨g, j, none⟩ = some (.int .u8 ((L[j]).toNat : Nat)) := by
          rw [Lib.cell_of_heap HC.out]
          simp only [List.getElem?_toArray, Lib.byteCells, List.getElem?_map, xorN_at L xb j hlj]
          rfl
        have hfz : wr.frozen? ⟨g, j, none⟩ = false := Lib.frozen_of_heap HC.out j
        have hxo : bits .xor .u8 (((L[j]).toNat : Nat) : Int) ((xb.toNat : Nat) : Int) = (((L[j] ^^^ xb).toNat : Nat) : Int) := by
          rw [u8_xor_nat _ _ (L[j]).toNat_lt xb.toNat_lt, UInt8.toNat_xor]
        have hst := xorN_step L xb j hlj
        obtain ⟨x0, hx0⟩ : ∃ x, L[j] = x := ⟨_, rfl⟩
        rw [hx0] at hcx hxo hst
        obtain ⟨n1, hn1⟩ : ∃ x, x0.toNat = x := ⟨_, rfl⟩
        rw [hn1] at hcx hxo
        obtain ⟨x1, hx1⟩ : ∃ x, x0 ^^^ xb = x := ⟨_, rfl⟩
        rw [hx1] at hxo hst
        have HST := Lib.hid hst
        have j0 : 0 ≤ (j : Int) := by omega
        have jn : ((j : Int)).toNat = j := by omega
        have jlt : (j : Int) < 64 := by omega
        clear hst hx0 hn1 hx1
        go_wp2_with fail
        go_roundg (gk - 1)
        case measure => omega
        case rel =>
          refine ⟨j + 1, by go_num, by omega, Lib.hid ?_, Lib.hid (HB.out.setCell (by simp) _)⟩
          rw [setCell_block HC.out, HST.out]
      · obtain rfl : j = 64 := by omega
        have hc := HC.out
        rw [xorN_all L xb (by omega)] at hc
        have hbw : Below w.heap.size w wr := HW2.out.trans ((show Below w2.heap.size w2 wr by rw [HG.out]; exact HB.out).mono HW2.out.size)
        have htl : Tl w.heap.size wr (.slice (some ⟨g, 0, none⟩) 64 64) (padF l xb) := by
          rw [HPF.out, HL.out]
          exact .inr ⟨g, 0, 64, _, by rw [List.length_map, hplen], by rw [← HG.out]; exact HW2.out.size, hc, by rw [List.length_map, hplen]; exact Nat.le_refl _, by simp [Lib.byteCells, hplen], by decide, fun i hi => by
            rw [Nat.zero_add]
            simp [Lib.byteCells] at hi ⊢
            simp [hi]⟩
        have HT := Lib.hid htl
        have HBW := Lib.hid hbw
        clear htl hbw hc
        go_wp2_with fail
        go_ret
        exact ⟨g, rfl, HT.out, HBW.out⟩
end Go.Proofs.Ytofoadpnfeamoaa
