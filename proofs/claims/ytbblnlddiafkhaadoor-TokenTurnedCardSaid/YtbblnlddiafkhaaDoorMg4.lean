/- Merged: Mac1, Mac2, B64a, B64p, Build, B64b, Tok5, Tok6, Tok7, Mac3, Mac5, B64q, B64d, Tok8, B64r, Jti1, Cut, TokP, Std, B64e, Tok9, Tok11, TokQ, B64s. -/
import Derived.Laws.CopyOwn
import Derived.Laws.BitsAllLaws
import Derived.Test.YtbblnlddiafkhaaDoorProg
import Derived.WalkKit
import Derived.WalkSpells
import Derived.WalkLawsBesides
import Derived.KernelRfl
import Derived.Lib.Hide
import Derived.Deep.QuietTactic
import Derived.BigQuiet
import Derived.StillTailTactics
import Derived.RegionTactic
import Derived.ChangeAlike
import Derived.Lib.Builder
import Derived.Lib.OthersKept
import Derived.Lib.FrozenHead2
import Derived.Deep.LoopGhost
import Derived.Lib.SlBytesConst
import Derived.Deep.DeepCutAuto
import Derived.Lib.Bytealg
import Derived.Lib.Split
import Derived.Lib.SplitLaws
import Derived.Lib.IndexBytes
import Derived.Lib.IndexLaws
import Derived.Lib.IndexMore
import Derived.Lib.SmallJoins
import Derived.Lib.AtoiAll
import Derived.Test.YtbblnlddiafkhaaDoorMg1
import Derived.Test.YtbblnlddiafkhaaDoorMg2
import Derived.Test.YtbblnlddiafkhaaDoorMg3
/- mac.pad. -/
set_option linter.unusedVariables false
namespace Go.Proofs.YtbblnlddiafkhaaDoor
open Go.RowKit

/-- Noughts behind a key. -/
def padK (k : List UInt8) : List UInt8 := k ++ List.replicate (64 - k.length) 0
/-- What a key stands for. -/
def keyF (k : List UInt8) : List UInt8 := if k.length > 64 then sha k else k
def padF (k : List UInt8) (x : UInt8) : List UInt8 := (padK (keyF k)).map (· ^^^ x)
theorem padK_len (k : List UInt8) (h : k.length ≤ 64) : (padK k).length = 64 := by simp [padK]; omega
theorem keyF_len (k : List UInt8) : (keyF k).length ≤ 64 := by
  unfold keyF
  split
  · rw [sha_len]; decide
  · omega
theorem padF_len (k : List UInt8) (x : UInt8) : (padF k x).length = 64 := by
  unfold padF
  rw [List.length_map, padK_len _ (keyF_len k)]
theorem splice_padN (n : Nat) (k : List UInt8) (h : k.length ≤ n) : splice (Lib.byteCells (edge n 0 0)) 0 (Lib.byteCells k) = Lib.byteCells (k ++ List.replicate (n - k.length) 0) := by
  simp [splice, edge, Lib.byteCells]
theorem splice_pad (k : List UInt8) (h : k.length ≤ 64) : splice (Lib.byteCells (edge 64 0 0)) 0 (Lib.byteCells k) = Lib.byteCells (padK k) := splice_padN 64 k h
/-- The first j bytes are xored. -/
def xorN (l : List UInt8) (x : UInt8) (j : Nat) : List UInt8 := (l.take j).map (· ^^^ x) ++ l.drop j
theorem xorN_zero (l : List UInt8) (x : UInt8) : xorN l x 0 = l := by simp [xorN]
theorem xorN_all (l : List UInt8) (x : UInt8) (h : l.length = 64) : xorN l x 64 = l.map (· ^^^ x) := by
  simp [xorN, List.take_of_length_le (by omega : l.length ≤ 64), List.drop_eq_nil_of_le (by omega : l.length ≤ 64)]
theorem xorN_at (l : List UInt8) (x : UInt8) (j : Nat) (h : j < l.length) : (xorN l x j)[j]? = some l[j] := by
  unfold xorN
  rw [List.getElem?_append_right (by simp; omega)]
  simp
  rw [Nat.min_eq_left (by omega)]
  simp [h]
theorem xorN_step (l : List UInt8) (x : UInt8) (j : Nat) (h : j < l.length) : (Lib.byteCells (xorN l x j)).toArray.setIfInBounds j (.int .u8 ((l[j] ^^^ x).toNat : Nat)) = (Lib.byteCells (xorN l x (j + 1))).toArray := by
  have e1 : (Lib.byteCells (xorN l x j)).set j (.int .u8 ((l[j] ^^^ x).toNat : Nat)) = Lib.byteCells ((xorN l x j).set j (l[j] ^^^ x)) := by simp [Lib.byteCells, List.map_set]
  have e2 : (xorN l x j).set j (l[j] ^^^ x) = xorN l x (j + 1) := by
    unfold xorN
    rw [List.drop_eq_getElem_cons h, List.set_append_right _ _ (by simp; omega), List.take_add_one, List.getElem?_eq_getElem h]
    simp only [List.length_map, List.length_take, Nat.min_eq_left (show j ≤ l.length by omega), Nat.sub_self, List.set_cons_zero, List.map_append, List.append_assoc, Option.toList_some, List.map_cons, List.map_nil, List.cons_append, List.nil_append]
  rw [List.setIfInBounds_toArray, e1, e2]

set_option maxRecDepth 100000 in
set_option maxHeartbeats 4000000 in
theorem pad_any (a : Option Addr) (c : Nat) (l : List UInt8) (n : Nat) (xb : UInt8) (X : Int) (w : World) (hr : Rd w a l) (hn : n = l.length) (hX : X = (xb.toNat : Nat)) (hlen : l.length ≤ 900000) :
    Calls Tryd.prog 56 #[.slice a n c, .int .u8 X] w fun e w' => ∃ g, e = .returned (.slice (some ⟨g, 0, none⟩) 64 64) ∧ Tl w.heap.size w' (.slice (some ⟨g, 0, none⟩) 64 64) (padF l xb) ∧ Below w.heap.size w w' := by
  subst hn hX
  have HR := Lib.hid hr
  clear hr
  obtain ⟨i0, hi, hz0, hz1, hz2⟩ := info_u8'
  have HI := Lib.hid (And.intro hi (And.intro hz0 (And.intro hz1 hz2)))
  clear hi hz0 hz1 hz2
  go_enter Tryd.func56, Tryd.ntmps56
  by_cases h64 : l.length ≤ 64
  · have h64I : (l.length : Int) ≤ 64 := by omega
    have HPF : Hid (padF l xb = (padK l).map (· ^^^ xb)) := Lib.hid (by unfold padF keyF; rw [if_neg (by omega)])
    have HK : Hid (Rd w a l) := HR
    have HKL : Hid (l.length = l.length) := Lib.hid rfl
    have HK64 : Hid (l.length ≤ 64) := Lib.hid h64
    have HW2 : Hid (Below w.heap.size w w) := Lib.hid (Below.refl _ _)
    go_upto_region 3 with (fail)
    apply wp_region_lit
    refine wpList_make_row w rfl (.const (.int .i64 64)) (.const (.int .i64 64)) 28 rfl 5 i0 (.int .u8 0) Tryd.underlying28 HI.out.1 HI.out.2.1 HI.out.2.2.1 rfl .i64 .i64 64 rfl rfl (by rw [HI.out.2.2.2]; decide) (by decide) ?_
    rw [edge_made 64 0]
    have hnew := heap_alloc_new w (.cells (Lib.byteCells (edge 64 0 0)).toArray 5)
    have hb3 : Below w.heap.size w (w.alloc (.cells (Lib.byteCells (edge 64 0 0)).toArray 5)) := (Below.refl _ _).alloc (Nat.le_refl _) _
    have hrk3 := HK.out.below hb3
    obtain ⟨w3, hw3⟩ : ∃ w3, w.alloc (.cells (Lib.byteCells (edge 64 0 0)).toArray 5) = w3 := ⟨_, rfl⟩
    rw [hw3] at hnew hb3 hrk3 ⊢
    obtain ⟨g, hg⟩ : ∃ g, w.heap.size = g := ⟨_, rfl⟩
    rw [hg] at hnew hb3 ⊢
    have HN := Lib.hid hnew
    have HB3 := Lib.hid hb3
    have HG := Lib.hid hg
    have HRK := Lib.hid hrk3
    clear hw3 hnew hb3 hg hrk3
    go_upto_region 4 with (fail)
    apply wp_region_lit
    iterate 2 (refine wpList_plain rfl (fun K hK => ?_); go_simp; (with_reducible refine hK _ _ ?_); clear hK K)
    refine wpList_copy_splice rfl (.tmp 14) (.tmp 15) 28 28 rfl 5 Tryd.underlying28 (by kernel_rfl) (some ⟨g, 0, none⟩) a 64 64 l.length c rfl rfl g 0 (Lib.byteCells (edge 64 0 0)) 5 HN.out (Lib.byteCells l) (by rw [byteCells_len, HKL.out]; exact (Nat.min_eq_left HK64.out).symm) (fun hpos => ⟨rfl, by
      rcases HRK.out with h | ⟨b, off, h, hc⟩
      · rw [h] at hpos; simp [Lib.byteCells] at hpos
      · refine ⟨_, h, fun j v hv => ?_⟩
        have hj : j < l.length := by have := (List.getElem?_eq_some_iff.1 hv).1; simpa [Lib.byteCells] using this
        simp [Lib.byteCells, hj] at hv
        rw [Addr.add_lit, hc j hj, ← hv]⟩) (by have := HK64.out; have := HKL.out; rw [byteCells_len, byteCells_len]; simp [edge]; omega) (byteCells_one l) g w HB3.out (Nat.le_refl _) ?_
    intro w4 hc4 hb4
    have hpl : splice (Lib.byteCells (edge 64 0 0)) 0 (Lib.byteCells l) = Lib.byteCells (padK l) := splice_pad l (by rw [HKL.out]; exact HK64.out)
    have hc4' := hc4.out
    rw [hpl] at hc4'
    have hplen := padK_len l (by rw [HKL.out]; exact HK64.out)
    obtain ⟨L, hL⟩ : ∃ L, padK l = L := ⟨_, rfl⟩
    rw [hL] at hc4' hplen
    have hx0 := xorN_zero L xb
    rw [← hx0] at hc4'
    have HC4 := Lib.hid hc4'
    have HB4 := Lib.hid hb4
    have HL := Lib.hid hL
    clear hc4 hb4 hpl hc4' hL hx0 HN HB3 HRK
    rw [byteCells_len]
    go_wp2_with fail
    go_loopg [19] 64 (fun k y wr => ∃ j : Nat, y = .int .i64 j ∧ j + k = 64 ∧ Hid (wr.heap[g]? = some (.cells (Lib.byteCells (xorN L xb j)).toArray 5 (0, 0))) ∧ Hid (Below g w wr))
    case atStart => exact ⟨0, rfl, rfl, HC4, HB4⟩
    case round =>
      clear HC4 HB4
      obtain ⟨j, rfl, hj, HC, HB⟩ := hrel
      by_cases hlt : j < 64
      · have hlj : j < L.length := by omega
        have hcx : wr.cell? ⟨g, j, none⟩ = some (.int .u8 ((L[j]).toNat : Nat)) := by
          rw [Lib.cell_of_heap HC.out]
          simp only [List.getElem?_toArray, Lib.byteCells, List.getElem?_map, xorN_at L xb j hlj]
          rfl
        have hfz : wr.frozen? ⟨g, j, none⟩ = false := Lib.frozen_of_heap HC.out j
        have hxo : bits .xor .u8 (((L[j]).toNat : Nat) : Int) ((xb.toNat : Nat) : Int) = (((L[j] ^^^ xb).toNat : Nat) : Int) := by
          rw [u8_xor_nat _ _ (L[j]).toNat_lt xb.toNat_lt, UInt8.toNat_xor]
        have hst := xorN_step L xb j hlj
        obtain ⟨x0, hx0⟩ : ∃ x, L[j] = x := ⟨_, rfl⟩
        rw [hx0] at hcx hxo hst
        obtain ⟨n1, hn1⟩ : ∃ x, x0.toNat = x := ⟨_, rfl⟩
        rw [hn1] at hcx hxo
        obtain ⟨x1, hx1⟩ : ∃ x, x0 ^^^ xb = x := ⟨_, rfl⟩
        rw [hx1] at hxo hst
        have HST := Lib.hid hst
        have j0 : 0 ≤ (j : Int) := by omega
        have jn : ((j : Int)).toNat = j := by omega
        have jlt : (j : Int) < 64 := by omega
        clear hst hx0 hn1 hx1
        go_wp2_with fail
        go_roundg (gk - 1)
        case measure => omega
        case rel =>
          refine ⟨j + 1, by go_num, by omega, Lib.hid ?_, Lib.hid (HB.out.setCell (by simp) _)⟩
          rw [setCell_blockS HC.out, HST.out]
      · obtain rfl : j = 64 := by omega
        have hc := HC.out
        rw [xorN_all L xb (by omega)] at hc
        have hbw : Below w.heap.size w wr := HW2.out.trans ((show Below w.heap.size w wr by rw [HG.out]; exact HB.out).mono HW2.out.size)
        have htl : Tl w.heap.size wr (.slice (some ⟨g, 0, none⟩) 64 64) (padF l xb) := by
          rw [HPF.out, HL.out]
          exact .inr ⟨g, 0, 64, _, by rw [List.length_map, hplen], by rw [← HG.out]; exact HW2.out.size, hc, by rw [List.length_map, hplen]; exact Nat.le_refl _, by simp [Lib.byteCells, hplen], by decide, fun i hi => by
            rw [Nat.zero_add]
            simp [Lib.byteCells] at hi ⊢
            simp [hi]⟩
        have HT := Lib.hid htl
        have HBW := Lib.hid hbw
        clear htl hbw hc
        go_wp2_with fail
        go_ret
        exact ⟨g, rfl, HT.out, HBW.out⟩
  · have h64I : (64 : Int) < (l.length : Int) := by omega
    have hkf : padF l xb = (padK (sha l)).map (· ^^^ xb) := by unfold padF keyF; rw [if_pos (by omega)]
    have HPF := Lib.hid hkf
    have hrs := RdS.one (c := c) HR.out 28
    have hsm := sum_any [l] (some ⟨w.heap.size, 0, none⟩) 1 1 _ hrs rfl (by simp) (by simp; omega)
    rw [List.flatten_singleton] at hsm
    have HSM := Lib.hid hsm
    clear hkf hrs hsm
    go_wp2_with fail
    refine HSM.out.mono ?_
    rintro e w2 ⟨v2, rfl, ht2, hb2⟩
    obtain ⟨ak, ck, rfl, hrk, _⟩ := ht2.shape
    have hb2' : Below w.heap.size w w2 := ((Below.refl _ _).alloc (Nat.le_refl _) (.cells #[.slice a l.length c] 28)).trans (hb2.mono (by simp))
    rw [sha_len]
    have HK := Lib.hid hrk
    have HKL : Hid ((sha l).length = 32) := Lib.hid (sha_len l)
    have HK64 : Hid (32 ≤ 64) := Lib.hid (by decide)
    have HW2 := Lib.hid hb2'
    clear ht2 hb2 hb2' hrk HSM
    go_upto_region 3 with (fail)
    apply wp_region_lit
    refine wpList_make_row w2 rfl (.const (.int .i64 64)) (.const (.int .i64 64)) 28 rfl 5 i0 (.int .u8 0) Tryd.underlying28 HI.out.1 HI.out.2.1 HI.out.2.2.1 rfl .i64 .i64 64 rfl rfl (by rw [HI.out.2.2.2]; decide) (by decide) ?_
    rw [edge_made 64 0]
    have hnew := heap_alloc_new w2 (.cells (Lib.byteCells (edge 64 0 0)).toArray 5)
    have hb3 : Below w2.heap.size w2 (w2.alloc (.cells (Lib.byteCells (edge 64 0 0)).toArray 5)) := (Below.refl _ _).alloc (Nat.le_refl _) _
    have hrk3 := HK.out.below hb3
    obtain ⟨w3, hw3⟩ : ∃ w3, w2.alloc (.cells (Lib.byteCells (edge 64 0 0)).toArray 5) = w3 := ⟨_, rfl⟩
    rw [hw3] at hnew hb3 hrk3 ⊢
    obtain ⟨g, hg⟩ : ∃ g, w2.heap.size = g := ⟨_, rfl⟩
    rw [hg] at hnew hb3 ⊢
    have HN := Lib.hid hnew
    have HB3 := Lib.hid hb3
    have HG := Lib.hid hg
    have HRK := Lib.hid hrk3
    clear hw3 hnew hb3 hg hrk3
    go_upto_region 4 with (fail)
    apply wp_region_lit
    iterate 2 (refine wpList_plain rfl (fun K hK => ?_); go_simp; (with_reducible refine hK _ _ ?_); clear hK K)
    refine wpList_copy_splice rfl (.tmp 14) (.tmp 15) 28 28 rfl 5 Tryd.underlying28 (by kernel_rfl) (some ⟨g, 0, none⟩) ak 64 64 32 ck rfl rfl g 0 (Lib.byteCells (edge 64 0 0)) 5 HN.out (Lib.byteCells (sha l)) (by rw [byteCells_len, HKL.out]; exact (Nat.min_eq_left HK64.out).symm) (fun hpos => ⟨rfl, by
      rcases HRK.out with h | ⟨b, off, h, hc⟩
      · rw [h] at hpos; simp [Lib.byteCells] at hpos
      · refine ⟨_, h, fun j v hv => ?_⟩
        have hj : j < (sha l).length := by have := (List.getElem?_eq_some_iff.1 hv).1; simpa [Lib.byteCells] using this
        simp [Lib.byteCells, hj] at hv
        rw [Addr.add_lit, hc j hj, ← hv]⟩) (by have := HK64.out; have := HKL.out; rw [byteCells_len, byteCells_len]; simp [edge]; omega) (byteCells_one (sha l)) g w2 HB3.out (Nat.le_refl _) ?_
    intro w4 hc4 hb4
    have hpl : splice (Lib.byteCells (edge 64 0 0)) 0 (Lib.byteCells (sha l)) = Lib.byteCells (padK (sha l)) := splice_pad (sha l) (by rw [HKL.out]; exact HK64.out)
    have hc4' := hc4.out
    rw [hpl] at hc4'
    have hplen := padK_len (sha l) (by rw [HKL.out]; exact HK64.out)
    obtain ⟨L, hL⟩ : ∃ L, padK (sha l) = L := ⟨_, rfl⟩
    rw [hL] at hc4' hplen
    have hx0 := xorN_zero L xb
    rw [← hx0] at hc4'
    have HC4 := Lib.hid hc4'
    have HB4 := Lib.hid hb4
    have HL := Lib.hid hL
    clear hc4 hb4 hpl hc4' hL hx0 HN HB3 HRK
    rw [byteCells_len]
    go_wp2_with fail
    go_loopg [19] 64 (fun k y wr => ∃ j : Nat, y = .int .i64 j ∧ j + k = 64 ∧ Hid (wr.heap[g]? = some (.cells (Lib.byteCells (xorN L xb j)).toArray 5 (0, 0))) ∧ Hid (Below g w2 wr))
    case atStart => exact ⟨0, rfl, rfl, HC4, HB4⟩
    case round =>
      clear HC4 HB4
      obtain ⟨j, rfl, hj, HC, HB⟩ := hrel
      by_cases hlt : j < 64
      · have hlj : j < L.length := by omega
        have hcx : wr.cell? ⟨g, j, none⟩ = some (.int .u8 ((L[j]).toNat : Nat)) := by
          rw [Lib.cell_of_heap HC.out]
          simp only [List.getElem?_toArray, Lib.byteCells, List.getElem?_map, xorN_at L xb j hlj]
          rfl
        have hfz : wr.frozen? ⟨g, j, none⟩ = false := Lib.frozen_of_heap HC.out j
        have hxo : bits .xor .u8 (((L[j]).toNat : Nat) : Int) ((xb.toNat : Nat) : Int) = (((L[j] ^^^ xb).toNat : Nat) : Int) := by
          rw [u8_xor_nat _ _ (L[j]).toNat_lt xb.toNat_lt, UInt8.toNat_xor]
        have hst := xorN_step L xb j hlj
        obtain ⟨x0, hx0⟩ : ∃ x, L[j] = x := ⟨_, rfl⟩
        rw [hx0] at hcx hxo hst
        obtain ⟨n1, hn1⟩ : ∃ x, x0.toNat = x := ⟨_, rfl⟩
        rw [hn1] at hcx hxo
        obtain ⟨x1, hx1⟩ : ∃ x, x0 ^^^ xb = x := ⟨_, rfl⟩
        rw [hx1] at hxo hst
        have HST := Lib.hid hst
        have j0 : 0 ≤ (j : Int) := by omega
        have jn : ((j : Int)).toNat = j := by omega
        have jlt : (j : Int) < 64 := by omega
        clear hst hx0 hn1 hx1
        go_wp2_with fail
        go_roundg (gk - 1)
        case measure => omega
        case rel =>
          refine ⟨j + 1, by go_num, by omega, Lib.hid ?_, Lib.hid (HB.out.setCell (by simp) _)⟩
          rw [setCell_blockS HC.out, HST.out]
      · obtain rfl : j = 64 := by omega
        have hc := HC.out
        rw [xorN_all L xb (by omega)] at hc
        have hbw : Below w.heap.size w wr := HW2.out.trans ((show Below w2.heap.size w2 wr by rw [HG.out]; exact HB.out).mono HW2.out.size)
        have htl : Tl w.heap.size wr (.slice (some ⟨g, 0, none⟩) 64 64) (padF l xb) := by
          rw [HPF.out, HL.out]
          exact .inr ⟨g, 0, 64, _, by rw [List.length_map, hplen], by rw [← HG.out]; exact HW2.out.size, hc, by rw [List.length_map, hplen]; exact Nat.le_refl _, by simp [Lib.byteCells, hplen], by decide, fun i hi => by
            rw [Nat.zero_add]
            simp [Lib.byteCells] at hi ⊢
            simp [hi]⟩
        have HT := Lib.hid htl
        have HBW := Lib.hid hbw
        clear htl hbw hc
        go_wp2_with fail
        go_ret
        exact ⟨g, rfl, HT.out, HBW.out⟩
end Go.Proofs.YtbblnlddiafkhaaDoor
/- mac.Code; the anchor of klaxonlaw02. -/
set_option linter.unusedVariables false
namespace Go.Proofs.YtbblnlddiafkhaaDoor
open Go.RowKit

/-- The code of a message under a key. -/
def mac (k m : List UInt8) : List UInt8 := sha (padF k 0x5c ++ sha (padF k 0x36 ++ m))
theorem mac_len (k m : List UInt8) : (mac k m).length = 32 := sha_len _
/-- Two parts. -/
theorem RdS.two {w : World} {a b : Option Addr} {l m : List UInt8} {c d : Nat} (h : Rd w a l) (k : Rd w b m) (T : TypeId) : RdS (w.alloc (.cells #[.slice a l.length c, .slice b m.length d] T)) (some ⟨w.heap.size, 0, none⟩) [l, m] := by
  refine .inr ⟨w.heap.size, 0, rfl, fun i hi => ?_⟩
  match i, hi with
  | 0, _ => exact ⟨a, c, by rw [Lib.cell_of_heap (heap_alloc_new w _)]; rfl, h.alloc _⟩
  | 1, _ => exact ⟨b, d, by rw [Lib.cell_of_heap (heap_alloc_new w _)]; rfl, k.alloc _⟩
  | n + 2, h => exact absurd h (by simp)

set_option maxRecDepth 100000 in
set_option maxHeartbeats 4000000 in
theorem code_any (ak : Option Addr) (ck nk : Nat) (key : List UInt8) (ps : List (List UInt8)) (ap : Option Addr) (n c : Nat) (w : World) (hk : Rd w ak key) (hnk : nk = key.length) (hr : RdS w ap ps) (hn : n = ps.length) (hkl : key.length ≤ 800000) (hps : ps.length ≤ 1000000) (hlen : ps.flatten.length ≤ 800000) :
    Calls Tryd.prog 37 #[.slice ak nk ck, .slice ap n c] w fun e w' => ∃ v', e = .returned v' ∧ Tl w.heap.size w' v' (mac key ps.flatten) ∧ Below w.heap.size w w' := by
  subst hn hnk
  have HR := Lib.hid hr
  have HKY := Lib.hid hk
  clear hr hk
  go_enter Tryd.func37, Tryd.ntmps37
  go_wp2_with fail
  refine (new_any w).mono ?_
  rintro e w1 ⟨rfl, rfl⟩
  have hm := new_hm w.heap.size w (Nat.le_refl _)
  have hb1 : Below w.heap.size w (w.alloc (.cells (hCells iv (.slice none 0 0) 0) 113)) := (Below.refl _ _).alloc (Nat.le_refl _) _
  have hsz : w.heap.size < (w.alloc (.cells (hCells iv (.slice none 0 0) 0) 113)).heap.size := by simp
  obtain ⟨w1, hw1⟩ : ∃ w1, w.alloc (.cells (hCells iv (.slice none 0 0) 0) 113) = w1 := ⟨_, rfl⟩
  rw [hw1] at hm hb1 hsz ⊢
  have HM1 := Lib.hid hm
  have HB1 := Lib.hid hb1
  have HSZ := Lib.hid hsz
  clear hw1 hm hb1 hsz
  go_wp2_with fail
  refine (pad_any ak ck key key.length 0x36 54 w1 (HKY.out.below HB1.out) rfl rfl (by omega)).mono ?_
  rintro e w2 ⟨gp, rfl, htp, hbp⟩
  have hm2 := HAt.below HM1.out hbp
  have hb2 := HB1.out.trans (hbp.mono HB1.out.size)
  have hgp := htp.lt gp rfl
  have hrp : Rd w2 (some ⟨gp, 0, none⟩) (padF key 0x36) := by
    obtain ⟨a', c', h, hr, _⟩ := htp.shape
    simp at h
    rw [h.1]
    exact hr
  have hW := write_any w.heap.size w.heap.size (.slice none 0 0) [] (padF key 0x36) (some ⟨gp, 0, none⟩) 64 64 w2 hm2 hb2.size hrp (padF_len _ _).symm (fun hne b off s e => by
    simp at e
    have := HSZ.out
    omega) (by rw [padF_len]; simp)
  rw [List.nil_append] at hW
  have HW := Lib.hid hW
  have HB2 := Lib.hid hb2
  clear hW hb2 hgp hrp hm2 htp hbp HM1
  go_wp2_with fail
  refine HW.out.mono ?_
  rintro e w3 ⟨rfl, v3, hm3, hk3, _⟩
  have hb3 : Below w.heap.size w w3 := HB2.out.trans (hk3.below w.heap.size HB2.out.size (fun k hk h => by
    rcases h with h | h
    · omega
    · cases h))
  obtain ⟨P, hP⟩ : ∃ P, padF key 0x36 = P := ⟨_, rfl⟩
  have hPl : P.length = 64 := by rw [← hP]; exact padF_len _ _
  rw [hP] at hm3
  have HM3 := Lib.hid hm3
  have HB3 := Lib.hid hb3
  have HPP := Lib.hid hP
  have HPL := Lib.hid hPl
  clear hm3 hk3 hb3 HW hP hPl HB1 HB2
  go_wp2_with fail
  go_loopg [15] ps.length (fun k y wr => ∃ j : Nat, ∃ v : Value, y = .int .i64 j ∧ j + k = ps.length ∧ Hid (HM w.heap.size wr w.heap.size v (P ++ (ps.take j).flatten)) ∧ Hid (Below w.heap.size w wr))
  case atStart => exact ⟨0, v3, rfl, by omega, by simpa using HM3, HB3⟩
  case round =>
    clear HM3 HB3
    obtain ⟨j, v, rfl, hj, HX, HB⟩ := hrel
    by_cases hlt : j < ps.length
    · obtain ⟨b, off, hap, hc⟩ : ∃ b off, ap = some ⟨b, off, none⟩ ∧ ∀ i (h : i < ps.length), ∃ x c, w.cell? ⟨b, off + i, none⟩ = some (.slice x (ps[i]).length c) ∧ Rd w x ps[i] := by
        rcases HR.out with h | h
        · rw [h] at hlt; simp at hlt
        · exact h
      obtain ⟨x, cx, hcell, hrd⟩ := hc j hlt
      obtain ⟨l, hl⟩ : ∃ l, ps[j] = l := ⟨_, rfl⟩
      rw [hl] at hcell hrd
      have hcell' := cell_now HB.out hcell
      have htake : (ps.take (j + 1)).flatten = (ps.take j).flatten ++ l := by
        rw [List.take_add_one, List.getElem?_eq_getElem hlt, hl]
        simp
      have hfl := flatten_le ps (j + 1)
      rw [htake, List.length_append] at hfl
      have hpl := HPL.out
      have hw := write_any w.heap.size w.heap.size v (P ++ (ps.take j).flatten) l x l.length cx wr HX.out HB.out.size (hrd.below HB.out) rfl (fun hne b off s e => by
        subst e
        have := hrd.lt hne
        omega) (by rw [List.length_append]; omega)
      rw [List.append_assoc, ← htake] at hw
      have HW := Lib.hid hw
      have hjI : (j : Int) < (ps.length : Int) := by omega
      have hjn : ((j : Int)).toNat = j := by omega
      have hj0 : 0 ≤ (j : Int) := by omega
      subst hap
      clear hc hcell hrd hl hw htake hfl hpl
      go_wp2_with fail
      refine HW.out.mono ?_
      rintro e w2 ⟨rfl, v', hm2, hk2, _⟩
      have hb2 : Below w.heap.size w w2 := HB.out.trans (hk2.below w.heap.size HB.out.size (fun k hk h => by
        rcases h with h | h
        · omega
        · have := (HX.out.tl.lt k h).1
          omega))
      have HM2 := Lib.hid hm2
      have HB2 := Lib.hid hb2
      clear hm2 hk2 hb2 hcell'
      go_wp2_with fail
      go_roundg (gk - 1)
      case measure => omega
      case rel => exact ⟨j + 1, v', by go_num, by omega, HM2, HB2⟩
    · obtain rfl : j = ps.length := by omega
      have hm := HX.out
      rw [List.take_length] at hm
      have hpl := HPL.out
      obtain ⟨M, hM⟩ : ∃ M, ps.flatten = M := ⟨_, rfl⟩
      rw [hM] at hm hlen
      have HM2 := Lib.hid hm
      have HMM := Lib.hid hM
      clear hm hM HX
      go_wp2_with fail
      refine (pad_any ak ck key key.length 0x5c 92 wr (HKY.out.below HB.out) rfl rfl (by omega)).mono ?_
      rintro e w4 ⟨gp, rfl, htp, hbp⟩
      have HM4 := Lib.hid (HAt.below HM2.out hbp)
      have HB4 := Lib.hid (HB.out.trans (hbp.mono HB.out.size))
      have HTP := Lib.hid htp
      clear htp hbp HM2 HB
      go_wp2_with fail
      refine (hsum_any w.heap.size w.heap.size v (P ++ M) w4 HM4.out (by rw [List.length_append]; omega)).mono ?_
      rintro e w5 ⟨v5, rfl, ht5, hb5⟩
      have hr5 : Rd w5 (some ⟨gp, 0, none⟩) (padF key 0x5c) := by
        obtain ⟨a', c', h, hr, _⟩ := (HTP.out.keep (w' := w5) fun k hk => hb5.block k (HTP.out.lt k hk).2).shape
        simp at h
        rw [h.1]
        exact hr
      obtain ⟨a6, c6, rfl, hr6, _⟩ := ht5.shape
      have hb6 := HB4.out.trans (hb5.mono HB4.out.size)
      have hrs := RdS.two (c := 64) (d := c6) hr5 hr6 28
      rw [padF_len, sha_len] at hrs
      have hb7 := hb6.alloc hb6.size (.cells #[.slice (some ⟨gp, 0, none⟩) 64 64, .slice a6 32 c6] 28)
      have hsm := sum_any [padF key 0x5c, sha (P ++ M)] (some ⟨w5.heap.size, 0, none⟩) 2 2 _ hrs rfl (by simp) (by simp [padF_len, sha_len])
      rw [sha_len]
      have HSM := Lib.hid hsm
      have HB7 := Lib.hid hb7
      clear hr5 hr6 hb6 hrs hb7 hsm ht5 hb5 HTP HM4 HB4
      go_wp2_with fail
      refine HSM.out.mono ?_
      rintro e w8 ⟨v8, rfl, ht8, hb8⟩
      have hmac : sha [padF key 0x5c, sha (P ++ M)].flatten = mac key M := by
        unfold mac
        rw [HPP.out]
        simp
      rw [hmac] at ht8
      have hb9 := HB7.out.trans (hb8.mono HB7.out.size)
      have ht9 := ht8.mono HB7.out.size
      obtain ⟨a9, c9, rfl, _⟩ := ht9.shape
      have HT9 := Lib.hid ht9
      have HB9 := Lib.hid hb9
      rw [mac_len] at HT9 ⊢
      clear ht8 hb8 ht9 hb9 hmac
      go_wp2_with fail
      go_ret
      exact ⟨_, rfl, by rw [HMM.out]; exact HT9.out, HB9.out⟩
end Go.Proofs.YtbblnlddiafkhaaDoor
/- The accumulator of bits of package b64: what push and pop do to it. -/
namespace Go.Proofs.YtbblnlddiafkhaaDoor
open Go.RowKit

/-- The bits' block: 'rest' and 'count'. -/
def Bts (g : Nat) (r c : Nat) (w : World) : Prop := w.heap[g]? = some (.cells #[.int .i64 r, .int .i64 c] 83 (0, 0))

/-- What was there is as it was, but for block g. -/
structure But (g : Nat) (w w' : World) : Prop where
  os : w'.os = w.os
  tape : w'.tape = w.tape
  output : w'.output = w.output
  size : w.heap.size ≤ w'.heap.size
  block : ∀ k, k < w.heap.size → k ≠ g → w'.heap[k]? = w.heap[k]?

theorem setCell_block {w : World} {g o : Nat} {cs : Array Value} {T : TypeId} {fr : Nat × Nat} (h : w.heap[g]? = some (.cells cs T fr)) (v : Value) :
    (w.setCell ⟨g, o, none⟩ v).heap[g]? = some (.cells (cs.setIfInBounds o v) T fr) := by
  simp [World.setCell, Array.getElem?_modify, h]

theorem drewN_at {w : World} {g : Nat} {o : Obj} (h : w.heap[g]? = some o) (n : Nat) : (w.drewN n).heap[g]? = some o := h

theorem But.setCell (w : World) (g o : Nat) (v : Value) : But g w (w.setCell ⟨g, o, none⟩ v) :=
  ⟨rfl, rfl, rfl, by simp [World.setCell], fun k _ hk => Below.heap_setCell _ _ _ _ hk⟩
theorem But.trans {g : Nat} {a b c : World} (h : But g a b) (k : But g b c) : But g a c :=
  ⟨k.os.trans h.os, k.tape.trans h.tape, k.output.trans h.output, Nat.le_trans h.size k.size, fun i hi hg => (k.block i (Nat.lt_of_lt_of_le hi h.size) hg).trans (h.block i hi hg)⟩
theorem But.refl (g : Nat) (w : World) : But g w w := ⟨rfl, rfl, rfl, Nat.le_refl _, fun _ _ _ => rfl⟩
theorem But.drewN {g : Nat} {a b : World} (h : But g a b) (n : Nat) : But g a (b.drewN n) := ⟨h.os, h.tape, h.output, h.size, h.block⟩

set_option maxHeartbeats 400000 in
theorem push_any (g : Nat) (r c n wd : Nat) (w : World) (h : Bts g r c w) (hw1 : wd ≤ 8) (hc1 : c ≤ 100) (hr : r ≤ 1000000) (hn : n < 2 ^ wd) :
    Calls Tryd.prog 51 #[.pointer (some ⟨g, 0, none⟩), .int .i64 n, .int .i64 wd] w fun e w' => e = .returned (.tuple #[]) ∧ Bts g (r * 2 ^ wd + n) (c + wd) w' ∧ But g w w' := by
  have h0 : w.cell? ⟨g, 0, none⟩ = some (.int .i64 r) := by rw [Lib.cell_of_heap h]; rfl
  have h1 : w.cell? ⟨g, 1, none⟩ = some (.int .i64 c) := by rw [Lib.cell_of_heap h]; rfl
  have f0 : w.frozen? ⟨g, 0, none⟩ = false := Lib.frozen_of_heap h 0
  have f1 : w.frozen? ⟨g, 1, none⟩ = false := Lib.frozen_of_heap h 1
  have H := Lib.hid h
  clear h
  have hwd0 : (0 : Int) ≤ wd := by omega
  have hwd1 : (wd : Int) ≤ 8 := by omega
  go_enter Tryd.func51, Tryd.ntmps51
  go_wp2
  go_end0
  have e : ((r * 2 ^ wd + n : Nat) : Int) = bits BinOp.or IntKind.i64 (wrap64 (↑r * 2 ^ wd)) ↑n := by
    have hp : 2 ^ wd ≤ 2 ^ 8 := Nat.pow_le_pow_right (by decide) hw1
    have hm : r * 2 ^ wd ≤ 1000000 * 2 ^ 8 := Nat.mul_le_mul hr hp
    have e0 : ((r * 2 ^ wd : Nat) : Int) = (r : Int) * 2 ^ wd := by simp
    have e1 : wrap64 ((r : Int) * 2 ^ wd) = ((r * 2 ^ wd : Nat) : Int) := by
      rw [← e0]; exact wrap64_in _ (by omega) (by omega)
    rw [e1, i64_or _ _ (by omega) (by omega), or_add _ _ _ hn]
  refine ⟨rfl, ?_, (But.setCell _ _ _ _).trans (But.setCell _ _ _ _)⟩
  have := setCell_block (setCell_block (o := 0) H.out (.int .i64 (bits BinOp.or IntKind.i64 (wrap64 (↑r * 2 ^ wd)) ↑n))) (o := 1) (.int .i64 (↑c + ↑wd))
  unfold Bts
  rw [this, e]
  simp

set_option maxHeartbeats 400000 in
theorem pop_any (g : Nat) (r c wd : Nat) (w : World) (h : Bts g r c w) (hw1 : wd ≤ 8) (hc1 : c ≤ 20) (hr : r < 2 ^ c) (hlt : wd ≤ c) :
    Calls Tryd.prog 52 #[.pointer (some ⟨g, 0, none⟩), .int .i64 wd] w fun e w' => e = .returned (.tuple #[.int .i64 ↑(r / 2 ^ (c - wd)), .bool true]) ∧ Bts g (r % 2 ^ (c - wd)) (c - wd) w' ∧ But g w w' := by
  have h0 : w.cell? ⟨g, 0, none⟩ = some (.int .i64 r) := by rw [Lib.cell_of_heap h]; rfl
  have h1 : w.cell? ⟨g, 1, none⟩ = some (.int .i64 c) := by rw [Lib.cell_of_heap h]; rfl
  have f0 : w.frozen? ⟨g, 0, none⟩ = false := Lib.frozen_of_heap h 0
  have f1 : w.frozen? ⟨g, 1, none⟩ = false := Lib.frozen_of_heap h 1
  have H := Lib.hid h
  clear h
  have hwd0 : (0 : Int) ≤ wd := by omega
  have hwd1 : (wd : Int) ≤ 8 := by omega
  go_enter Tryd.func52, Tryd.ntmps52
  go_wp2
  go_quiet (fail)
  go_wp2
  go_region
  go_wp2
  go_ret2
  have hq : c - wd ≤ 20 := by omega
  have hp : 2 ^ (c - wd) ≤ 2 ^ 20 := Nat.pow_le_pow_right (by decide) hq
  have hp1 : 1 ≤ 2 ^ (c - wd) := Nat.one_le_two_pow
  have hr2 : 2 ^ c ≤ 2 ^ 20 := Nat.pow_le_pow_right (by decide) hc1
  have e : bits BinOp.and IntKind.i64 (↑r) (wrap64 (wrap64 (2 ^ (c - wd)) - 1)) = ((r % 2 ^ (c - wd) : Nat) : Int) := by
    have e0 : ((2 ^ (c - wd) : Nat) : Int) = (2 : Int) ^ (c - wd) := by simp
    have e1 : wrap64 ((2 : Int) ^ (c - wd)) = ((2 ^ (c - wd) : Nat) : Int) := by
      rw [← e0]; exact wrap64_in _ (by omega) (by omega)
    have e2 : wrap64 (((2 ^ (c - wd) : Nat) : Int) - 1) = ((2 ^ (c - wd) - 1 : Nat) : Int) := by
      rw [wrap64_in _ (by omega) (by omega)]; omega
    rw [e1, e2, i64_and _ _ (by omega) (by omega), Nat.and_two_pow_sub_one_eq_mod]
  rw [e]
  refine ⟨by simp, ?_, ?_⟩
  · have e3 : ((c - wd : Nat) : Int) = (c : Int) - wd := by omega
    have h3 := setCell_block (o := 1) H.out (.int .i64 ((c : Int) - (wd : Int)))
    have := setCell_block (drewN_at h3 (nq + 1)) (o := 0) (.int .i64 ((r % 2 ^ (c - wd) : Nat) : Int))
    unfold Bts
    rw [this, e3]
    simp
  · exact ((But.setCell w g 1 _).drewN _).trans (But.setCell _ _ _ _)

set_option maxHeartbeats 400000 in
theorem pop_none (g : Nat) (r c wd : Nat) (w : World) (h : Bts g r c w) (hlt : c < wd) :
    Calls Tryd.prog 52 #[.pointer (some ⟨g, 0, none⟩), .int .i64 wd] w fun e w' => e = .returned (.tuple #[.int .i64 0, .bool false]) ∧ w' = w := by
  have h1 : w.cell? ⟨g, 1, none⟩ = some (.int .i64 c) := by rw [Lib.cell_of_heap h]; rfl
  clear h
  go_enter Tryd.func52, Tryd.ntmps52
  go_wp2
  go_ret2
  exact ⟨rfl, rfl⟩
end Go.Proofs.YtbblnlddiafkhaaDoor
/- The plain side of package b64: bytes as letters, by an accumulator of bits. -/
namespace Go.Proofs.YtbblnlddiafkhaaDoor

/-- The letters. -/
def alpha : List UInt8 := [65, 66, 67, 68, 69, 70, 71, 72, 73, 74, 75, 76, 77, 78, 79, 80, 81, 82, 83, 84, 85, 86, 87, 88, 89, 90, 97, 98, 99, 100, 101, 102, 103, 104, 105, 106, 107, 108, 109, 110, 111, 112, 113, 114, 115, 116, 117, 118, 119, 120, 121, 122, 48, 49, 50, 51, 52, 53, 54, 55, 56, 57, 45, 95]
def lt64 (n : Nat) : UInt8 := alpha.getD n 0

/-- As many letters as there are bits for. -/
def pop6 : Nat → List UInt8 → Nat → Nat → List UInt8 × Nat × Nat
  | 0, o, r, c => (o, r, c)
  | k + 1, o, r, c => if c < 6 then (o, r, c) else pop6 k (o ++ [lt64 (r / 2 ^ (c - 6))]) (r % 2 ^ (c - 6)) (c - 6)
def encStep (s : List UInt8 × Nat × Nat) (x : UInt8) : List UInt8 × Nat × Nat := pop6 3 s.1 (s.2.1 * 2 ^ 8 + x.toNat) (s.2.2 + 8)
def encAll (l : List UInt8) : List UInt8 × Nat × Nat := l.foldl encStep ([], 0, 0)
def encEnd (s : List UInt8 × Nat × Nat) : List UInt8 := if s.2.2 = 0 then s.1 else s.1 ++ [lt64 (s.2.1 * 2 ^ (6 - s.2.2))]
def enc (l : List UInt8) : List UInt8 := encEnd (encAll l)

/-- Fewer than six bits are left over, and the number is of so many. -/
def Acc (s : List UInt8 × Nat × Nat) : Prop := s.2.2 < 6 ∧ s.2.1 < 2 ^ s.2.2

theorem pop6_acc (k : Nat) : ∀ (o : List UInt8) (r c : Nat), c < 6 + 6 * k → r < 2 ^ c → Acc (pop6 k o r c) := by
  induction k with
  | zero => intro o r c h hr; exact ⟨by simpa [pop6] using h, by simpa [pop6] using hr⟩
  | succ k ih =>
    intro o r c h hr
    unfold pop6
    split
    · exact ⟨by assumption, hr⟩
    · exact ih _ _ _ (by omega) (Nat.mod_lt _ (Nat.two_pow_pos _))

theorem encStep_acc (s : List UInt8 × Nat × Nat) (x : UInt8) (h : Acc s) : Acc (encStep s x) := by
  obtain ⟨h1, h2⟩ := h
  refine pop6_acc 3 _ _ _ (by omega) ?_
  have hx : x.toNat < 2 ^ 8 := x.toNat_lt
  calc s.2.1 * 2 ^ 8 + x.toNat < s.2.1 * 2 ^ 8 + 2 ^ 8 := by omega
    _ = (s.2.1 + 1) * 2 ^ 8 := by omega
    _ ≤ 2 ^ s.2.2 * 2 ^ 8 := Nat.mul_le_mul_right _ h2
    _ = 2 ^ (s.2.2 + 8) := by rw [Nat.pow_add]

theorem foldl_acc (l : List UInt8) : ∀ s, Acc s → Acc (l.foldl encStep s) := by
  induction l with
  | nil => intro s h; exact h
  | cons x l ih => intro s h; exact ih _ (encStep_acc s x h)
theorem encAll_acc (l : List UInt8) : Acc (encAll l) := foldl_acc l _ ⟨by decide, by decide⟩

theorem encAll_snoc (l : List UInt8) (x : UInt8) : encAll (l ++ [x]) = encStep (encAll l) x := by simp [encAll]

theorem take_snoc8 (l : List UInt8) (k : Nat) (h : k < l.length) : l.take (k + 1) = l.take k ++ [l[k]] := by
  rw [List.take_succ_eq_append_getElem h]

theorem pop6_len (k : Nat) : ∀ (o : List UInt8) (r c : Nat), (pop6 k o r c).1.length ≤ o.length + k := by
  induction k with
  | zero => intro o r c; simp [pop6]
  | succ k ih =>
    intro o r c
    unfold pop6
    split
    · simp
    · have := ih (o ++ [lt64 (r / 2 ^ (c - 6))]) (r % 2 ^ (c - 6)) (c - 6); simp at this; omega
theorem foldl_len (l : List UInt8) : ∀ s, (l.foldl encStep s).1.length ≤ s.1.length + 3 * l.length := by
  induction l with
  | nil => intro s; simp
  | cons x l ih =>
    intro s
    have h1 := ih (encStep s x)
    have h2 := pop6_len 3 s.1 (s.2.1 * 2 ^ 8 + x.toNat) (s.2.2 + 8)
    simp only [List.foldl_cons, List.length_cons]
    unfold encStep at h1 ⊢
    omega
theorem encAll_len (l : List UInt8) : (encAll l).1.length ≤ 3 * l.length := by have := foldl_len l ([], 0, 0); simpa [encAll] using this
end Go.Proofs.YtbblnlddiafkhaaDoor
/- strings.Builder, written by this program's calls: copyCheck, WriteByte, WriteString and String of a builder that the call itself has made. -/
namespace Go.Proofs.YtbblnlddiafkhaaDoor
open Go.RowKit

/-- A strings.Builder of the call's own, in block b, that holds the bytes l. -/
def Bld (b : Nat) (l : List UInt8) (w : World) : Prop := Lib.IsBuilderF 81 5 b b (Lib.byteCells l) w

theorem Bld.fresh (w : World) : Bld w.heap.size [] (w.alloc (.cells #[.pointer none, .slice none 0 0] 81 (0, 0))) :=
  .inl ⟨Nat.le_refl _, .slice none 0 0, heap_alloc_new w _, World.ownsRowF_nil _ _ _ _, by simp [Value.ownBlock]⟩

theorem Bld.alloc {b : Nat} {l : List UInt8} {w : World} (h : Bld b l w) (o : Obj) : Bld b l (w.alloc o) := Lib.IsBuilderF.alloc h o
theorem Bld.lt {b : Nat} {l : List UInt8} {w : World} (h : Bld b l w) : b < w.heap.size := h.elim (·.lt) (·.lt)

theorem sizeB : (Tryd.prog.info? 81).map (·.size) = some 2 := by kernel_rfl
theorem liesB : liesAt Tryd.prog Tryd.prog.depth 81 (2 / Tryd.prog.cellsOf 81) 0 81 1 = true := by kernel_rfl
theorem infoByte : (Tryd.prog.info? 5).map (fun i => (i.zero, i.size, i.bytes)) = some (some (.int .u8 0), 1, 1) := by kernel_rfl

set_option maxHeartbeats 1000000 in
set_option maxRecDepth 100000 in
theorem copyCheck_used (b : Nat) (w : World) (h0 : w.cell? ⟨b, 0, none⟩ = some (.pointer (some ⟨b, 0, none⟩))) :
    Calls Tryd.prog 73 #[.pointer (some ⟨b, 0, none⟩)] w fun e w' => e = .returned (.tuple #[]) ∧ w' = w := by
  obtain ⟨j, hj, _⟩ := Option.map_eq_some_iff.1 sizeB
  go_enter Tryd.func73, Tryd.ntmps73
  go_wp2
  rw [Lib.run_neq_ptr_same w _ Tryd.underlying79 hj]
  go_wp2
  go_end0
  exact ⟨rfl, rfl⟩

set_option maxHeartbeats 1000000 in
set_option maxRecDepth 100000 in
theorem copyCheck_fresh (b : Nat) (w : World) (h0 : w.cell? ⟨b, 0, none⟩ = some (.pointer none)) (hsh : w.shape? b = some (81, 2)) (hfz : w.frozen? ⟨b, 0, none⟩ = false) :
    Calls Tryd.prog 73 #[.pointer (some ⟨b, 0, none⟩)] w fun e w' => e = .returned (.tuple #[]) ∧ w' = w.setCell ⟨b, 0, none⟩ (.pointer (some ⟨b, 0, none⟩)) := by
  obtain ⟨j, hj, hjs⟩ := Option.map_eq_some_iff.1 sizeB
  go_enter Tryd.func73, Tryd.ntmps73
  go_wp2
  rw [Lib.run_to_unsafe w ⟨b, 0, none⟩ Tryd.underlying79 Tryd.underlying124 hj (by rw [hjs]; decide) hsh (Nat.zero_lt_succ 1)]
  simp only [Result.andThen]
  rw [Oper.upon_value]
  go_wp2
  rw [run_callFunc_extern Tryd.func84 (by kernel_rfl) (by kernel_rfl) (by kernel_rfl) (e := Extern.AbiNoEscape.same) (by kernel_rfl)]
  rw [Lib.run_noEscape]
  simp only [Result.andThen]
  rw [Oper.upon_value]
  go_wp2
  rw [Lib.run_from_unsafe w ⟨b, 0, none⟩ Tryd.underlying124 Tryd.underlying79 hj hsh liesB]
  simp only [Result.andThen]
  rw [Oper.upon_value]
  go_wp2
  go_end0
  exact ⟨rfl, rfl⟩

theorem copyCheck_any (b : Nat) (l : List Value) (w : World) (h : Lib.IsBuilderF 81 5 b b l w) :
    Calls Tryd.prog 73 #[.pointer (some ⟨b, 0, none⟩)] w fun e w' => e = .returned (.tuple #[]) ∧ (Lib.BuilderAtF 81 5 b b (.pointer (some ⟨b, 0, none⟩)) l w' ∧ Below b w w' ∧ Lib.OthersKept 5 (some b) w w') := by
  rcases h with h | h
  · refine (copyCheck_fresh b w h.cell0 h.shape h.frozen0).mono ?_
    rintro e w' ⟨rfl, rfl⟩
    exact ⟨rfl, h.used _, (Below.refl b w).setCell (p := ⟨b, 0, none⟩) h.1 _, (Lib.OthersKept.refl _ _ w).setCell ⟨b, 0, none⟩ rfl _⟩
  · refine (copyCheck_used b w h.cell0).mono ?_
    rintro e w' ⟨rfl, rfl⟩
    exact ⟨rfl, h, Below.refl b _, Lib.OthersKept.refl _ _ _⟩

theorem neB : (81 : Nat) ≠ 5 := by decide

set_option maxHeartbeats 2000000 in
set_option maxRecDepth 100000 in
/-- WriteByte puts one byte behind what the builder holds. -/
theorem WriteByte_any (b : Nat) (l : List UInt8) (c : Int) (x : UInt8) (hx : c = x.toNat) (w : World) (h : Bld b l w) (hlen : l.length + 1 ≤ 140737488355328) :
    Calls Tryd.prog 50 #[.pointer (some ⟨b, 0, none⟩), .int .u8 c] w fun e w' => e = .returned .nilIface ∧ (Bld b (l ++ [x]) w' ∧ Below b w w' ∧ Lib.OthersKept 5 (some b) w w') := by
  obtain ⟨i0, hi, hz0, hz1, hz2⟩ := info_parts infoByte
  have hbw := h.lt
  have hll : (Lib.byteCells l).length = l.length := by simp [Lib.byteCells]
  have e2 : Lib.byteCells (l ++ [x]) = Lib.byteCells l ++ [.int .u8 c] := by simp [Lib.byteCells, hx]
  have E2 := Lib.hid e2
  have HX := Lib.hid hx
  have HL := Lib.hid hll
  clear e2 hx hll
  go_enter Tryd.func50, Tryd.ntmps50
  go_wp2_with (go_at_call 73; refine (copyCheck_any b _ _ h).mono ?_)
  rintro e w1 ⟨rfl, h1, hb1, hk1⟩
  obtain ⟨hB, v, hbk, hown, hne⟩ := h1
  have c0 : w1.cell? ⟨b, 0, none⟩ = some (.pointer (some ⟨b, 0, none⟩)) := by rw [Lib.cell_of_heap hbk]; rfl
  have c1 : w1.cell? ⟨b, 1, none⟩ = some v := by rw [Lib.cell_of_heap hbk]; rfl
  go_wp2_with (at_builtin; refine wpList_append_ownF _ rfl _ _ 28 rfl b 5 i0 (.int .u8 0) 1 1 Tryd.underlying28 hi hz0 hz1 hz2 rfl (by decide) _ _ _ rfl (hown.alloc _) ⟨w1.heap.size, 0, none⟩ 1 1 [.int .u8 c] rfl rfl ?c1 ?c2 ?c3 ?c4 ?c5 ?_)
  case c1 =>
    intro j u hj
    match j, hj with
    | 0, hj => simp at hj; subst hj; simp [Addr.add]
  case c2 => intro u hu; simp at hu; subst hu; rfl
  case c3 => rw [HL.out]; unfold maxLen; omega
  case c4 => rw [HL.out]; omega
  case c5 => have := hb1.size; simp; omega
  intro v' w2 hown' hgrow _
  have hlt : b < w1.heap.size := Nat.lt_of_lt_of_le hbw hb1.size
  have hb2 : w2.heap[b]? = some (.cells #[.pointer (some ⟨b, 0, none⟩), v] 81 (0, 0)) := by
    rw [hgrow.block b (by simp; omega) (fun e => hne e.symm), Lib.alloc_old w1 _ b hlt]
    exact hbk
  have d0 : w2.cell? ⟨b, 0, none⟩ = some (.pointer (some ⟨b, 0, none⟩)) := by rw [Lib.cell_of_heap hb2]; rfl
  have d1 : w2.cell? ⟨b, 1, none⟩ = some v := by rw [Lib.cell_of_heap hb2]; rfl
  have f1 : w2.frozen? ⟨b, 1, none⟩ = false := Lib.frozen_of_heap hb2 1
  obtain ⟨g, cap, rfl⟩ : ∃ g cap, v' = .slice (some ⟨g, 0, none⟩) ((Lib.byteCells l).length + 1) cap := by
    rcases hown'.2 with ⟨_, h0⟩ | ⟨g, cap, cur, fz, hv, _⟩
    · omega
    · exact ⟨g, cap, hv⟩
  go_wp2
  go_ret
  refine ⟨rfl, ?_, ?_, ((hk1.alloc _).grown hgrow (Lib.ownsRowF_kind (hown.alloc _))).setCell ⟨b, 1, none⟩ rfl _⟩
  · unfold Bld
    rw [E2.out]
    exact .inr (Lib.BuilderAtF.put (T := 81) (e := 5) hB hb2 (bs' := Lib.byteCells l ++ [.int .u8 c]) (by simpa using hown') neB)
  · exact ((hb1.alloc (by have := hb1.size; omega) _).grown hgrow (by have := hb1.size; simp; omega) (fun k hk => (hown.lt k hk).1)).setCell (p := ⟨b, 1, none⟩) hB _


/-- String hands out what the builder holds. -/
theorem BString_any (b : Nat) (l : List UInt8) (w : World) (h : Bld b l w) :
    Calls Tryd.prog 53 #[.pointer (some ⟨b, 0, none⟩)] w fun e w' => e = .returned (.string ⟨l.toArray⟩) ∧ (Bld b l w' ∧ Below b w w' ∧ Lib.OthersKept 5 (some b) w w') :=
  Tryd.Builder_String_any_k b b l w h (Nat.le_of_lt h.lt)

end Go.Proofs.YtbblnlddiafkhaaDoor
/- b64.Encode: what it answers. -/
namespace Go.Proofs.YtbblnlddiafkhaaDoor
open Go.RowKit

/-- The accumulator and the builder, s being what they hold. -/
structure EncAt (B : Nat) (w wr : World) (s : List UInt8 × Nat × Nat) : Prop where
  bld : Bld B s.1 wr
  bts : Bts (B + 1) s.2.1 s.2.2 wr
  bel : Below B w wr

theorem push_call (g : Nat) (r c n wd : Nat) (N W : Int) (w : World) (h : Bts g r c w) (hN : N = n) (hW : W = wd) (hw1 : wd ≤ 8) (hc1 : c ≤ 100) (hr : r ≤ 1000000) (hn : n < 2 ^ wd) :
    Calls Tryd.prog 51 #[.pointer (some ⟨g, 0, none⟩), .int .i64 N, .int .i64 W] w fun e w' => e = .returned (.tuple #[]) ∧ Bts g (r * 2 ^ wd + n) (c + wd) w' ∧ But g w w' := by
  subst hN; subst hW
  exact push_any g r c n wd w h hw1 hc1 hr hn

theorem pop_call (g : Nat) (r c wd q : Nat) (W : Int) (w : World) (h : Bts g r c w) (hW : W = wd) (hw1 : wd ≤ 8) (hc1 : c ≤ 20) (hr : r < 2 ^ c) (hlt : wd ≤ c) (hq : r / 2 ^ (c - wd) = q) :
    Calls Tryd.prog 52 #[.pointer (some ⟨g, 0, none⟩), .int .i64 W] w fun e w' => e = .returned (.tuple #[.int .i64 q, .bool true]) ∧ Bts g (r % 2 ^ (c - wd)) (c - wd) w' ∧ But g w w' := by
  subst hW; subst hq
  exact pop_any g r c wd w h hw1 hc1 hr hlt

theorem alpha_at (q : Nat) (h : q < 64) : (((⟨#[65, 66, 67, 68, 69, 70, 71, 72, 73, 74, 75, 76, 77, 78, 79, 80, 81, 82, 83, 84, 85, 86, 87, 88, 89, 90, 97, 98, 99, 100, 101, 102, 103, 104, 105, 106, 107, 108, 109, 110, 111, 112, 113, 114, 115, 116, 117, 118, 119, 120, 121, 122, 48, 49, 50, 51, 52, 53, 54, 55, 56, 57, 45, 95]⟩ : ByteArray)[q]'h).toNat : Int) = ((lt64 q).toNat : Int) := by
  have e : alpha.getD q 0 = alpha[q]'h := by rw [List.getD_eq_getElem?_getD, List.getElem?_eq_getElem (show q < alpha.length from h)]; rfl
  unfold lt64
  simp only [e]
  rfl

theorem alloc2_at (w : World) (x y : Obj) : ((w.alloc x).alloc y).heap[w.heap.size + 1]? = some y := by
  have h := heap_alloc_new (w.alloc x) y
  rw [show (w.alloc x).heap.size = w.heap.size + 1 from by simp] at h
  exact h

theorem Bld.but {b g : Nat} {l : List UInt8} {w w' : World} (h : Bld b l w) (hb : But g w w') (hg : ∃ cs fr, w.heap[g]? = some (.cells cs 83 fr)) : Bld b l w' := by
  obtain ⟨cs, fr, hg⟩ := hg
  have key : ∀ p, Lib.BuilderAtF 81 5 b b p (Lib.byteCells l) w → Lib.BuilderAtF 81 5 b b p (Lib.byteCells l) w' := by
    rintro p ⟨h1, v, h2, h3, h4⟩
    refine ⟨h1, v, ?_, ?_, h4⟩
    · rw [hb.block b (Array.getElem?_eq_some_iff.1 h2).1 ?_]
      · exact h2
      · rintro rfl
        rw [hg] at h2
        simp at h2
    · refine h3.kept (row := some g) ⟨hb.os, hb.tape, hb.output, hb.size, fun k hk hne => hb.block k hk (fun e => hne (by rw [e]))⟩ ?_
      rcases h3.2 with ⟨rfl, _⟩ | ⟨g', cap, cur, fz, rfl, _, hgg, _⟩
      · exact .inl rfl
      · refine .inr ?_
        simp only [Value.ownBlock, ne_eq, Option.some.injEq]
        rintro rfl
        rw [hg] at hgg
        simp at hgg
  exact h.elim (fun x => .inl (key _ x)) (fun x => .inr (key _ x))

theorem but_below {g B : Nat} {a w w' : World} (h : Below B a w) (hb : But g w w') (hg : B ≤ g) (hs : B ≤ w.heap.size) : Below B a w' :=
  h.trans ⟨hb.os, hb.tape, hb.output, hb.size, fun k hk => hb.block k (by omega) (by omega)⟩

theorem EncAt.step {B : Nat} {w wr w' : World} {s : List UInt8 × Nat × Nat} (h : EncAt B w wr s) {r c : Nat} (hB : B ≤ w.heap.size) (hb : Bts (B + 1) r c w') (hk : But (B + 1) wr w') : EncAt B w w' (s.1, r, c) :=
  ⟨h.bld.but hk ⟨_, _, h.bts⟩, hb, but_below h.bel hk (by omega) (Nat.le_trans hB h.bel.size)⟩

theorem EncAt.write {B : Nat} {w wr w' : World} {o o' : List UInt8} {r c : Nat} (h : EncAt B w wr (o, r, c)) (hb : Bld B o' w') (hk : Below B wr w') (ho : Lib.OthersKept 5 (some B) wr w') : EncAt B w w' (o', r, c) :=
  ⟨hb, ho _ _ h.bts (by simp) (by simp), h.bel.trans hk⟩

set_option maxHeartbeats 1000000 in
theorem Encode_any (a : Option Addr) (l : List UInt8) (cp : Nat) (w : World) (hr : Rd w a l) (hl : l.length ≤ 1000000) :
    Calls Tryd.prog 36 #[.slice a l.length cp] w fun e w' => e = .returned (.string ⟨(enc l).toArray⟩) ∧ Below w.heap.size w w' := by
  go_enter Tryd.func36, Tryd.ntmps36
  go_wp2
  go_loopg [15] (l.length) (fun k i wr => ∃ j : Nat, j + k = l.length ∧ i = .int .i64 j ∧ EncAt w.heap.size w wr (encAll (l.take j)))
  case atStart =>
    refine ⟨0, by omega, rfl, ?_⟩
    refine ⟨(Bld.fresh w).alloc _, ?_, ((Below.refl _ _).alloc (Nat.le_refl _) _).alloc (by simp) _⟩
    exact alloc2_at w _ _
  case round =>
    obtain ⟨gO, rfl⟩ : ∃ x : Nat, x = gk := ⟨_, rfl⟩
    obtain ⟨j, hj, rfl, hE⟩ := hrel
    by_cases hlt : j < l.length
    · obtain ⟨b, off, rfl, hc⟩ := hr.at hlt
      have hcj := cell_now hE.bel (hc j hlt)
      have hA := encAll_acc (l.take j)
      have hS := encAll_snoc (l.take j) l[j]
      rw [← take_snoc8 l j hlt] at hS
      have HS := Lib.hid hS
      clear hc hr hS
      have hx : l[j].toNat < 2 ^ 8 := l[j].toNat_lt
      obtain ⟨o, r, c, hs⟩ : ∃ o r c, encAll (l.take j) = (o, r, c) := ⟨_, _, _, rfl⟩
      rw [hs] at hE hA
      have HE := Lib.hid hs
      clear hs
      obtain ⟨hA1, hA2⟩ := hA
      have HO : o.length + 3 < 4000000 := by have := encAll_len (l.take j); rw [HE.out] at this; have h2 : (l.take j).length ≤ l.length := List.length_take_le' _ _; simp only at this; omega
      have hA1' : c < 6 := hA1
      have h26 : 2 ^ c ≤ 2 ^ 6 := Nat.pow_le_pow_right (by decide) (by omega)
      have hr64 : r < 64 := Nat.lt_of_lt_of_le hA2 h26
      clear h26
      go_wp2_with fail
      refine (push_call _ r c l[j].toNat 8 _ _ _ hE.bts (by first | rfl | (unfold wrap64; omega)) rfl (by omega) (by omega) (by omega) hx).mono ?_
      rintro e w1 ⟨rfl, hb1, hk1⟩
      have hE1 := hE.step (Nat.le_refl _) hb1 hk1
      have hend : pop6 3 o (r * 2 ^ 8 + l[j].toNat) (c + 8) = encAll (l.take (j + 1)) := by
        rw [HS.out, HE.out]; rfl
      have hrx : r * 2 ^ 8 + l[j].toNat < 2 ^ (c + 8) := by
        have : r + 1 ≤ 2 ^ c := hA2
        have := Nat.mul_le_mul_right (2 ^ 8) this
        rw [Nat.pow_add]; omega
      have HEND := Lib.hid (And.intro hend hrx)
      clear hend hrx hE hb1
      go_wp2
      go_loopg [] 3 (fun k wq => ∃ (o' : List UInt8) (r' c' : Nat), c' < 14 ∧ c' < 6 + 6 * k ∧ o'.length + k < 4000000 ∧ r' < 2 ^ c' ∧ Hid (pop6 k o' r' c' = encAll (l.take (j + 1))) ∧ EncAt w.heap.size w wq (o', r', c'))
      case atStart =>
        exact ⟨o, _, _, by omega, by omega, HO, HEND.out.2, HEND.out.1, hE1⟩
      case round =>
        obtain ⟨o', r', c', hc1, hc2, hol, hr2, hfin, hE2⟩ := hrel
        by_cases h6 : c' < 6
        · go_wp2_with fail
          refine (pop_none _ r' c' 6 _ hE2.bts h6).mono ?_
          rintro e w2 ⟨rfl, rfl⟩
          go_wp2
          go_roundg (gO - 1)
          case measure => omega
          case rel =>
            refine ⟨j + 1, by omega, by go_num, ?_⟩
            have e1 : (o', r', c') = encAll (l.take (j + 1)) := by
              rw [← hfin.out]
              cases k2 : gk with
              | zero => rfl
              | succ m => unfold pop6; rw [if_pos h6]
            rw [← e1]
            exact hE2
        · obtain ⟨m, rfl⟩ : ∃ m, gk = m + 1 := ⟨gk - 1, by omega⟩
          have hfin2 : pop6 m (o' ++ [lt64 (r' / 2 ^ (c' - 6))]) (r' % 2 ^ (c' - 6)) (c' - 6) = encAll (l.take (j + 1)) := by
            have := hfin.out
            unfold pop6 at this
            rw [if_neg h6] at this
            exact this
          have hmod : r' % 2 ^ (c' - 6) < 2 ^ (c' - 6) := Nat.mod_lt _ (Nat.two_pow_pos _)
          have hq64 : r' / 2 ^ (c' - 6) < 64 := by
            rw [Nat.div_lt_iff_lt_mul (Nat.two_pow_pos _)]
            calc r' < 2 ^ c' := hr2
              _ = 2 ^ (6 + (c' - 6)) := by congr 1; omega
              _ = 64 * 2 ^ (c' - 6) := by rw [Nat.pow_add]
          obtain ⟨q, hq⟩ : ∃ q, r' / 2 ^ (c' - 6) = q := ⟨_, rfl⟩
          rw [hq] at hq64 hfin2
          have HQ := Lib.hid (And.intro hq (And.intro hfin2 hmod))
          clear hq hfin2 hfin hmod
          go_wp2_with fail
          refine (pop_call _ r' c' 6 q _ _ hE2.bts rfl (by omega) (by omega) hr2 (by omega) HQ.out.1).mono ?_
          rintro e w2 ⟨rfl, hb2, hk2⟩
          have hE3 := hE2.step (Nat.le_refl _) hb2 hk2
          clear hE2 hb2
          go_wp2_with fail
          refine (WriteByte_any _ o' _ (lt64 q) (alpha_at q hq64) _ hE3.bld (by omega)).mono ?_
          rintro e w3 ⟨rfl, hb3, hk3, ho3⟩
          have hE4 := hE3.write hb3 hk3 ho3
          go_wp2
          go_roundg m
          case measure => omega
          case rel => exact ⟨_, _, _, by omega, by omega, by simp; omega, HQ.out.2.2, HQ.out.2.1, hE4⟩
    · have hall : l.take j = l := List.take_of_length_le (by omega)
      rw [hall] at hE
      have hA := encAll_acc l
      have hlen := encAll_len l
      obtain ⟨o, r, c, hs⟩ : ∃ o r c, encAll l = (o, r, c) := ⟨_, _, _, rfl⟩
      rw [hs] at hE hA hlen
      have HS := Lib.hid hs
      clear hs hall
      obtain ⟨hA1, hA2⟩ := hA
      simp only at hA1 hA2 hlen
      have h26 : 2 ^ c ≤ 2 ^ 6 := Nat.pow_le_pow_right (by decide) (by omega)
      have hr64 : r < 64 := Nat.lt_of_lt_of_le hA2 h26
      clear h26
      have hc1 : wr.cell? ⟨w.heap.size + 1, 1, none⟩ = some (.int .i64 c) := by rw [Lib.cell_of_heap hE.bts]; rfl
      by_cases h0 : c = 0
      · subst h0
        have hc2 : wr.cell? ⟨w.heap.size + 1, 1, none⟩ = some (.int .i64 0) := hc1
        clear hc1
        go_wp2_with fail
        refine (BString_any _ o _ hE.bld).mono ?_
        rintro e w2 ⟨rfl, hb2, hk2, _⟩
        go_wp2
        go_ret
        refine ⟨?_, hE.bel.trans hk2⟩
        unfold enc encEnd
        rw [HS.out, if_pos rfl]
        rfl
      · have hpos : 0 < c := by omega
        go_wp2_with fail
        refine (push_call _ r c 0 (6 - c) _ _ _ hE.bts rfl (by omega) (by omega) (by omega) (by omega) (Nat.two_pow_pos _)).mono ?_
        rintro e w2 ⟨rfl, hb2, hk2⟩
        have hE2 := hE.step (Nat.le_refl _) hb2 hk2
        have h6 : c + (6 - c) = 6 := by omega
        rw [h6] at hb2 hE2
        have hr6 : r * 2 ^ (6 - c) + 0 < 2 ^ 6 := by
          have h1 : r + 1 ≤ 2 ^ c := hA2
          have h2 := Nat.mul_le_mul_right (2 ^ (6 - c)) h1
          rw [← Nat.pow_add, h6] at h2
          have h3 : 0 < 2 ^ (6 - c) := Nat.two_pow_pos _
          rw [Nat.add_mul] at h2
          omega
        obtain ⟨q, hq⟩ : ∃ q, r * 2 ^ (6 - c) + 0 = q := ⟨_, rfl⟩
        rw [hq] at hr6 hb2 hE2
        have HQ := Lib.hid hq
        have H6 := Lib.hid h6
        clear hq h6 hE hc1
        go_wp2_with fail
        refine (pop_call _ q 6 6 q _ _ hb2 rfl (by omega) (by omega) hr6 (by omega) (by simp)).mono ?_
        rintro e w3 ⟨rfl, hb3, hk3⟩
        have hE3 := hE2.step (Nat.le_refl _) hb3 hk3
        have hq64 : q < 64 := hr6
        clear hb2 hE2 hb3
        go_wp2_with fail
        refine (WriteByte_any _ o _ (lt64 q) (alpha_at q hq64) _ hE3.bld (by omega)).mono ?_
        rintro e w4 ⟨rfl, hb4, hk4, ho4⟩
        have hE4 := hE3.write hb4 hk4 ho4
        go_wp2_with fail
        refine (BString_any _ _ _ hE4.bld).mono ?_
        rintro e w5 ⟨rfl, hb5, hk5, _⟩
        go_wp2
        go_ret
        have henc : enc l = o ++ [lt64 q] := by
          unfold enc encEnd
          rw [HS.out, if_neg h0, ← HQ.out, Nat.add_zero]
        refine ⟨?_, hE4.bel.trans hk5⟩
        rw [henc]
        rfl
theorem Encode_at (a : Option Addr) (l : List UInt8) (n cp : Nat) (w : World) (hr : Rd w a l) (hn : n = l.length) (hl : l.length ≤ 1000000) :
    Calls Tryd.prog 36 #[.slice a n cp] w fun e w' => e = .returned (.string ⟨(enc l).toArray⟩) ∧ Below w.heap.size w w' := by
  subst hn
  exact Encode_any a l cp w hr hl
end Go.Proofs.YtbblnlddiafkhaaDoor
/- token's tail. -/
set_option linter.unusedVariables false
namespace Go.Proofs.YtbblnlddiafkhaaDoor
open Go.RowKit

def tailL (key s : List UInt8) : List UInt8 := enc ((mac key s).take 16)
theorem Rd.take {w : World} {a : Option Addr} {l : List UInt8} (h : Rd w a l) (n : Nat) : Rd w a (l.take n) := by
  rcases h with rfl | ⟨b, off, e, hc⟩
  · exact .inl (by simp)
  · refine .inr ⟨b, off, e, fun i hi => ?_⟩
    simp only [List.length_take] at hi
    rw [hc i (by omega)]
    simp
set_option maxRecDepth 100000 in
set_option maxHeartbeats 4000000 in
theorem tail_any (g : Nat) (key s : List UInt8) (w : World) (hm : Mt w g key) (hk : key.length ≤ 1000) (hs : s.length ≤ 1000) :
    Calls Tryd.prog 30 #[.pointer (some ⟨g, 0, none⟩), .string ⟨s.toArray⟩] w fun e w' => e = .returned (.string ⟨(tailL key s).toArray⟩) ∧ Below w.heap.size w w' := by
  obtain ⟨ak, ck, hcell, hrk⟩ := hm
  obtain ⟨cs, w1, hcv, hb1, hrs, hz1⟩ := bytes_of_str s w
  have hr2 := RdS.one (c := cs) hrs 28
  have hb2 : Below w.heap.size w (w1.alloc (.cells #[.slice (some ⟨w.heap.size, 0, none⟩) s.length cs] 28)) := hb1.alloc hb1.size _
  have hco := code_any ak ck key.length key [s] (some ⟨w1.heap.size, 0, none⟩) 1 1 (w1.alloc (.cells #[.slice (some ⟨w.heap.size, 0, none⟩) s.length cs] 28)) (hrk.below hb2) rfl hr2 rfl (by omega) (by simp) (by simp; omega)
  have hfl : [s].flatten = s := by simp
  rw [hfl, hz1] at hco
  have HB2 := Lib.hid hb2
  have HCO := Lib.hid hco
  have hml := mac_len key s
  have HT := Lib.hid (show tailL key s = enc ((mac key s).take 16) from rfl)
  clear hb1 hrs hr2 hb2 hco hfl hrk
  go_enter Tryd.func30, Tryd.ntmps30
  go_wp2_with fail
  refine HCO.out.mono ?_
  rintro e w2 ⟨v, rfl, htl, hb3⟩
  obtain ⟨am, cm, rfl, hrm, hlc, _, _⟩ := htl.shape
  have HB3 := Lib.hid (HB2.out.trans (hb3.mono HB2.out.size))
  have hrt := hrm.take 16
  have hlt : ((mac key s).take 16).length = 16 := by rw [List.length_take, hml]; rfl
  have HRT := Lib.hid hrt
  have HLT := Lib.hid hlt
  clear hb3 HCO hrm hrt htl
  generalize (mac key s).take 16 = T at *
  rw [hml] at hlc
  clear hlt
  go_wp2_with fail
  refine (Encode_at am T 16 cm w2 HRT.out HLT.out.symm (by rw [HLT.out]; decide)).mono ?_
  rintro e w3 ⟨rfl, hb4⟩
  have HB4 := Lib.hid (HB3.out.trans (hb4.mono HB3.out.size))
  clear hb4
  go_wp2_with fail
  go_ret
  exact ⟨by rw [HT.out]; rfl, HB4.out⟩
end Go.Proofs.YtbblnlddiafkhaaDoor
/- token's Make, where there is a word. -/
set_option linter.unusedVariables false
namespace Go.Proofs.YtbblnlddiafkhaaDoor
open Go.RowKit

def frontL (k : UInt8) (n : Nat) : List UInt8 := k :: Lib.decDigits n
def wordL (key : List UInt8) (k : UInt8) (n : Nat) : List UInt8 := frontL k n ++ 46 :: tailL key (frontL k n)
theorem tailL_len (key s : List UInt8) : (tailL key s).length ≤ 100 := by
  unfold tailL
  have := encAll_len ((mac key s).take 16)
  have h2 : ((mac key s).take 16).length ≤ 16 := by simp; omega
  unfold enc encEnd
  split
  · omega
  · simp only [List.length_append, List.length_cons, List.length_nil]; omega
set_option maxRecDepth 100000 in
set_option maxHeartbeats 4000000 in
theorem make_ok (g : Nat) (key : List UInt8) (k : UInt8) (n : Nat) (w : World) (hm : Mt w g key) (hp : Pow w) (hk : key.length ≤ 1000) (hkn : knownB k = true) (h1 : 1 ≤ n) (h2 : n ≤ 1099511627776) :
    Calls Tryd.prog 14 #[.pointer (some ⟨g, 0, none⟩), .int .u8 (k.toNat : Int), .int .i64 (n : Int)] w fun e w' => e = .returned (.tuple #[.string ⟨(wordL key k n).toArray⟩, .int .i64 0]) ∧ Below w.heap.size w w' := by
  have HM := Lib.hid hm
  have HP := Lib.hid hp
  have hlen := dec_len n 13 (by decide) (by have : (10 : Nat) ^ 13 = 10000000000000 := by decide
                                            omega)
  have i1 : ¬ (n : Int) < 1 := by omega
  have i2 : ¬ (1099511627776 : Int) < (n : Int) := by omega
  clear hm hp
  go_enter Tryd.func14, Tryd.ntmps14
  go_wp2_with fail
  refine (known_any k w).mono ?_
  rintro e w1 ⟨rfl, rfl⟩
  rw [hkn]
  clear hkn
  go_wp2_with fail
  refine (front_any k n w1 h2 HP.out).mono ?_
  rintro e w2 ⟨rfl, hb2⟩
  rw [show k :: Lib.decDigits n = frontL k n from rfl]
  have hfl : (frontL k n).length ≤ 14 := by unfold frontL; simp; omega
  have HB2 := Lib.hid hb2
  have HM2 := Lib.hid (HM.out.below hb2)
  have HW := Lib.hid (show wordL key k n = frontL k n ++ 46 :: tailL key (frontL k n) from rfl)
  clear hb2 hlen
  generalize frontL k n = F at *
  go_wp2_with fail
  refine (tail_any g key F w2 HM2.out hk (by omega)).mono ?_
  rintro e w3 ⟨rfl, hb3⟩
  have HB3 := Lib.hid (HB2.out.trans (hb3.mono HB2.out.size))
  have htl := tailL_len key F
  generalize tailL key F = T at *
  clear hb3
  go_wp2_with fail
  go_ret2
  refine ⟨?_, HB3.out⟩
  rw [HW.out]
  have e : (⟨F.toArray⟩ : ByteArray) ++ (⟨#[46]⟩ : ByteArray) ++ (⟨T.toArray⟩ : ByteArray) = ⟨(F ++ 46 :: T).toArray⟩ := by
    apply ByteArray.ext
    simp
  rw [← e]
  rfl
end Go.Proofs.YtbblnlddiafkhaaDoor
/- token's Hash. -/
set_option linter.unusedVariables false
namespace Go.Proofs.YtbblnlddiafkhaaDoor
open Go.RowKit

def hashM (name word : List UInt8) : List UInt8 := 104 :: (name ++ 0 :: word)
def hashL (key name word : List UInt8) : List UInt8 := enc (mac key (hashM name word))
set_option maxRecDepth 100000 in
set_option maxHeartbeats 4000000 in
theorem hash_any (g : Nat) (key name word : List UInt8) (w : World) (hm : Mt w g key) (hk : key.length ≤ 1000) (h1 : name.length ≤ 1000) (h2 : word.length ≤ 1000) :
    Calls Tryd.prog 19 #[.pointer (some ⟨g, 0, none⟩), .string ⟨name.toArray⟩, .string ⟨word.toArray⟩] w fun e w' => e = .returned (.string ⟨(hashL key name word).toArray⟩) ∧ Below w.heap.size w w' := by
  obtain ⟨ak, ck, hcell, hrk⟩ := hm
  have hcat : (⟨#[104]⟩ : ByteArray) ++ (⟨name.toArray⟩ : ByteArray) ++ (⟨#[0]⟩ : ByteArray) ++ (⟨word.toArray⟩ : ByteArray) = ⟨(hashM name word).toArray⟩ := by
    apply ByteArray.ext
    simp [hashM]
  have HT := Lib.hid (show hashL key name word = enc (mac key (hashM name word)) from rfl)
  have hsl : (hashM name word).length ≤ 2002 := by unfold hashM; simp; omega
  generalize hashM name word = s at *
  obtain ⟨cs, w1, hcv, hb1, hrs, hz1⟩ := bytes_of_str s w
  have hr2 := RdS.one (c := cs) hrs 28
  have hb2 : Below w.heap.size w (w1.alloc (.cells #[.slice (some ⟨w.heap.size, 0, none⟩) s.length cs] 28)) := hb1.alloc hb1.size _
  have hco := code_any ak ck key.length key [s] (some ⟨w1.heap.size, 0, none⟩) 1 1 (w1.alloc (.cells #[.slice (some ⟨w.heap.size, 0, none⟩) s.length cs] 28)) (hrk.below hb2) rfl hr2 rfl (by omega) (by simp) (by simp; omega)
  have hfl : [s].flatten = s := by simp
  rw [hfl, hz1] at hco
  have HB2 := Lib.hid hb2
  have HCO := Lib.hid hco
  have hml := mac_len key s
  clear hb1 hrs hr2 hb2 hco hfl hrk
  go_enter Tryd.func19, Tryd.ntmps19
  go_wp2_with fail
  refine HCO.out.mono ?_
  rintro e w2 ⟨v, rfl, htl, hb3⟩
  obtain ⟨am, cm, rfl, hrm, hlc, _, _⟩ := htl.shape
  have HB3 := Lib.hid (HB2.out.trans (hb3.mono HB2.out.size))
  have HRT := Lib.hid hrm
  have HLT := Lib.hid hml
  clear hb3 HCO hrm htl hlc
  generalize mac key s = T at *
  clear hml
  go_wp2_with fail
  refine (Encode_any am T cm w2 HRT.out (by rw [HLT.out]; decide)).mono ?_
  rintro e w3 ⟨rfl, hb4⟩
  have HB4 := Lib.hid (HB3.out.trans (hb4.mono HB3.out.size))
  clear hb4
  go_wp2_with fail
  go_ret
  exact ⟨by rw [HT.out]; rfl, HB4.out⟩
end Go.Proofs.YtbblnlddiafkhaaDoor
/- mac.Code among operations that only add; plain laws of what Equal folds. -/
set_option linter.unusedVariables false
namespace Go.Proofs.YtbblnlddiafkhaaDoor
open Go.RowKit

theorem ent_code : ∀ args w, (callFunc 37 args).run Tryd.prog w = .ok (.enter 37 args) w := run_enters Tryd.func37 (by kernel_rfl) rfl
theorem grow_code {Q : Exit → Act → World → Prop} {o : Oper} {a : Act} {w : World} {x y : Operand} {ts : Array TypeId} {key M : List UInt8} {ps : List (List UInt8)} (he : ps.flatten = M) (ho : o.op = .call { callee := .value (.func 37), args := #[x, y], argTypes := ts }) (hx : VBytes key (a.eval x) w) (hy : VParts ps (a.eval y) w) (hk : key.length ≤ 800000) (hps : ps.length ≤ 1000000) (hlen : M.length ≤ 800000) :
    o.wp Tryd.prog a w (Grew o.dst (VBytes (mac key M)) a w) Q := by
  subst he
  obtain ⟨ak, ck, e1, h1⟩ := hx
  obtain ⟨ap, cp, e2, h2⟩ := hy
  refine grow_call ent_code ho ?_
  simp only [List.map_toArray, List.map_cons, List.map_nil, e1, e2]
  refine (code_any ak ck _ key ps ap _ cp w h1 rfl h2 rfl hk hps hlen).mono ?_
  rintro e w' ⟨v', rfl, ht, hb⟩
  obtain ⟨a', c', h1, h2, _⟩ := ht.shape
  exact ⟨v', rfl, ⟨a', c', h1, h2⟩, hb⟩
theorem keyF_sha (k : List UInt8) : keyF (sha k) = sha k := by unfold keyF; rw [if_neg (by rw [sha_len]; decide)]
theorem mac_long (k m : List UInt8) (h : 64 < k.length) : mac (sha k) m = mac k m := by
  unfold mac padF
  rw [keyF_sha]
  unfold keyF
  rw [if_pos h]

theorem or_zero (x y : Nat) : x ||| y = 0 ↔ x = 0 ∧ y = 0 := Nat.or_eq_zero_iff
theorem xor_zero (x y : Nat) : x ^^^ y = 0 ↔ x = y := by
  constructor
  · intro h
    have h2 : x ^^^ y ^^^ y = y := by rw [h]; simp
    rwa [Nat.xor_assoc, Nat.xor_self, Nat.xor_zero] at h2
  · rintro rfl
    exact Nat.xor_self x
end Go.Proofs.YtbblnlddiafkhaaDoor
/- Package klaxonref02: pad, Code. -/
set_option linter.unusedVariables false
namespace Go.Proofs.YtbblnlddiafkhaaDoor
open Go.RowKit

theorem heap_new_at (w : World) (o : Obj) (h : w.heap.size < (w.alloc o).heap.size) : (w.alloc o).heap[w.heap.size] = o := by
  have h1 := heap_alloc_new w o
  rw [Array.getElem?_eq_getElem h] at h1
  simpa using h1

set_option maxRecDepth 100000 in
set_option maxHeartbeats 4000000 in
theorem rpad_any (a : Option Addr) (c : Nat) (l : List UInt8) (n : Nat) (xb : UInt8) (X : Int) (w : World) (hr : Rd w a l) (hn : n = l.length) (hX : X = (xb.toNat : Nat)) (hlen : l.length ≤ 900000) :
    Calls Tryd.prog 48 #[.slice a n c, .int .u8 X] w fun e w' => ∃ v', e = .returned v' ∧ Tl w.heap.size w' v' (padF l xb) ∧ Below w.heap.size w w' := by
  subst hn hX
  have HR := Lib.hid hr
  clear hr
  go_enter Tryd.func48, Tryd.ntmps48
  by_cases h64 : l.length ≤ 64
  · have h64I : (l.length : Int) ≤ 64 := by omega
    have HPF : Hid (padF l xb = (padK l).map (· ^^^ xb)) := Lib.hid (by unfold padF keyF; rw [if_neg (by omega)])
    have HK : Hid (Rd w a l) := HR
    have HKL : Hid (l.length = l.length) := Lib.hid rfl
    have HK64 : Hid (l.length ≤ 64) := Lib.hid h64
    have HW2 : Hid (Below w.heap.size w w) := Lib.hid (Below.refl _ _)
    go_upto_region 4 with (fail)
    go_wp2_with fail
    go_loopg [6, 5] 64 (fun k y x wr => ∃ j q co : Nat, ∃ ao : Option Addr, y = .int .i64 j ∧ x = .slice ao q co ∧ j + k = 64 ∧ Hid (Tl w.heap.size wr (.slice ao q co) ((padF l xb).take j)) ∧ Hid (Below w.heap.size w wr))
    case atStart => exact ⟨0, 0, 0, none, rfl, rfl, rfl, Lib.hid (Tl.nil _ _), Lib.hid (Below.refl _ _)⟩
    case round =>
      obtain ⟨j, q, co, ao, rfl, rfl, hj, HT, HBK⟩ := hrel
      by_cases hlt : j < 64
      · have hpl := padF_len l xb
        have hpk : (padK l).length = 64 := padK_len l (by have := HK64.out; first | omega | (have := HKL.out; omega))
        have htk : (padF l xb).take (j + 1) = (padF l xb).take j ++ [(padF l xb)[j]] := by rw [List.take_add_one, List.getElem?_eq_getElem (by omega)]; rfl
        have hat : (padF l xb)[j]? = ((padK l)[j]?).map (· ^^^ xb) := by rw [HPF.out, List.getElem?_map]
        rw [List.getElem?_eq_getElem (by omega)] at hat
        have htl : ((padF l xb).take j).length ≤ 64 := by simp; omega
        have HTLL := Lib.hid htl
        have j0 : 0 ≤ (j : Int) := by omega
        have jn : ((j : Int)).toNat = j := by omega
        have jlt : (j : Int) < 64 := by omega
        obtain ⟨pb, hpb⟩ : ∃ x, (padF l xb)[j] = x := ⟨_, rfl⟩
        rw [hpb] at htk hat
        have HTK := Lib.hid htk
        by_cases hjk : j < l.length
        · obtain ⟨bk, ok, hak, hck⟩ := (HK.out.below HBK.out).at hjk
          have hcell := hck j hjk
          have hpb2 : pb = l[j] ^^^ xb := by
            unfold padK at hat
            rw [List.getElem?_append_left hjk, List.getElem?_eq_getElem hjk] at hat
            simpa using hat
          have hxo : bits .xor .u8 ((xb.toNat : Nat) : Int) (((l[j]).toNat : Nat) : Int) = ((pb.toNat : Nat) : Int) := by
            rw [u8_xor_nat _ _ xb.toNat_lt (l[j]).toNat_lt, hpb2, UInt8.toNat_xor, Nat.xor_comm]
          have jkI : (j : Int) < ((l.length : Nat) : Int) := by have := HKL.out; omega
          obtain ⟨n1, hn1⟩ : ∃ x, (l[j]).toNat = x := ⟨_, rfl⟩
          rw [hn1] at hcell hxo
          subst hak
          clear hat hn1 hpb hpb2 htk htl hck hpl hpk hjk
          go_wp2_with (at_builtin; go_loud (refine wpList_append_tl rfl (.tmp 28) (.tmp 30) rfl w.heap.size _ _ rfl (HT.out.alloc _) (some ⟨wr.heap.size, 0, none⟩) [pb] 1 1 rfl rfl (Rd.of_lit (T := 5) (fr := (0, 0)) [pb] ?c0) ?c1 ?c2 ?_))
          case c0 => first | (rw [heap_alloc_new]; rfl) | (simp only [Lib.byteCells, List.map_cons, List.map_nil]; exact heap_new_at _ _ _)
          case c1 => have := HTLL.out; first | omega | (simp only [List.length_singleton]; omega)
          case c2 => have := HBK.out.size; first | omega | (simp; omega)
          intro a4 n4 c4 w4 hn4 ht4 hg4 how4
          have hb5 : Below w.heap.size w w4 := below_grow_tl (HBK.out.alloc HBK.out.size (.cells #[.int .u8 (pb.toNat : Int)] 5)) (HT.out.alloc _) hg4 (by have := HBK.out.size; simp; omega)
          have ht5 : Tl w.heap.size w4 (.slice a4 n4 c4) ((padF l xb).take (j + 1)) := by rw [HTK.out]; exact ht4
          have HT5 := Lib.hid ht5
          have HB5 := Lib.hid hb5
          clear hn4 ht4 hg4 how4 hb5 ht5
          go_wp2_with fail
          go_roundg (gk - 1)
          case measure => omega
          case rel => exact ⟨j + 1, n4, c4, a4, by go_num, rfl, by omega, HT5, HB5⟩
        · have hpb2 : pb = xb := by
            unfold padK at hat
            rw [List.getElem?_append_right (by omega), List.getElem?_replicate, if_pos (by omega)] at hat
            simpa using hat
          have jkI : ¬ (j : Int) < ((l.length : Nat) : Int) := by have := HKL.out; omega
          have htk2 := HTK.out
          rw [hpb2] at htk2
          have HTK := Lib.hid htk2
          clear hat hpb htk htk2 htl hpl hpk hjk hpb2
          go_wp2_with (at_builtin; go_loud (refine wpList_append_tl rfl (.tmp 28) (.tmp 30) rfl w.heap.size _ _ rfl (HT.out.alloc _) (some ⟨wr.heap.size, 0, none⟩) [xb] 1 1 rfl rfl (Rd.of_lit (T := 5) (fr := (0, 0)) [xb] ?c0) ?c1 ?c2 ?_))
          case c0 => first | (rw [heap_alloc_new]; rfl) | (simp only [Lib.byteCells, List.map_cons, List.map_nil]; exact heap_new_at _ _ _)
          case c1 => have := HTLL.out; first | omega | (simp only [List.length_singleton]; omega)
          case c2 => have := HBK.out.size; first | omega | (simp; omega)
          intro a4 n4 c4 w4 hn4 ht4 hg4 how4
          have hb5 : Below w.heap.size w w4 := below_grow_tl (HBK.out.alloc HBK.out.size (.cells #[.int .u8 (xb.toNat : Int)] 5)) (HT.out.alloc _) hg4 (by have := HBK.out.size; simp; omega)
          have ht5 : Tl w.heap.size w4 (.slice a4 n4 c4) ((padF l xb).take (j + 1)) := by rw [HTK.out]; exact ht4
          have HT5 := Lib.hid ht5
          have HB5 := Lib.hid hb5
          clear hn4 ht4 hg4 how4 hb5 ht5
          go_wp2_with fail
          go_roundg (gk - 1)
          case measure => omega
          case rel => exact ⟨j + 1, n4, c4, a4, by go_num, rfl, by omega, HT5, HB5⟩
      · obtain rfl : j = 64 := by omega
        have ht := HT.out
        rw [List.take_of_length_le (by rw [padF_len]; exact Nat.le_refl _)] at ht
        have htw := ht.mono HW2.out.size
        have hbw := HW2.out.trans (HBK.out.mono HW2.out.size)
        have HTW := Lib.hid htw
        have HBW := Lib.hid hbw
        clear ht htw hbw HT HBK
        go_wp2_with fail
        go_ret
        exact ⟨_, rfl, HTW.out, HBW.out⟩
  · have h64I : (64 : Int) < (l.length : Int) := by omega
    have hkf : padF l xb = (padK (sha l)).map (· ^^^ xb) := by unfold padF keyF; rw [if_pos (by omega)]
    have HPF := Lib.hid hkf
    have HSM := Lib.hid (sum_ref l a l.length c w HR.out rfl hlen)
    clear hkf
    go_wp2_with fail
    refine HSM.out.mono ?_
    rintro e w2 ⟨v2, rfl, ht2, hb2⟩
    obtain ⟨ak, ck, rfl, hrk, _⟩ := ht2.shape
    rw [sha_len]
    have HK := Lib.hid hrk
    have HKL : Hid ((sha l).length = 32) := Lib.hid (sha_len l)
    have HK64 : Hid (32 ≤ 64) := Lib.hid (by decide)
    have HW2 := Lib.hid hb2
    clear ht2 hb2 hrk HSM
    go_upto_region 4 with (fail)
    go_wp2_with fail
    go_loopg [6, 5] 64 (fun k y x wr => ∃ j q co : Nat, ∃ ao : Option Addr, y = .int .i64 j ∧ x = .slice ao q co ∧ j + k = 64 ∧ Hid (Tl w2.heap.size wr (.slice ao q co) ((padF l xb).take j)) ∧ Hid (Below w2.heap.size w2 wr))
    case atStart => exact ⟨0, 0, 0, none, rfl, rfl, rfl, Lib.hid (Tl.nil _ _), Lib.hid (Below.refl _ _)⟩
    case round =>
      obtain ⟨j, q, co, ao, rfl, rfl, hj, HT, HBK⟩ := hrel
      by_cases hlt : j < 64
      · have hpl := padF_len l xb
        have hpk : (padK (sha l)).length = 64 := padK_len (sha l) (by have := HK64.out; first | omega | (have := HKL.out; omega))
        have htk : (padF l xb).take (j + 1) = (padF l xb).take j ++ [(padF l xb)[j]] := by rw [List.take_add_one, List.getElem?_eq_getElem (by omega)]; rfl
        have hat : (padF l xb)[j]? = ((padK (sha l))[j]?).map (· ^^^ xb) := by rw [HPF.out, List.getElem?_map]
        rw [List.getElem?_eq_getElem (by omega)] at hat
        have htl : ((padF l xb).take j).length ≤ 64 := by simp; omega
        have HTLL := Lib.hid htl
        have j0 : 0 ≤ (j : Int) := by omega
        have jn : ((j : Int)).toNat = j := by omega
        have jlt : (j : Int) < 64 := by omega
        obtain ⟨pb, hpb⟩ : ∃ x, (padF l xb)[j] = x := ⟨_, rfl⟩
        rw [hpb] at htk hat
        have HTK := Lib.hid htk
        by_cases hjk : j < (sha l).length
        · obtain ⟨bk, ok, hak, hck⟩ := (HK.out.below HBK.out).at hjk
          have hcell := hck j hjk
          have hpb2 : pb = (sha l)[j] ^^^ xb := by
            unfold padK at hat
            rw [List.getElem?_append_left hjk, List.getElem?_eq_getElem hjk] at hat
            simpa using hat
          have hxo : bits .xor .u8 ((xb.toNat : Nat) : Int) ((((sha l)[j]).toNat : Nat) : Int) = ((pb.toNat : Nat) : Int) := by
            rw [u8_xor_nat _ _ xb.toNat_lt ((sha l)[j]).toNat_lt, hpb2, UInt8.toNat_xor, Nat.xor_comm]
          have jkI : (j : Int) < ((32 : Nat) : Int) := by have := HKL.out; omega
          obtain ⟨n1, hn1⟩ : ∃ x, ((sha l)[j]).toNat = x := ⟨_, rfl⟩
          rw [hn1] at hcell hxo
          subst hak
          clear hat hn1 hpb hpb2 htk htl hck hpl hpk hjk
          go_wp2_with (at_builtin; go_loud (refine wpList_append_tl rfl (.tmp 28) (.tmp 30) rfl w2.heap.size _ _ rfl (HT.out.alloc _) (some ⟨wr.heap.size, 0, none⟩) [pb] 1 1 rfl rfl (Rd.of_lit (T := 5) (fr := (0, 0)) [pb] ?c0) ?c1 ?c2 ?_))
          case c0 => first | (rw [heap_alloc_new]; rfl) | (simp only [Lib.byteCells, List.map_cons, List.map_nil]; exact heap_new_at _ _ _)
          case c1 => have := HTLL.out; first | omega | (simp only [List.length_singleton]; omega)
          case c2 => have := HBK.out.size; first | omega | (simp; omega)
          intro a4 n4 c4 w4 hn4 ht4 hg4 how4
          have hb5 : Below w2.heap.size w2 w4 := below_grow_tl (HBK.out.alloc HBK.out.size (.cells #[.int .u8 (pb.toNat : Int)] 5)) (HT.out.alloc _) hg4 (by have := HBK.out.size; simp; omega)
          have ht5 : Tl w2.heap.size w4 (.slice a4 n4 c4) ((padF l xb).take (j + 1)) := by rw [HTK.out]; exact ht4
          have HT5 := Lib.hid ht5
          have HB5 := Lib.hid hb5
          clear hn4 ht4 hg4 how4 hb5 ht5
          go_wp2_with fail
          go_roundg (gk - 1)
          case measure => omega
          case rel => exact ⟨j + 1, n4, c4, a4, by go_num, rfl, by omega, HT5, HB5⟩
        · have hpb2 : pb = xb := by
            unfold padK at hat
            rw [List.getElem?_append_right (by omega), List.getElem?_replicate, if_pos (by omega)] at hat
            simpa using hat
          have jkI : ¬ (j : Int) < ((32 : Nat) : Int) := by have := HKL.out; omega
          have htk2 := HTK.out
          rw [hpb2] at htk2
          have HTK := Lib.hid htk2
          clear hat hpb htk htk2 htl hpl hpk hjk hpb2
          go_wp2_with (at_builtin; go_loud (refine wpList_append_tl rfl (.tmp 28) (.tmp 30) rfl w2.heap.size _ _ rfl (HT.out.alloc _) (some ⟨wr.heap.size, 0, none⟩) [xb] 1 1 rfl rfl (Rd.of_lit (T := 5) (fr := (0, 0)) [xb] ?c0) ?c1 ?c2 ?_))
          case c0 => first | (rw [heap_alloc_new]; rfl) | (simp only [Lib.byteCells, List.map_cons, List.map_nil]; exact heap_new_at _ _ _)
          case c1 => have := HTLL.out; first | omega | (simp only [List.length_singleton]; omega)
          case c2 => have := HBK.out.size; first | omega | (simp; omega)
          intro a4 n4 c4 w4 hn4 ht4 hg4 how4
          have hb5 : Below w2.heap.size w2 w4 := below_grow_tl (HBK.out.alloc HBK.out.size (.cells #[.int .u8 (xb.toNat : Int)] 5)) (HT.out.alloc _) hg4 (by have := HBK.out.size; simp; omega)
          have ht5 : Tl w2.heap.size w4 (.slice a4 n4 c4) ((padF l xb).take (j + 1)) := by rw [HTK.out]; exact ht4
          have HT5 := Lib.hid ht5
          have HB5 := Lib.hid hb5
          clear hn4 ht4 hg4 how4 hb5 ht5
          go_wp2_with fail
          go_roundg (gk - 1)
          case measure => omega
          case rel => exact ⟨j + 1, n4, c4, a4, by go_num, rfl, by omega, HT5, HB5⟩
      · obtain rfl : j = 64 := by omega
        have ht := HT.out
        rw [List.take_of_length_le (by rw [padF_len]; exact Nat.le_refl _)] at ht
        have htw := ht.mono HW2.out.size
        have hbw := HW2.out.trans (HBK.out.mono HW2.out.size)
        have HTW := Lib.hid htw
        have HBW := Lib.hid hbw
        clear ht htw hbw HT HBK
        go_wp2_with fail
        go_ret
        exact ⟨_, rfl, HTW.out, HBW.out⟩

set_option maxRecDepth 100000 in
set_option maxHeartbeats 4000000 in
theorem rcode_any (ak : Option Addr) (ck nk : Nat) (key m : List UInt8) (am : Option Addr) (n c : Nat) (w : World) (hk : Rd w ak key) (hnk : nk = key.length) (hr : Rd w am m) (hn : n = m.length) (hkl : key.length ≤ 800000) (hlen : m.length ≤ 800000) :
    Calls Tryd.prog 34 #[.slice ak nk ck, .slice am n c] w fun e w' => ∃ v', e = .returned v' ∧ Tl w.heap.size w' v' (mac key m) ∧ Below w.heap.size w w' := by
  subst hn hnk
  have HR := Lib.hid hr
  have HKY := Lib.hid hk
  clear hr hk
  go_enter Tryd.func34, Tryd.ntmps34
  go_wp2_with fail
  refine (rpad_any ak ck key key.length 0x36 54 w HKY.out rfl rfl (by omega)).mono ?_
  rintro e w1 ⟨v1, rfl, ht1, hb1⟩
  obtain ⟨a1, c1, rfl, hr1, _⟩ := ht1.shape
  obtain ⟨P, hP⟩ : ∃ P, padF key 0x36 = P := ⟨_, rfl⟩
  have hPl : P.length = 64 := by rw [← hP]; exact padF_len _ _
  rw [hP] at ht1 hr1 ⊢
  have HT1 := Lib.hid ht1
  have HB1 := Lib.hid hb1
  have HPP := Lib.hid hP
  have HPL := Lib.hid hPl
  clear ht1 hb1 hr1 hP hPl
  go_wp2_with (at_builtin; go_loud (refine wpList_append_tl rfl (.tmp 7) (.tmp 8) rfl w.heap.size _ P rfl HT1.out am m m.length c rfl rfl (HR.out.below HB1.out) ?c1 ?c2 ?_))
  case c1 => have := HPL.out; omega
  case c2 => exact HB1.out.size
  intro a2 n2 c2 w2 hn2 ht2 hg2 how2
  have hb2 : Below w.heap.size w w2 := below_grow_tl HB1.out HT1.out hg2 HB1.out.size
  obtain ⟨a', c', hsh, hr2, _⟩ := ht2.shape
  simp at hsh
  obtain ⟨rfl, rfl, rfl⟩ := hsh
  have hsm := sum_ref (P ++ m) a2 (P ++ m).length c2 w2 hr2 rfl (by rw [List.length_append]; have := HPL.out; omega)
  rw [List.length_append] at hsm
  have HSM := Lib.hid hsm
  have HB2 := Lib.hid hb2
  clear hn2 ht2 hg2 how2 hb2 hr2 hsm HT1 HB1
  go_wp2_with fail
  refine HSM.out.mono ?_
  rintro e w3 ⟨v3, rfl, ht3, hb3⟩
  obtain ⟨a3, c3, rfl, hr3, _⟩ := ht3.shape
  have hb3w := HB2.out.trans (hb3.mono HB2.out.size)
  obtain ⟨I, hI⟩ : ∃ I, sha (P ++ m) = I := ⟨_, rfl⟩
  have hIl : I.length = 32 := by rw [← hI]; exact sha_len _
  rw [hI] at hr3 ⊢
  have HR3 := Lib.hid hr3
  have HB3 := Lib.hid hb3w
  have HII := Lib.hid hI
  have HIL := Lib.hid hIl
  clear ht3 hb3 hb3w hr3 hI hIl HSM HB2
  go_wp2_with fail
  refine (rpad_any ak ck key key.length 0x5c 92 w3 (HKY.out.below HB3.out) rfl rfl (by omega)).mono ?_
  rintro e w4 ⟨v4, rfl, ht4, hb4⟩
  obtain ⟨a4, c4, rfl, hr4, _⟩ := ht4.shape
  have hb4w := HB3.out.trans (hb4.mono HB3.out.size)
  have hr34 := HR3.out.below hb4
  have ht4w := ht4.mono HB3.out.size
  obtain ⟨O, hO⟩ : ∃ O, padF key 0x5c = O := ⟨_, rfl⟩
  have hOl : O.length = 64 := by rw [← hO]; exact padF_len _ _
  rw [hO] at ht4w ⊢
  have HT4 := Lib.hid ht4w
  have HB4 := Lib.hid hb4w
  have HR4 := Lib.hid hr34
  have HOO := Lib.hid hO
  have HOL := Lib.hid hOl
  clear ht4 hb4 hr4 hb4w hr34 ht4w hO hOl HR3 HB3
  go_wp2_with (at_builtin; go_loud (refine wpList_append_tl rfl (.tmp 12) (.tmp 13) rfl w.heap.size _ O rfl HT4.out a3 I I.length c3 rfl rfl HR4.out ?c1 ?c2 ?_))
  case c1 => have := HOL.out; have := HIL.out; omega
  case c2 => exact HB4.out.size
  intro a5 n5 c5 w5 hn5 ht5 hg5 how5
  have hb5 : Below w.heap.size w w5 := below_grow_tl HB4.out HT4.out hg5 HB4.out.size
  obtain ⟨a', c', hsh, hr5, _⟩ := ht5.shape
  simp at hsh
  obtain ⟨rfl, rfl, rfl⟩ := hsh
  have hsm := sum_ref (O ++ I) a5 (O ++ I).length c5 w5 hr5 rfl (by rw [List.length_append]; have := HOL.out; have := HIL.out; omega)
  rw [List.length_append] at hsm
  have HSM := Lib.hid hsm
  have HB5 := Lib.hid hb5
  clear hn5 ht5 hg5 how5 hb5 hr5 hsm HT4 HB4 HR4
  go_wp2_with fail
  refine HSM.out.mono ?_
  rintro e w6 ⟨v6, rfl, ht6, hb6⟩
  have hmac : sha (O ++ I) = mac key m := by
    unfold mac
    rw [HOO.out, HPP.out, HII.out]
  rw [hmac] at ht6
  have hb7 := HB5.out.trans (hb6.mono HB5.out.size)
  have ht7 := ht6.mono HB5.out.size
  obtain ⟨a7, c7, rfl, _⟩ := ht7.shape
  have HT7 := Lib.hid ht7
  have HB7 := Lib.hid hb7
  rw [mac_len] at HT7 ⊢
  clear ht6 hb6 hb7 ht7 hmac HSM
  go_wp2_with fail
  go_ret
  exact ⟨_, rfl, HT7.out, HB7.out⟩
theorem ent_rcode : ∀ args w, (callFunc 34 args).run Tryd.prog w = .ok (.enter 34 args) w := run_enters Tryd.func34 (by kernel_rfl) rfl
theorem grow_rcode {Q : Exit → Act → World → Prop} {o : Oper} {a : Act} {w : World} {x y : Operand} {ts : Array TypeId} {key m : List UInt8} (ho : o.op = .call { callee := .value (.func 34), args := #[x, y], argTypes := ts }) (hx : VBytes key (a.eval x) w) (hy : VBytes m (a.eval y) w) (hk : key.length ≤ 800000) (hlen : m.length ≤ 800000) :
    o.wp Tryd.prog a w (Grew o.dst (VBytes (mac key m)) a w) Q := by
  obtain ⟨ak, ck, e1, h1⟩ := hx
  obtain ⟨ap, cp, e2, h2⟩ := hy
  refine grow_call ent_rcode ho ?_
  simp only [List.map_toArray, List.map_cons, List.map_nil, e1, e2]
  refine (rcode_any ak ck _ key m ap _ cp w h1 rfl h2 rfl hk hlen).mono ?_
  rintro e w' ⟨v', rfl, ht, hb⟩
  obtain ⟨a', c', h1, h2, _⟩ := ht.shape
  exact ⟨v', rfl, ⟨a', c', h1, h2⟩, hb⟩
end Go.Proofs.YtbblnlddiafkhaaDoor
/- The plain law of package b64: three bytes are four letters. -/
set_option linter.unusedVariables false
namespace Go.Proofs.YtbblnlddiafkhaaDoor

/-- Three bytes at a time. -/
def enc3 : List UInt8 → List UInt8
  | x :: y :: z :: t =>
    lt64 (x.toNat / 4) :: lt64 (x.toNat % 4 * 16 + y.toNat / 16) :: lt64 (y.toNat % 16 * 4 + z.toNat / 64) :: lt64 (z.toNat % 64) :: enc3 t
  | [x, y] => [lt64 (x.toNat / 4), lt64 (x.toNat % 4 * 16 + y.toNat / 16), lt64 (y.toNat % 16 * 4)]
  | [x] => [lt64 (x.toNat / 4), lt64 (x.toNat % 4 * 16)]
  | [] => []

theorem step_a (o : List UInt8) (x : UInt8) : encStep (o, 0, 0) x = (o ++ [lt64 (x.toNat / 4)], x.toNat % 4, 2) := by
  simp [encStep, pop6]
theorem step_b (o : List UInt8) (r : Nat) (y : UInt8) (hr : r < 4) : encStep (o, r, 2) y = (o ++ [lt64 (r * 16 + y.toNat / 16)], y.toNat % 16, 4) := by
  have hy := y.toNat_lt
  have e1 : (r * 256 + y.toNat) / 16 = r * 16 + y.toNat / 16 := by omega
  have e2 : (r * 256 + y.toNat) % 16 = y.toNat % 16 := by omega
  simp [encStep, pop6, e1, e2]
theorem step_c (o : List UInt8) (r : Nat) (z : UInt8) (hr : r < 16) : encStep (o, r, 4) z = (o ++ [lt64 (r * 4 + z.toNat / 64), lt64 (z.toNat % 64)], 0, 0) := by
  have hz := z.toNat_lt
  have e1 : (r * 256 + z.toNat) / 64 = r * 4 + z.toNat / 64 := by omega
  have e2 : (r * 256 + z.toNat) % 64 = z.toNat % 64 := by omega
  simp [encStep, pop6, e1, e2, Nat.mod_one]

theorem foldl_enc3 : ∀ (l o : List UInt8), encEnd (l.foldl encStep (o, 0, 0)) = o ++ enc3 l
  | [], o => by simp [encEnd, enc3]
  | [x], o => by simp [step_a, encEnd, enc3]
  | [x, y], o => by
    have := step_b (o ++ [lt64 (x.toNat / 4)]) (x.toNat % 4) y (by omega)
    simp [step_a, this, encEnd, enc3]
  | x :: y :: z :: t, o => by
    have h1 := step_b (o ++ [lt64 (x.toNat / 4)]) (x.toNat % 4) y (by omega)
    have h2 := step_c (o ++ [lt64 (x.toNat / 4)] ++ [lt64 (x.toNat % 4 * 16 + y.toNat / 16)]) (y.toNat % 16) z (by omega)
    rw [List.foldl_cons, List.foldl_cons, List.foldl_cons, step_a, h1, h2, foldl_enc3 t]
    simp [enc3]

theorem enc_eq (l : List UInt8) : enc l = enc3 l := by simpa [enc, encAll] using foldl_enc3 l []

theorem enc3_app : ∀ (a b : List UInt8), a.length % 3 = 0 → enc3 (a ++ b) = enc3 a ++ enc3 b
  | [], b, _ => by simp [enc3]
  | [x], b, h => by simp at h
  | [x, y], b, h => by simp at h
  | x :: y :: z :: t, b, h => by
    simp only [List.cons_append, enc3]
    rw [enc3_app t b (by simp only [List.length_cons] at h; omega)]

theorem enc_app (a b : List UInt8) (h : a.length % 3 = 0) : enc (a ++ b) = enc a ++ enc b := by
  rw [enc_eq, enc_eq, enc_eq, enc3_app a b h]

theorem enc3_len : ∀ l : List UInt8, (enc3 l).length = (l.length * 8 + 5) / 6
  | [] => by simp [enc3]
  | [x] => by simp [enc3]
  | [x, y] => by simp [enc3]
  | x :: y :: z :: t => by
    simp only [enc3, List.length_cons, enc3_len t]
    omega
theorem enc_len (l : List UInt8) : (enc l).length = (l.length * 8 + 5) / 6 := by rw [enc_eq]; exact enc3_len l

/-- The four letters of a number of 24 bits. -/
def four (n : Nat) : List Nat := [n / 262144, n / 4096 % 64, n / 64 % 64, n % 64]
def fourL (n : Nat) : List UInt8 := (four n).map lt64
theorem four_lt (n : Nat) (h : n < 16777216) (j : Nat) (hj : j < 4) : ((four n)[j]'hj) < 64 := by
  match j, hj with
  | 0, _ => show n / 262144 < 64; omega
  | 1, _ => show n / 4096 % 64 < 64; omega
  | 2, _ => show n / 64 % 64 < 64; omega
  | 3, _ => show n % 64 < 64; omega

/-- Behind the first test: the number so far, and how many letters. -/
def G1 (l : List UInt8) (i n k : Nat) : Prop :=
  (∃ (h : i + 1 < l.length), n = (l[i]).toNat * 65536 + (l[i + 1]).toNat * 256 ∧ k = 3) ∨ (∃ (h : i + 1 = l.length), n = (l[i]).toNat * 65536 ∧ k = 2)
/-- Behind the second one: the letters that are told, and what is left. -/
def G2 (l : List UInt8) (i n k : Nat) : Prop := n < 16777216 ∧ 2 ≤ k ∧ k ≤ 4 ∧ (i + 3 ≤ l.length + 2) ∧ enc3 (l.drop i) = (fourL n).take k ++ enc3 (l.drop (i + 3))

theorem drop1 (l : List UInt8) (i : Nat) (h : i < l.length) : l.drop i = l[i] :: l.drop (i + 1) := List.drop_eq_getElem_cons h

theorem G2_of3 (l : List UInt8) (i n : Nat) (h : i + 2 < l.length) (hn : n = (l[i]).toNat * 65536 + (l[i + 1]).toNat * 256 + (l[i + 2]).toNat) : G2 l i n 4 := by
  have h0 := (l[i]).toNat_lt
  have h1 := (l[i + 1]).toNat_lt
  have h2 := (l[i + 2]).toNat_lt
  refine ⟨by omega, by omega, by omega, by omega, ?_⟩
  rw [drop1 l i (by omega), drop1 l (i + 1) (by omega), drop1 l (i + 2) h]
  have e1 : n / 262144 = (l[i]).toNat / 4 := by omega
  have e2 : n / 4096 % 64 = (l[i]).toNat % 4 * 16 + (l[i + 1]).toNat / 16 := by omega
  have e3 : n / 64 % 64 = (l[i + 1]).toNat % 16 * 4 + (l[i + 2]).toNat / 64 := by omega
  have e4 : n % 64 = (l[i + 2]).toNat % 64 := by omega
  simp [enc3, fourL, four, e1, e2, e3, e4]
theorem G2_of2 (l : List UInt8) (i n : Nat) (h : i + 2 = l.length) (hn : n = (l[i]).toNat * 65536 + (l[i + 1]).toNat * 256) : G2 l i n 3 := by
  have h0 := (l[i]).toNat_lt
  have h1 := (l[i + 1]).toNat_lt
  refine ⟨by omega, by omega, by omega, by omega, ?_⟩
  rw [drop1 l i (by omega), drop1 l (i + 1) (by omega), List.drop_eq_nil_of_le (show l.length ≤ i + 1 + 1 by omega), List.drop_eq_nil_of_le (show l.length ≤ i + 3 by omega)]
  have e1 : n / 262144 = (l[i]).toNat / 4 := by omega
  have e2 : n / 4096 % 64 = (l[i]).toNat % 4 * 16 + (l[i + 1]).toNat / 16 := by omega
  have e3 : n / 64 % 64 = (l[i + 1]).toNat % 16 * 4 := by omega
  simp [enc3, fourL, four, e1, e2, e3]
theorem G2_of1 (l : List UInt8) (i n : Nat) (h : i + 1 = l.length) (hn : n = (l[i]).toNat * 65536) : G2 l i n 2 := by
  have h0 := (l[i]).toNat_lt
  refine ⟨by omega, by omega, by omega, by omega, ?_⟩
  rw [drop1 l i (by omega), List.drop_eq_nil_of_le (show l.length ≤ i + 1 by omega), List.drop_eq_nil_of_le (show l.length ≤ i + 3 by omega)]
  have e1 : n / 262144 = (l[i]).toNat / 4 := by omega
  have e2 : n / 4096 % 64 = (l[i]).toNat % 4 * 16 := by omega
  simp [enc3, fourL, four, e1, e2]
end Go.Proofs.YtbblnlddiafkhaaDoor
/- The reference of package b64: letters, and three bytes at a time. -/
set_option linter.unusedVariables false
namespace Go.Proofs.YtbblnlddiafkhaaDoor
open Go.RowKit

set_option maxHeartbeats 400000 in
theorem letter_walk (n : Nat) (w : World) (h : n < 64) (hv : (lt64 n).toNat = if n < 26 then 65 + n else if n < 52 then 71 + n else if n < 62 then n - 4 else if n = 62 then 45 else 95) :
    Calls Tryd.prog 46 #[.int .i64 n] w fun e w' => e = .returned (.int .u8 (lt64 n).toNat) ∧ w' = w := by
  have HV := Lib.hid hv
  clear hv
  by_cases h1 : n < 26
  · go_enter Tryd.func46, Tryd.ntmps46
    go_wp2
    go_ret
    rw [HV.out, if_pos h1]
    exact ⟨by simp, rfl⟩
  by_cases h2 : n < 52
  · go_enter Tryd.func46, Tryd.ntmps46
    go_wp2
    go_ret
    rw [HV.out, if_neg h1, if_pos h2]
    exact ⟨by simp; omega, rfl⟩
  by_cases h3 : n < 62
  · go_enter Tryd.func46, Tryd.ntmps46
    go_wp2
    go_ret
    rw [HV.out, if_neg h1, if_neg h2, if_pos h3]
    exact ⟨by simp; omega, rfl⟩
  by_cases h4 : n = 62
  · subst h4
    go_enter Tryd.func46, Tryd.ntmps46
    go_wp2
    go_ret
    exact ⟨rfl, rfl⟩
  · have : n = 63 := by omega
    subst this
    go_enter Tryd.func46, Tryd.ntmps46
    go_wp2
    go_ret
    exact ⟨rfl, rfl⟩

theorem lt64_val : ∀ n, n < 64 → (lt64 n).toNat = if n < 26 then 65 + n else if n < 52 then 71 + n else if n < 62 then n - 4 else if n = 62 then 45 else 95 := by decide

theorem letter_any (N : Int) (n : Nat) (w : World) (hN : N = n) (h : n < 64) :
    Calls Tryd.prog 46 #[.int .i64 N] w fun e w' => e = .returned (.int .u8 (lt64 n).toNat) ∧ w' = w := by
  subst hN
  exact letter_walk n w h (lt64_val n h)

set_option maxRecDepth 100000 in
set_option maxHeartbeats 2000000 in
theorem refEncode_any (a : Option Addr) (l : List UInt8) (cp : Nat) (w : World) (hr : Rd w a l) (hl : l.length ≤ 1000000) :
    Calls Tryd.prog 33 #[.slice a l.length cp] w fun e w' => e = .returned (.string ⟨(enc3 l).toArray⟩) ∧ Below w.heap.size w w' := by
  go_enter Tryd.func33, Tryd.ntmps33
  go_wp2
  go_loopg [3, 4] (l.length + 3) (fun k v i wr => ∃ (j : Nat) (o : List UInt8), j + k = l.length + 3 ∧ j ≤ l.length + 2 ∧ i = .int .i64 j ∧ o.length ≤ 4 * j ∧ Own w.heap.size wr v o ∧ Below w.heap.size w wr ∧ Hid (o ++ enc3 (l.drop j) = enc3 l))
  case atStart => exact ⟨0, [], by omega, by omega, rfl, by simp, Own.nil _ _, Below.refl _ _, Lib.hid (by simp)⟩
  case round =>
    obtain ⟨gO, rfl⟩ : ∃ x : Nat, x = gk := ⟨_, rfl⟩
    obtain ⟨j, o, hj, hj2, rfl, hol, hown, hbel, hfin⟩ := hrel
    by_cases hlt : j < l.length
    · obtain ⟨b, off, rfl, hc⟩ := hr.at hlt
      have hc0 := cell_now hbel (hc j hlt)
      have hx0 : (l[j]).toNat < 256 := (l[j]).toNat_lt
      go_upto_if 25 with (fail)
      go_cut [5, 6] (fun x y wc => ∃ n k : Nat, x = .int .i64 n ∧ y = .int .i64 k ∧ G1 l j n k ∧ wr = wc)
      case first =>
        by_cases h1 : j + 1 < l.length
        · have hc1 := cell_now hbel (hc (j + 1) h1)
          have hx1 : (l[j + 1]).toNat < 256 := (l[j + 1]).toNat_lt
          go_wp2_with fail
          go_meet
          exact ⟨(l[j]).toNat * 65536 + (l[j + 1]).toNat * 256, 3, by simp, rfl, .inl ⟨h1, rfl, rfl⟩, rfl⟩
        · go_wp2_with fail
          go_meet
          exact ⟨(l[j]).toNat * 65536, 2, by simp, rfl, .inr ⟨by omega, rfl, rfl⟩, rfl⟩
      case rest =>
        obtain ⟨n1, k1, rfl, rfl, hg1, rfl⟩ := hcut
        clear hc0
        have hn1 : n1 < 16777216 := by
          rcases hg1 with ⟨h, e, _⟩ | ⟨h, e, _⟩
          · have := (l[j + 1]'h).toNat_lt; omega
          · omega
        go_upto_if 39 with (fail)
        go_cut [5, 6] (fun x y wc => ∃ n k : Nat, x = .int .i64 n ∧ y = .int .i64 k ∧ G2 l j n k ∧ wr = wc)
        case first =>
          by_cases h2 : j + 2 < l.length
          · have hc2 := cell_now hbel (hc (j + 2) h2)
            have hx2 : (l[j + 2]).toNat < 256 := (l[j + 2]).toNat_lt
            go_wp2_with fail
            go_meet
            refine ⟨n1 + (l[j + 2]).toNat, 4, by simp, rfl, ?_, rfl⟩
            rcases hg1 with ⟨h, e, _⟩ | ⟨h, e, _⟩
            · exact G2_of3 l j _ h2 (by rw [e])
            · omega
          · go_wp2_with fail
            go_meet
            refine ⟨n1, k1, rfl, rfl, ?_, rfl⟩
            rcases hg1 with ⟨h, rfl, rfl⟩ | ⟨h, rfl, rfl⟩
            · exact G2_of2 l j _ (by omega) rfl
            · exact G2_of1 l j _ h rfl
        case rest =>
          clear hg1 hn1
          obtain ⟨n, k, rfl, rfl, hg2, rfl⟩ := hcut
          clear n1 k1
          obtain ⟨hn, hk2, hk4, hjl, heq⟩ := hg2
          have HEQ := Lib.hid heq
          clear heq
          have hnI : (n : Int) < 16777216 := by omega
          have hcells : ints (four n) = [.int .i64 ((n : Int) / 262144), .int .i64 ((n : Int) / 4096 % 64), .int .i64 ((n : Int) / 64 % 64), .int .i64 ((n : Int) % 64)] := by simp [ints, four]
          have HC := Lib.hid hcells
          clear hcells
          have hown2 := hown.alloc (.cells #[.int .i64 ((n : Int) / 262144), .int .i64 ((n : Int) / 4096 % 64), .int .i64 ((n : Int) / 64 % 64), .int .i64 ((n : Int) % 64)] 74)
          have hnew := heap_alloc_new wr (.cells #[.int .i64 ((n : Int) / 262144), .int .i64 ((n : Int) / 4096 % 64), .int .i64 ((n : Int) / 64 % 64), .int .i64 ((n : Int) % 64)] 74)
          have hbel2 := hbel.alloc hbel.size (.cells #[.int .i64 ((n : Int) / 262144), .int .i64 ((n : Int) / 4096 % 64), .int .i64 ((n : Int) / 64 % 64), .int .i64 ((n : Int) % 64)] 74)
          have hblock : (wr.alloc (.cells #[.int .i64 ((n : Int) / 262144), .int .i64 ((n : Int) / 4096 % 64), .int .i64 ((n : Int) / 64 % 64), .int .i64 ((n : Int) % 64)] 74)).heap[wr.heap.size]? = some (.cells (ints (four n)).toArray 74) := by
            rw [HC.out]; exact hnew
          have HN := Lib.hid hnew
          have HB := Lib.hid hblock
          clear hnew hblock
          go_wp2
          go_loopg [3, 8] k (fun q v2 x wq => ∃ i : Nat, i + q = k ∧ x = .int .i64 i ∧ Own w.heap.size wq v2 (o ++ (fourL n).take i) ∧ Below w.heap.size w wq ∧ Hid (wq.heap[wr.heap.size]? = some (.cells (ints (four n)).toArray 74)))
          case atStart =>
            refine ⟨0, by omega, rfl, ?_, ?_, ?_⟩
            · simpa using hown2
            · exact hbel2
            · exact HB
          case round =>
            obtain ⟨i, hi, rfl, hown3, hbel3, hblk⟩ := hrel
            by_cases hik : i < k
            · have hi4 : i < 4 := by omega
              have hcell := cell_ints hblk.out (j := i) hi4
              have hlt64 := four_lt n hn i hi4
              go_wp2_with fail
              refine (letter_any _ _ _ rfl hlt64).mono ?_
              rintro e w2 ⟨rfl, rfl⟩
              obtain ⟨x, hx⟩ : ∃ x, lt64 (four n)[i] = x := ⟨_, rfl⟩
              rw [hx]
              have htk : (o ++ (fourL n).take i) ++ [x] = o ++ (fourL n).take (i + 1) := by
                rw [List.take_succ_eq_append_getElem (show i < (fourL n).length by simp [fourL, four]; omega), ← hx]
                simp [fourL]
                rfl
              have HX := Lib.hid htk
              clear hx htk hcell
              have hle : (o ++ (fourL n).take i).length ≤ 5000000 := by
                have : ((fourL n).take i).length ≤ 4 := by simp [fourL, four]; omega
                simp only [List.length_append]
                omega
              go_wp2_with (at_builtin; go_loud (refine wpList_append_rd rfl (.tmp 64) (.tmp 69) rfl w.heap.size _ (o ++ (fourL n).take i) rfl (hown3.alloc _) (some ⟨w2.heap.size, 0, none⟩) [x] 1 1 rfl rfl (Rd.of_lit [x] (heap_alloc_new _ _)) ?c1 ?c2 ?_))
              case c1 => simp only [List.length_singleton]; omega
              case c2 => have := hbel3.size; simp; omega
              intro v4 w4 hown4 hg4
              have hblk4 := Lib.hid ((hown3.alloc (.cells #[.int .u8 x.toNat] 5)).other hg4 (block_alloc hblk.out _) (by decide))
              have hbel4 := below_grow (hbel3.alloc hbel3.size (.cells #[.int .u8 x.toNat] 5)) (hown3.alloc _) hg4 (by have := hbel3.size; simp; omega)
              go_wp2
              go_roundg (gk - 1)
              case measure => omega
              case rel => exact ⟨i + 1, by omega, by go_num, by rw [← HX.out, List.append_assoc]; exact hown4, hbel4, hblk4⟩
            · have hik2 : i = k := by omega
              have HIK := Lib.hid hik2
              clear hik2
              go_wp2
              go_roundg (gO - 3)
              case measure => omega
              case rel =>
                have e := HIK.out
                subst e
                refine ⟨j + 3, _, by omega, by omega, by go_num, ?_, hown3, hbel3, Lib.hid ?_⟩
                · have : ((fourL n).take i).length ≤ 4 := by simp [fourL, four]; omega
                  simp only [List.length_append]
                  omega
                · rw [← hfin.out, HEQ.out, List.append_assoc]
    · have hdrop : l.drop j = [] := List.drop_eq_nil_of_le (by omega)
      have ho : o = enc3 l := by
        have := hfin.out
        rw [hdrop] at this
        simpa [enc3] using this
      subst ho
      obtain ⟨a2, c2, rfl, hr2⟩ := hown.shape
      have hconv := str_of_rd hr2 _ c2 rfl
      clear hdrop hfin
      go_wp2
      go_ret
      exact ⟨rfl, hbel⟩

theorem refEncode_at (a : Option Addr) (l : List UInt8) (n cp : Nat) (w : World) (hr : Rd w a l) (hn : n = l.length) (hl : l.length ≤ 1000000) :
    Calls Tryd.prog 33 #[.slice a n cp] w fun e w' => e = .returned (.string ⟨(enc l).toArray⟩) ∧ Below w.heap.size w w' := by
  subst hn
  rw [enc_eq]
  exact refEncode_any a l cp w hr hl
end Go.Proofs.YtbblnlddiafkhaaDoor
/- The document's Hash. -/
set_option linter.unusedVariables false
namespace Go.Proofs.YtbblnlddiafkhaaDoor
open Go.RowKit

set_option maxRecDepth 100000 in
set_option maxHeartbeats 4000000 in
theorem refhash_any (ak : Option Addr) (ck : Nat) (key name word : List UInt8) (w : World) (hrk : Rd w ak key) (hk : key.length ≤ 1000) (h1 : name.length ≤ 1000) (h2 : word.length ≤ 1000) :
    Calls Tryd.prog 20 #[.slice ak key.length ck, .string ⟨name.toArray⟩, .string ⟨word.toArray⟩] w fun e w' => e = .returned (.string ⟨(hashL key name word).toArray⟩) ∧ Below w.heap.size w w' := by
  have hcat : (⟨#[104]⟩ : ByteArray) ++ (⟨name.toArray⟩ : ByteArray) ++ (⟨#[0]⟩ : ByteArray) ++ (⟨word.toArray⟩ : ByteArray) = ⟨(hashM name word).toArray⟩ := by
    apply ByteArray.ext
    simp [hashM]
  have HT := Lib.hid (show hashL key name word = enc (mac key (hashM name word)) from rfl)
  have hsl : (hashM name word).length ≤ 2002 := by unfold hashM; simp; omega
  generalize hashM name word = s at *
  obtain ⟨cs, w1, hcv, hb1, hrs, hz1⟩ := bytes_of_str s w
  have hco := rcode_any ak ck key.length key s (some ⟨w.heap.size, 0, none⟩) s.length cs w1 (hrk.below hb1) rfl hrs rfl (by omega) (by omega)
  have HB2 := Lib.hid hb1
  have HCO := Lib.hid hco
  have hml := mac_len key s
  clear hb1 hrs hco hrk hz1
  go_enter Tryd.func20, Tryd.ntmps20
  go_wp2_with fail
  refine HCO.out.mono ?_
  rintro e w2 ⟨v, rfl, htl, hb3⟩
  obtain ⟨am, cm, rfl, hrm, hlc, _, _⟩ := htl.shape
  have HB3 := Lib.hid (HB2.out.trans (hb3.mono HB2.out.size))
  have HRT := Lib.hid hrm
  have HLT := Lib.hid hml
  clear hb3 HCO hrm htl hlc
  generalize mac key s = T at *
  clear hml
  go_wp2_with fail
  refine (refEncode_at am T T.length cm w2 HRT.out rfl (by rw [HLT.out]; decide)).mono ?_
  rintro e w3 ⟨rfl, hb4⟩
  have HB4 := Lib.hid (HB3.out.trans (hb4.mono HB3.out.size))
  clear hb4
  go_wp2_with fail
  go_ret
  exact ⟨by rw [HT.out]; rfl, HB4.out⟩
end Go.Proofs.YtbblnlddiafkhaaDoor
/- The plain law of package b64, the other way: letters as bytes. -/
set_option linter.unusedVariables false
namespace Go.Proofs.YtbblnlddiafkhaaDoor

/-- A letter's number. -/
def num64 (x : UInt8) : Option Nat := if Lib.indexByte alpha x < 0 then none else some (Lib.indexByte alpha x).toNat

theorem num64_lt : ∀ n, n < 64 → num64 (lt64 n) = some n := by decide +kernel
theorem num64_all : ∀ n, n < 256 → (num64 (UInt8.ofNat n) = none ∨ ∃ k, k < 64 ∧ num64 (UInt8.ofNat n) = some k ∧ lt64 k = UInt8.ofNat n) := by
  have h : ∀ n, n < 256 → (num64 (UInt8.ofNat n) = none ∨ ((num64 (UInt8.ofNat n)).getD 64 < 64 ∧ num64 (UInt8.ofNat n) = some ((num64 (UInt8.ofNat n)).getD 64) ∧ lt64 ((num64 (UInt8.ofNat n)).getD 64) = UInt8.ofNat n)) := by decide +kernel
  intro n hn
  rcases h n hn with h | ⟨h1, h2, h3⟩
  · exact .inl h
  · exact .inr ⟨_, h1, h2, h3⟩
theorem num64_some (x : UInt8) (k : Nat) (h : num64 x = some k) : k < 64 ∧ lt64 k = x := by
  have hx : UInt8.ofNat x.toNat = x := by simp
  rcases num64_all x.toNat x.toNat_lt with e | ⟨j, h1, h2, h3⟩
  · rw [hx] at e; rw [e] at h; cases h
  · rw [hx] at h2 h3
    rw [h2] at h
    cases h
    exact ⟨h1, h3⟩

/-- A number as a byte. -/
def byt (n : Nat) : UInt8 := UInt8.ofNat n
/-- One letter more. -/
def decStep (s : List UInt8 × Nat × Nat) (n : Nat) : List UInt8 × Nat × Nat :=
  if s.2.2 + 6 < 8 then (s.1, s.2.1 * 2 ^ 6 + n, s.2.2 + 6)
  else (s.1 ++ [byt ((s.2.1 * 2 ^ 6 + n) / 2 ^ (s.2.2 + 6 - 8))], (s.2.1 * 2 ^ 6 + n) % 2 ^ (s.2.2 + 6 - 8), s.2.2 + 6 - 8)
def decEnd (s : List UInt8 × Nat × Nat) : Option (List UInt8) := if 6 ≤ s.2.2 ∨ s.2.1 ≠ 0 then none else some s.1
def nums (l : List UInt8) : Option (List Nat) := l.mapM num64
def dec (l : List UInt8) : Option (List UInt8) := match nums l with | none => none | some ns => decEnd (ns.foldl decStep ([], 0, 0))

def DAcc (s : List UInt8 × Nat × Nat) : Prop := s.2.2 < 8 ∧ s.2.1 < 2 ^ s.2.2
theorem decStep_acc (s : List UInt8 × Nat × Nat) (n : Nat) (hn : n < 64) (h : DAcc s) : DAcc (decStep s n) ∧ s.2.1 * 2 ^ 6 + n < 2 ^ (s.2.2 + 6) := by
  obtain ⟨h1, h2⟩ := h
  have hb : s.2.1 * 2 ^ 6 + n < 2 ^ (s.2.2 + 6) := by
    have : s.2.1 + 1 ≤ 2 ^ s.2.2 := h2
    have := Nat.mul_le_mul_right (2 ^ 6) this
    rw [Nat.pow_add]
    omega
  refine ⟨?_, hb⟩
  unfold decStep
  split
  · exact ⟨by assumption, hb⟩
  · exact ⟨by simp only; omega, Nat.mod_lt _ (Nat.two_pow_pos _)⟩
theorem dec_foldl_acc (ns : List Nat) : ∀ s, (∀ n ∈ ns, n < 64) → DAcc s → DAcc (ns.foldl decStep s) := by
  induction ns with
  | nil => intro s _ h; exact h
  | cons x l ih =>
    intro s hx h
    exact ih _ (fun n hn => hx n (by simp [hn])) (decStep_acc s x (hx x (by simp)) h).1
theorem decStep_len (s : List UInt8 × Nat × Nat) (n : Nat) : (decStep s n).1.length ≤ s.1.length + 1 := by
  unfold decStep
  split <;> simp
theorem dec_foldl_len (ns : List Nat) : ∀ s, (ns.foldl decStep s).1.length ≤ s.1.length + ns.length := by
  induction ns with
  | nil => intro s; simp
  | cons x l ih =>
    intro s
    have h1 := ih (decStep s x)
    have h2 := decStep_len s x
    simp only [List.foldl_cons, List.length_cons]
    omega

/-- Four at a time. -/
def dec4 : List Nat → Option (List UInt8)
  | a :: b :: c :: d :: t => (dec4 t).map fun r => byt (a * 4 + b / 16) :: byt (b % 16 * 16 + c / 4) :: byt (c % 4 * 64 + d) :: r
  | [a, b, c] => if c % 4 = 0 then some [byt (a * 4 + b / 16), byt (b % 16 * 16 + c / 4)] else none
  | [a, b] => if b % 16 = 0 then some [byt (a * 4 + b / 16)] else none
  | [_] => none
  | [] => some []

theorem dstep_a (o : List UInt8) (a : Nat) : decStep (o, 0, 0) a = (o, a, 6) := by simp [decStep]
theorem dstep_b (o : List UInt8) (a b : Nat) (hb : b < 64) : decStep (o, a, 6) b = (o ++ [byt (a * 4 + b / 16)], b % 16, 4) := by
  have e1 : (a * 64 + b) / 16 = a * 4 + b / 16 := by omega
  have e2 : (a * 64 + b) % 16 = b % 16 := by omega
  simp [decStep, e1, e2]
theorem dstep_c (o : List UInt8) (b c : Nat) (hb : b < 16) (hc : c < 64) : decStep (o, b, 4) c = (o ++ [byt (b * 16 + c / 4)], c % 4, 2) := by
  have e1 : (b * 64 + c) / 4 = b * 16 + c / 4 := by omega
  have e2 : (b * 64 + c) % 4 = c % 4 := by omega
  simp [decStep, e1, e2]
theorem dstep_d (o : List UInt8) (c d : Nat) (hd : d < 64) : decStep (o, c, 2) d = (o ++ [byt (c * 64 + d)], 0, 0) := by
  simp [decStep, Nat.mod_one]

theorem foldl_dec4 : ∀ (ns : List Nat) (o : List UInt8), (∀ n ∈ ns, n < 64) → decEnd (ns.foldl decStep (o, 0, 0)) = (dec4 ns).map (o ++ ·)
  | [], o, _ => by simp [decEnd, dec4]
  | [a], o, _ => by simp [dstep_a, decEnd, dec4]
  | [a, b], o, h => by
    have hb : b < 64 := h b (by simp)
    simp only [List.foldl_cons, List.foldl_nil, dstep_a, dstep_b o a b hb, decEnd, dec4]
    by_cases e : b % 16 = 0 <;> simp [e]
  | [a, b, c], o, h => by
    have hb : b < 64 := h b (by simp)
    have hc : c < 64 := h c (by simp)
    simp only [List.foldl_cons, List.foldl_nil, dstep_a, dstep_b o a b hb, dstep_c _ (b % 16) c (by omega) hc, decEnd, dec4]
    by_cases e : c % 4 = 0 <;> simp [e]
  | a :: b :: c :: d :: t, o, h => by
    have hb : b < 64 := h b (by simp)
    have hc : c < 64 := h c (by simp)
    have hd : d < 64 := h d (by simp)
    simp only [List.foldl_cons, dstep_a, dstep_b o a b hb, dstep_c _ (b % 16) c (by omega) hc, dstep_d _ (c % 4) d hd]
    rw [foldl_dec4 t _ (fun n hn => h n (by simp [hn]))]
    cases h4 : dec4 t <;> simp [dec4, h4]

/-- The numbers of bytes. -/
def nums3 : List UInt8 → List Nat
  | x :: y :: z :: t => x.toNat / 4 :: (x.toNat % 4 * 16 + y.toNat / 16) :: (y.toNat % 16 * 4 + z.toNat / 64) :: (z.toNat % 64) :: nums3 t
  | [x, y] => [x.toNat / 4, x.toNat % 4 * 16 + y.toNat / 16, y.toNat % 16 * 4]
  | [x] => [x.toNat / 4, x.toNat % 4 * 16]
  | [] => []
theorem enc3_nums : ∀ l, enc3 l = (nums3 l).map lt64
  | [] => rfl
  | [x] => rfl
  | [x, y] => rfl
  | x :: y :: z :: t => by simp [enc3, nums3, enc3_nums t]
theorem nums3_lt : ∀ l, ∀ n ∈ nums3 l, n < 64
  | [] => by simp [nums3]
  | [x] => by
    have := x.toNat_lt
    intro n hn
    simp only [nums3, List.mem_cons, List.mem_nil_iff, or_false] at hn
    rcases hn with rfl | rfl <;> omega
  | [x, y] => by
    have := x.toNat_lt; have := y.toNat_lt
    intro n hn
    simp only [nums3, List.mem_cons, List.mem_nil_iff, or_false] at hn
    rcases hn with rfl | rfl | rfl <;> omega
  | x :: y :: z :: t => by
    have := x.toNat_lt; have := y.toNat_lt; have := z.toNat_lt
    intro n hn
    simp only [nums3, List.mem_cons] at hn
    rcases hn with rfl | rfl | rfl | rfl | hn
    · omega
    · omega
    · omega
    · omega
    · exact nums3_lt t n hn

theorem of_nat_toNat (x : UInt8) (n : Nat) (h : n = x.toNat) : byt n = x := by subst h; simp [byt]

theorem dec4_nums : ∀ l, dec4 (nums3 l) = some l
  | [] => rfl
  | [x] => by
    have := x.toNat_lt
    have e : byt (x.toNat / 4 * 4 + x.toNat % 4 * 16 / 16) = x := of_nat_toNat x _ (by omega)
    simp only [nums3, dec4]
    rw [if_pos (by omega), e]
  | [x, y] => by
    have := x.toNat_lt; have := y.toNat_lt
    have e1 : byt (x.toNat / 4 * 4 + (x.toNat % 4 * 16 + y.toNat / 16) / 16) = x := of_nat_toNat x _ (by omega)
    have e2 : byt ((x.toNat % 4 * 16 + y.toNat / 16) % 16 * 16 + y.toNat % 16 * 4 / 4) = y := of_nat_toNat y _ (by omega)
    simp only [nums3, dec4]
    rw [if_pos (by omega), e1, e2]
  | x :: y :: z :: t => by
    have := x.toNat_lt; have := y.toNat_lt; have := z.toNat_lt
    have e1 : byt (x.toNat / 4 * 4 + (x.toNat % 4 * 16 + y.toNat / 16) / 16) = x := of_nat_toNat x _ (by omega)
    have e2 : byt ((x.toNat % 4 * 16 + y.toNat / 16) % 16 * 16 + (y.toNat % 16 * 4 + z.toNat / 64) / 4) = y := of_nat_toNat y _ (by omega)
    have e3 : byt ((y.toNat % 16 * 4 + z.toNat / 64) % 4 * 64 + z.toNat % 64) = z := of_nat_toNat z _ (by omega)
    simp only [nums3, dec4, dec4_nums t, Option.map_some, e1, e2, e3]

theorem toNat_of (n : Nat) (h : n < 256) : (byt n).toNat = n := by unfold byt; rw [UInt8.toNat_ofNat']; omega

theorem nums_dec4 : ∀ (ns : List Nat) (b : List UInt8), (∀ n ∈ ns, n < 64) → dec4 ns = some b → nums3 b = ns
  | [], b, _, h => by simp [dec4] at h; subst h; rfl
  | [a], b, _, h => by simp [dec4] at h
  | [p, q], b, hl, h => by
    have hp : p < 64 := hl p (by simp)
    have hq : q < 64 := hl q (by simp)
    simp only [dec4] at h
    split at h
    · cases h
      simp only [nums3]
      rw [toNat_of _ (by omega)]
      congr 1
      · omega
      · congr 1; omega
    · cases h
  | [p, q, r], b, hl, h => by
    have hp : p < 64 := hl p (by simp)
    have hq : q < 64 := hl q (by simp)
    have hr : r < 64 := hl r (by simp)
    simp only [dec4] at h
    split at h
    · cases h
      simp only [nums3]
      rw [toNat_of (p * 4 + q / 16) (by omega), toNat_of (q % 16 * 16 + r / 4) (by omega)]
      congr 1
      · omega
      · congr 1
        · omega
        · congr 1; omega
    · cases h
  | p :: q :: r :: s :: t, b, hl, h => by
    have hp : p < 64 := hl p (by simp)
    have hq : q < 64 := hl q (by simp)
    have hr : r < 64 := hl r (by simp)
    have hs : s < 64 := hl s (by simp)
    simp only [dec4] at h
    cases ht : dec4 t with
    | none => rw [ht] at h; simp at h
    | some b' =>
      rw [ht] at h
      simp only [Option.map_some, Option.some.injEq] at h
      subst h
      simp only [nums3, nums_dec4 t b' (fun n hn => hl n (by simp [hn])) ht]
      rw [toNat_of (p * 4 + q / 16) (by omega), toNat_of (q % 16 * 16 + r / 4) (by omega), toNat_of (r % 4 * 64 + s) (by omega)]
      congr 1
      · omega
      · congr 1
        · omega
        · congr 1
          · omega
          · congr 1; omega

theorem nums_some (l : List UInt8) : ∀ ns, nums l = some ns → (∀ n ∈ ns, n < 64) ∧ ns.map lt64 = l := by
  induction l with
  | nil => intro ns h; simp [nums] at h; subst h; simp
  | cons x l ih =>
    intro ns h
    simp only [nums, List.mapM_cons, Option.pure_def, Option.bind_eq_bind, Option.bind_eq_some_iff] at h
    obtain ⟨k, hk, ms, hms, he⟩ := h
    cases he
    obtain ⟨h1, h2⟩ := num64_some x k hk
    obtain ⟨h3, h4⟩ := ih ms hms
    refine ⟨?_, by simp [h2, h4]⟩
    intro n hn
    rcases List.mem_cons.1 hn with rfl | hn
    · exact h1
    · exact h3 n hn

theorem nums_map (ns : List Nat) (h : ∀ n ∈ ns, n < 64) : nums (ns.map lt64) = some ns := by
  induction ns with
  | nil => rfl
  | cons x l ih =>
    have := ih (fun n hn => h n (by simp [hn]))
    simp only [nums] at this
    simp [nums, List.mapM_cons, num64_lt x (h x (by simp)), this]

theorem dec_eq (l : List UInt8) : dec l = match nums l with | none => none | some ns => dec4 ns := by
  unfold dec
  cases h : nums l with
  | none => rfl
  | some ns =>
    have := foldl_dec4 ns [] (nums_some l ns h).1
    simp only [this]
    cases dec4 ns <;> simp

theorem dec_enc (l : List UInt8) : dec (enc l) = some l := by
  rw [dec_eq, enc_eq, enc3_nums, nums_map _ (nums3_lt l)]
  exact dec4_nums l

theorem enc_dec (l b : List UInt8) (h : dec l = some b) : enc b = l := by
  rw [dec_eq] at h
  cases hn : nums l with
  | none => rw [hn] at h; cases h
  | some ns =>
    rw [hn] at h
    obtain ⟨h1, h2⟩ := nums_some l ns hn
    rw [enc_eq, enc3_nums, nums_dec4 ns b h1 h, h2]

theorem nums_snoc (l : List UInt8) (x : UInt8) (ns : List Nat) (k : Nat) (h : nums l = some ns) (hk : num64 x = some k) : nums (l ++ [x]) = some (ns ++ [k]) := by
  simp only [nums] at h
  simp [nums, List.mapM_append, h, List.mapM_cons, hk]
theorem nums_none (l : List UInt8) (j : Nat) (hj : j < l.length) (h : num64 l[j] = none) : nums l = none := by
  induction l generalizing j with
  | nil => simp at hj
  | cons x l ih =>
    cases j with
    | zero => simp only [List.getElem_cons_zero] at h; simp [nums, List.mapM_cons, h]
    | succ j =>
      have := ih j (by simpa using hj) (by simpa using h)
      simp only [nums] at this
      cases hx : num64 x <;> simp [nums, List.mapM_cons, hx, this]
theorem dec_none (l : List UInt8) (j : Nat) (hj : j < l.length) (h : num64 l[j] = none) : dec l = none := by
  unfold dec; rw [nums_none l j hj h]
theorem dec_some (l : List UInt8) (ns : List Nat) (h : nums l = some ns) : dec l = decEnd (ns.foldl decStep ([], 0, 0)) := by
  unfold dec; rw [h]
theorem nums_len (l : List UInt8) (ns : List Nat) (h : nums l = some ns) : ns.length = l.length := by
  have := (nums_some l ns h).2
  rw [← this, List.length_map]
end Go.Proofs.YtbblnlddiafkhaaDoor
/- Events' names. Plain. -/
set_option linter.unusedVariables false
namespace Go.Proofs.YtbblnlddiafkhaaDoor
open Go.Lib

/-- An event's name. -/
def jtiL (n m : Nat) : List UInt8 := 101 :: (decDigits n ++ 46 :: decDigits m)
def OwnN (n : Int) : Prop := 1 ≤ n ∧ n ≤ 1099511627776
def Fig (l : List UInt8) : Prop := ∀ c ∈ l, 49 ≤ c.toNat ∧ c.toNat ≤ 57
theorem digitVal_fig {c : UInt8} (h : 48 ≤ c.toNat ∧ c.toNat ≤ 57) : digitVal c = some (c.toNat - 48) := by
  unfold digitVal
  rw [if_pos h]
theorem decFrom_fig : ∀ (l : List UInt8) (acc : Nat), Fig l → ∃ v, decFrom acc l = some v ∧ v < (acc + 1) * 10 ^ l.length
  | [], acc, _ => ⟨acc, rfl, by simp⟩
  | b :: l, acc, h => by
    have hb := h b (by simp)
    obtain ⟨v, h1, h2⟩ := decFrom_fig l (acc * 10 + (b.toNat - 48)) (fun c hc => h c (by simp [hc]))
    refine ⟨v, ?_, ?_⟩
    · simp only [decFrom, digitVal_fig (show 48 ≤ b.toNat ∧ b.toNat ≤ 57 by omega)]
      exact h1
    · refine Nat.lt_of_lt_of_le h2 ?_
      rw [List.length_cons, Nat.pow_succ, Nat.mul_comm (10 ^ l.length) 10, ← Nat.mul_assoc]
      exact Nat.mul_le_mul_right _ (by omega)
theorem fig_num (a : List UInt8) (hf : Fig a) (hne : a ≠ []) (hl : a.length ≤ 11) : ∃ n : Nat, decDigits n = a ∧ 1 ≤ n ∧ n ≤ 1099511627776 := by
  obtain ⟨v, h1, h2⟩ := decFrom_fig a 0 hf
  have hh : a.head? ≠ some 48 := by
    cases a with
    | nil => exact absurd rfl hne
    | cons b r =>
      simp only [List.head?_cons, ne_eq, Option.some.injEq]
      rintro rfl
      have := (hf 48 (by simp)).1
      have e : (48 : UInt8).toNat = 48 := rfl
      omega
  obtain ⟨h3, h4⟩ := dec_of a.length a v rfl hne hh h1
  refine ⟨v, h3, h4, ?_⟩
  have h5 : (0 + 1) * 10 ^ a.length ≤ 10 ^ 11 := by
    rw [Nat.zero_add, Nat.one_mul]
    exact Nat.pow_le_pow_right (by decide) hl
  have : (10 : Nat) ^ 11 = 100000000000 := by decide
  omega
/-- What Atoi says of a number's digits. -/
theorem atoiAll_dec (n : Nat) (h : n ≤ 1099511627776) : atoiAll (decDigits n) = .ok (n : Int) := by
  have hl := dec_len n 13 (by decide) (by have : (10 : Nat) ^ 13 = 10000000000000 := by decide
                                          omega)
  rw [atoiAll_short _ (by omega), atoi_dec]
  rfl
/-- Figures about one dot are a name. -/
theorem jti_of (a b : List UInt8) (ha : Fig a) (hb : Fig b) (ha0 : a ≠ []) (hb0 : b ≠ []) (hl : a.length + b.length ≤ 12) :
    ∃ n m : Nat, 101 :: (a ++ 46 :: b) = jtiL n m ∧ OwnN n ∧ OwnN m := by
  have h1 : 1 ≤ a.length := List.length_pos_iff.2 ha0
  have h2 : 1 ≤ b.length := List.length_pos_iff.2 hb0
  obtain ⟨n, e1, n1, n2⟩ := fig_num a ha ha0 (by omega)
  obtain ⟨m, e2, m1, m2⟩ := fig_num b hb hb0 (by omega)
  refine ⟨n, m, ?_, ⟨by omega, by omega⟩, ⟨by omega, by omega⟩⟩
  unfold jtiL
  rw [e1, e2]
/-- Dots and figures, one of them a dot. -/
theorem dot_split : ∀ (t : List UInt8), (∀ c ∈ t, c = 46 ∨ (49 ≤ c.toNat ∧ c.toNat ≤ 57)) → t.count 46 = 1 → ∃ a b, t = a ++ 46 :: b ∧ Fig a ∧ Fig b
  | [], _, h => by simp at h
  | c :: t, hc, h => by
    by_cases e : c = 46
    · subst e
      refine ⟨[], t, rfl, (fun c hc => by simp at hc), fun d hd => ?_⟩
      rcases hc d (by simp [hd]) with e | e
      · exfalso
        subst e
        rw [List.count_cons_self] at h
        have := List.count_pos_iff.2 hd
        omega
      · exact e
    · rw [List.count_cons_of_ne e] at h
      obtain ⟨a, b, h1, h2, h3⟩ := dot_split t (fun d hd => hc d (by simp [hd])) h
      refine ⟨c :: a, b, by rw [h1]; rfl, fun d hd => ?_, h3⟩
      rcases List.mem_cons.1 hd with rfl | hd
      · rcases hc d (by simp) with e' | e'
        · exact absurd e' e
        · exact e'
      · exact h2 d hd
end Go.Proofs.YtbblnlddiafkhaaDoor
/- strings.Cut at one byte. Plain. -/
set_option linter.unusedVariables false
namespace Go.Proofs.YtbblnlddiafkhaaDoor
open Go.Lib

theorem first_at (c : UInt8) : ∀ (s : List UInt8), c ∈ s → ∃ a r, s = a ++ c :: r ∧ c ∉ a
  | [], h => by cases h
  | b :: s, h => by
    by_cases e : b = c
    · subst e; exact ⟨[], s, rfl, by simp⟩
    · have h' : c ∈ s := by
        rcases List.mem_cons.1 h with h | h
        · exact absurd h.symm e
        · exact h
      obtain ⟨a, r, h1, h2⟩ := first_at c s h'
      exact ⟨b :: a, r, by rw [h1]; rfl, by simp only [List.mem_cons, not_or]; exact ⟨fun e' => e e'.symm, h2⟩⟩
theorem idx_none (c : UInt8) : ∀ (s : List UInt8), c ∉ s → indexByte s c = -1
  | [], _ => rfl
  | b :: s, h => by
    simp only [List.mem_cons, not_or] at h
    have ih := idx_none c s h.2
    have e : (b == c) = false := by simp only [beq_eq_false_iff_ne, ne_eq]; exact fun e => h.1 e.symm
    unfold indexByte
    rw [e, ih]
    rfl
theorem idx_hit (c : UInt8) : ∀ (a r : List UInt8), c ∉ a → indexByte (a ++ c :: r) c = a.length
  | [], r, _ => by
    show (if (c == c) = true then (0 : Int) else _) = _
    simp
  | b :: a, r, h => by
    simp only [List.mem_cons, not_or] at h
    have ih := idx_hit c a r h.2
    have e : (b == c) = false := by simp only [beq_eq_false_iff_ne, ne_eq]; exact fun e => h.1 e.symm
    show indexByte (b :: (a ++ c :: r)) c = _
    unfold indexByte
    rw [e, ih]
    have e2 : (((a.length : Nat) : Int) == -1) = false := by simp only [beq_eq_false_iff_ne, ne_eq]; omega
    rw [e2]
    simp
theorem cut_none (c : UInt8) (s : List UInt8) (h : c ∉ s) : cut s [c] = (s, [], false) := by
  unfold cut
  rw [index_one, idx_none c s h, if_neg (by decide)]
theorem cut_hit (c : UInt8) (a r : List UInt8) (h : c ∉ a) : cut (a ++ c :: r) [c] = (a, r, true) := by
  unfold cut
  rw [index_one, idx_hit c a r h, if_pos (by omega)]
  have e : ((a.length : Nat) : Int).toNat = a.length := by omega
  rw [e]
  simp
end Go.Proofs.YtbblnlddiafkhaaDoor
/- Words of tokens. Plain. -/
set_option linter.unusedVariables false
namespace Go.Proofs.YtbblnlddiafkhaaDoor
open Go.RowKit

/-- A word's form: of a kind and a number, with a tail. -/
structure IsWord (W : List UInt8) (k : UInt8) (n : Nat) (t : List UInt8) : Prop where
  eq : W = frontL k n ++ 46 :: t
  kn : knownB k = true
  lo : 1 ≤ n
  hi : n ≤ 1099511627776
  len : t.length = 22
  de : dec t ≠ none
theorem known_no46 {k : UInt8} (h : knownB k = true) : k ≠ 46 := by
  rintro rfl
  exact absurd h (by decide)
theorem front_no {k : UInt8} {n : Nat} (h : knownB k = true) : (46 : UInt8) ∉ frontL k n := by
  unfold frontL
  intro hm
  rcases List.mem_cons.1 hm with e | e
  · exact known_no46 h e.symm
  · exact dec_no n 46 (.inl (by decide)) e
theorem IsWord.uniq {W : List UInt8} {k k' : UInt8} {n n' : Nat} {t t' : List UInt8} (h : IsWord W k n t) (h' : IsWord W k' n' t') : k = k' ∧ n = n' ∧ t = t' := by
  have e1 := cut_hit 46 (frontL k n) t (front_no h.kn)
  have e2 := cut_hit 46 (frontL k' n') t' (front_no h'.kn)
  rw [← h.eq] at e1
  rw [← h'.eq, e1] at e2
  simp only [Prod.mk.injEq, and_true, frontL, List.cons.injEq] at e2
  exact ⟨e2.1.1, dec_inj e2.1.2, e2.2⟩
theorem tail_is (key s : List UInt8) : (tailL key s).length = 22 ∧ dec (tailL key s) ≠ none := by
  unfold tailL
  refine ⟨?_, by rw [dec_enc]; simp⟩
  rw [enc_len, List.length_take, mac_len]
  decide
theorem word_is (key : List UInt8) (k : UInt8) (n : Nat) (hk : knownB k = true) (h1 : 1 ≤ n) (h2 : n ≤ 1099511627776) : IsWord (wordL key k n) k n (tailL key (frontL k n)) :=
  ⟨rfl, hk, h1, h2, (tail_is _ _).1, (tail_is _ _).2⟩
theorem word_inj {key : List UInt8} {k k' : UInt8} {n n' : Nat} (hk : knownB k = true) (h1 : 1 ≤ n) (h2 : n ≤ 1099511627776) (hk' : knownB k' = true) (h1' : 1 ≤ n') (h2' : n' ≤ 1099511627776) (h : wordL key k n = wordL key k' n') : k = k' ∧ n = n' := by
  have a := word_is key k n hk h1 h2
  rw [h] at a
  have := a.uniq (word_is key k' n' hk' h1' h2')
  exact ⟨this.1, this.2.1⟩
end Go.Proofs.YtbblnlddiafkhaaDoor
/- What the library's own variables hold; strconv.Atoi of any text. -/
set_option linter.unusedVariables false
namespace Go.Proofs.YtbblnlddiafkhaaDoor
open Go.RowKit

theorem var_below {w w' : World} {n : String} {cs : Array Value} (h : w.var? Tryd.prog n = some cs) (hb : Below w.heap.size w w') : w'.var? Tryd.prog n = some cs := by
  unfold World.var? at h ⊢
  cases hg : Tryd.prog.globalNamed n with
  | none => simp [hg] at h
  | some g =>
    simp only [hg, Option.bind_some] at h ⊢
    have hlt : g < w.heap.size := by
      rcases Nat.lt_or_ge g w.heap.size with h' | h'
      · exact h'
      · simp [Array.getElem?_eq_none h'] at h
    rw [hb.block g hlt]
    exact h
/-- An error of the library's own. -/
def Sent (w : World) (n : String) : Prop := ∃ tp p, w.var? Tryd.prog n = some #[.iface tp p]
structure Std (w : World) : Prop where
  pow : Pow w
  syn : Sent w "strconv.ErrSyntax"
  rng : Sent w "strconv.ErrRange"
  mx : ∃ m, w.cell? ⟨0, 0, none⟩ = some (.int .i64 m)
theorem Std.below {w w' : World} (h : Std w) (hb : Below w.heap.size w w') : Std w' :=
  ⟨h.pow.below hb, by obtain ⟨t, p, e⟩ := h.syn; exact ⟨t, p, var_below e hb⟩, by obtain ⟨t, p, e⟩ := h.rng; exact ⟨t, p, var_below e hb⟩,
    by obtain ⟨m, e⟩ := h.mx; exact ⟨m, (hb.cell (World.block_lt_of_cell? _ _ e)).trans e⟩⟩
theorem below_draws (w : World) (n : Nat) : Below w.heap.size w (w.drewN n) := below_drewN (Below.refl _ _) n

/-- How Atoi ends. -/
def AtoiRes (l : List UInt8) (e : Ending) : Prop :=
  (∃ v : Int, Lib.atoiAll l = .ok v ∧ e = .returned (.tuple #[.int .i64 v, .nilIface])) ∨
  ((∀ v, Lib.atoiAll l ≠ .ok v) ∧ ∃ (v : Int) (tp : TypeId) (p : Addr), e = .returned (.tuple #[.int .i64 v, .iface tp (.pointer (some p))]))
theorem atoi_any (l : List UInt8) (w : World) (hl : l.length ≤ 100000) (hs : Std w) :
    Calls Tryd.prog 24 #[.string ⟨l.toArray⟩] w fun e w' => AtoiRes l e ∧ Below w.heap.size w w' := by
  have hsz : (⟨l.toArray⟩ : ByteArray).size = l.length := by simp [ByteArray.size]
  cases h : Lib.atoiAll l with
  | ok v =>
    refine (Tryd.strconv_Atoi_ok ⟨l.toArray⟩ (by omega) v h w).mono ?_
    rintro e w' ⟨rfl, hw⟩
    refine ⟨.inl ⟨v, h, rfl⟩, ?_⟩
    rcases hw with rfl | ⟨t, rfl⟩
    · exact Below.refl _ _
    · exact Lib.bytesWorld_below _ _ _
  | range =>
    obtain ⟨tp, p, hv⟩ := hs.rng
    refine (Tryd.strconv_Atoi_range_var ⟨l.toArray⟩ (by omega) h tp p w hv).mono ?_
    rintro e w' ⟨N, rfl, _, _, hb⟩
    exact ⟨.inr ⟨fun v => by simp [h], _, _, _, rfl⟩, hb⟩
  | _ =>
    obtain ⟨tp, p, hv⟩ := hs.syn
    refine (Tryd.strconv_Atoi_syntax_var ⟨l.toArray⟩ (by omega) h tp p w hv).mono ?_
    rintro e w' ⟨N, rfl, _, _, hb⟩
    exact ⟨.inr ⟨fun v => by simp [h], _, _, _, rfl⟩, hb⟩
end Go.Proofs.YtbblnlddiafkhaaDoor
/- b64.Decode: what it answers. -/
set_option linter.unusedVariables false
namespace Go.Proofs.YtbblnlddiafkhaaDoor
open Go.RowKit

theorem Own.but {B g : Nat} {w w' : World} {v : Value} {l : List UInt8} {cs : Array Value} {T : TypeId} {fr : Nat × Nat} (h : Own B w v l) (hb : But g w w') (hg : w.heap[g]? = some (.cells cs T fr)) (hT : T ≠ 5) : Own B w' v l := by
  refine World.ownsRow.kept (row := some g) h ⟨hb.os, hb.tape, hb.output, hb.size, fun k hk hne => hb.block k hk (fun e => hne (by rw [e]))⟩ ?_
  rcases h.2 with ⟨rfl, _⟩ | ⟨g', cap, cur, rfl, _, hgg, _⟩
  · exact .inl rfl
  · refine .inr ?_
    simp only [Value.ownBlock, ne_eq, Option.some.injEq]
    rintro rfl
    rw [hg] at hgg
    simp at hgg
    exact hT hgg.2.1

/-- What Decode answers. -/
def DecRes (B : Nat) (l : List UInt8) (w : World) (e : Ending) (w' : World) : Prop :=
  Below B w w' ∧ ((dec l = none ∧ e = .returned (.tuple #[.slice none 0 0, .int .i64 10])) ∨ ∃ b v, dec l = some b ∧ b.length ≤ l.length ∧ e = .returned (.tuple #[v, .int .i64 0]) ∧ Own B w' v b)

/-- The accumulator and what is decoded. -/
structure DecAt (B : Nat) (w wr : World) (v : Value) (s : List UInt8 × Nat × Nat) : Prop where
  own : Own B wr v s.1
  bts : Bts B s.2.1 s.2.2 wr
  bel : Below B w wr

theorem index_at (s : ByteArray) (j : Nat) (h : j < s.size) : ((s[j]'h).toNat : Int).toNat.toUInt8 = s.data.toList[j]'(by simpa using h) := by
  simp [Nat.toUInt8]
  rfl

set_option maxRecDepth 100000 in
set_option maxHeartbeats 2000000 in
theorem Decode_any (s : ByteArray) (w : World) (hl : s.size ≤ 1000000) :
    Calls Tryd.prog 45 #[.string s] w fun e w' => DecRes w.heap.size s.data.toList w e w' := by
  have hsz : s.data.toList.length = s.size := by simp
  have HSZ := Lib.hid hsz
  clear hsz
  go_enter Tryd.func45, Tryd.ntmps45
  go_wp2
  go_loopg [4, 12] (s.size) (fun k v i wr => ∃ (j : Nat) (ns : List Nat), j + k = s.size ∧ i = .int .i64 j ∧ Hid (nums (s.data.toList.take j) = some ns) ∧ DecAt w.heap.size w wr v (ns.foldl decStep ([], 0, 0)))
  case atStart =>
    exact ⟨0, [], by omega, rfl, Lib.hid rfl, Own.nil _ _, heap_alloc_new w _, (Below.refl _ _).alloc (Nat.le_refl _) _⟩
  case round =>
    obtain ⟨j, ns, hj, rfl, hns, hD⟩ := hrel
    by_cases hlt : j < s.size
    · have hlt2 : j < s.data.toList.length := by rw [HSZ.out]; exact hlt
      have hix := index_at s j hlt
      have HIX := Lib.hid hix
      have hnlt := (nums_some _ ns hns.out).1
      have hacc := dec_foldl_acc ns ([], 0, 0) hnlt ⟨by decide, by decide⟩
      have hflen := dec_foldl_len ns ([], 0, 0)
      have hnl := nums_len _ ns hns.out
      have HF := Lib.hid (And.intro hflen (And.intro hnl (And.intro hnlt hacc)))
      clear hix hnlt hflen hnl hacc
      go_wp2_with fail
      refine (Tryd.strings_IndexByte _ _ _).mono ?_
      rintro e w1 ⟨rfl, rfl⟩
      rw [HIX.out]
      obtain ⟨y, hy⟩ : ∃ y, Lib.indexByte (ByteArray.mk #[65, 66, 67, 68, 69, 70, 71, 72, 73, 74, 75, 76, 77, 78, 79, 80, 81, 82, 83, 84, 85, 86, 87, 88, 89, 90, 97, 98, 99, 100, 101, 102, 103, 104, 105, 106, 107, 108, 109, 110, 111, 112, 113, 114, 115, 116, 117, 118, 119, 120, 121, 122, 48, 49, 50, 51, 52, 53, 54, 55, 56, 57, 45, 95]).data.toList (s.data.toList[j]) = y := ⟨_, rfl⟩
      rw [hy]
      have hy2 : num64 s.data.toList[j] = if y < 0 then none else some y.toNat := by rw [← hy]; rfl
      have HY := Lib.hid hy2
      clear hy hy2
      by_cases hneg : y < 0
      · go_wp2_with fail
        go_ret2
        refine ⟨hD.bel, .inl ⟨dec_none _ j hlt2 ?_, rfl⟩⟩
        rw [HY.out, if_pos hneg]
      · obtain ⟨k, rfl⟩ : ∃ k : Nat, y = k := ⟨y.toNat, by omega⟩
        have hk : num64 s.data.toList[j] = some k := by rw [HY.out, if_neg hneg]; simp
        have hk64 := (num64_some _ k hk).1
        obtain ⟨o, r, c, hs⟩ : ∃ o r c, ns.foldl decStep ([], 0, 0) = (o, r, c) := ⟨_, _, _, rfl⟩
        have hns2 : nums (s.data.toList.take (j + 1)) = some (ns ++ [k]) := by
          rw [List.take_succ_eq_append_getElem hlt2]
          exact nums_snoc _ _ ns k hns.out hk
        have hfold : (ns ++ [k]).foldl decStep ([], 0, 0) = decStep (o, r, c) k := by simp [hs]
        obtain ⟨hflen, hnl, hnlt, hacc⟩ := HF.out
        rw [hs] at hD hacc hflen
        obtain ⟨hacc1, hbnd⟩ := decStep_acc (o, r, c) k hk64 hacc
        obtain ⟨hc8, hr2⟩ := hacc
        have hol : o.length ≤ j := by
          simp only [List.length_nil, List.length_take] at hflen hnl
          omega
        have HK := Lib.hid (And.intro hns2 hfold)
        clear hk HY HF hs hflen hnl hnlt hacc1 hns hns2 hfold
        simp only at hc8 hr2 hbnd
        have h28 : 2 ^ c ≤ 2 ^ 7 := Nat.pow_le_pow_right (by decide) (by omega)
        have hr128 : r < 128 := Nat.lt_of_lt_of_le hr2 h28
        clear h28
        go_wp2_with fail
        refine (push_call _ r c k 6 _ _ _ hD.bts rfl rfl (by omega) (by omega) (by omega) hk64).mono ?_
        rintro e w2 ⟨rfl, hb2, hk2⟩
        have hown2 := hD.own.but hk2 hD.bts (by decide)
        have hbel2 := but_below hD.bel hk2 (Nat.le_refl _) hD.bel.size
        clear hD
        obtain ⟨R, hR⟩ : ∃ R, r * 2 ^ 6 + k = R := ⟨_, rfl⟩
        rw [hR] at hb2 hbnd
        have HR := Lib.hid hR
        clear hR hr2
        by_cases h8 : c + 6 < 8
        · go_wp2_with fail
          refine (pop_none _ R (c + 6) 8 _ hb2 h8).mono ?_
          rintro e w3 ⟨rfl, rfl⟩
          go_wp2
          go_roundg (gk - 1)
          case measure => omega
          case rel =>
            refine ⟨j + 1, ns ++ [k], by omega, by go_num, Lib.hid HK.out.1, ?_⟩
            have e1 : (ns ++ [k]).foldl decStep ([], 0, 0) = (o, R, c + 6) := by rw [HK.out.2]; unfold decStep; rw [if_pos h8, HR.out]
            rw [e1]
            exact ⟨hown2, hb2, hbel2⟩
        · obtain ⟨q, hq⟩ : ∃ q, R / 2 ^ (c + 6 - 8) = q := ⟨_, rfl⟩
          have hq256 : q < 256 := by
            rw [← hq, Nat.div_lt_iff_lt_mul (Nat.two_pow_pos _)]
            calc R < 2 ^ (c + 6) := hbnd
              _ = 2 ^ (8 + (c + 6 - 8)) := by congr 1; omega
              _ = 256 * 2 ^ (c + 6 - 8) := by rw [Nat.pow_add]
          have HQ := Lib.hid hq
          clear hq
          go_wp2_with fail
          refine (pop_call _ R (c + 6) 8 q _ _ hb2 rfl (by omega) (by omega) hbnd (by omega) HQ.out).mono ?_
          rintro e w3 ⟨rfl, hb3, hk3⟩
          have hown3 := hown2.but hk3 hb2 (by decide)
          have hbel3 := but_below hbel2 hk3 (Nat.le_refl _) hbel2.size
          clear hown2 hbel2 hb2 hbnd
          have hqb : (byt q).toNat = q := toNat_of q hq256
          have HQB := Lib.hid hqb
          have hqI : (q : Int) < 256 := by omega
          clear hqb
          go_wp2_with (at_builtin; go_loud (refine wpList_append_rd rfl (.tmp 28) (.tmp 31) rfl w.heap.size _ o rfl (hown3.alloc _) (some ⟨w3.heap.size, 0, none⟩) [byt q] 1 1 rfl rfl (Rd.of_lit (T := 5) (fr := (0, 0)) [byt q] ?c0) ?c1 ?c2 ?_))
          case c0 => rw [heap_alloc_new]; simp [Lib.byteCells, HQB.out]
          case c1 => simp only [List.length_singleton]; omega
          case c2 => have := hbel3.size; simp; omega
          intro v4 w4 hown4 hg4
          have hb4 : Bts w.heap.size (R % 2 ^ (c + 6 - 8)) (c + 6 - 8) w4 := (hown3.alloc _).other hg4 (block_alloc hb3 _) (by decide)
          have hbel4 := below_grow (hbel3.alloc hbel3.size (.cells #[.int .u8 (q : Int)] 5)) (hown3.alloc _) hg4 (by have := hbel3.size; simp; omega)
          go_wp2
          go_roundg (gk - 1)
          case measure => omega
          case rel =>
            refine ⟨j + 1, ns ++ [k], by omega, by go_num, Lib.hid HK.out.1, ?_⟩
            have e1 : (ns ++ [k]).foldl decStep ([], 0, 0) = (o ++ [byt q], R % 2 ^ (c + 6 - 8), c + 6 - 8) := by rw [HK.out.2]; unfold decStep; rw [if_neg h8, HR.out, HQ.out]
            rw [e1]
            exact ⟨hown4, hb4, hbel4⟩
    · have hns2 : nums s.data.toList = some ns := by
        have := hns.out
        rwa [List.take_of_length_le (by rw [HSZ.out]; omega)] at this
      have hdec := dec_some _ ns hns2
      have hflen := dec_foldl_len ns ([], 0, 0)
      have hnl := nums_len _ ns hns2
      obtain ⟨o, r, c, hs⟩ : ∃ o r c, ns.foldl decStep ([], 0, 0) = (o, r, c) := ⟨_, _, _, rfl⟩
      rw [hs] at hD hdec hflen
      have hol : o.length ≤ s.data.toList.length := by simp only [List.length_nil] at hflen; omega
      have hacc := dec_foldl_acc ns ([], 0, 0) (nums_some _ ns hns2).1 ⟨by decide, by decide⟩
      rw [hs] at hacc
      have hc8 : c < 8 := hacc.1
      have h28 : 2 ^ c ≤ 2 ^ 7 := Nat.pow_le_pow_right (by decide) (by omega)
      have hr128 : r < 128 := Nat.lt_of_lt_of_le hacc.2 h28
      have HD := Lib.hid (And.intro hdec hol)
      clear hdec hol hflen hnl hs hns2 hns hacc h28
      have hown := hD.own
      have hbel := hD.bel
      have hc1 : wr.cell? ⟨w.heap.size, 1, none⟩ = some (.int .i64 c) := by rw [Lib.cell_of_heap hD.bts]; rfl
      have hc0 : wr.cell? ⟨w.heap.size, 0, none⟩ = some (.int .i64 r) := by rw [Lib.cell_of_heap hD.bts]; rfl
      clear hD
      by_cases h6 : 6 ≤ c
      · go_wp2_with fail
        go_ret2
        refine ⟨hbel, .inl ⟨?_, rfl⟩⟩
        rw [HD.out.1]
        unfold decEnd
        rw [if_pos (.inl h6)]
      · by_cases h0 : r = 0
        · subst h0
          have hz : ((0 : Int) != 0) = false := rfl
          go_wp2_with fail
          go_ret2
          refine ⟨hbel, .inr ⟨o, _, ?_, HD.out.2, rfl, hown⟩⟩
          rw [HD.out.1]
          unfold decEnd
          rw [if_neg (by simp; omega)]
        · have hz : ((r : Int) != 0) = true := by simp; omega
          go_wp2_with fail
          go_ret2
          refine ⟨hbel, .inl ⟨?_, rfl⟩⟩
          rw [HD.out.1]
          unfold decEnd
          rw [if_pos (.inr h0)]

end Go.Proofs.YtbblnlddiafkhaaDoor
/- token's split. -/
set_option linter.unusedVariables false
namespace Go.Proofs.YtbblnlddiafkhaaDoor
open Go.RowKit

theorem str_len (l : List UInt8) : (⟨l.toArray⟩ : ByteArray).size = l.length := by simp [ByteArray.size]
set_option maxRecDepth 100000 in
set_option maxHeartbeats 8000000 in
theorem split_yes (W : List UInt8) (k : UInt8) (n : Nat) (t : List UInt8) (w : World) (h : IsWord W k n t) (hs : Std w) :
    Calls Tryd.prog 31 #[.string ⟨W.toArray⟩] w fun e w' => e = .returned (.tuple #[.int .u8 (k.toNat : Int), .int .i64 (n : Int), .string ⟨t.toArray⟩, .bool true]) ∧ Below w.heap.size w w' := by
  obtain ⟨rfl, hkn, hlo, hhi, hlen, hde⟩ := h
  obtain ⟨m, hm⟩ := hs.mx
  have hcut := cut_hit 46 (frontL k n) t (front_no hkn)
  have hdl := dec_len n 13 (by decide) (by have : (10 : Nat) ^ 13 = 10000000000000 := by decide
                                           omega)
  have hfl : (frontL k n).length = (Lib.decDigits n).length + 1 := by unfold frontL; simp
  have hdp : 1 ≤ (Lib.decDigits n).length := List.length_pos_iff.2 (dec_ne n)
  have hix : ∀ w, (Instr.index 9 (.string ⟨(frontL k n).toArray⟩) (.int .i64 0)).run Tryd.prog w = .ok (.int .u8 (k.toNat : Nat)) w := str_at (frontL k n) 0 (by omega)
  have hsl : ∀ w, (Instr.slice 9 (.string ⟨(frontL k n).toArray⟩) (some (.int .i64 1)) none none).run Tryd.prog w = .ok (.string ⟨(Lib.decDigits n).toArray⟩) w := str_tail (frontL k n) 1 (by omega) 1 rfl
  have HS := Lib.hid hs
  have HC := Lib.hid hcut
  have HFR := Lib.hid (show k :: Lib.decDigits n = frontL k n from rfl)
  have HA := Lib.hid (atoiAll_dec n hhi)
  have HFA := Lib.hid (fun w hp => front_any k n w hhi hp)
  generalize frontL k n = F at *
  generalize Lib.decDigits n = D at *
  have hlw : (F ++ 46 :: t).length ≤ 100 := by simp only [List.length_append, List.length_cons]; omega
  have hF2 : ¬ ((F.length : Nat) : Int) < 2 := by omega
  have hF2d : decide (((F.length : Nat) : Int) < 2) = false := decide_eq_false hF2
  clear hcut hs hfl
  go_enter Tryd.func31, Tryd.ntmps31
  go_wp2_with fail
  refine (Tryd.strings_Cut ⟨(F ++ 46 :: t).toArray⟩ ⟨#[46]⟩ m w (by rw [str_len]; omega) hm).mono ?_
  rintro e w1 ⟨rfl, q, rfl⟩
  have hc : Lib.cut (⟨(F ++ 46 :: t).toArray⟩ : ByteArray).data.toList (⟨#[46]⟩ : ByteArray).data.toList = (F, t, true) := HC.out
  rw [hc]
  clear hc HC
  have HB1 := Lib.hid (below_draws w q)
  have HS1 := Lib.hid (HS.out.below HB1.out)
  generalize w.drewN q = w1 at *
  go_wp2_with fail
  refine (known_any k w1).mono ?_
  rintro e w2 ⟨rfl, rfl⟩
  rw [hkn]
  clear hkn
  have hlI : (((t.length : Nat) : Int) != 22) = false := by rw [hlen]; rfl
  go_wp2_with fail
  refine (atoi_any D w2 (by omega) HS1.out).mono ?_
  rintro e w3 ⟨hA, hb3⟩
  rcases hA with ⟨v, hv, rfl⟩ | ⟨hv, _⟩
  · obtain rfl : (n : Int) = v := by
      have := HA.out
      rw [hv] at this
      simpa using this.symm
    have HB3 := Lib.hid (HB1.out.trans (hb3.mono HB1.out.size))
    have HS3 := Lib.hid (HS1.out.below hb3)
    clear hv hb3
    go_wp2_with fail
    refine (Decode_any ⟨t.toArray⟩ w3 (by rw [str_len]; omega)).mono ?_
    rintro e w4 ⟨hb4, hD⟩
    have HB4 := Lib.hid (HB3.out.trans (hb4.mono HB3.out.size))
    have HS4 := Lib.hid (HS3.out.below hb4)
    clear hb4
    rcases hD with ⟨hd, _⟩ | ⟨b, v, hd, hbl, rfl, hown⟩
    · exact absurd hd hde
    · clear hd hbl hown hde
      have g1 : ¬ (n : Int) < 1 := by omega
      have g2 : ¬ (1099511627776 : Int) < (n : Int) := by omega
      have g1d : decide ((n : Int) < 1) = false := decide_eq_false g1
      have g2d : decide ((1099511627776 : Int) < (n : Int)) = false := decide_eq_false g2
      go_wp2_with fail
      refine (HFA.out w4 HS4.out.pow).mono ?_
      rintro e w5 ⟨rfl, hb5⟩
      have HB5 := Lib.hid (HB4.out.trans (hb5.mono HB4.out.size))
      clear hb5
      rw [HFR.out]
      go_wp2_with fail
      refine bodyPost_ret (v := .tuple #[.int .u8 (k.toNat : Int), .int .i64 (n : Int), .string ⟨t.toArray⟩, .bool true]) (by simp [results, Tryd.results31, go_sem]) rfl ?_
      exact ⟨rfl, HB5.out⟩
  · exact absurd HA.out (hv _)
set_option maxRecDepth 100000 in
set_option maxHeartbeats 16000000 in
theorem split_no (W : List UInt8) (w : World) (hl : W.length ≤ 1000) (h : ∀ k n t, ¬ IsWord W k n t) (hs : Std w) :
    Calls Tryd.prog 31 #[.string ⟨W.toArray⟩] w fun e w' => e = .returned (.tuple #[.int .u8 0, .int .i64 0, .string ⟨#[]⟩, .bool false]) ∧ Below w.heap.size w w' := by
  obtain ⟨m, hm⟩ := hs.mx
  have HS := Lib.hid hs
  have HN := Lib.hid h
  clear hs h
  go_enter Tryd.func31, Tryd.ntmps31
  go_wp2_with fail
  refine (Tryd.strings_Cut ⟨W.toArray⟩ ⟨#[46]⟩ m w (by rw [str_len]; omega) hm).mono ?_
  rintro e w1 ⟨rfl, q, rfl⟩
  have HB1 := Lib.hid (below_draws w q)
  have HS1 := Lib.hid (HS.out.below HB1.out)
  generalize w.drewN q = w1 at *
  by_cases hmem : (46 : UInt8) ∈ W
  · obtain ⟨F, t, rfl, hF⟩ := first_at 46 W hmem
    have hc : Lib.cut (⟨(F ++ 46 :: t).toArray⟩ : ByteArray).data.toList (⟨#[46]⟩ : ByteArray).data.toList = (F, t, true) := cut_hit 46 F t hF
    rw [hc]
    simp only [List.length_append, List.length_cons] at hl
    clear hc hmem hF
    by_cases h2 : F.length < 2
    · have h2I : ((F.length : Nat) : Int) < 2 := by omega
      have h2d : decide (((F.length : Nat) : Int) < 2) = true := decide_eq_true h2I
      go_wp2_with fail
      refine bodyPost_ret (v := .tuple #[.int .u8 0, .int .i64 0, .string ⟨#[]⟩, .bool false]) (by simp [results, Tryd.results31, go_sem]) rfl ?_
      exact ⟨rfl, HB1.out⟩
    · obtain ⟨k, D, rfl⟩ : ∃ k D, F = k :: D := by
        cases F with
        | nil => simp at h2
        | cons k D => exact ⟨k, D, rfl⟩
      have h2I : ¬ (((k :: D).length : Nat) : Int) < 2 := by omega
      have h2d : decide ((((k :: D).length : Nat) : Int) < 2) = false := decide_eq_false h2I
      have hix : ∀ w, (Instr.index 9 (.string ⟨(k :: D).toArray⟩) (.int .i64 0)).run Tryd.prog w = .ok (.int .u8 (k.toNat : Nat)) w := str_at (k :: D) 0 (by simp)
      have hsl : ∀ w, (Instr.slice 9 (.string ⟨(k :: D).toArray⟩) (some (.int .i64 1)) none none).run Tryd.prog w = .ok (.string ⟨D.toArray⟩) w := str_tail (k :: D) 1 (by simp) 1 rfl
      obtain ⟨F, hFd⟩ : ∃ F, k :: D = F := ⟨_, rfl⟩
      rw [hFd] at hix hsl h2d h2I HN hl h2 ⊢
      have hDl : D.length ≤ 1000 := by
        have := congrArg List.length hFd
        simp only [List.length_cons] at this
        omega
      have HFD := Lib.hid hFd
      clear hFd
      go_wp2_with fail
      refine (known_any k w1).mono ?_
      rintro e w2 ⟨rfl, rfl⟩
      cases hkn : knownB k with
      | false =>
        go_wp2_with fail
        refine bodyPost_ret (v := .tuple #[.int .u8 0, .int .i64 0, .string ⟨#[]⟩, .bool false]) (by simp [results, Tryd.results31, go_sem]) rfl ?_
        exact ⟨rfl, HB1.out⟩
      | true =>
        have HK := Lib.hid hkn
        clear hkn
        by_cases hlen : t.length = 22
        · have hlI : (((t.length : Nat) : Int) != 22) = false := by rw [hlen]; rfl
          have HL := Lib.hid hlen
          have hl22 : t.length ≤ 22 := by omega
          clear hlen
          go_wp2_with fail
          refine (atoi_any D w2 (by omega) HS1.out).mono ?_
          rintro e w3 ⟨hA, hb3⟩
          have HB3 := Lib.hid (HB1.out.trans (hb3.mono HB1.out.size))
          have HS3 := Lib.hid (HS1.out.below hb3)
          clear hb3
          rcases hA with ⟨v, hv, rfl⟩ | ⟨hv, v, tp, p, rfl⟩
          · have HV := Lib.hid hv
            clear hv
            go_wp2_with fail
            refine (Decode_any ⟨t.toArray⟩ w3 (by rw [str_len]; omega)).mono ?_
            rintro e w4 ⟨hb4, hD⟩
            have HB4 := Lib.hid (HB3.out.trans (hb4.mono HB3.out.size))
            have HS4 := Lib.hid (HS3.out.below hb4)
            clear hb4
            by_cases g1 : v < 1
            · have g1d : decide (v < 1) = true := decide_eq_true g1
              rcases hD with ⟨hd, rfl⟩ | ⟨b, x, hd, hbl, rfl, hown⟩
              all_goals
                clear hd
                go_wp2_with fail
                refine bodyPost_ret (v := .tuple #[.int .u8 0, .int .i64 0, .string ⟨#[]⟩, .bool false]) (by simp [results, Tryd.results31, go_sem]) rfl ?_
                exact ⟨rfl, HB4.out⟩
            · by_cases g2 : 1099511627776 < v
              · have g1d : decide (v < 1) = false := decide_eq_false g1
                have g2d : decide (1099511627776 < v) = true := decide_eq_true g2
                rcases hD with ⟨hd, rfl⟩ | ⟨b, x, hd, hbl, rfl, hown⟩
                all_goals
                  clear hd
                  go_wp2_with fail
                  refine bodyPost_ret (v := .tuple #[.int .u8 0, .int .i64 0, .string ⟨#[]⟩, .bool false]) (by simp [results, Tryd.results31, go_sem]) rfl ?_
                  exact ⟨rfl, HB4.out⟩
              · obtain ⟨n, rfl⟩ : ∃ n : Nat, v = (n : Int) := ⟨v.toNat, by omega⟩
                have g1d : decide ((n : Int) < 1) = false := decide_eq_false g1
                have g2d : decide (1099511627776 < (n : Int)) = false := decide_eq_false g2
                obtain ⟨J, hJ⟩ : ∃ J, k :: Lib.decDigits n = J := ⟨_, rfl⟩
                by_cases hJF : J = F
                · rcases hD with ⟨hd, rfl⟩ | ⟨b, x, hd, hbl, rfl, hown⟩
                  · clear hd
                    have HJ := Lib.hid hJ
                    clear hJ
                    subst hJF
                    go_wp2_with fail
                    refine (front_any k n w4 (by omega) HS4.out.pow).mono ?_
                    rintro e w5 ⟨rfl, hb5⟩
                    have HB5 := Lib.hid (HB4.out.trans (hb5.mono HB4.out.size))
                    clear hb5
                    rw [HJ.out]
                    go_wp2_with fail
                    refine bodyPost_ret (v := .tuple #[.int .u8 0, .int .i64 0, .string ⟨#[]⟩, .bool false]) (by simp [results, Tryd.results31, go_sem]) rfl ?_
                    exact ⟨rfl, HB5.out⟩
                  · exfalso
                    refine HN.out k n t ⟨?_, HK.out, by omega, by omega, HL.out, by rw [show (⟨t.toArray⟩ : ByteArray).data.toList = t from rfl] at hd; rw [hd]; simp⟩
                    unfold frontL
                    rw [hJ, hJF]
                · have HJ := Lib.hid hJ
                  have hne : (J == F) = false := by simpa using hJF
                  clear hJ hJF
                  rcases hD with ⟨hd, rfl⟩ | ⟨b, x, hd, hbl, rfl, hown⟩
                  all_goals
                    clear hd
                    go_wp2_with fail
                    refine (front_any k n w4 (by omega) HS4.out.pow).mono ?_
                    rintro e w5 ⟨rfl, hb5⟩
                    have HB5 := Lib.hid (HB4.out.trans (hb5.mono HB4.out.size))
                    clear hb5
                    rw [HJ.out]
                    go_wp2_with fail
                    refine bodyPost_ret (v := .tuple #[.int .u8 0, .int .i64 0, .string ⟨#[]⟩, .bool false]) (by simp [results, Tryd.results31, go_sem]) rfl ?_
                    exact ⟨rfl, HB5.out⟩
          · clear hv
            go_wp2_with fail
            refine (Decode_any ⟨t.toArray⟩ w3 (by rw [str_len]; omega)).mono ?_
            rintro e w4 ⟨hb4, hD⟩
            have HB4 := Lib.hid (HB3.out.trans (hb4.mono HB3.out.size))
            clear hb4
            rcases hD with ⟨hd, rfl⟩ | ⟨b, x, hd, hbl, rfl, hown⟩
            all_goals
              clear hd
              go_wp2_with fail
              refine bodyPost_ret (v := .tuple #[.int .u8 0, .int .i64 0, .string ⟨#[]⟩, .bool false]) (by simp [results, Tryd.results31, go_sem]) rfl ?_
              exact ⟨rfl, HB4.out⟩
        · have hlI : (((t.length : Nat) : Int) != 22) = true := by
            simp only [bne_iff_ne, ne_eq]
            omega
          go_wp2_with fail
          refine bodyPost_ret (v := .tuple #[.int .u8 0, .int .i64 0, .string ⟨#[]⟩, .bool false]) (by simp [results, Tryd.results31, go_sem]) rfl ?_
          exact ⟨rfl, HB1.out⟩
  · have hc : Lib.cut (⟨W.toArray⟩ : ByteArray).data.toList (⟨#[46]⟩ : ByteArray).data.toList = (W, [], false) := cut_none 46 W hmem
    rw [hc]
    clear hc hmem
    go_wp2_with fail
    refine bodyPost_ret (v := .tuple #[.int .u8 0, .int .i64 0, .string ⟨#[]⟩, .bool false]) (by simp [results, Tryd.results31, go_sem]) rfl ?_
    exact ⟨rfl, HB1.out⟩
end Go.Proofs.YtbblnlddiafkhaaDoor
/- token's Make where there is no word; token's Read. -/
set_option linter.unusedVariables false
namespace Go.Proofs.YtbblnlddiafkhaaDoor
open Go.RowKit

set_option maxRecDepth 100000 in
set_option maxHeartbeats 4000000 in
theorem make_kind (g : Nat) (k : UInt8) (n : Int) (w : World) (hkn : knownB k = false) :
    Calls Tryd.prog 14 #[.pointer (some ⟨g, 0, none⟩), .int .u8 (k.toNat : Int), .int .i64 n] w fun e w' => e = .returned (.tuple #[.string ⟨#[]⟩, .int .i64 42]) ∧ w' = w := by
  have HK := Lib.hid hkn
  clear hkn
  go_enter Tryd.func14, Tryd.ntmps14
  go_wp2_with fail
  refine (known_any k w).mono ?_
  rintro e w1 ⟨rfl, rfl⟩
  rw [HK.out]
  go_wp2_with fail
  go_ret2
  exact ⟨rfl, rfl⟩
set_option maxRecDepth 100000 in
set_option maxHeartbeats 4000000 in
theorem make_range (g : Nat) (k : UInt8) (n : Int) (w : World) (hkn : knownB k = true) (hn : n < 1 ∨ 1099511627776 < n) :
    Calls Tryd.prog 14 #[.pointer (some ⟨g, 0, none⟩), .int .u8 (k.toNat : Int), .int .i64 n] w fun e w' => e = .returned (.tuple #[.string ⟨#[]⟩, .int .i64 12]) ∧ w' = w := by
  have HK := Lib.hid hkn
  clear hkn
  by_cases h1 : n < 1
  · clear hn
    have h1d : decide (n < 1) = true := decide_eq_true h1
    go_enter Tryd.func14, Tryd.ntmps14
    go_wp2_with fail
    refine (known_any k w).mono ?_
    rintro e w1 ⟨rfl, rfl⟩
    rw [HK.out]
    go_wp2_with fail
    go_ret2
    exact ⟨rfl, rfl⟩
  · have h2 : 1099511627776 < n := hn.resolve_left h1
    clear hn
    have h1d : decide (n < 1) = false := decide_eq_false h1
    have h2d : decide (1099511627776 < n) = true := decide_eq_true h2
    go_enter Tryd.func14, Tryd.ntmps14
    go_wp2_with fail
    refine (known_any k w).mono ?_
    rintro e w1 ⟨rfl, rfl⟩
    rw [HK.out]
    go_wp2_with fail
    go_ret2
    exact ⟨rfl, rfl⟩
set_option maxRecDepth 100000 in
set_option maxHeartbeats 4000000 in
theorem read_form (g : Nat) (W : List UInt8) (w : World) (hl : W.length ≤ 1000) (h : ∀ k n t, ¬ IsWord W k n t) (hs : Std w) :
    Calls Tryd.prog 16 #[.pointer (some ⟨g, 0, none⟩), .string ⟨W.toArray⟩] w fun e w' => e = .returned (.tuple #[.int .u8 0, .int .i64 0, .int .i64 10]) ∧ Below w.heap.size w w' := by
  have HH := Lib.hid (split_no W w hl h hs)
  clear h hs
  go_enter Tryd.func16, Tryd.ntmps16
  go_wp2_with fail
  refine HH.out.mono ?_
  rintro e w1 ⟨rfl, hb1⟩
  have HB1 := Lib.hid hb1
  clear hb1
  go_wp2_with fail
  go_ret3
  exact ⟨rfl, HB1.out⟩
set_option maxRecDepth 100000 in
set_option maxHeartbeats 4000000 in
theorem read_is (g : Nat) (key W : List UInt8) (k : UInt8) (n : Nat) (t : List UInt8) (b : Bool) (w : World) (hm : Mt w g key) (hk : key.length ≤ 1000) (h : IsWord W k n t) (hb : (t == tailL key (frontL k n)) = b) (hs : Std w) :
    Calls Tryd.prog 16 #[.pointer (some ⟨g, 0, none⟩), .string ⟨W.toArray⟩] w fun e w' => e = .returned (if b then .tuple #[.int .u8 (k.toNat : Int), .int .i64 (n : Int), .int .i64 0] else .tuple #[.int .u8 0, .int .i64 0, .int .i64 40]) ∧ Below w.heap.size w w' := by
  have HH := Lib.hid (split_yes W k n t w h hs)
  have HS := Lib.hid hs
  have HM := Lib.hid hm
  have HF := Lib.hid (fun w hp => front_any k n w h.hi hp)
  have hfl : (frontL k n).length ≤ 14 := by
    have hdl := dec_len n 13 (by decide) (by have : (10 : Nat) ^ 13 = 10000000000000 := by decide
                                             have := h.hi
                                             omega)
    unfold frontL
    simp only [List.length_cons]
    omega
  have HFR := Lib.hid (show k :: Lib.decDigits n = frontL k n from rfl)
  have HBB := Lib.hid hb
  clear hm h hs hb
  generalize frontL k n = F at *
  generalize Lib.decDigits n = D at *
  go_enter Tryd.func16, Tryd.ntmps16
  go_wp2_with fail
  refine HH.out.mono ?_
  rintro e w1 ⟨rfl, hb1⟩
  have HB1 := Lib.hid hb1
  have HM1 := Lib.hid (HM.out.below hb1)
  have HS1 := Lib.hid (HS.out.below hb1)
  clear hb1
  go_wp2_with fail
  refine (HF.out w1 HS1.out.pow).mono ?_
  rintro e w2 ⟨rfl, hb2⟩
  have HB2 := Lib.hid (HB1.out.trans (hb2.mono HB1.out.size))
  have HM2 := Lib.hid (HM1.out.below hb2)
  clear hb2
  rw [HFR.out]
  go_wp2_with fail
  refine (tail_any g key F w2 HM2.out hk (by omega)).mono ?_
  rintro e w3 ⟨rfl, hb3⟩
  have HB3 := Lib.hid (HB2.out.trans (hb3.mono HB2.out.size))
  clear hb3
  generalize tailL key F = T at *
  have hbb := HBB.out
  cases b with
  | true =>
    go_wp2_with fail
    go_ret3
    exact ⟨rfl, HB3.out⟩
  | false =>
    go_wp2_with fail
    go_ret3
    exact ⟨rfl, HB3.out⟩
end Go.Proofs.YtbblnlddiafkhaaDoor
/- The document's Split. Plain. -/
set_option linter.unusedVariables false
namespace Go.Proofs.YtbblnlddiafkhaaDoor
open Go.RowKit

theorem decFrom_all : ∀ (l : List UInt8) (acc v : Nat), Lib.decFrom acc l = some v → ∀ c ∈ l, 48 ≤ c.toNat ∧ c.toNat ≤ 57
  | [], _, _, _, c, hc => by simp at hc
  | b :: l, acc, v, h, c, hc => by
    simp only [Lib.decFrom] at h
    cases hd : Lib.digitVal b with
    | none => rw [hd] at h; simp at h
    | some d =>
      rw [hd] at h
      rcases List.mem_cons.1 hc with rfl | hc
      · unfold Lib.digitVal at hd
        split at hd
        · rename_i hx; omega
        · cases hd
      · exact decFrom_all l _ v h c hc
theorem decFrom_step (W : List UInt8) (j n : Nat) (hj : 1 ≤ j) (hlt : j < W.length) (h : Lib.decFrom 0 ((W.drop 1).take (j - 1)) = some n) (h1 : 48 ≤ W[j].toNat) (h2 : W[j].toNat ≤ 57) :
    Lib.decFrom 0 ((W.drop 1).take j) = some (10 * n + (W[j].toNat - 48)) := by
  obtain ⟨i, rfl⟩ : ∃ i, j = i + 1 := ⟨j - 1, by omega⟩
  have e : (W.drop 1).take (i + 1) = (W.drop 1).take i ++ [W[i + 1]] := by
    rw [List.take_succ_eq_append_getElem (by rw [List.length_drop]; omega)]
    simp
  rw [e, decFrom_snoc]
  rw [show i + 1 - 1 = i by omega] at h
  rw [h, Option.bind_some, digitVal_fig ⟨h1, h2⟩, Option.map_some]
  congr 1
  omega
/-- What is asked of where the digits end. -/
structure Passes (W : List UInt8) (j n : Nat) : Prop where
  two : 2 ≤ j
  nz : W.getD 1 0 ≠ 48
  hi : n ≤ 1099511627776
  lt : j < W.length
  dot : W.getD j 0 = 46
  len : W.length = j + 23
theorem passes_word (W : List UInt8) (j n : Nat) (h : Lib.decFrom 0 ((W.drop 1).take (j - 1)) = some n) (hp : Passes W j n) (hk : knownB (W.getD 0 0) = true) (hd : dec (W.drop (j + 1)) ≠ none) :
    IsWord W (W.getD 0 0) n (W.drop (j + 1)) := by
  obtain ⟨h2, hnz, hhi, hlt, hdot, hlen⟩ := hp
  cases W with
  | nil => simp at hlt
  | cons k R =>
    obtain ⟨i, rfl⟩ : ∃ i, j = i + 1 := ⟨j - 1, by omega⟩
    simp only [List.drop_succ_cons, List.drop_zero, Nat.add_sub_cancel] at h
    simp only [List.length_cons] at hlt hlen
    have hne : R.take i ≠ [] := by
      intro e
      have := congrArg List.length e
      simp only [List.length_take, List.length_nil] at this
      omega
    have hh : (R.take i).head? ≠ some 48 := by
      cases R with
      | nil => simp at hlt
      | cons b R =>
        obtain ⟨q, rfl⟩ : ∃ q, i = q + 1 := ⟨i - 1, by omega⟩
        simpa using hnz
    obtain ⟨e1, e2⟩ := dec_of _ (R.take i) n rfl hne hh h
    refine ⟨?_, hk, e2, hhi, by simp only [List.length_drop, List.length_cons]; omega, hd⟩
    have hil : i < R.length := by omega
    have hx : R[i] = 46 := by
      have : (k :: R).getD (i + 1) 0 = R[i] := by simp [hil]
      rw [← this]; exact hdot
    unfold frontL
    rw [e1]
    simp only [List.getD_cons_zero, List.drop_succ_cons, List.cons_append, List.cons.injEq, true_and]
    rw [← hx, ← List.drop_eq_getElem_cons hil, List.take_append_drop]
theorem word_passes (W : List UInt8) (j n : Nat) (h1 : 1 ≤ j) (hj : j ≤ W.length) (h : Lib.decFrom 0 ((W.drop 1).take (j - 1)) = some n) (hend : j < W.length → 48 ≤ (W.getD j 0).toNat → (W.getD j 0).toNat ≤ 57 → ¬ j < 15)
    (k : UInt8) (m : Nat) (t : List UInt8) (hw : IsWord W k m t) : Passes W j n ∧ W.getD 0 0 = k ∧ n = m ∧ W.drop (j + 1) = t := by
  obtain ⟨rfl, hkn, hlo, hhi, hlen, hde⟩ := hw
  unfold frontL at *
  have hdl := dec_len m 13 (by decide) (by have : (10 : Nat) ^ 13 = 10000000000000 := by decide
                                           omega)
  have hda := dec_all m
  have hdne := dec_ne m
  have hdh := dec_head m hlo
  have hdf := decFrom_dec m
  generalize Lib.decDigits m = D at *
  have hd1 : 1 ≤ D.length := List.length_pos_iff.2 hdne
  obtain ⟨i, rfl⟩ : ∃ i, j = i + 1 := ⟨j - 1, by omega⟩
  simp only [List.cons_append, List.drop_succ_cons, List.drop_zero, Nat.add_sub_cancel, List.length_cons, List.length_append] at h hj hend
  have hi : i = D.length := by
    rcases Nat.lt_trichotomy i D.length with hl | hl | hl
    · exfalso
      have hg : (k :: (D ++ 46 :: t)).getD (i + 1) 0 = D[i] := by
        simp [List.getElem?_append_left hl, hl]
      rw [hg] at hend
      have := hda D[i] (List.getElem_mem _)
      exact hend (by omega) this.1 this.2 (by omega)
    · exact hl
    · exfalso
      have hm : (46 : UInt8) ∈ (D ++ 46 :: t).take i := by
        rw [List.take_append, List.mem_append]
        right
        obtain ⟨q, hq⟩ : ∃ q, i - D.length = q + 1 := ⟨i - D.length - 1, by omega⟩
        rw [hq]
        simp
      have := decFrom_all _ _ _ h 46 hm
      have e : (46 : UInt8).toNat = 46 := rfl
      omega
  subst hi
  have ht : (D ++ 46 :: t).take D.length = D := by simp
  rw [ht, hdf] at h
  obtain rfl : m = n := by simpa using h
  refine ⟨⟨by omega, ?_, hhi, by simp, ?_, by simp; omega⟩, by simp, rfl, by simp⟩
  · cases D with
    | nil => exact absurd rfl hdne
    | cons b D => simpa using hdh
  · simp
theorem decFrom_lt : ∀ (l : List UInt8) (acc v : Nat), Lib.decFrom acc l = some v → v < (acc + 1) * 10 ^ l.length
  | [], acc, v, h => by simp only [Lib.decFrom, Option.some.injEq] at h; simp; omega
  | b :: l, acc, v, h => by
    simp only [Lib.decFrom] at h
    cases hd : Lib.digitVal b with
    | none => rw [hd] at h; simp at h
    | some d =>
      rw [hd] at h
      have hd9 := (digitVal_back hd).1
      have := decFrom_lt l _ v h
      refine Nat.lt_of_lt_of_le this ?_
      rw [List.length_cons, Nat.pow_succ, Nat.mul_comm (10 ^ l.length) 10, ← Nat.mul_assoc]
      exact Nat.mul_le_mul_right _ (by omega)
theorem decFrom_small (W : List UInt8) (j n : Nat) (h : Lib.decFrom 0 ((W.drop 1).take (j - 1)) = some n) (hj : j ≤ 15) : n < 100000000000000 := by
  have h1 := decFrom_lt _ _ _ h
  have h2 : ((W.drop 1).take (j - 1)).length ≤ 14 := by rw [List.length_take]; omega
  have h3 : (10 : Nat) ^ ((W.drop 1).take (j - 1)).length ≤ 10 ^ 14 := Nat.pow_le_pow_right (by decide) h2
  have h4 : (10 : Nat) ^ 14 = 100000000000000 := by decide
  omega
end Go.Proofs.YtbblnlddiafkhaaDoor
/- The plain law of package b64: the reference's way of decoding, four letters at a time. -/
set_option linter.unusedVariables false
namespace Go.Proofs.YtbblnlddiafkhaaDoor

/-- What the reference's number answers. -/
def numI (x : UInt8) : Int := match num64 x with | none => -1 | some k => k
def numC (c : Nat) : Int := if 65 ≤ c ∧ c ≤ 90 then c - 65 else if 97 ≤ c ∧ c ≤ 122 then c - 71 else if 48 ≤ c ∧ c ≤ 57 then c + 4 else if c = 45 then 62 else if c = 95 then 63 else -1
theorem numI_all : ∀ n, n < 256 → numI (UInt8.ofNat n) = numC n := by decide +kernel
theorem numI_eq (x : UInt8) : numI x = numC x.toNat := by
  have := numI_all x.toNat x.toNat_lt
  simpa using this
theorem numI_cases (x : UInt8) : (num64 x = none ∧ numI x = -1) ∨ ∃ k : Nat, num64 x = some k ∧ numI x = k ∧ k < 64 := by
  unfold numI
  cases h : num64 x with
  | none => exact .inl ⟨rfl, rfl⟩
  | some k => exact .inr ⟨k, rfl, rfl, (num64_some x k h).1⟩

/-- The number of up to four letters, after t rounds. -/
def gv (t : Nat) (ms : List Nat) : Nat := ms.foldl (fun a x => a * 64 + x) 0 * 64 ^ (t - ms.length)
theorem gv_more (t : Nat) (ms : List Nat) (x : Nat) (h : ms.length = t) : gv (t + 1) (ms ++ [x]) = gv t ms * 64 + x := by
  simp [gv, h]
theorem gv_skip (t : Nat) (ms : List Nat) (h : ms.length ≤ t) : gv (t + 1) ms = gv t ms * 64 := by
  unfold gv
  rw [show t + 1 - ms.length = (t - ms.length) + 1 by omega, Nat.pow_succ, Nat.mul_assoc]
theorem fold64_lt (ms : List Nat) : ∀ a, (∀ x ∈ ms, x < 64) → ms.foldl (fun a x => a * 64 + x) a < (a + 1) * 64 ^ ms.length := by
  induction ms with
  | nil => intro a _; simp
  | cons x l ih =>
    intro a h
    have h1 := ih (a * 64 + x) (fun y hy => h y (by simp [hy]))
    have hx := h x (by simp)
    simp only [List.foldl_cons, List.length_cons]
    calc _ < (a * 64 + x + 1) * 64 ^ l.length := h1
      _ ≤ ((a + 1) * 64) * 64 ^ l.length := Nat.mul_le_mul_right _ (by omega)
      _ = (a + 1) * 64 ^ (l.length + 1) := by rw [Nat.pow_succ, Nat.mul_assoc, Nat.mul_comm 64]
theorem gv_lt (t : Nat) (ms : List Nat) (h : ms.length ≤ t) (hm : ∀ x ∈ ms, x < 64) : gv t ms < 64 ^ t := by
  unfold gv
  have h1 := fold64_lt ms 0 hm
  calc _ < (0 + 1) * 64 ^ ms.length * 64 ^ (t - ms.length) := Nat.mul_lt_mul_of_pos_right h1 (Nat.pow_pos (by decide))
    _ = 64 ^ t := by rw [Nat.zero_add, Nat.one_mul, ← Nat.pow_add]; congr 1; omega

/-- The three bytes of a number of 24 bits. -/
def three (n : Nat) : List Nat := [n / 65536, n / 256 % 256, n % 256]
theorem dec4_grp (ms : List Nat) (h64 : ∀ x ∈ ms, x < 64) (h2 : 2 ≤ ms.length) (h4 : ms.length ≤ 4) :
    dec4 ms = if (∀ x ∈ (three (gv 4 ms)).drop (ms.length - 1), x = 0) then some (((three (gv 4 ms)).take (ms.length - 1)).map byt) else none := by
  match ms, h2, h4 with
  | [a, b], _, _ =>
    have ha : a < 64 := h64 a (by simp)
    have hb : b < 64 := h64 b (by simp)
    have e0 : gv 4 [a, b] = (a * 64 + b) * 4096 := by simp [gv]
    have e1 : (a * 64 + b) * 4096 / 65536 = a * 4 + b / 16 := by omega
    have e2 : (a * 64 + b) * 4096 / 256 % 256 = b % 16 * 16 := by omega
    have e3 : (a * 64 + b) * 4096 % 256 = 0 := by omega
    rw [e0]
    simp only [dec4, three, e1, e2, e3, List.length_cons, List.length_nil]
    by_cases h : b % 16 = 0
    · simp [h]
    · simp [h]; omega
  | [a, b, c], _, _ =>
    have ha : a < 64 := h64 a (by simp)
    have hb : b < 64 := h64 b (by simp)
    have hc : c < 64 := h64 c (by simp)
    have e0 : gv 4 [a, b, c] = ((a * 64 + b) * 64 + c) * 64 := by simp [gv]
    have e1 : ((a * 64 + b) * 64 + c) * 64 / 65536 = a * 4 + b / 16 := by omega
    have e2 : ((a * 64 + b) * 64 + c) * 64 / 256 % 256 = b % 16 * 16 + c / 4 := by omega
    have e3 : ((a * 64 + b) * 64 + c) * 64 % 256 = c % 4 * 64 := by omega
    rw [e0]
    simp only [dec4, three, e1, e2, e3, List.length_cons, List.length_nil]
    by_cases h : c % 4 = 0
    · simp [h]
    · simp [h]; omega
  | [a, b, c, d], _, _ =>
    have ha : a < 64 := h64 a (by simp)
    have hb : b < 64 := h64 b (by simp)
    have hc : c < 64 := h64 c (by simp)
    have hd : d < 64 := h64 d (by simp)
    have e0 : gv 4 [a, b, c, d] = ((a * 64 + b) * 64 + c) * 64 + d := by simp [gv]
    have e1 : (((a * 64 + b) * 64 + c) * 64 + d) / 65536 = a * 4 + b / 16 := by omega
    have e2 : (((a * 64 + b) * 64 + c) * 64 + d) / 256 % 256 = b % 16 * 16 + c / 4 := by omega
    have e3 : (((a * 64 + b) * 64 + c) * 64 + d) % 256 = c % 4 * 64 + d := by omega
    rw [e0]
    simp [dec4, three, e1, e2, e3]

theorem dec4_app : ∀ (ns rest : List Nat), ns.length % 4 = 0 → dec4 (ns ++ rest) = (dec4 ns).bind fun a => (dec4 rest).map (a ++ ·)
  | [], rest, _ => by cases h : dec4 rest <;> simp [dec4, h]
  | [a], rest, h => by simp at h
  | [a, b], rest, h => by simp at h
  | [a, b, c], rest, h => by simp at h
  | a :: b :: c :: d :: t, rest, h => by
    have := dec4_app t rest (by simp only [List.length_cons] at h; omega)
    simp only [List.cons_append, dec4, this]
    cases dec4 t <;> cases dec4 rest <;> simp

theorem dec_odd (l : List UInt8) (h : l.length % 4 = 1) : dec l = none := by
  rw [dec_eq]
  cases hn : nums l with
  | none => rfl
  | some ns =>
    have hl := nums_len l ns hn
    have : ∀ (ms : List Nat), ms.length % 4 = 1 → dec4 ms = none := by
      intro ms
      fun_induction dec4 ms with
      | case1 a b c d t ih => intro h; simp only [List.length_cons] at h; rw [ih (by omega)]; rfl
      | case2 => intro h; simp at h
      | case3 => intro h; simp at h
      | case4 => intro h; simp at h
      | case5 => intro h; simp at h
      | case6 => intro h; rfl
      | case7 => intro h; simp at h
    exact this ns (by omega)

theorem three_lt (G : Nat) (h : G < 16777216) (q : Nat) (hq : q < 3) : (three G)[q]'hq < 256 := by
  match q, hq with
  | 0, _ => show G / 65536 < 256; omega
  | 1, _ => show G / 256 % 256 < 256; omega
  | 2, _ => show G % 256 < 256; omega
/-- All that stand behind the first ones are noughts, up to the q-th. -/
def Zer (G m q : Nat) : Prop := ∀ i (h : i < 3), i < q → m - 1 ≤ i → (three G)[i]'h = 0
theorem Zer.end {G m : Nat} (h : Zer G m 3) : ∀ x ∈ (three G).drop (m - 1), x = 0 := by
  intro x hx
  obtain ⟨i, hi, rfl⟩ := List.mem_iff_getElem.1 hx
  have h3 : (three G).length = 3 := rfl
  have hi' : m - 1 + i < 3 := by simp only [List.length_drop, h3] at hi; omega
  rw [List.getElem_drop]
  exact h (m - 1 + i) hi' hi' (by omega)
theorem Zer.not {G m q : Nat} (hq : q < 3) (hm : m - 1 ≤ q) (hx : (three G)[q]'hq ≠ 0) : ¬ ∀ x ∈ (three G).drop (m - 1), x = 0 := by
  intro h
  refine hx (h _ (List.mem_iff_getElem.2 ⟨q - (m - 1), ?_, ?_⟩))
  · have h3 : (three G).length = 3 := rfl
    simp only [List.length_drop, h3]; omega
  · rw [List.getElem_drop]; congr 1; omega
end Go.Proofs.YtbblnlddiafkhaaDoor
