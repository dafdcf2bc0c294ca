/- The law's common. -/
import Derived.Test.YtgmieceebchmfaaDoorB64v
import Derived.Test.YtgmieceebchmfaaDoorB64d
set_option linter.unusedVariables false
namespace Go.Proofs.YtgmieceebchmfaaDoor
open Go.RowKit

theorem std_45 : stdC 45 = 43 := rfl
theorem std_95 : stdC 95 = 47 := rfl
theorem std_no {c : UInt8} (h0 : c ≠ 45) (h1 : c ≠ 95) : stdC c = c := by
  unfold stdC swF
  rw [if_neg h0, if_neg h1]
theorem Tf.mono {B B' : Nat} {w : World} {v : Value} {l : List UInt8} (h : Tf B w v l) (hB : B' ≤ B) : Tf B' w v l := by
  obtain ⟨g, cap, cur, fr, h1, h2, h3⟩ := h
  exact ⟨g, cap, cur, fr, h1, Nat.le_trans hB h2, h3⟩
theorem Rd.byte (b : UInt8) {w : World} {g : Nat} {T : TypeId} {fr : Nat × Nat} (h : w.heap[g]? = some (.cells #[.int .u8 (b.toNat : Int)] T fr)) : Rd w (some ⟨g, 0, none⟩) [b] := by
  refine .inr ⟨g, 0, rfl, fun i hi => ?_⟩
  simp at hi
  subst hi
  rw [Lib.cell_of_heap h]
  rfl

set_option maxRecDepth 100000 in
set_option maxHeartbeats 8000000 in
theorem common_any (a : Option Addr) (l : List UInt8) (n cp : Nat) (w : World) (hr : Rd w a l) (hn : n = l.length) (hl : l.length ≤ 100000) :
    Calls Tryd.prog 24 #[.slice a n cp] w fun e w' => e = .returned (.string ⟨(stdL l).toArray⟩) ∧ Below w.heap.size w w' := by
  subst hn
  have HR := Lib.hid hr
  have hel := enc_size l hl
  have hst : stdL l = padded ((enc l).map stdC) := rfl
  have HST := Lib.hid hst
  clear hst hr
  go_enter Tryd.func24, Tryd.ntmps24
  go_wp2_with fail
  refine (refEncode_at a l l.length cp w HR.out rfl (by omega)).mono ?_
  rintro e w1 ⟨rfl, hb1⟩
  generalize enc l = E at *
  obtain ⟨g, cq, w2, hcv, hb2, htf⟩ := tf_of_str E w1 (by omega)
  have hsz1 := hb1.size
  have HB2 := Lib.hid (hb1.trans (hb2.mono hsz1))
  have htf0 : Tf w1.heap.size w2 (.slice (some ⟨g, 0, none⟩) E.length cq) (swAt stdC E 0) := by rw [swAt_zero]; exact htf
  have HT := Lib.hid htf0
  clear hb1 hb2 htf htf0
  go_wp2_with fail
  go_loopg [11] E.length (fun k y wr => ∃ j : Nat, y = .int .i64 (j : Int) ∧ j + k = E.length ∧ Hid (Tf w1.heap.size wr (.slice (some ⟨g, 0, none⟩) E.length cq) (swAt stdC E j)) ∧ Hid (Below w.heap.size w wr))
  case atStart => exact ⟨0, rfl, by omega, HT, HB2⟩
  case round =>
    obtain ⟨j, rfl, hj, HT1, HB⟩ := hrel
    obtain ⟨g', c', hv, hgB, hgl, hrd, hcl, hfz⟩ := HT1.out.shape
    simp at hv
    obtain ⟨rfl, -, rfl⟩ := hv
    by_cases hlt : j < E.length
    · have hltI : (j : Int) < (E.length : Int) := by omega
      have hcell := hcl j (by rw [swAt_len]; exact hlt)
      have hfrz := hfz j (by rw [swAt_len]; exact hlt)
      rw [swAt_get _ _ _ hlt] at hcell
      have hset := swAt_set stdC E j hlt
      have hsame := swAt_same stdC E j hlt
      have HLT := Lib.hid (show j < (swAt stdC E j).length by rw [swAt_len]; exact hlt)
      generalize E[j] = c at *
      have HSET := Lib.hid hset
      have HSAME := Lib.hid hsame
      clear hset hsame hcl hfz hrd hcv
      have hgw : w.heap.size ≤ g := by omega
      by_cases h0 : c = 45
      · subst h0
        go_wp2_with fail
        go_roundg (gk - 1)
        case measure => omega
        case rel => exact ⟨j + 1, by first | rfl | (congr 1), by omega, Lib.hid (by rw [← HSET.out, std_45]; exact HT1.out.set j 43 HLT.out), Lib.hid (HB.out.setCell (p := ⟨g, j, none⟩) hgw _)⟩
      by_cases h1 : c = 95
      · subst h1
        go_wp2_with fail
        go_roundg (gk - 1)
        case measure => omega
        case rel => exact ⟨j + 1, by first | rfl | (congr 1), by omega, Lib.hid (by rw [← HSET.out, std_95]; exact HT1.out.set j 47 HLT.out), Lib.hid (HB.out.setCell (p := ⟨g, j, none⟩) hgw _)⟩
      · have i0 : ¬ ((c.toNat : Nat) : Int) = 45 := fun e => h0 (UInt8.toNat_inj.1 (by show c.toNat = 45; omega))
        have i1 : ¬ ((c.toNat : Nat) : Int) = 95 := fun e => h1 (UInt8.toNat_inj.1 (by show c.toNat = 95; omega))
        have j0 : (((c.toNat : Nat) : Int) == 45) = false := by rw [beq_eq_false_iff_ne]; exact i0
        have j1 : (((c.toNat : Nat) : Int) == 95) = false := by rw [beq_eq_false_iff_ne]; exact i1
        have hsm := HSAME.out (std_no h0 h1)
        have HSM := Lib.hid hsm
        clear hsm h0 h1
        go_wp2_with fail
        go_roundg (gk - 1)
        case measure => omega
        case rel => exact ⟨j + 1, by first | rfl | (congr 1), by omega, Lib.hid (by rw [← HSM.out]; exact HT1.out), HB⟩
    · have hltI : ¬ (j : Int) < (E.length : Int) := by omega
      obtain rfl : j = E.length := by omega
      have ht := HT1.out
      rw [swAt_end] at ht
      have hlm : (E.map stdC).length = E.length := by simp
      generalize E.map stdC = F at *
      have HT2 := Lib.hid ht
      clear hcl hfz hrd ht HT1 hcv HT
      go_wp2_with fail
      go_loopg [3] (padN F.length) (fun k v w3 => ∃ i : Nat, i + k = padN F.length ∧ Hid (Tf w.heap.size w3 v (F ++ List.replicate i 61)) ∧ Hid (Below w.heap.size w w3))
      case atStart => exact ⟨0, by omega, Lib.hid (by rw [List.replicate_zero, List.append_nil]; exact HT2.out.mono hsz1), HB⟩
      case round =>
        obtain ⟨i, hi, HT3, HB3⟩ := hrel
        have hszr := HB3.out.size
        obtain ⟨gv, cv, hv, hgvB, hgvl, hrd3, _, _⟩ := HT3.out.shape
        subst hv
        have hml : (F ++ List.replicate i 61).length = F.length + i := by simp
        have hnx : F ++ List.replicate (i + 1) 61 = (F ++ List.replicate i 61) ++ [61] := by rw [List.replicate_succ', List.append_assoc]
        have hen : i = padN F.length → padded F = F ++ List.replicate i 61 := by intro e; rw [e]; rfl
        have HNX := Lib.hid hnx
        have HEN := Lib.hid hen
        have hpF : padN F.length = (4 - F.length % 4) % 4 := rfl
        have HRD := Lib.hid hrd3
        generalize F ++ List.replicate i 61 = M at *
        by_cases hlt2 : i < padN F.length
        · have hI : ¬ (M.length : Int) % 4 = 0 := by omega
          have hIB : ((M.length : Int) % 4 != 0) = true := by simpa using hI
          have hba : Below wr.heap.size wr (wr.alloc (.cells #[.int .u8 61] 5)) := (Below.refl _ _).alloc (Nat.le_refl _) _
          have HTA := Lib.hid (HT3.out.keep hba)
          have HBA := Lib.hid (HB3.out.trans (hba.mono hszr))
          have hsza : w.heap.size ≤ (wr.alloc (.cells #[.int .u8 61] 5)).heap.size := HBA.out.size
          have hM : M.length + 1 ≤ 1000000 := by omega
          have hrb : Rd (wr.alloc (.cells #[.int .u8 61] 5)) (some ⟨wr.heap.size, 0, none⟩) [61] := Rd.byte 61 (heap_alloc_new wr (.cells #[.int .u8 61] 5))
          have HRB := Lib.hid hrb
          have HIP := Lib.hid hpF
          clear hml hen hnx hrd3 hba hrb hpF hlm
          go_wp2_with (at_builtin; refine wpList_append_tf rfl (.tmp 31) (.tmp 32) rfl w.heap.size _ M rfl HTA.out ⟨wr.heap.size, 0, none⟩ [61] 1 1 rfl rfl (by simp) HRB.out ?c1 ?c2 ?_)
          case c1 => simp only [List.length_cons, List.length_nil]; omega
          case c2 => exact hsza
          intro v' w4 ht4 hg4
          have HB4 := Lib.hid (below_tf HBA.out HTA.out hg4 hsza)
          have HT4 := Lib.hid ht4
          clear ht4 hg4 HTA HBA HRB
          go_wp2_with fail
          go_roundg (gk - 1)
          case measure => omega
          case rel => exact ⟨i + 1, by omega, Lib.hid (by rw [HNX.out]; exact HT4.out), HB4⟩
        · have hI : (M.length : Int) % 4 = 0 := by omega
          have hie : i = padN F.length := by omega
          have HPD := Lib.hid (hen hie)
          have hst := str_of_rd HRD.out M.length cv rfl
          clear hml hen hnx hrd3 hpF hlm hie
          go_wp2_with fail
          go_ret
          exact ⟨by rw [HST.out, HPD.out]; rfl, HB3.out⟩
end Go.Proofs.YtgmieceebchmfaaDoor
