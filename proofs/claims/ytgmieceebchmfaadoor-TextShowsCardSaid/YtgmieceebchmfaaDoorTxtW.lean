/- The document's Form. -/
import Derived.Test.YtgmieceebchmfaaDoorTxtV
import Derived.Test.YtgmieceebchmfaaDoorTxtL
set_option linter.unusedVariables false
namespace Go.Proofs.YtgmieceebchmfaaDoor
open Go.RowKit

theorem info_rpr : (Tryd.prog.info? 39).map (fun i => (i.zero, i.size, i.bytes)) = some (some (.agg #[.string ⟨#[]⟩, .string ⟨#[]⟩]), 2, 32) := by kernel_rfl
theorem hasName_drop (l : List PairL) (n : List UInt8) (j : Nat) (h : j < l.length) : hasName (l.drop j) n = (decide (l[j].1 = n) || hasName (l.drop (j + 1)) n) := by
  rw [List.drop_eq_getElem_cons h]
  rfl

set_option maxRecDepth 100000 in
set_option maxHeartbeats 8000000 in
theorem refform_any (s : List UInt8) (w : World) (hs : s.length ≤ 1000000) :
    Calls Tryd.prog 20 #[.string ⟨s.toArray⟩] w fun e w' => FormIs s e w' ∧ Below w.heap.size w w' := by
  obtain ⟨i0, hi, hz0, hz1, hz2⟩ := info_parts info_rpr
  have HI := Lib.hid hi
  have HZ0 := Lib.hid hz0
  have HZ1 := Lib.hid hz1
  have HZ2 := Lib.hid hz2
  clear hi hz0 hz1 hz2
  by_cases hne : s = []
  · subst hne
    go_enter Tryd.func20, Tryd.ntmps20
    go_wp2_with fail
    go_ret2
    exact ⟨formIs_err rfl, Below.refl _ _⟩
  have hneI : s.isEmpty = false := by simpa using hne
  have hfr : formR s = formN (partsL 38 s) [] := by unfold formR; rw [if_neg hne]
  have hpl := partsL_len 38 s
  have hspl := parts_any s 38 w hs
  have hcnt : (partsL 38 s).length ≤ s.length + 1 := by
    rw [← countB_parts 38 s]
    have : Lib.countB ⟨s.toArray⟩ ⟨#[38]⟩ = s.count 38 := Lib.count_one 38 s
    rw [this]
    have := List.count_le_length (a := (38 : UInt8)) (l := s)
    omega
  generalize partsL 38 s = P at *
  have HFR := Lib.hid hfr
  have HPL := Lib.hid hpl
  have HSP := Lib.hid hspl
  clear hfr hpl hspl hne
  go_enter Tryd.func20, Tryd.ntmps20
  go_wp2_with fail
  refine HSP.out.mono ?_
  rintro e w1 ⟨⟨ap, cp, rfl, hrp⟩, hb1⟩
  have HRP := Lib.hid hrp
  have HB1 := Lib.hid hb1
  clear hrp hb1 HSP
  go_wp2_with fail
  go_loopg [4, 6] P.length (fun k out y wr => ∃ (j : Nat) (acc : List PairL), y = .int .i64 (j : Int) ∧ j + k = P.length ∧ acc.length = j ∧ j ≤ 32 ∧ Hid (formN P [] = formN (P.drop j) acc) ∧ Hid (wr.ownsRow w1.heap.size 39 2 out acc.length (acc.flatMap paircell)) ∧ Hid (Below w1.heap.size w1 wr))
  case atStart => exact ⟨0, [], rfl, by omega, rfl, by omega, Lib.hid (by rw [List.drop_zero]), Lib.hid (World.ownsRow_nil _ _ _ _), Lib.hid (Below.refl _ _)⟩
  case round =>
    obtain ⟨j, acc, rfl, hj, hacc, hj32, HF, HW, HB⟩ := hrel
    have hacc1 : acc.length ≤ j := by omega
    have hacc2 : j ≤ acc.length := by omega
    clear hacc
    have hszB : w1.heap.size ≤ wr.heap.size := HB.out.size
    have hsz1 : w.heap.size ≤ w1.heap.size := HB1.out.size
    obtain ⟨ao, co, hout, hro, _⟩ := RdC.of_own HW.out
    subst hout
    have HRO := Lib.hid hro
    clear hro
    by_cases hlt : j < P.length
    · have hltI : (j : Int) < (P.length : Int) := by omega
      obtain ⟨b, off, rfl, hcell⟩ := strs_get (HRP.out.below HB.out) hlt
      have hplj := HPL.out P[j] (List.getElem_mem _)
      have hf := HF.out
      rw [formN_drop P acc j hlt] at hf
      generalize P[j] = p at *
      have HF0 := Lib.hid hf
      clear hf HF
      by_cases h32 : acc.length = 32
      · have hf := HF0.out
        rw [if_pos h32] at hf
        have hfr2 : formR s = ([], 14) := HFR.out.trans hf
        have HR := Lib.hid hfr2
        have h32I : (j : Int) = 32 := by omega
        clear hf hfr2 HF0
        go_wp2_with fail
        go_ret2
        exact ⟨formIs_err HR.out, HB1.out.trans (HB.out.mono hsz1)⟩
      have h32I : ¬ (j : Int) = 32 := by omega
      have hf := HF0.out
      rw [if_neg h32] at hf
      have HF1 := Lib.hid hf
      clear hf HF0
      go_wp2_with fail
      refine (refone_any p wr (by omega)).mono ?_
      rintro e w2 ⟨rfl, hb2⟩
      have HB2 := Lib.hid (HB.out.trans (hb2.mono hszB))
      have HW2 := Lib.hid (own_below HW.out hb2)
      have HRO2 := Lib.hid (HRO.out.below hb2)
      clear hb2 hcell HW HB HRO
      unfold oneV
      generalize oneR p = rp at *
      obtain ⟨⟨pn, pv⟩, er⟩ := rp
      simp only at HF1 ⊢
      by_cases her : er = 0
      · subst her
        have hf := HF1.out
        rw [if_neg (by simp)] at hf
        have HF2 := Lib.hid hf
        clear hf HF1
        go_wp2_with fail
        have hkp := heap_alloc_new w2 (.cells #[.string ⟨pn.toArray⟩, .string ⟨pv.toArray⟩] 39)
        have hba : Below w2.heap.size w2 (w2.alloc (.cells #[.string ⟨pn.toArray⟩, .string ⟨pv.toArray⟩] 39)) := (Below.refl _ _).alloc (Nat.le_refl _) _
        have HB3 := Lib.hid (HB2.out.trans (hba.mono HB2.out.size))
        have HW3 := Lib.hid (own_below HW2.out hba)
        have HRO3 := Lib.hid (HRO2.out.below hba)
        have HKP := Lib.hid hkp
        have hsz3 : (w2.alloc (.cells #[.string ⟨pn.toArray⟩, .string ⟨pv.toArray⟩] 39)).heap.size = w2.heap.size + 1 := by simp
        clear hkp hba HRO2 HW2 HB2
        obtain ⟨gO, rfl⟩ : ∃ x : Nat, x = gk := ⟨_, rfl⟩
        generalize (w2.alloc (.cells #[.string ⟨pn.toArray⟩, .string ⟨pv.toArray⟩] 39)) = w3 at *
        have hszB3 : w1.heap.size ≤ w3.heap.size := HB3.out.size
        go_loopg [9] acc.length (fun k y w4 => ∃ q : Nat, y = .int .i64 (q : Int) ∧ q + k = acc.length ∧ Hid (hasName acc pn = hasName (acc.drop q) pn) ∧ Hid (Below w3.heap.size w3 w4))
        case atStart => exact ⟨0, rfl, by omega, Lib.hid (by rw [List.drop_zero]), Lib.hid (Below.refl _ _)⟩
        case round =>
          obtain ⟨q, rfl, hq, HN, HB4⟩ := hrel
          by_cases hlq : q < acc.length
          · have hlqI : (q : Int) < (acc.length : Int) := by omega
            obtain ⟨b2, off2, rfl, c1, c2⟩ := pair_get (HRO3.out.below HB4.out) hlq
            have hn := HN.out
            rw [hasName_drop acc pn q hlq] at hn
            generalize acc[q] = qp at *
            have d0 : wr.cell? ⟨w2.heap.size, 0, none⟩ = some (.string ⟨pn.toArray⟩) := by rw [HB4.out.cell (by show w2.heap.size < _; omega), Lib.cell_of_heap HKP.out]; rfl
            by_cases hqn : qp.1 = pn
            · rw [decide_eq_true hqn, Bool.true_or] at hn
              rw [hqn] at c1
              have hf := HF2.out
              rw [hn] at hf
              have hfr2 : formR s = ([], 15) := HFR.out.trans hf
              have HR := Lib.hid hfr2
              clear hf hfr2 HF2 hn HN
              go_wp2_with fail
              go_quiet (fail)
              go_wp2_with fail
              go_ret2
              exact ⟨formIs_err HR.out, HB1.out.trans ((HB3.out.trans ((below_drewN HB4.out _).mono hszB3)).mono hsz1)⟩
            · rw [decide_eq_false hqn, Bool.false_or] at hn
              have HN2 := Lib.hid hn
              have hb : (qp.1 == pn) = false := by simpa using hqn
              clear hn HN
              go_wp2_with fail
              go_quiet (fail)
              go_wp2_with fail
              go_roundg (gk - 1)
              case measure => omega
              case rel => exact ⟨q + 1, by first | rfl | (congr 1), by omega, HN2, Lib.hid (below_drewN HB4.out _)⟩
          · have hlqI : ¬ (q : Int) < (acc.length : Int) := by omega
            have hn := HN.out
            rw [List.drop_of_length_le (by omega)] at hn
            have hf := HF2.out
            rw [hn] at hf
            have hf2 : formN P [] = formN (P.drop (j + 1)) (acc ++ [(pn, pv)]) := hf
            have HF3 := Lib.hid hf2
            clear hf hf2 HF2 hn HN
            have d0 : wr.cell? ⟨w2.heap.size, 0, none⟩ = some (.string ⟨pn.toArray⟩) := by rw [HB4.out.cell (by show w2.heap.size < _; omega), Lib.cell_of_heap HKP.out]; rfl
            have d1 : wr.cell? ⟨w2.heap.size, 1, none⟩ = some (.string ⟨pv.toArray⟩) := by rw [HB4.out.cell (by show w2.heap.size < _; omega), Lib.cell_of_heap HKP.out]; rfl
            have HW4 := Lib.hid (own_below HW3.out HB4.out)
            have HB5 := Lib.hid (HB3.out.trans (HB4.out.mono hszB3))
            have hszR : w1.heap.size ≤ wr.heap.size := HB5.out.size
            go_wp2_with (at_builtin; refine wpList_append_new rfl (.tmp 47) (.tmp 49) 34 rfl w1.heap.size 39 i0 _ 2 32 Tryd.underlying34 HI.out HZ0.out HZ1.out HZ2.out rfl (by decide) _ _ _ rfl (HW4.out.alloc _) wr.heap.size 1 #[.string ⟨pn.toArray⟩, .string ⟨pv.toArray⟩] 39 (0, 0) ?c1 rfl rfl ?c2 ?c3 ?c4 ?c5 ?_)
            case c1 => first | exact heap_alloc_new _ _ | exact (Array.getElem?_eq_some_iff.1 (heap_alloc_new wr _)).2
            case c2 => exact ⟨rfl, rfl⟩
            case c3 => omega
            case c4 => omega
            case c5 => first | omega | (simp; omega)
            intro v' w5 hown' hgrow
            have hb5 := below_own (HB5.out.alloc hszR _) (HW4.out.alloc _) hgrow (by simp; omega)
            have HW6 := Lib.hid hown'
            have HB6 := Lib.hid hb5
            clear hown' hgrow hb5 d0 d1 HW3 HB3 HW4 HB5 HB4
            go_wp2_with fail
            go_roundg (gO - 1)
            case measure => omega
            case rel => exact ⟨j + 1, acc ++ [(pn, pv)], by first | rfl | (congr 1), by omega, by simp; omega, by omega, HF3, Lib.hid (by have := HW6.out; simpa [paircell] using this), HB6⟩
      · have hf := HF1.out
        rw [if_pos her] at hf
        have hfr2 : formR s = ([], er) := HFR.out.trans hf
        have HR := Lib.hid hfr2
        have herb : (er != 0) = true := by simpa using her
        clear hf hfr2 HF1
        go_wp2_with fail
        go_ret2
        exact ⟨formIs_err HR.out, (HB1.out.trans (HB2.out.mono hsz1)).alloc (by have := HB2.out.size; have := HB1.out.size; omega) _⟩
    · have hltI : ¬ (j : Int) < (P.length : Int) := by omega
      have hf := HF.out
      rw [List.drop_of_length_le (by omega)] at hf
      have hfr2 : formR s = (acc, 0) := HFR.out.trans hf
      have HR := Lib.hid hfr2
      clear hf hfr2 HF
      go_wp2_with fail
      go_ret2
      exact ⟨⟨ao, co, by rw [HR.out]; rfl, by rw [HR.out]; exact HRO.out⟩, HB1.out.trans (HB.out.mono hsz1)⟩
end Go.Proofs.YtgmieceebchmfaaDoor
