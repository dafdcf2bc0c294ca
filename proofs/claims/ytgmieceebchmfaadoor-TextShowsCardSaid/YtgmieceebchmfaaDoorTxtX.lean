/- The walk of the law TextForms. -/
import Derived.Test.YtgmieceebchmfaaDoorTxtW
import Derived.Test.YtgmieceebchmfaaDoorTxtN
set_option linter.unusedVariables false
namespace Go.Proofs.YtgmieceebchmfaaDoor
open Go.RowKit

theorem formR_len (s : List UInt8) : (formR s).1.length ≤ 32 := by
  unfold formR
  split
  · simp
  · exact formN_len _ _ (by simp)

set_option maxRecDepth 100000 in
set_option maxHeartbeats 8000000 in
theorem textForms_walk (s : ByteArray) (w : World) (hs : s.size ≤ maxLen) (hm : ∃ m, w.cell? ⟨0, 0, none⟩ = some (.int .i64 m)) :
    Calls Tryd.prog 7 #[.string s] w fun e w' => e = .returned (.bool true) ∧ Below w.heap.size w w' := by
  obtain ⟨m, hm⟩ := hm
  unfold maxLen at hs
  obtain ⟨S, rfl⟩ := bytes_list s
  simp only [ByteArray.size, List.size_toArray] at hs
  have HM := Lib.hid hm
  clear hm
  go_enter Tryd.func7, Tryd.ntmps7
  go_wp2_with fail
  refine (anchor05_any m _ HM.out).mono ?_
  rintro e w1 ⟨rfl, hb1⟩
  have hm1 : w1.cell? ⟨0, 0, none⟩ = some (.int .i64 m) := cell_now hb1 HM.out
  have HB1 := Lib.hid hb1
  have HM1 := Lib.hid hm1
  clear hb1 hm1 HM
  by_cases h1 : S.length ≤ 1500
  · have h1I : ¬ (1500 : Int) < (S.length : Int) := by omega
    go_wp2_with fail
    refine (form_any S m w1 HM1.out (by omega)).mono ?_
    rintro e w2 ⟨⟨a, c, rfl, hr2⟩, hb2⟩
    have HB2 := Lib.hid (HB1.out.trans (hb2.mono HB1.out.size))
    have HR2 := Lib.hid hr2
    clear hb2 HB1 hr2 HM1
    go_wp2_with fail
    refine (refform_any S w2 (by omega)).mono ?_
    rintro e w3 ⟨⟨a2, c2, rfl, hr3⟩, hb3⟩
    have HRA := Lib.hid (HR2.out.below hb3)
    have HRB := Lib.hid hr3
    have HB3 := Lib.hid (HB2.out.trans (hb3.mono HB2.out.size))
    clear hb3 HB2 hr3 HR2
    have hfl := formR_len S
    have hun := formR_unlike S
    generalize formR S = R at *
    obtain ⟨L, er⟩ := R
    simp only at HRA HRB hfl hun ⊢
    have HUN := Lib.hid hun
    clear hun
    go_wp2_with fail
    go_loopg [40] L.length (fun k y wr => ∃ j : Nat, y = .int .i64 (j : Int) ∧ j + k = L.length ∧ Hid (Below w3.heap.size w3 wr))
    case atStart => exact ⟨0, rfl, by omega, Lib.hid (Below.refl _ _)⟩
    case round =>
      obtain ⟨j, rfl, hj, HB⟩ := hrel
      have hszB : w3.heap.size ≤ wr.heap.size := HB.out.size
      by_cases hlt : j < L.length
      · have hltI : (j : Int) < (L.length : Int) := by omega
        have hgo := getL_own L HUN.out j hlt
        obtain ⟨b1, off1, rfl, c11, c12⟩ := pair_get (HRA.out.below HB.out) hlt
        obtain ⟨b2, off2, rfl, c21, c22⟩ := pair_get (HRB.out.below HB.out) hlt
        generalize L[j] = p at *
        obtain ⟨pn, pv⟩ := p
        simp only at c11 c12 c21 c22 hgo
        have HGO := Lib.hid hgo
        clear hgo
        go_wp2_with fail
        have hba : Below wr.heap.size wr (wr.alloc (.cells #[.string ⟨pn.toArray⟩, .string ⟨pv.toArray⟩] 38)) := (Below.refl _ _).alloc (Nat.le_refl _) _
        have hkp := heap_alloc_new wr (.cells #[.string ⟨pn.toArray⟩, .string ⟨pv.toArray⟩] 38)
        have d0 : (wr.alloc (.cells #[.string ⟨pn.toArray⟩, .string ⟨pv.toArray⟩] 38)).cell? ⟨wr.heap.size, 0, none⟩ = some (.string ⟨pn.toArray⟩) := by rw [Lib.cell_of_heap hkp]; rfl
        have d1 : (wr.alloc (.cells #[.string ⟨pn.toArray⟩, .string ⟨pv.toArray⟩] 38)).cell? ⟨wr.heap.size, 1, none⟩ = some (.string ⟨pv.toArray⟩) := by rw [Lib.cell_of_heap hkp]; rfl
        have x1 := (hba.cell (World.block_lt_of_cell? _ _ c21)).trans c21
        have x2 := (hba.cell (World.block_lt_of_cell? _ _ c22)).trans c22
        have HB1 := Lib.hid (HB.out.trans (hba.mono hszB))
        clear hba hkp c11 c12 c21 c22 HB
        generalize (wr.alloc (.cells #[.string ⟨pn.toArray⟩, .string ⟨pv.toArray⟩] 38)) = wn at *
        go_quiet (fail)
        go_wp2_with fail
        have HB5 := Lib.hid (below_drewN HB1.out nq)
        refine (get_any (some ⟨b1, off1, none⟩) c L pn (wn.drewN nq) (HRA.out.below HB5.out) (by omega)).mono ?_
        rintro e w4 ⟨rfl, hb4⟩
        have d2 : w4.cell? ⟨wr.heap.size, 1, none⟩ = some (.string ⟨pv.toArray⟩) := (hb4.cell (World.block_lt_of_cell? _ _ d1)).trans d1
        have HB6 := Lib.hid (HB5.out.trans (hb4.mono HB5.out.size))
        clear hb4 d0 d1 x1 x2 HB1 HB5
        unfold getV
        rw [HGO.out]
        go_wp2_with fail
        go_roundg (gk - 1)
        case measure => omega
        case rel => exact ⟨j + 1, by first | rfl | (congr 1), by omega, HB6⟩
      · have hltI : ¬ (j : Int) < (L.length : Int) := by omega
        have hge := getL_empty L HUN.out
        have HGE := Lib.hid hge
        clear hge
        go_wp2_with fail
        refine (get_any a _ L [] wr (HRA.out.below HB.out) (by omega)).mono ?_
        rintro e w4 ⟨rfl, hb4⟩
        unfold getV
        rw [HGE.out]
        have HB4 := Lib.hid (HB3.out.trans ((HB.out.trans (hb4.mono hszB)).mono HB3.out.size))
        clear hb4
        go_wp2_with fail
        refine bodyPost_ret (results_tmp rfl _ _ _) rfl ?_
        exact ⟨rfl, HB4.out⟩
  · have h1I : (1500 : Int) < (S.length : Int) := by omega
    go_wp2_with fail
    refine bodyPost_ret (results_tmp rfl _ _ _) rfl ?_
    exact ⟨rfl, HB1.out⟩
end Go.Proofs.YtgmieceebchmfaaDoor
