/- The anchor of layer 5. -/
import Derived.Test.YtgmieceebchmfaaDoorTxtL
set_option linter.unusedVariables false
namespace Go.Proofs.YtgmieceebchmfaaDoor
open Go.RowKit

theorem anchor_form : formR [120, 61, 49, 38, 121, 61, 37, 67, 51, 37, 65, 57] = ([([120], [49]), ([121], [195, 169])], 0) := by decide +kernel
theorem anchor_esc : escT [97, 32, 98, 38, 99] = [97, 43, 98, 37, 50, 54, 99] := by decide +kernel
theorem anchor_told : toldB [] = true ∧ toldB [255] = false := by decide +kernel

set_option maxRecDepth 100000 in
set_option maxHeartbeats 4000000 in
theorem anchor05_any (m : Int) (w : World) (hm : w.cell? ⟨0, 0, none⟩ = some (.int .i64 m)) :
    Calls Tryd.prog 11 #[] w fun e w' => e = .returned (.bool true) ∧ Below w.heap.size w w' := by
  have HF := Lib.hid (form_any [120, 61, 49, 38, 121, 61, 37, 67, 51, 37, 65, 57] m w hm (by decide))
  go_enter Tryd.func11, Tryd.ntmps11
  go_wp2_with fail
  refine HF.out.mono ?_
  rintro e w1 ⟨hfi, hb1⟩
  unfold FormIs at hfi
  rw [anchor_form] at hfi
  obtain ⟨a, c, rfl, hrc⟩ := hfi
  have HRC := Lib.hid hrc
  have HB1 := Lib.hid hb1
  clear hrc hb1 HF
  simp only [List.length_cons, List.length_nil]
  go_wp2_with fail
  refine (escape_any [97, 32, 98, 38, 99] w1 (by decide)).mono ?_
  rintro e w2 ⟨rfl, hb2⟩
  obtain ⟨b, off, rfl, c1, c2⟩ := pair_get (HRC.out.below hb2) (show 1 < 2 by omega)
  simp only [List.getElem_cons_succ, List.getElem_cons_zero] at c1 c2
  have HB2 := Lib.hid (HB1.out.trans (hb2.mono HB1.out.size))
  clear hb2 HB1 HRC
  rw [anchor_esc]
  go_wp2_with fail
  refine (told_any [] w2 (by decide)).mono ?_
  rintro e w3 ⟨rfl, hb3⟩
  have HB3 := Lib.hid (HB2.out.trans (hb3.mono HB2.out.size))
  clear hb3 HB2
  rw [anchor_told.1]
  go_wp2_with fail
  refine (told_any [255] w3 (by decide)).mono ?_
  rintro e w4 ⟨rfl, hb4⟩
  have HB4 := Lib.hid (HB3.out.trans (hb4.mono HB3.out.size))
  clear hb4 HB3
  rw [anchor_told.2]
  go_wp2_with fail
  refine bodyPost_ret (results_tmp rfl _ _ _) rfl ?_
  exact ⟨rfl, HB4.out⟩
end Go.Proofs.YtgmieceebchmfaaDoor
