/- A part's bytes: a text's. -/
import Derived.Test.YtjofjgjocgooeaaDoorTupR
import Derived.Test.YtjofjgjocgooeaaDoorShelf
import Derived.Test.YtjofjgjocgooeaaDoorGrowB
import Derived.Test.YtjofjgjocgooeaaDoorSl
import Derived.Deep.LoopGhost
import Derived.Deep.DeepCutAuto
set_option linter.unusedVariables false
namespace Go.Proofs.YtjofjgjocgooeaaDoor
open Go.RowKit

set_option maxRecDepth 100000 in
set_option maxHeartbeats 4000000 in
theorem bytes_text (x m : Int) (s : ByteArray) (w : World) (hm : w.cell? ⟨0, 0, none⟩ = some (.int .i64 m)) (hs : s.size ≤ 1000000) :
    Calls Tryd.prog 24 #[.agg #[.bool false, .int .i64 x, .string s]] w fun e w' => e = .returned (.string ⟨(pb ⟨false, x, s.data.toList⟩).toArray⟩) ∧ Below w.heap.size w w' := by
  have hl : s.data.toList.length = s.size := by simp
  have hgl : 0 < w.heap.size := World.block_lt_of_cell? _ _ hm
  have hlt := Lib.count_le s.data.toList [0]
  have hce := Lib.count_one 0 s.data.toList
  have hel := esc_len s.data.toList
  rw [← hce] at hel
  have HM := Lib.hid hm
  have HL := Lib.hid hl
  have HLT := Lib.hid hlt
  have HEL := Lib.hid hel
  clear hm hl hlt hce hel
  go_enter Tryd.func24, Tryd.ntmps24
  go_wp2_with fail
  refine (Tryd.strings_ReplaceAll s ⟨#[0]⟩ ⟨#[0, 255]⟩ m _ (by omega) (by
    rw [((Below.refl w.heap.size w).alloc (Nat.le_refl _) _).cell (World.block_lt_of_cell? _ _ HM.out)]
    exact HM.out) (by decide) (by have := HLT.out; have := HL.out; show s.size + Lib.count s.data.toList [0] * 2 ≤ _; omega)).mono ?_
  rintro e w1 ⟨rfl, hb1⟩
  have hre : Lib.replaceAll s.data.toList (ByteArray.mk #[0]).data.toList (ByteArray.mk #[0, 255]).data.toList = esc s.data.toList := replaceAll_esc _
  rw [hre]
  obtain ⟨E, hE⟩ : ∃ E, esc s.data.toList = E := ⟨_, rfl⟩
  have hEl : E.length ≤ 3000000 := by rw [← hE, HEL.out]; have := HLT.out; have := HL.out; omega
  rw [hE]
  have HE := Lib.hid hE
  have HB1 := Lib.hid hb1
  clear hre hE hb1
  go_wp2_with fail
  refine bodyPost_ret (results_tmp rfl _ _ _) rfl ?_
  refine ⟨?_, ((Below.refl w.heap.size w).alloc (Nat.le_refl _) _).trans (HB1.out.mono (by simp))⟩
  have e : (⟨#[1]⟩ : ByteArray) ++ (⟨E.toArray⟩ : ByteArray) ++ (⟨#[0, 0]⟩ : ByteArray) = ⟨(1 :: (E ++ [0, 0])).toArray⟩ := by
    apply ByteArray.ext
    apply Array.ext'
    simp
  show Ending.returned (.string ((⟨#[1]⟩ : ByteArray) ++ (⟨E.toArray⟩ : ByteArray) ++ (⟨#[0, 0]⟩ : ByteArray))) = _
  rw [e, ← HE.out]
  rfl
end Go.Proofs.YtjofjgjocgooeaaDoor
