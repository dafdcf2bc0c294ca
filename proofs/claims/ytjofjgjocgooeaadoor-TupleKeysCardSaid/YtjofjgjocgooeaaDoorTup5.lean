/- The law's anchor. -/
import Derived.Test.YtjofjgjocgooeaaDoorTup4
import Derived.Test.YtjofjgjocgooeaaDoorTupT
set_option linter.unusedVariables false
namespace Go.Proofs.YtjofjgjocgooeaaDoor
open Go.RowKit

theorem anchor_key : keyB [⟨false, 0, [97]⟩, ⟨true, -1, []⟩] = [1, 97, 0, 0, 2, 127, 255, 255, 255, 255, 255, 255, 255] := by decide +kernel

set_option maxRecDepth 100000 in
set_option maxHeartbeats 4000000 in
theorem anchor10_any (m : Int) (w : World) (hm : w.cell? ⟨0, 0, none⟩ = some (.int .i64 m)) :
    Calls Tryd.prog 8 #[] w fun e w' => e = .returned (.bool true) ∧ Below w.heap.size w w' := by
  have HM := Lib.hid hm
  clear hm
  go_enter Tryd.func8, Tryd.ntmps8
  go_wp2_with fail
  refine (text_any ⟨#[97]⟩ _).mono ?_
  rintro e w1 ⟨rfl, hb1⟩
  have HB1 := Lib.hid hb1
  clear hb1
  go_wp2_with fail
  refine (num_any (-1) _).mono ?_
  rintro e w2 ⟨rfl, hb2⟩
  have HB2 := Lib.hid (HB1.out.trans (hb2.mono HB1.out.size))
  clear hb2 HB1
  go_wp2_with fail
  refine (key_any _ 2 [⟨false, 0, [97]⟩, ⟨true, -1, []⟩] m _ (.inr ⟨_, 0, rfl, ?hr⟩) ?hm ?hok (by intro p hp; simp at hp; rcases hp with rfl | rfl <;> simp) (by simp)).mono ?_
  case hr =>
    intro i hi
    simp only [List.length_cons, List.length_nil] at hi
    rcases i with _ | _ | i
    · exact ⟨by rw [Lib.cell_of_heap (heap_alloc_new _ _)]; rfl, by rw [Lib.cell_of_heap (heap_alloc_new _ _)]; rfl, by rw [Lib.cell_of_heap (heap_alloc_new _ _)]; rfl⟩
    · exact ⟨by rw [Lib.cell_of_heap (heap_alloc_new _ _)]; rfl, by rw [Lib.cell_of_heap (heap_alloc_new _ _)]; rfl, by rw [Lib.cell_of_heap (heap_alloc_new _ _)]; rfl⟩
    · omega
  case hm =>
    have hb := HB2.out.alloc HB2.out.size
    rw [(hb _).cell (World.block_lt_of_cell? _ _ HM.out)]
    exact HM.out
  case hok => intro p hp; simp at hp; rcases hp with rfl | rfl <;> simp [TP.ok]
  rintro e w3 ⟨rfl, hb3⟩
  have HB3 := Lib.hid ((HB2.out.alloc HB2.out.size _).trans (hb3.mono (by have := HB2.out.size; simp; omega)))
  clear hb3 HB2
  rw [anchor_key]
  go_wp2_with fail
  refine bodyPost_ret (results_tmp rfl _ _ _) rfl ?_
  exact ⟨rfl, HB3.out⟩
end Go.Proofs.YtjofjgjocgooeaaDoor
