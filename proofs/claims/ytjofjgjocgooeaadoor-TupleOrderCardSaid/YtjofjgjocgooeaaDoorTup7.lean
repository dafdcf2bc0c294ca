/- The walk of the law TupleOrder. -/
import Derived.Test.YtjofjgjocgooeaaDoorTupF
import Derived.Test.YtjofjgjocgooeaaDoorTupQ
set_option linter.unusedVariables false
namespace Go.Proofs.YtjofjgjocgooeaaDoor
open Go.RowKit

set_option maxRecDepth 100000 in
set_option maxHeartbeats 8000000 in
theorem tupleOrder_walk (a : Option Addr) (c : Nat) (l : List TP) (a' : Option Addr) (c' : Nat) (m : List TP) (w : World) (hr : RdP w a l ∧ (∀ p ∈ l, p.ok) ∧ l.length ≤ maxLen) (hr' : RdP w a' m ∧ (∀ p ∈ m, p.ok) ∧ m.length ≤ maxLen) (hm : ∃ m, w.cell? ⟨0, 0, none⟩ = some (.int .i64 m)) :
    Calls Tryd.prog 5 #[.slice a l.length c, .slice a' m.length c'] w fun e w' => e = .returned (.bool true) ∧ Below w.heap.size w w' := by
  obtain ⟨ml, hm⟩ := hm
  obtain ⟨hrd, hok, hlm⟩ := hr
  obtain ⟨hrd', hok', hlm'⟩ := hr'
  have HM := Lib.hid hm
  have HR := Lib.hid hrd
  have HR' := Lib.hid hrd'
  have HO := Lib.hid hok
  have HO' := Lib.hid hok'
  have HA := Lib.hid (cmpK_anti l m)
  have hn := cmpK_rng l m
  clear hm hrd hrd' hok hok'
  go_enter Tryd.func5, Tryd.ntmps5
  go_wp2_with fail
  refine (anchor10_any ml _ HM.out).mono ?_
  rintro e w1 ⟨rfl, hb1⟩
  have HB1 := Lib.hid hb1
  clear hb1
  go_wp2_with fail
  refine (both_any a c l w1 (HR.out.below HB1.out) hlm).mono ?_
  rintro e w2 ⟨hx, hb2⟩
  have HB2 := Lib.hid (HB1.out.trans (hb2.mono HB1.out.size))
  clear hb2 HB1
  rcases hx with ⟨hy, ax, cx, rfl, hrx⟩ | ⟨hy, rfl⟩
  · have HRX := Lib.hid hrx
    have HY := Lib.hid (bothB_iff.1 hy)
    clear hrx hy
    go_wp2_with fail
    refine (both_any a' c' m w2 (HR'.out.below HB2.out) hlm').mono ?_
    rintro e w3 ⟨hx, hb3⟩
    have HRX3 := Lib.hid (HRX.out.below hb3)
    have HB3 := Lib.hid (HB2.out.trans (hb3.mono HB2.out.size))
    clear hb3 HB2 HRX
    rcases hx with ⟨hy, ay, cy, rfl, hry⟩ | ⟨hy, rfl⟩
    · have HRY := Lib.hid hry
      have HY' := Lib.hid (bothB_iff.1 hy)
      clear hry hy
      go_wp2_with fail
      refine (refcompare_any ax ay cx cy l m w3 (RdP.of_c HRX3.out) (RdP.of_c HRY.out) (by have := HY.out.1; omega) (by have := HY'.out.1; omega)).mono ?_
      rintro e w4 ⟨rfl, hb4⟩
      have HB4 := Lib.hid (HB3.out.trans (hb4.mono HB3.out.size))
      clear hb4 HB3 HRX3 HRY
      go_wp2_with fail
      refine (compare_any a a' c c' l m w4 (HR.out.below HB4.out) (HR'.out.below HB4.out) (by have := HY.out.1; omega) (by have := HY'.out.1; omega)).mono ?_
      rintro e w5 ⟨rfl, hb5⟩
      have HB5 := Lib.hid (HB4.out.trans (hb5.mono HB4.out.size))
      clear hb5 HB4
      go_wp2_with fail
      refine (key_any a c l ml w5 (HR.out.below HB5.out) (by rw [HB5.out.cell (World.block_lt_of_cell? _ _ HM.out)]; exact HM.out) HO.out (fun p hp => by have := HY.out.2 p hp; omega) (by have := HY.out.1; omega)).mono ?_
      rintro e w6 ⟨rfl, hb6⟩
      have HB6 := Lib.hid (HB5.out.trans (hb6.mono HB5.out.size))
      clear hb6 HB5
      go_wp2_with fail
      refine (key_any a' c' m ml w6 (HR'.out.below HB6.out) (by rw [HB6.out.cell (World.block_lt_of_cell? _ _ HM.out)]; exact HM.out) HO'.out (fun p hp => by have := HY'.out.2 p hp; omega) (by have := HY'.out.1; omega)).mono ?_
      rintro e w7 ⟨rfl, hb7⟩
      have HB7 := Lib.hid (HB6.out.trans (hb7.mono HB6.out.size))
      clear hb7 HB6
      go_wp2_with fail
      refine (Tryd.strings_Compare ⟨(keyB l).toArray⟩ ⟨(keyB m).toArray⟩ w7).mono ?_
      rintro e w8 ⟨rfl, rfl⟩
      have hck : Lib.compareBytes (⟨(keyB l).toArray⟩ : ByteArray).data.toList (⟨(keyB m).toArray⟩ : ByteArray).data.toList = cmpK l m := cmp_keyB l m HO.out HO'.out
      rw [hck]
      clear hck
      go_wp2_with fail
      refine (compare_any a' a c' c m l w8 (HR'.out.below HB7.out) (HR.out.below HB7.out) (by have := HY'.out.1; omega) (by have := HY.out.1; omega)).mono ?_
      rintro e w9 ⟨rfl, hb9⟩
      have HB9 := Lib.hid (HB7.out.trans (hb9.mono HB7.out.size))
      clear hb9 HB7
      rw [HA.out]
      go_wp2_with fail
      refine bodyPost_ret (results_tmp rfl _ _ _) rfl ?_
      exact ⟨rfl, HB9.out⟩
    · go_wp2_with fail
      refine bodyPost_ret (results_tmp rfl _ _ _) rfl ?_
      exact ⟨rfl, HB3.out⟩
  · go_wp2_with fail
    refine (both_any a' c' m w2 (HR'.out.below HB2.out) hlm').mono ?_
    rintro e w3 ⟨hx, hb3⟩
    have HB3 := Lib.hid (HB2.out.trans (hb3.mono HB2.out.size))
    clear hb3 HB2
    rcases hx with ⟨hy, ay, cy, rfl, hry⟩ | ⟨hy, rfl⟩
    · have HRY := Lib.hid hry
      clear hry
      go_wp2_with fail
      refine bodyPost_ret (results_tmp rfl _ _ _) rfl ?_
      exact ⟨rfl, HB3.out⟩
    · go_wp2_with fail
      refine bodyPost_ret (results_tmp rfl _ _ _) rfl ?_
      exact ⟨rfl, HB3.out⟩
end Go.Proofs.YtjofjgjocgooeaaDoor
