/- text.free. -/
import Derived.Test.YtgmieceebchmfaaDoorTxtD
import Derived.Test.YtgmieceebchmfaaDoorTxtE
import Derived.Test.YtgmieceebchmfaaDoorBuildS
set_option linter.unusedVariables false
namespace Go.Proofs.YtgmieceebchmfaaDoor
open Go.RowKit

theorem idx_fin : ∀ c : Fin 256, (false || false || false || decide (c.val = 45) || decide (c.val = 46) || decide (c.val = 95) || decide (c.val = 42)) = decide (0 ≤ Lib.indexByte [45, 46, 95, 42] c.val.toUInt8) := by decide +kernel
theorem idx_plain (c : UInt8) : (false || false || false || decide (c.toNat = 45) || decide (c.toNat = 46) || decide (c.toNat = 95) || decide (c.toNat = 42)) = decide (0 ≤ Lib.indexByte (⟨#[45, 46, 95, 42]⟩ : ByteArray).data.toList (((c.toNat : Nat) : Int).toNat.toUInt8)) :=
  idx_fin ⟨c.toNat, UInt8.toNat_lt c⟩

set_option maxRecDepth 100000 in
set_option maxHeartbeats 4000000 in
theorem free_any (c : UInt8) (w : World) :
    Calls Tryd.prog 29 #[.int .u8 (c.toNat : Nat)] w fun e w' => e = .returned (.bool (freeB c.toNat)) ∧ Below w.heap.size w w' := by
  go_enter Tryd.func29, Tryd.ntmps29
  go_wp2_with fail
  refine (has_any 65 90 c.toNat _).mono ?_
  rintro e w1 ⟨rfl, hb⟩
  have HBk := Lib.hid hb
  clear hb
  cases h0 : hasB (65, 90) c.toNat with
  | true =>
    have hfr : freeB c.toNat = true := by unfold freeB; rw [h0]; simp
    have HFR := Lib.hid hfr
    clear hfr h0
    go_wp2_with fail
    refine bodyPost_ret (results_tmp rfl _ _ _) rfl ?_
    exact ⟨by rw [HFR.out]; rfl, HBk.out⟩
  | false =>
    go_wp2_with fail
    refine (has_any 97 122 c.toNat _).mono ?_
    rintro e w2 ⟨rfl, hb⟩
    have HBn := Lib.hid (HBk.out.trans (hb.mono HBk.out.size))
    clear HBk
    have HBk := HBn
    clear HBn
    clear hb
    cases h1 : hasB (97, 122) c.toNat with
    | true =>
      have hfr : freeB c.toNat = true := by unfold freeB; rw [h0, h1]; simp
      have HFR := Lib.hid hfr
      clear hfr h0 h1
      go_wp2_with fail
      refine bodyPost_ret (results_tmp rfl _ _ _) rfl ?_
      exact ⟨by rw [HFR.out]; rfl, HBk.out⟩
    | false =>
      go_wp2_with fail
      refine (has_any 48 57 c.toNat _).mono ?_
      rintro e w3 ⟨rfl, hb⟩
      have HBn := Lib.hid (HBk.out.trans (hb.mono HBk.out.size))
      clear HBk
      have HBk := HBn
      clear HBn
      clear hb
      cases h2 : hasB (48, 57) c.toNat with
      | true =>
        have hfr : freeB c.toNat = true := by unfold freeB; rw [h0, h1, h2]; simp
        have HFR := Lib.hid hfr
        clear hfr h0 h1 h2
        go_wp2_with fail
        refine bodyPost_ret (results_tmp rfl _ _ _) rfl ?_
        exact ⟨by rw [HFR.out]; rfl, HBk.out⟩
      | false =>
        go_wp2_with fail
        refine (Tryd.strings_IndexByte ⟨#[45, 46, 95, 42]⟩ _ _).mono ?_
        rintro e w9 ⟨rfl, rfl⟩
        obtain ⟨X, hX⟩ : ∃ X, Lib.indexByte (⟨#[45, 46, 95, 42]⟩ : ByteArray).data.toList (((c.toNat : Nat) : Int).toNat.toUInt8) = X := ⟨_, rfl⟩
        rw [hX]
        have hfr : freeB c.toNat = decide (0 ≤ X) := by
          rw [← hX]
          unfold freeB
          rw [h0, h1, h2]
          exact idx_plain c
        clear hX
        have HFR := Lib.hid hfr
        clear hfr h0 h1 h2
        by_cases hx : 0 ≤ X
        · have HFR1 := Lib.hid (HFR.out.trans (decide_eq_true hx))
          clear HFR
          go_wp2_with fail
          refine bodyPost_ret (results_tmp rfl _ _ _) rfl ?_
          exact ⟨by rw [HFR1.out]; first | rfl | simp [hx, Array.getD], HBk.out⟩
        · have HFR1 := Lib.hid (HFR.out.trans (decide_eq_false hx))
          clear HFR
          go_wp2_with fail
          refine bodyPost_ret (results_tmp rfl _ _ _) rfl ?_
          exact ⟨by rw [HFR1.out]; first | rfl | simp [hx, Array.getD], HBk.out⟩
end Go.Proofs.YtgmieceebchmfaaDoor
