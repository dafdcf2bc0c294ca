/- The anchor of package b64's laws. -/
import Derived.Test.YtgmieceebchmfaaDoorB64b
import Derived.Test.YtgmieceebchmfaaDoorB64q
import Derived.Lib.SlBytesConst
namespace Go.Proofs.YtgmieceebchmfaaDoor
open Go.RowKit

theorem enc_f : enc [102] = [90, 103] := by decide
theorem enc_fo : enc [102, 111] = [90, 109, 56] := by decide
theorem enc_foo : enc [102, 111, 111] = [90, 109, 57, 118] := by decide
theorem enc_fb : enc [251, 255] = [45, 95, 56] := by decide

/-- Encode of a row that the call has just laid. -/
theorem Encode_new (l : List UInt8) (cp n : Nat) (w w1 : World) (r : List UInt8) (fr : Nat × Nat) (hw : w1 = w.alloc (.cells (Lib.byteCells l).toArray 5 fr)) (hn : n = l.length) (hr : enc l = r) (hl : l.length ≤ 1000000) :
    Calls Tryd.prog 40 #[.slice (some ⟨w.heap.size, 0, none⟩) n cp] w1 fun e w' => e = .returned (.string ⟨r.toArray⟩) ∧ Below w.heap.size w w' := by
  subst hn hr
  have hR : Rd w1 (some ⟨w.heap.size, 0, none⟩) l := by rw [hw]; exact Rd.of_lit l (heap_alloc_new w _)
  refine (Encode_any _ l cp w1 hR hl).mono ?_
  rintro e w' ⟨rfl, hb⟩
  refine ⟨rfl, ?_⟩
  have h1 : Below w.heap.size w w1 := by rw [hw]; exact (Below.refl _ _).alloc (Nat.le_refl _) _
  exact h1.trans (hb.mono (by rw [hw]; simp))

set_option maxHeartbeats 1000000 in
theorem anchor04 (w : World) : Calls Tryd.prog 22 #[] w fun e w' => e = .returned (.bool true) ∧ Below w.heap.size w w' := by
  have kc := fun (w : World) (C : Array Value) (n c : Nat) => Lib.run_convert_bytes_const (P := Tryd.prog) w 42 5 C n c Tryd.underlying42 Tryd.underlying5
  go_enter Tryd.func22, Tryd.ntmps22
  go_wp2_with fail
  refine (Encode_new [102] _ _ w _ _ _ rfl rfl enc_f (by decide)).mono ?_
  rintro e w1 ⟨rfl, hb1⟩
  go_wp2_with fail
  refine (Encode_new [102, 111] _ _ w1 _ _ _ rfl rfl enc_fo (by decide)).mono ?_
  rintro e w2 ⟨rfl, hb2⟩
  go_wp2_with fail
  refine (Encode_new [102, 111, 111] _ _ w2 _ _ _ rfl rfl enc_foo (by decide)).mono ?_
  rintro e w3 ⟨rfl, hb3⟩
  go_wp2_with fail
  refine (Encode_new [251, 255] _ _ w3 _ _ _ rfl rfl enc_fb (by decide)).mono ?_
  rintro e w4 ⟨rfl, hb4⟩
  go_wp2_with fail
  go_ret
  exact ⟨rfl, ((hb1.trans (hb2.mono hb1.size)).trans (hb3.mono (Nat.le_trans hb1.size hb2.size))).trans (hb4.mono (Nat.le_trans hb1.size (Nat.le_trans hb2.size hb3.size)))⟩
end Go.Proofs.YtgmieceebchmfaaDoor
