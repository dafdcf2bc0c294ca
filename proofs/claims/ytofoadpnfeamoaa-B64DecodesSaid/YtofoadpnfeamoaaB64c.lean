/- The laws of package b64: the anchor; B64Parts. -/
import Derived.Test.YtofoadpnfeamoaaB64b
import Derived.Test.YtofoadpnfeamoaaB64q
import Derived.Lib.SlBytesConst
namespace Go.Proofs.Ytofoadpnfeamoaa
open Go.RowKit

theorem enc_f : enc [102] = [90, 103] := by decide
theorem enc_fo : enc [102, 111] = [90, 109, 56] := by decide
theorem enc_foo : enc [102, 111, 111] = [90, 109, 57, 118] := by decide
theorem enc_fb : enc [251, 255] = [45, 95, 56] := by decide

/-- Encode of a row that the call has just laid. -/
theorem Encode_new (l : List UInt8) (cp n : Nat) (w w1 : World) (r : List UInt8) (fr : Nat × Nat) (hw : w1 = w.alloc (.cells (Lib.byteCells l).toArray 5 fr)) (hn : n = l.length) (hr : enc l = r) (hl : l.length ≤ 1000000) :
    Calls Try.prog 20 #[.slice (some ⟨w.heap.size, 0, none⟩) n cp] w1 fun e w' => e = .returned (.string ⟨r.toArray⟩) ∧ Below w.heap.size w w' := by
  subst hn hr
  have hR : Rd w1 (some ⟨w.heap.size, 0, none⟩) l := by rw [hw]; exact Rd.of_lit l (heap_alloc_new w _)
  refine (Encode_any _ l cp w1 hR hl).mono ?_
  rintro e w' ⟨rfl, hb⟩
  refine ⟨rfl, ?_⟩
  have h1 : Below w.heap.size w w1 := by rw [hw]; exact (Below.refl _ _).alloc (Nat.le_refl _) _
  exact h1.trans (hb.mono (by rw [hw]; simp))

set_option maxHeartbeats 1000000 in
theorem anchor04 (w : World) : Calls Try.prog 19 #[] w fun e w' => e = .returned (.bool true) ∧ Below w.heap.size w w' := by
  have kc := fun (w : World) (C : Array Value) (n c : Nat) => Lib.run_convert_bytes_const (P := Try.prog) w 22 5 C n c Try.underlying22 Try.underlying5
  go_enter Try.func19, Try.ntmps19
  go_wp2_with fail
  refine (Encode_new [102] _ _ w _ _ _ rfl rfl enc_f (by decide)).mono ?_
  rintro e w1 ⟨rfl, hb1⟩
  go_wp2_with fail
  refine (Encode_new [102, 111] _ _ w1 _ _ _ rfl rfl enc_fo (by decide)).mono ?_
  rintro e w2 ⟨rfl, hb2⟩
  go_wp2_with fail
  refine (Encode_new [102, 111, 111] _ _ w2 _ _ _ rfl rfl enc_foo (by decide)).mono ?_
  rintro e w3 ⟨rfl, hb3⟩
  go_wp2_with fail
  refine (Encode_new [251, 255] _ _ w3 _ _ _ rfl rfl enc_fb (by decide)).mono ?_
  rintro e w4 ⟨rfl, hb4⟩
  go_wp2_with fail
  go_ret
  exact ⟨rfl, ((hb1.trans (hb2.mono hb1.size)).trans (hb3.mono (Nat.le_trans hb1.size hb2.size))).trans (hb4.mono (Nat.le_trans hb1.size (Nat.le_trans hb2.size hb3.size)))⟩
theorem gt_true {a b : Nat} (h : b < a) : decide ((b : Int) < (a : Int)) = true := by simp; omega

set_option maxHeartbeats 1000000 in
theorem B64Parts_any (a0 : Option Addr) (c0 : Nat) (l : List UInt8) (a1 : Option Addr) (c1 : Nat) (m : List UInt8) (w : World) (h0 : Rd w a0 l) (h1 : Rd w a1 m) :
    Calls Try.prog 3 #[.slice a0 l.length c0, .slice a1 m.length c1] w fun e w' => e = .returned (.bool true) ∧ Below w.heap.size w w' := by
  go_enter Try.func3, Try.ntmps3
  go_wp2_with fail
  refine (anchor04 w).mono ?_
  rintro e w1 ⟨rfl, hb1⟩
  have n3 : (l.length : Int) % 3 = ((l.length % 3 : Nat) : Int) := by omega
  by_cases k0 : 900 < l.length
  · go_wp2_with fail
    go_ret
    exact ⟨rfl, hb1⟩
  by_cases k1 : 900 < m.length
  · go_wp2_with fail
    go_ret
    exact ⟨rfl, hb1⟩
  by_cases k2 : l.length % 3 = 0
  · have k3 : (((l.length : Int) % 3) != 0) = false := by simp; omega
    have E := Lib.hid (enc_app l m k2)
    clear k2 n3
    go_wp2_with (at_builtin; refine wpList_append_rd rfl (.tmp 21) (.tmp 22) rfl w1.heap.size _ [] rfl (Own.empty w1) a0 l l.length c0 rfl rfl ((h0.below hb1).alloc _) ?c1 ?c2 ?_)
    case c1 => simp; omega
    case c2 => simp
    intro v2 w2 ho2 hg2
    have hB2 : Below w1.heap.size w1 w2 := below_grow ((Below.refl _ _).alloc (Nat.le_refl _) _) (Own.empty w1) hg2 (by simp)
    have hb2 : Below w.heap.size w w2 := hb1.trans (hB2.mono hb1.size)
    clear hg2
    go_wp2_with (at_builtin; refine wpList_append_rd rfl (.tmp 23) (.tmp 24) rfl w1.heap.size _ l rfl ho2 a1 m m.length c1 rfl rfl (h1.below hb2) ?c1 ?c2 ?_)
    case c1 => omega
    case c2 => exact hB2.size
    intro v3 w3 ho3 hg3
    have hB3 : Below w1.heap.size w1 w3 := below_grow hB2 ho2 hg3 hB2.size
    have hb3 : Below w.heap.size w w3 := hb1.trans (hB3.mono hb1.size)
    clear hg3 hB2 hb2 ho2
    obtain ⟨a3, c3, rfl, hr3⟩ := ho3.shape
    go_wp2_with fail
    refine (Encode_at a3 (l ++ m) _ c3 w3 hr3 (by simp) (by simp; omega)).mono ?_
    rintro e w4 ⟨rfl, hb4⟩
    have hB4 : Below w.heap.size w w4 := hb3.trans (hb4.mono hb3.size)
    go_wp2_with fail
    refine (Encode_any a0 l c0 w4 (h0.below hB4) (by omega)).mono ?_
    rintro e w5 ⟨rfl, hb5⟩
    have hB5 : Below w.heap.size w w5 := hB4.trans (hb5.mono hB4.size)
    go_wp2_with fail
    refine (Encode_any a1 m c1 w5 (h1.below hB5) (by omega)).mono ?_
    rintro e w6 ⟨rfl, hb6⟩
    have hB6 : Below w.heap.size w w6 := hB5.trans (hb6.mono hB5.size)
    have hle : (enc l).length + (enc m).length ≤ 10000 := by rw [enc_len, enc_len]; omega
    go_wp2_with fail
    go_ret
    refine ⟨?_, hB6⟩
    simp [E.out, ByteArray.mk_append_mk]
  · have k3 : (((l.length : Int) % 3) != 0) = true := by simp; omega
    clear n3
    go_wp2_with fail
    go_ret
    exact ⟨rfl, hb1⟩
end Go.Proofs.Ytofoadpnfeamoaa
