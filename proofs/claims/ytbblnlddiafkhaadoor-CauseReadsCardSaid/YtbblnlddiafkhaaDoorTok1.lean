/- token.known; a copy of bytes. -/
import Derived.Test.YtbblnlddiafkhaaDoorShelf
import Derived.Test.YtbblnlddiafkhaaDoorRd
import Derived.Test.YtbblnlddiafkhaaDoorDig
import Derived.WalkKit
import Derived.WalkSpells
set_option linter.unusedVariables false
namespace Go.Proofs.YtbblnlddiafkhaaDoor
open Go.RowKit

def knownB (k : UInt8) : Bool := decide (k = 99) || decide (k = 97) || decide (k = 114) || decide (k = 115)
theorem known_idx : ∀ n : Fin 256, decide (0 ≤ Lib.indexByte [99, 97, 114, 115] (UInt8.ofNat n.1)) = knownB (UInt8.ofNat n.1) := by decide +kernel
theorem known_c (k : UInt8) : decide (0 ≤ Lib.indexByte [99, 97, 114, 115] k) = knownB k := by
  have := known_idx ⟨k.toNat, UInt8.toNat_lt k⟩
  simpa only [UInt8.ofNat_toNat] using this
set_option maxRecDepth 100000 in
set_option maxHeartbeats 2000000 in
theorem known_any (k : UInt8) (w : World) :
    Calls Tryd.prog 28 #[.int .u8 (k.toNat : Int)] w fun e w' => e = .returned (.bool (knownB k)) ∧ w' = w := by
  have h := Tryd.strings_IndexByte ⟨#[99, 97, 114, 115]⟩ (k.toNat : Int) w
  rw [show ((k.toNat : Nat) : Int).toNat.toUInt8 = k by simp [Nat.toUInt8]] at h
  have hk := known_c k
  have H := Lib.hid h
  have HK := Lib.hid hk
  clear h hk
  go_enter Tryd.func28, Tryd.ntmps28
  go_wp2_with fail
  refine H.out.mono ?_
  rintro e w1 ⟨rfl, rfl⟩
  go_wp2_with fail
  go_ret
  exact ⟨by rw [← HK.out]; rfl, rfl⟩

set_option maxRecDepth 100000 in
set_option maxHeartbeats 2000000 in
theorem clone_any (a : Addr) (c : Nat) (l : List UInt8) (w : World) (hr : Rd w (some a) l) (hl : l.length ≤ 1000000) (hne : l ≠ []) :
    Calls Tryd.prog 27 #[.slice (some a) l.length c] w fun e w' => ∃ v, e = .returned v ∧ Own w.heap.size w' v l ∧ Below w.heap.size w w' := by
  have HR := Lib.hid hr
  clear hr
  go_enter Tryd.func27, Tryd.ntmps27
  have q := fun (w : World) (a : Option Addr) (n c n' c' : Nat) => Lib.run_eql_slice_nil (P := Tryd.prog) w 28 5 a n c n' c' Tryd.underlying28
  have hown : Own w.heap.size (w.alloc (.cells #[] 5)) (.slice (some ⟨w.heap.size, 0, none⟩) 0 0) [] := World.ownsRow_made w #[] 0 (Nat.le_refl _) (by decide) rfl
  have hba : Below w.heap.size w (w.alloc (.cells #[] 5)) := (Below.refl _ _).alloc (Nat.le_refl _) _
  have hra := HR.out.below hba
  have HO := Lib.hid hown
  have HB := Lib.hid hba
  have HRA := Lib.hid hra
  have hsz := hba.size
  clear hown hba hra
  go_wp2_with (at_builtin; go_loud (refine wpList_append_rd rfl (.tmp 5) (.tmp 6) rfl w.heap.size _ [] rfl HO.out (some a) l l.length c rfl rfl HRA.out ?c1 ?c2 ?_))
  case c1 => simp; omega
  case c2 => exact hsz
  intro v1 w3 hown hgrow
  have HB3 := Lib.hid (below_grow HB.out HO.out hgrow hsz)
  have HW3 := Lib.hid hown
  clear hown hgrow
  go_wp2_with fail
  go_ret
  exact ⟨_, rfl, HW3.out, HB3.out⟩

set_option maxRecDepth 100000 in
set_option maxHeartbeats 4000000 in
theorem refknown_any (k : UInt8) (w : World) :
    Calls Tryd.prog 15 #[.int .u8 (k.toNat : Int)] w fun e w' => e = .returned (.bool (knownB k)) ∧ w' = w := by
  have hb : ∀ m : UInt8, (((k.toNat : Nat) : Int) == (m.toNat : Int)) = decide (k = m) := by
    intro m
    rw [Bool.eq_iff_iff]
    simp only [beq_iff_eq, decide_eq_true_eq]
    exact ⟨fun e => UInt8.toNat_inj.1 (by omega), fun e => by rw [e]⟩
  have h1 := hb 99
  have h2 := hb 97
  have h3 := hb 114
  have h4 := hb 115
  clear hb
  have hv : knownB k = (decide (k = 99) || decide (k = 97) || decide (k = 114) || decide (k = 115)) := rfl
  have HV := Lib.hid hv
  clear hv
  have e1 : ((UInt8.toNat 99 : Nat) : Int) = 99 := rfl
  have e2 : ((UInt8.toNat 97 : Nat) : Int) = 97 := rfl
  have e3 : ((UInt8.toNat 114 : Nat) : Int) = 114 := rfl
  have e4 : ((UInt8.toNat 115 : Nat) : Int) = 115 := rfl
  rw [e1] at h1
  rw [e2] at h2
  rw [e3] at h3
  rw [e4] at h4
  clear e1 e2 e3 e4
  generalize decide (k = 99) = p1 at *
  generalize decide (k = 97) = p2 at *
  generalize decide (k = 114) = p3 at *
  generalize decide (k = 115) = p4 at *
  cases p1 <;> cases p2 <;> cases p3 <;> cases p4 <;>
  · go_enter Tryd.func15, Tryd.ntmps15
    go_wp2_with fail
    go_ret
    exact ⟨by rw [HV.out]; rfl, rfl⟩
end Go.Proofs.YtbblnlddiafkhaaDoor
