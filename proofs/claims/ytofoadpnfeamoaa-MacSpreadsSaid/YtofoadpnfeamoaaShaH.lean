/- Package klaxonlaw01: the anchor; ShaBytes, ShaOwn. -/
import Derived.Test.YtofoadpnfeamoaaShaG
import Derived.Test.YtofoadpnfeamoaaGrow
import Derived.Lib.SlBytesConst
set_option linter.unusedVariables false
namespace Go.Proofs.Ytofoadpnfeamoaa
open Go.RowKit

theorem HM.keeps {B : Nat} {f : Nat → Prop} {w w' : World} {p : Nat} {v : Value} {m : List UInt8} (h : HM B w p v m) (hk : Keeps f w w') (h1 : ¬ f p) (h2 : ∀ k, v.ownBlock = some k → ¬ f k) : HM B w' p v m :=
  HAt.keep h (hk.block p (Array.getElem?_eq_some_iff.1 h.blk).1 h1) fun k e => hk.block k (h.tl.lt k e).2 (h2 k e)

theorem Tl.own_shape {B : Nat} {w : World} {v : Value} {l : List UInt8} (h : Tl B w v l) : ∃ a c, v = .slice a l.length c ∧ Rd w a l := by
  obtain ⟨a, c, h1, h2, _⟩ := h.shape
  exact ⟨a, c, h1, h2⟩

set_option maxHeartbeats 1000000 in
theorem anchor01_any (w : World) : Calls Try.prog 22 #[] w fun e w' => e = .returned (.bool true) ∧ Below w.heap.size w w' := by
  have kc := fun (w : World) (C : Array Value) (n c : Nat) => Lib.run_convert_bytes_const (P := Try.prog) w 22 5 C n c Try.underlying22 Try.underlying5
  go_enter Try.func22, Try.ntmps22
  go_wp2_with fail
  have hb1 : Below w.heap.size w (w.alloc (.cells #[.int .u8 97, .int .u8 98, .int .u8 99] 5 (3, 4))) := (Below.refl _ _).alloc (Nat.le_refl _) _
  have hrd : Rd (w.alloc (.cells #[.int .u8 97, .int .u8 98, .int .u8 99] 5 (3, 4))) (some ⟨w.heap.size, 0, none⟩) [97, 98, 99] := Rd.of_lit (T := 5) (fr := (3, 4)) [97, 98, 99] (by rw [heap_alloc_new]; rfl)
  have hb2 := hb1.alloc hb1.size (.cells #[.slice (some ⟨w.heap.size, 0, none⟩) 3 3] 22)
  have hrs := RdS.one (c := 3) hrd 22
  rw [show (w.alloc (.cells #[.int .u8 97, .int .u8 98, .int .u8 99] 5 (3, 4))).heap.size = w.heap.size + 1 by simp] at hrs
  refine (sum_any [[97, 98, 99]] (some ⟨w.heap.size + 1, 0, none⟩) 1 1 _ hrs rfl (by decide) (by decide)).mono ?_
  rintro e w1 ⟨v', rfl, ht, hb⟩
  have hb3 := hb2.trans (hb.mono hb2.size)
  have hs : sha [[97, 98, 99]].flatten = [0xba, 0x78, 0x16, 0xbf, 0x8f, 0x01, 0xcf, 0xea, 0x41, 0x41, 0x40, 0xde, 0x5d, 0xae, 0x22, 0x23, 0xb0, 0x03, 0x61, 0xa3, 0x96, 0x17, 0x7a, 0x9c, 0xb4, 0x10, 0xff, 0x61, 0xf2, 0x00, 0x15, 0xad] := by
    rw [show ([[97, 98, 99]] : List (List UInt8)).flatten = [0x61, 0x62, 0x63] from rfl, sha_abc]
  rw [hs] at ht
  obtain ⟨a, c, rfl, hr, _⟩ := ht.shape
  have hcv := str_of_rd hr 32 c rfl
  clear hb hb1 hb2 hr hrs hrd ht
  have HB := Lib.hid hb3
  clear hb3 hs
  go_wp2_with fail
  go_ret
  exact ⟨rfl, HB.out⟩
end Go.Proofs.Ytofoadpnfeamoaa
