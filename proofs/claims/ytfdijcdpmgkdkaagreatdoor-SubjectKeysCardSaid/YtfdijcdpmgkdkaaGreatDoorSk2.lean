/- Merged: Tup3, TupK, Tup4, TupB, Su8, Su9, OpnS. -/
import Derived.Laws.BitsAllLaws
import Derived.WideShapes
import Derived.ChangeMaps
import Derived.Test.YtfdijcdpmgkdkaaGreatDoorMg1
import Derived.Test.YtfdijcdpmgkdkaaGreatDoorMg2
import Derived.Test.YtfdijcdpmgkdkaaGreatDoorMg3
import Derived.Test.YtfdijcdpmgkdkaaGreatDoorMg4
import Derived.Test.YtfdijcdpmgkdkaaGreatDoorMg5
import Derived.Test.YtfdijcdpmgkdkaaGreatDoorMg6
import Derived.Test.YtfdijcdpmgkdkaaGreatDoorSk1
/- A part's bytes: a number's. -/
set_option linter.unusedVariables false
namespace Go.Proofs.YtfdijcdpmgkdkaaGreatDoor
open Go.RowKit

theorem below_grow_tl' {B : Nat} {a w w' : World} {v : Value} {l : List UInt8} (h : Below B a w) (ht : Tl B w v l) (hg : w.grownBy w' v.ownBlock) (hB : B ≤ w.heap.size) : Below B a w' :=
  h.grown hg hB (fun k hk => (ht.lt k hk).1)
theorem Tl.lit1 (w : World) (b : UInt8) : Tl w.heap.size (w.alloc (.cells #[.int .u8 (b.toNat : Nat)] 5)) (.slice (some ⟨w.heap.size, 0, none⟩) 1 1) [b] :=
  .inr ⟨w.heap.size, 0, 1, #[.int .u8 (b.toNat : Nat)], rfl, Nat.le_refl _, heap_alloc_new w _, by simp, by simp, by decide, fun j hj => by
    obtain rfl : j = 0 := by simp at hj; omega
    rfl⟩

set_option maxRecDepth 100000 in
set_option maxHeartbeats 4000000 in
theorem bytes_num (x : Int) (s : ByteArray) (w : World) (hx1 : -9223372036854775808 ≤ x) (hx2 : x < 9223372036854775808) :
    Calls Tryz.prog 100 #[.agg #[.bool true, .int .i64 x, .string s]] w fun e w' => e = .returned (.string ⟨(pb ⟨true, x, s.data.toList⟩).toArray⟩) ∧ Below w.heap.size w w' := by
  have hcv : IntKind.u64.wrap (IntKind.u64.wrap x + 9223372036854775808) = ((turnN x : Nat) : Int) := by
    rw [IntKind.wrap_u64, IntKind.wrap_u64]; unfold turnN; omega
  have hNl : turnN x < 256 ^ 8 := by unfold turnN; omega
  obtain ⟨N, hN⟩ : ∃ N, turnN x = N := ⟨_, rfl⟩
  rw [hN] at hcv hNl
  have HN := Lib.hid hN
  clear hN
  go_enter Tryz.func100, Tryz.ntmps100
  go_upto_region 6 with (fail)
  have ht0 : Tl w.heap.size ((w.alloc (.cells #[.bool true, .int .i64 x, .string s] 100)).alloc (.cells #[.int .u8 2] 5)) (.slice (some ⟨w.heap.size + 1, 0, none⟩) 1 1) [2] := by
    have h := Tl.lit1 (w.alloc (.cells #[.bool true, .int .i64 x, .string s] 100)) 2
    rw [show (w.alloc (.cells #[.bool true, .int .i64 x, .string s] 100)).heap.size = w.heap.size + 1 by simp] at h
    exact h.mono (by omega)
  have hb0 : Below w.heap.size w ((w.alloc (.cells #[.bool true, .int .i64 x, .string s] 100)).alloc (.cells #[.int .u8 2] 5)) := ((Below.refl _ _).alloc (Nat.le_refl _) _).alloc (by simp) _
  have HT0 := Lib.hid ht0
  have HB0 := Lib.hid hb0
  clear ht0 hb0
  go_loopg [5, 4] 8 (fun k y v wr => ∃ L : List UInt8, ∃ (a : Option Addr) (n c : Nat), y = .int .i64 ((k : Int) - 1) ∧ v = .slice a n c ∧ k ≤ 8 ∧ Hid (Tl w.heap.size wr (.slice a n c) L) ∧ Hid (L ++ beN k N = 2 :: beN 8 N) ∧ Hid (L.length + k ≤ 9) ∧ Hid (Below w.heap.size w wr))
  case atStart => exact ⟨[2], _, _, _, rfl, rfl, Nat.le_refl _, HT0, Lib.hid rfl, Lib.hid (Nat.le_refl _), HB0⟩
  case round =>
    obtain ⟨L, a, n, c, rfl, rfl, hk, HT, HI, HLL, HB⟩ := hrel
    clear HT0 HB0
    rcases (by omega : gk = 0 ∨ gk = 1 ∨ gk = 2 ∨ gk = 3 ∨ gk = 4 ∨ gk = 5 ∨ gk = 6 ∨ gk = 7 ∨ gk = 8) with rfl | rfl | rfl | rfl | rfl | rfl | rfl | rfl | rfl
    · obtain ⟨a', c', hsh, hrd, _⟩ := HT.out.shape
      simp only [Value.slice.injEq] at hsh
      obtain ⟨rfl, rfl, rfl⟩ := hsh
      have hcv2 := str_of_rd hrd _ c rfl
      go_wp2_with fail
      refine bodyPost_ret (results_tmp rfl _ _ _) rfl ?_
      refine ⟨?_, HB.out⟩
      have e : L = 2 :: beN 8 N := by have := HI.out; rw [show beN 0 N = [] from rfl, List.append_nil] at this; exact this
      show Ending.returned (.string ⟨L.toArray⟩) = _
      rw [e, ← HN.out]
      rfl
    · obtain ⟨D, hD⟩ : ∃ D, UInt8.ofNat (N / 256 ^ 0 % 256) = D := ⟨_, rfl⟩
      have hbw : IntKind.u8.wrap (((N : Nat) : Int) / 1) = ((D.toNat : Nat) : Int) := by rw [← hD, IntKind.wrap_u8, UInt8.toNat_ofNat']; omega
      have hbm : ((N : Nat) : Int) % 256 = ((D.toNat : Nat) : Int) := by rw [← hD, UInt8.toNat_ofNat']; omega
      have hL : L ++ D :: beN 0 N = 2 :: beN 8 N := by rw [← hD]; exact HI.out
      have HL := Lib.hid hL
      have HD := Lib.hid (fun wr : World => (Rd.of_lit (T := 5) (fr := (0, 0)) [D] (by rw [heap_alloc_new]; rfl) : Rd (wr.alloc (.cells #[.int .u8 (D.toNat : Nat)] 5)) (some ⟨wr.heap.size, 0, none⟩) [D]))
      clear hL hD
      go_wp2_with (at_builtin; go_loud (refine wpList_append_tl rfl (.tmp 23) (.tmp 29) rfl w.heap.size _ L rfl (HT.out.keep fun k hk => Below.heap_alloc _ _ _ (HT.out.lt k hk).2) (some ⟨wr.heap.size, 0, none⟩) [D] 1 1 rfl rfl (HD.out wr) ?c1 ?c2 ?_))
      case c1 => have := HLL.out; simp; omega
      case c2 => have := HB.out.size; simp; omega
      intro a5 n5 c5 w5 hn5 ht5 hg5 how5
      have hb5 : Below w.heap.size w w5 := below_grow_tl' (HB.out.alloc HB.out.size _) (HT.out.keep fun k hk => Below.heap_alloc _ _ _ (HT.out.lt k hk).2) hg5 (by have := HB.out.size; simp; omega)
      have HT5 := Lib.hid ht5
      have HB5 := Lib.hid hb5
      clear hn5 ht5 hg5 how5 hb5
      go_wp2_with fail
      go_roundg 0
      case measure => omega
      case rel => exact ⟨L ++ [D], a5, n5, c5, by first | rfl | (congr 1), rfl, by omega, HT5, Lib.hid (by have := HL.out; rw [List.append_assoc]; exact this), Lib.hid (by have := HLL.out; simp; omega), HB5⟩
    · obtain ⟨D, hD⟩ : ∃ D, UInt8.ofNat (N / 256 ^ 1 % 256) = D := ⟨_, rfl⟩
      have hbw : IntKind.u8.wrap (((N : Nat) : Int) / 256) = ((D.toNat : Nat) : Int) := by rw [← hD, IntKind.wrap_u8, UInt8.toNat_ofNat']; omega
      have hbm : (((N : Nat) : Int) / 256) % 256 = ((D.toNat : Nat) : Int) := by rw [← hD, UInt8.toNat_ofNat']; omega
      have hL : L ++ D :: beN 1 N = 2 :: beN 8 N := by rw [← hD]; exact HI.out
      have HL := Lib.hid hL
      have HD := Lib.hid (fun wr : World => (Rd.of_lit (T := 5) (fr := (0, 0)) [D] (by rw [heap_alloc_new]; rfl) : Rd (wr.alloc (.cells #[.int .u8 (D.toNat : Nat)] 5)) (some ⟨wr.heap.size, 0, none⟩) [D]))
      clear hL hD
      go_wp2_with (at_builtin; go_loud (refine wpList_append_tl rfl (.tmp 23) (.tmp 29) rfl w.heap.size _ L rfl (HT.out.keep fun k hk => Below.heap_alloc _ _ _ (HT.out.lt k hk).2) (some ⟨wr.heap.size, 0, none⟩) [D] 1 1 rfl rfl (HD.out wr) ?c1 ?c2 ?_))
      case c1 => have := HLL.out; simp; omega
      case c2 => have := HB.out.size; simp; omega
      intro a5 n5 c5 w5 hn5 ht5 hg5 how5
      have hb5 : Below w.heap.size w w5 := below_grow_tl' (HB.out.alloc HB.out.size _) (HT.out.keep fun k hk => Below.heap_alloc _ _ _ (HT.out.lt k hk).2) hg5 (by have := HB.out.size; simp; omega)
      have HT5 := Lib.hid ht5
      have HB5 := Lib.hid hb5
      clear hn5 ht5 hg5 how5 hb5
      go_wp2_with fail
      go_roundg 1
      case measure => omega
      case rel => exact ⟨L ++ [D], a5, n5, c5, by first | rfl | (congr 1), rfl, by omega, HT5, Lib.hid (by have := HL.out; rw [List.append_assoc]; exact this), Lib.hid (by have := HLL.out; simp; omega), HB5⟩
    · obtain ⟨D, hD⟩ : ∃ D, UInt8.ofNat (N / 256 ^ 2 % 256) = D := ⟨_, rfl⟩
      have hbw : IntKind.u8.wrap (((N : Nat) : Int) / 65536) = ((D.toNat : Nat) : Int) := by rw [← hD, IntKind.wrap_u8, UInt8.toNat_ofNat']; omega
      have hbm : (((N : Nat) : Int) / 65536) % 256 = ((D.toNat : Nat) : Int) := by rw [← hD, UInt8.toNat_ofNat']; omega
      have hL : L ++ D :: beN 2 N = 2 :: beN 8 N := by rw [← hD]; exact HI.out
      have HL := Lib.hid hL
      have HD := Lib.hid (fun wr : World => (Rd.of_lit (T := 5) (fr := (0, 0)) [D] (by rw [heap_alloc_new]; rfl) : Rd (wr.alloc (.cells #[.int .u8 (D.toNat : Nat)] 5)) (some ⟨wr.heap.size, 0, none⟩) [D]))
      clear hL hD
      go_wp2_with (at_builtin; go_loud (refine wpList_append_tl rfl (.tmp 23) (.tmp 29) rfl w.heap.size _ L rfl (HT.out.keep fun k hk => Below.heap_alloc _ _ _ (HT.out.lt k hk).2) (some ⟨wr.heap.size, 0, none⟩) [D] 1 1 rfl rfl (HD.out wr) ?c1 ?c2 ?_))
      case c1 => have := HLL.out; simp; omega
      case c2 => have := HB.out.size; simp; omega
      intro a5 n5 c5 w5 hn5 ht5 hg5 how5
      have hb5 : Below w.heap.size w w5 := below_grow_tl' (HB.out.alloc HB.out.size _) (HT.out.keep fun k hk => Below.heap_alloc _ _ _ (HT.out.lt k hk).2) hg5 (by have := HB.out.size; simp; omega)
      have HT5 := Lib.hid ht5
      have HB5 := Lib.hid hb5
      clear hn5 ht5 hg5 how5 hb5
      go_wp2_with fail
      go_roundg 2
      case measure => omega
      case rel => exact ⟨L ++ [D], a5, n5, c5, by first | rfl | (congr 1), rfl, by omega, HT5, Lib.hid (by have := HL.out; rw [List.append_assoc]; exact this), Lib.hid (by have := HLL.out; simp; omega), HB5⟩
    · obtain ⟨D, hD⟩ : ∃ D, UInt8.ofNat (N / 256 ^ 3 % 256) = D := ⟨_, rfl⟩
      have hbw : IntKind.u8.wrap (((N : Nat) : Int) / 16777216) = ((D.toNat : Nat) : Int) := by rw [← hD, IntKind.wrap_u8, UInt8.toNat_ofNat']; omega
      have hbm : (((N : Nat) : Int) / 16777216) % 256 = ((D.toNat : Nat) : Int) := by rw [← hD, UInt8.toNat_ofNat']; omega
      have hL : L ++ D :: beN 3 N = 2 :: beN 8 N := by rw [← hD]; exact HI.out
      have HL := Lib.hid hL
      have HD := Lib.hid (fun wr : World => (Rd.of_lit (T := 5) (fr := (0, 0)) [D] (by rw [heap_alloc_new]; rfl) : Rd (wr.alloc (.cells #[.int .u8 (D.toNat : Nat)] 5)) (some ⟨wr.heap.size, 0, none⟩) [D]))
      clear hL hD
      go_wp2_with (at_builtin; go_loud (refine wpList_append_tl rfl (.tmp 23) (.tmp 29) rfl w.heap.size _ L rfl (HT.out.keep fun k hk => Below.heap_alloc _ _ _ (HT.out.lt k hk).2) (some ⟨wr.heap.size, 0, none⟩) [D] 1 1 rfl rfl (HD.out wr) ?c1 ?c2 ?_))
      case c1 => have := HLL.out; simp; omega
      case c2 => have := HB.out.size; simp; omega
      intro a5 n5 c5 w5 hn5 ht5 hg5 how5
      have hb5 : Below w.heap.size w w5 := below_grow_tl' (HB.out.alloc HB.out.size _) (HT.out.keep fun k hk => Below.heap_alloc _ _ _ (HT.out.lt k hk).2) hg5 (by have := HB.out.size; simp; omega)
      have HT5 := Lib.hid ht5
      have HB5 := Lib.hid hb5
      clear hn5 ht5 hg5 how5 hb5
      go_wp2_with fail
      go_roundg 3
      case measure => omega
      case rel => exact ⟨L ++ [D], a5, n5, c5, by first | rfl | (congr 1), rfl, by omega, HT5, Lib.hid (by have := HL.out; rw [List.append_assoc]; exact this), Lib.hid (by have := HLL.out; simp; omega), HB5⟩
    · obtain ⟨D, hD⟩ : ∃ D, UInt8.ofNat (N / 256 ^ 4 % 256) = D := ⟨_, rfl⟩
      have hbw : IntKind.u8.wrap (((N : Nat) : Int) / 4294967296) = ((D.toNat : Nat) : Int) := by rw [← hD, IntKind.wrap_u8, UInt8.toNat_ofNat']; omega
      have hbm : (((N : Nat) : Int) / 4294967296) % 256 = ((D.toNat : Nat) : Int) := by rw [← hD, UInt8.toNat_ofNat']; omega
      have hL : L ++ D :: beN 4 N = 2 :: beN 8 N := by rw [← hD]; exact HI.out
      have HL := Lib.hid hL
      have HD := Lib.hid (fun wr : World => (Rd.of_lit (T := 5) (fr := (0, 0)) [D] (by rw [heap_alloc_new]; rfl) : Rd (wr.alloc (.cells #[.int .u8 (D.toNat : Nat)] 5)) (some ⟨wr.heap.size, 0, none⟩) [D]))
      clear hL hD
      go_wp2_with (at_builtin; go_loud (refine wpList_append_tl rfl (.tmp 23) (.tmp 29) rfl w.heap.size _ L rfl (HT.out.keep fun k hk => Below.heap_alloc _ _ _ (HT.out.lt k hk).2) (some ⟨wr.heap.size, 0, none⟩) [D] 1 1 rfl rfl (HD.out wr) ?c1 ?c2 ?_))
      case c1 => have := HLL.out; simp; omega
      case c2 => have := HB.out.size; simp; omega
      intro a5 n5 c5 w5 hn5 ht5 hg5 how5
      have hb5 : Below w.heap.size w w5 := below_grow_tl' (HB.out.alloc HB.out.size _) (HT.out.keep fun k hk => Below.heap_alloc _ _ _ (HT.out.lt k hk).2) hg5 (by have := HB.out.size; simp; omega)
      have HT5 := Lib.hid ht5
      have HB5 := Lib.hid hb5
      clear hn5 ht5 hg5 how5 hb5
      go_wp2_with fail
      go_roundg 4
      case measure => omega
      case rel => exact ⟨L ++ [D], a5, n5, c5, by first | rfl | (congr 1), rfl, by omega, HT5, Lib.hid (by have := HL.out; rw [List.append_assoc]; exact this), Lib.hid (by have := HLL.out; simp; omega), HB5⟩
    · obtain ⟨D, hD⟩ : ∃ D, UInt8.ofNat (N / 256 ^ 5 % 256) = D := ⟨_, rfl⟩
      have hbw : IntKind.u8.wrap (((N : Nat) : Int) / 1099511627776) = ((D.toNat : Nat) : Int) := by rw [← hD, IntKind.wrap_u8, UInt8.toNat_ofNat']; omega
      have hbm : (((N : Nat) : Int) / 1099511627776) % 256 = ((D.toNat : Nat) : Int) := by rw [← hD, UInt8.toNat_ofNat']; omega
      have hL : L ++ D :: beN 5 N = 2 :: beN 8 N := by rw [← hD]; exact HI.out
      have HL := Lib.hid hL
      have HD := Lib.hid (fun wr : World => (Rd.of_lit (T := 5) (fr := (0, 0)) [D] (by rw [heap_alloc_new]; rfl) : Rd (wr.alloc (.cells #[.int .u8 (D.toNat : Nat)] 5)) (some ⟨wr.heap.size, 0, none⟩) [D]))
      clear hL hD
      go_wp2_with (at_builtin; go_loud (refine wpList_append_tl rfl (.tmp 23) (.tmp 29) rfl w.heap.size _ L rfl (HT.out.keep fun k hk => Below.heap_alloc _ _ _ (HT.out.lt k hk).2) (some ⟨wr.heap.size, 0, none⟩) [D] 1 1 rfl rfl (HD.out wr) ?c1 ?c2 ?_))
      case c1 => have := HLL.out; simp; omega
      case c2 => have := HB.out.size; simp; omega
      intro a5 n5 c5 w5 hn5 ht5 hg5 how5
      have hb5 : Below w.heap.size w w5 := below_grow_tl' (HB.out.alloc HB.out.size _) (HT.out.keep fun k hk => Below.heap_alloc _ _ _ (HT.out.lt k hk).2) hg5 (by have := HB.out.size; simp; omega)
      have HT5 := Lib.hid ht5
      have HB5 := Lib.hid hb5
      clear hn5 ht5 hg5 how5 hb5
      go_wp2_with fail
      go_roundg 5
      case measure => omega
      case rel => exact ⟨L ++ [D], a5, n5, c5, by first | rfl | (congr 1), rfl, by omega, HT5, Lib.hid (by have := HL.out; rw [List.append_assoc]; exact this), Lib.hid (by have := HLL.out; simp; omega), HB5⟩
    · obtain ⟨D, hD⟩ : ∃ D, UInt8.ofNat (N / 256 ^ 6 % 256) = D := ⟨_, rfl⟩
      have hbw : IntKind.u8.wrap (((N : Nat) : Int) / 281474976710656) = ((D.toNat : Nat) : Int) := by rw [← hD, IntKind.wrap_u8, UInt8.toNat_ofNat']; omega
      have hbm : (((N : Nat) : Int) / 281474976710656) % 256 = ((D.toNat : Nat) : Int) := by rw [← hD, UInt8.toNat_ofNat']; omega
      have hL : L ++ D :: beN 6 N = 2 :: beN 8 N := by rw [← hD]; exact HI.out
      have HL := Lib.hid hL
      have HD := Lib.hid (fun wr : World => (Rd.of_lit (T := 5) (fr := (0, 0)) [D] (by rw [heap_alloc_new]; rfl) : Rd (wr.alloc (.cells #[.int .u8 (D.toNat : Nat)] 5)) (some ⟨wr.heap.size, 0, none⟩) [D]))
      clear hL hD
      go_wp2_with (at_builtin; go_loud (refine wpList_append_tl rfl (.tmp 23) (.tmp 29) rfl w.heap.size _ L rfl (HT.out.keep fun k hk => Below.heap_alloc _ _ _ (HT.out.lt k hk).2) (some ⟨wr.heap.size, 0, none⟩) [D] 1 1 rfl rfl (HD.out wr) ?c1 ?c2 ?_))
      case c1 => have := HLL.out; simp; omega
      case c2 => have := HB.out.size; simp; omega
      intro a5 n5 c5 w5 hn5 ht5 hg5 how5
      have hb5 : Below w.heap.size w w5 := below_grow_tl' (HB.out.alloc HB.out.size _) (HT.out.keep fun k hk => Below.heap_alloc _ _ _ (HT.out.lt k hk).2) hg5 (by have := HB.out.size; simp; omega)
      have HT5 := Lib.hid ht5
      have HB5 := Lib.hid hb5
      clear hn5 ht5 hg5 how5 hb5
      go_wp2_with fail
      go_roundg 6
      case measure => omega
      case rel => exact ⟨L ++ [D], a5, n5, c5, by first | rfl | (congr 1), rfl, by omega, HT5, Lib.hid (by have := HL.out; rw [List.append_assoc]; exact this), Lib.hid (by have := HLL.out; simp; omega), HB5⟩
    · obtain ⟨D, hD⟩ : ∃ D, UInt8.ofNat (N / 256 ^ 7 % 256) = D := ⟨_, rfl⟩
      have hbw : IntKind.u8.wrap (((N : Nat) : Int) / 72057594037927936) = ((D.toNat : Nat) : Int) := by rw [← hD, IntKind.wrap_u8, UInt8.toNat_ofNat']; omega
      have hbm : (((N : Nat) : Int) / 72057594037927936) % 256 = ((D.toNat : Nat) : Int) := by rw [← hD, UInt8.toNat_ofNat']; omega
      have hL : L ++ D :: beN 7 N = 2 :: beN 8 N := by rw [← hD]; exact HI.out
      have HL := Lib.hid hL
      have HD := Lib.hid (fun wr : World => (Rd.of_lit (T := 5) (fr := (0, 0)) [D] (by rw [heap_alloc_new]; rfl) : Rd (wr.alloc (.cells #[.int .u8 (D.toNat : Nat)] 5)) (some ⟨wr.heap.size, 0, none⟩) [D]))
      clear hL hD
      go_wp2_with (at_builtin; go_loud (refine wpList_append_tl rfl (.tmp 23) (.tmp 29) rfl w.heap.size _ L rfl (HT.out.keep fun k hk => Below.heap_alloc _ _ _ (HT.out.lt k hk).2) (some ⟨wr.heap.size, 0, none⟩) [D] 1 1 rfl rfl (HD.out wr) ?c1 ?c2 ?_))
      case c1 => have := HLL.out; simp; omega
      case c2 => have := HB.out.size; simp; omega
      intro a5 n5 c5 w5 hn5 ht5 hg5 how5
      have hb5 : Below w.heap.size w w5 := below_grow_tl' (HB.out.alloc HB.out.size _) (HT.out.keep fun k hk => Below.heap_alloc _ _ _ (HT.out.lt k hk).2) hg5 (by have := HB.out.size; simp; omega)
      have HT5 := Lib.hid ht5
      have HB5 := Lib.hid hb5
      clear hn5 ht5 hg5 how5 hb5
      go_wp2_with fail
      go_roundg 7
      case measure => omega
      case rel => exact ⟨L ++ [D], a5, n5, c5, by first | rfl | (congr 1), rfl, by omega, HT5, Lib.hid (by have := HL.out; rw [List.append_assoc]; exact this), Lib.hid (by have := HLL.out; simp; omega), HB5⟩
end Go.Proofs.YtfdijcdpmgkdkaaGreatDoor
/- Parts that lie in memory. -/
set_option linter.unusedVariables false
namespace Go.Proofs.YtfdijcdpmgkdkaaGreatDoor
open Go.RowKit

/-- The parts l lie at a. -/
def RdP (w : World) (a : Option Addr) (l : List TP) : Prop :=
  l = [] ∨ ∃ b off, a = some ⟨b, off, none⟩ ∧ ∀ i (h : i < l.length), w.cell? ⟨b, off + i * 3, none⟩ = some (.bool l[i].isNum) ∧ w.cell? ⟨b, off + i * 3 + 1, none⟩ = some (.int .i64 l[i].num) ∧ w.cell? ⟨b, off + i * 3 + 2, none⟩ = some (.string ⟨l[i].text.toArray⟩)
theorem RdP.below {w w' : World} {a : Option Addr} {l : List TP} (h : RdP w a l) (hb : Below w.heap.size w w') : RdP w' a l := by
  rcases h with h | ⟨b, off, e, h⟩
  · exact .inl h
  · refine .inr ⟨b, off, e, fun i hi => ?_⟩
    obtain ⟨h1, h2, h3⟩ := h i hi
    refine ⟨?_, ?_, ?_⟩
    · rw [hb.cell (World.block_lt_of_cell? _ _ h1)]; exact h1
    · rw [hb.cell (World.block_lt_of_cell? _ _ h2)]; exact h2
    · rw [hb.cell (World.block_lt_of_cell? _ _ h3)]; exact h3
/-- A part's bytes. -/
theorem bytes_any (p : TP) (m : Int) (w : World) (hp : p.ok) (hm : w.cell? ⟨3, 0, none⟩ = some (.int .i64 m)) (hs : p.text.length ≤ 1000000) :
    Calls Tryz.prog 100 #[.agg #[.bool p.isNum, .int .i64 p.num, .string ⟨p.text.toArray⟩]] w fun e w' => e = .returned (.string ⟨(pb p).toArray⟩) ∧ Below w.heap.size w w' := by
  obtain ⟨k, x, t⟩ := p
  cases k
  · have h := bytes_text x m ⟨t.toArray⟩ w hm (by show t.toArray.size ≤ _; simpa using hs)
    simpa using h
  · have h := bytes_num x ⟨t.toArray⟩ w hp.1 hp.2
    simpa using h
end Go.Proofs.YtfdijcdpmgkdkaaGreatDoor
/- tuple.Key. -/
set_option linter.unusedVariables false
namespace Go.Proofs.YtfdijcdpmgkdkaaGreatDoor
open Go.RowKit

theorem pb_len (p : TP) (h : p.text.length ≤ 1000) : (pb p).length ≤ 2003 := by
  unfold pb
  split
  · simp [beN_len]
  · have h1 := esc_len p.text
    have h2 : p.text.count 0 ≤ p.text.length := List.count_le_length
    simp only [List.length_cons, List.length_append, List.length_nil]
    omega
theorem keyB_len : ∀ l : List TP, (∀ p ∈ l, p.text.length ≤ 1000) → (keyB l).length ≤ 2003 * l.length
  | [], _ => by simp [keyB]
  | p :: l, h => by
    have ih := keyB_len l (fun x hx => h x (by simp [hx]))
    have h1 := pb_len p (h p (by simp))
    show (pb p ++ keyB l).length ≤ _
    rw [List.length_append, List.length_cons]
    omega
theorem keyB_take (l : List TP) (j : Nat) (h : j < l.length) : keyB (l.take (j + 1)) = keyB (l.take j) ++ pb l[j] := by
  unfold keyB
  rw [List.take_succ_eq_append_getElem h, List.flatMap_append]
  simp [List.flatMap_cons]

set_option maxRecDepth 100000 in
set_option maxHeartbeats 4000000 in
theorem key_any (a : Option Addr) (c : Nat) (l : List TP) (m : Int) (w : World) (hr : RdP w a l) (hm : w.cell? ⟨3, 0, none⟩ = some (.int .i64 m)) (hok : ∀ p ∈ l, p.ok) (htx : ∀ p ∈ l, p.text.length ≤ 1000) (hl : l.length ≤ 1000) :
    Calls Tryz.prog 60 #[.slice a l.length c] w fun e w' => e = .returned (.string ⟨(keyB l).toArray⟩) ∧ Below w.heap.size w w' := by
  have HR := Lib.hid hr
  have HM := Lib.hid hm
  have HO := Lib.hid hok
  have HT := Lib.hid htx
  clear hr hm hok htx
  go_enter Tryz.func60, Tryz.ntmps60
  go_wp2_with fail
  go_loopg [8] l.length (fun k y wr => ∃ j : Nat, y = .int .i64 (j : Int) ∧ j + k = l.length ∧ Hid (Bld w.heap.size (keyB (l.take j)) wr) ∧ Hid (Below w.heap.size w wr))
  case atStart => exact ⟨0, rfl, by omega, Lib.hid (Bld.fresh w), Lib.hid ((Below.refl _ _).alloc (Nat.le_refl _) _)⟩
  case round =>
    obtain ⟨j, rfl, hj, HBL, HB⟩ := hrel
    by_cases hlt : j < l.length
    · rcases HR.out.below HB.out with h | ⟨b, off, rfl, hc⟩
      · rw [h] at hlt; simp at hlt
      · obtain ⟨c1, c2, c3⟩ := hc j hlt
        have hltI : (j : Int) < (l.length : Int) := by omega
        have hmr : wr.cell? ⟨3, 0, none⟩ = some (.int .i64 m) := by rw [HB.out.cell (World.block_lt_of_cell? _ _ HM.out)]; exact HM.out
        have HMR := Lib.hid hmr
        clear hc hmr
        go_wp2_with fail
        refine (bytes_any l[j] m _ (HO.out _ (List.getElem_mem _)) (by rw [((Below.refl wr.heap.size wr).alloc (Nat.le_refl _) _).cell (World.block_lt_of_cell? _ _ HMR.out)]; exact HMR.out) (by have := HT.out _ (List.getElem_mem hlt); omega)).mono ?_
        rintro e w1 ⟨rfl, hb1⟩
        have hba : Below wr.heap.size wr w1 := ((Below.refl _ _).alloc (Nat.le_refl _) _).trans (hb1.mono (by simp))
        have HBL1 := Lib.hid (HBL.out.below hba)
        have HB2 := Lib.hid (HB.out.trans (hba.mono HB.out.size))
        clear hb1 hba
        go_wp2_with fail
        refine (WriteString_any w.heap.size _ _ w1 HBL1.out (by
          have h1 := keyB_len (l.take j) (fun x hx => HT.out x (List.mem_of_mem_take hx))
          have h2 := pb_len l[j] (HT.out _ (List.getElem_mem hlt))
          have h3 : (l.take j).length ≤ 1000 := by rw [List.length_take]; omega
          show (keyB (l.take j)).length + (pb l[j]).toArray.size ≤ _
          rw [List.size_toArray]
          omega)).mono ?_
        rintro e w2 ⟨rfl, hbl2, hb3⟩
        have HBL2 := Lib.hid hbl2
        have HB3 := Lib.hid (HB2.out.trans hb3)
        clear hbl2 hb3
        go_wp2_with fail
        go_roundg (gk - 1)
        case measure => omega
        case rel => exact ⟨j + 1, by first | rfl | (congr 1), by omega, Lib.hid (by rw [keyB_take l j hlt]; simpa using HBL2.out), HB3⟩
    · have hge : ¬ (j : Int) < (l.length : Int) := by omega
      have hbl := HBL.out
      rw [List.take_of_length_le (by omega)] at hbl
      have HBL1 := Lib.hid hbl
      clear hbl
      go_wp2_with fail
      refine (BString_any w.heap.size (keyB l) wr HBL1.out).mono ?_
      rintro e w1 ⟨rfl, _, hb1, _⟩
      have HB1 := Lib.hid (HB.out.trans hb1)
      clear hb1
      go_wp2_with fail
      refine bodyPost_ret (results_tmp rfl _ _ _) rfl ?_
      exact ⟨rfl, HB1.out⟩
end Go.Proofs.YtfdijcdpmgkdkaaGreatDoor
/- A key's bytes begin with another one's just if its parts do. Plain lists, no program. -/
set_option linter.unusedVariables false
namespace Go.Proofs.YtfdijcdpmgkdkaaGreatDoor
open Go.Lib

theorem cmp_self (l : List UInt8) : compareBytes l l = 0 := by
  have := cmp_pre l [] []
  simpa [compareBytes] using this
theorem cmp_zero : ∀ {a b : List UInt8}, compareBytes a b = 0 → a = b
  | [], [], _ => rfl
  | [], _ :: _, h => by simp [compareBytes] at h
  | _ :: _, [], h => by simp [compareBytes] at h
  | x :: a, y :: b, h => by
    unfold compareBytes at h
    by_cases h1 : x < y
    · rw [if_pos h1] at h; omega
    · rw [if_neg h1] at h
      by_cases h2 : y < x
      · rw [if_pos h2] at h; omega
      · rw [if_neg h2] at h
        have e : x = y := by
          rw [UInt8.lt_iff_toNat_lt] at h1 h2
          exact UInt8.toNat_inj.1 (by omega)
        rw [e, cmp_zero h]
theorem pb_same {p q : TP} (h : cmpP p q = 0) : pb p = pb q := by
  obtain ⟨a, x, t⟩ := p
  obtain ⟨b, y, u⟩ := q
  cases a <;> cases b
  · have : compareBytes t u = 0 := h
    rw [show t = u from cmp_zero this]; rfl
  · exact absurd h (by show ¬ (-1 : Int) = 0; decide)
  · exact absurd h (by show ¬ (1 : Int) = 0; decide)
  · have h' : cmpI x y = 0 := h
    unfold cmpI at h'
    have : x = y := by
      by_cases h1 : x < y
      · rw [if_pos h1] at h'; omega
      · rw [if_neg h1] at h'
        by_cases h2 : y < x
        · rw [if_pos h2] at h'; omega
        · omega
    rw [this]; rfl
theorem pre_append (l r s : List UInt8) : (l ++ r).isPrefixOf (l ++ s) = r.isPrefixOf s := by
  induction l with
  | nil => rfl
  | cons b l ih => simp [ih]
theorem pre_unlike {p q : TP} (r s : List UInt8) (hp : p.ok) (hq : q.ok) (h : cmpP p q ≠ 0) : (pb q ++ s).isPrefixOf (pb p ++ r) = false := by
  cases e : (pb q ++ s).isPrefixOf (pb p ++ r) with
  | false => rfl
  | true =>
    obtain ⟨t, ht⟩ := List.isPrefixOf_iff_prefix.1 e
    have h1 := cmp_pb p q r (s ++ t) hp hq
    rw [if_neg h, ← ht, List.append_assoc, cmp_self] at h1
    exact absurd h1.symm h
/-- The law. -/
theorem begins_law : ∀ (a b : List TP), (∀ p ∈ a, p.ok) → (∀ p ∈ b, p.ok) → (keyB b).isPrefixOf (keyB a) = (decide (b.length ≤ a.length) && cmpK (a.take b.length) b == 0)
  | a, [], _, _ => by simp [keyB, cmpK]
  | [], q :: b, _, _ => by
    obtain ⟨x, r, h⟩ := pb_cons q
    show (pb q ++ keyB b).isPrefixOf [] = _
    rw [h]; simp
  | p :: a, q :: b, ha, hb => by
    have ih := begins_law a b (fun x hx => ha x (by simp [hx])) (fun x hx => hb x (by simp [hx]))
    show (pb q ++ keyB b).isPrefixOf (pb p ++ keyB a) = (decide (b.length + 1 ≤ a.length + 1) && (if cmpP p q = 0 then cmpK (a.take b.length) b else cmpP p q) == 0)
    by_cases h : cmpP p q = 0
    · rw [if_pos h, pb_same h, pre_append, ih]
      simp
    · rw [if_neg h, pre_unlike _ _ (ha p (by simp)) (hb q (by simp)) h]
      simp [h]
end Go.Proofs.YtfdijcdpmgkdkaaGreatDoor
/- subject: Key. -/
set_option linter.unusedVariables false
namespace Go.Proofs.YtfdijcdpmgkdkaaGreatDoor
open Go.RowKit

set_option maxHeartbeats 1000000 in
theorem stext_any (s : ByteArray) (w : World) :
    Calls Tryz.prog 61 #[.string s] w fun e w' => e = .returned (.agg #[.bool false, .int .i64 0, .string s]) ∧ Below w.heap.size w w' := by
  go_enter Tryz.func61, Tryz.ntmps61
  go_wp2_with fail
  refine bodyPost_ret (v := .agg #[.bool false, .int .i64 0, .string s]) (by simp [results, Tryz.results61, go_sem]) rfl ⟨rfl, ?_⟩
  exact ((Below.refl _ _).alloc (Nat.le_refl _) _)
theorem ent_stext : ∀ args w, (callFunc 61 args).run Tryz.prog w = .ok (.enter 61 args) w := run_enters Tryz.func61 (by kernel_rfl) rfl
theorem ent_tkey : ∀ args w, (callFunc 60 args).run Tryz.prog w = .ok (.enter 60 args) w := run_enters Tryz.func60 (by kernel_rfl) rfl
/-- Parts in a row. -/
def VTP (l : List TP) : Value → World → Prop := fun v w => ∃ a c, v = .slice a l.length c ∧ RdP w a l
theorem VTP.stab (l : List TP) : Stab (VTP l) := fun v w1 w2 ⟨a, c, e, h⟩ hb => ⟨a, c, e, h.below hb⟩
theorem grow_three {Q : Exit → Act → World → Prop} {o : Oper} {a : Act} {w : World} {x y z : Operand} {f s i : List UInt8} (ho : o.op = .buildSlice 136 3 #[(0, x), (1, y), (2, z)])
    (hx : a.eval x = .agg #[.bool false, .int .i64 0, .string ⟨f.toArray⟩]) (hy : a.eval y = .agg #[.bool false, .int .i64 0, .string ⟨s.toArray⟩]) (hz : a.eval z = .agg #[.bool false, .int .i64 0, .string ⟨i.toArray⟩]) :
    o.wp Tryz.prog a w (Grew o.dst (VTP [⟨false, 0, f⟩, ⟨false, 0, s⟩, ⟨false, 0, i⟩]) a w) Q := by
  refine grow_value (v := .slice (some ⟨w.heap.size, 0, none⟩) 3 3) (w' := w.alloc (.cells #[.bool false, .int .i64 0, .string ⟨f.toArray⟩, .bool false, .int .i64 0, .string ⟨s.toArray⟩, .bool false, .int .i64 0, .string ⟨i.toArray⟩] 100)) ?_ ⟨_, _, rfl, .inr ⟨_, 0, rfl, fun j hj => ?_⟩⟩ ((Below.refl _ _).alloc (Nat.le_refl _) _)
  · simp only [execOp, ho, List.map_toArray, List.map_cons, List.map_nil, hx, hy, hz]
    go_simp
  · simp only [Lib.cell_of_heap (heap_alloc_new w _)]
    match j, hj with
    | 0, _ => exact ⟨rfl, rfl, rfl⟩
    | 1, _ => exact ⟨rfl, rfl, rfl⟩
    | 2, _ => exact ⟨rfl, rfl, rfl⟩
    | k + 3, h => exact absurd h (by simp)
def keyS (f i s : List UInt8) : List UInt8 := keyB [⟨false, 0, f⟩, ⟨false, 0, s⟩, ⟨false, 0, i⟩]
theorem keyS_iff (f i s f' i' s' : List UInt8) : keyS f i s = keyS f' i' s' ↔ f = f' ∧ i = i' ∧ s = s' := by
  constructor
  · intro h
    have h1 := cmp_keyB [⟨false, 0, f⟩, ⟨false, 0, s⟩, ⟨false, 0, i⟩] [⟨false, 0, f'⟩, ⟨false, 0, s'⟩, ⟨false, 0, i'⟩] (by intro p hp; simp at hp; rcases hp with rfl | rfl | rfl <;> simp [TP.ok]) (by intro p hp; simp at hp; rcases hp with rfl | rfl | rfl <;> simp [TP.ok])
    unfold keyS at h
    rw [h, cmp_self] at h1
    simp only [cmpK, cmpP, Bool.and_self, Bool.false_eq_true, if_false] at h1
    by_cases e1 : Lib.compareBytes f f' = 0
    · rw [if_pos e1] at h1
      by_cases e2 : Lib.compareBytes s s' = 0
      · rw [if_pos e2] at h1
        by_cases e3 : Lib.compareBytes i i' = 0
        · exact ⟨cmp_zero e1, cmp_zero e3, cmp_zero e2⟩
        · rw [if_neg e3] at h1
          exact absurd h1.symm e3
      · rw [if_neg e2] at h1
        exact absurd h1.symm e2
    · rw [if_neg e1] at h1
      exact absurd h1.symm e1
  · rintro ⟨rfl, rfl, rfl⟩
    rfl
set_option maxRecDepth 100000 in
set_option maxHeartbeats 8000000 in
theorem skey_any (f i s : List UInt8) (m : Int) (w : World) (hm : w.cell? ⟨3, 0, none⟩ = some (.int .i64 m)) (hf : f.length ≤ 1000) (hi : i.length ≤ 1000) (hs : s.length ≤ 1000) :
    Calls Tryz.prog 26 #[.agg #[.string ⟨f.toArray⟩, .string ⟨i.toArray⟩, .string ⟨s.toArray⟩]] w fun e w' => e = .returned (.string ⟨(keyS f i s).toArray⟩) ∧ Below w.heap.size w w' := by
  have HKB : Hid (keyS f i s = keyB [⟨false, 0, f⟩, ⟨false, 0, s⟩, ⟨false, 0, i⟩]) := Lib.hid rfl
  go_enter Tryz.func26, Tryz.ntmps26
  have hb1 : Below w.heap.size w (w.alloc (.cells #[.string ⟨f.toArray⟩, .string ⟨i.toArray⟩, .string ⟨s.toArray⟩] 46)) := (Below.refl _ _).alloc (Nat.le_refl _) _
  have hx1 := heap_alloc_new w (.cells #[.string ⟨f.toArray⟩, .string ⟨i.toArray⟩, .string ⟨s.toArray⟩] 46)
  have hm1 := (hb1.cell (World.block_lt_of_cell? _ _ hm)).trans hm
  go_upto_region 1 with (fail)
  generalize w.alloc _ = w1 at *
  have HX := Lib.hid hx1
  have HB1 := Lib.hid hb1
  have hxg : w.heap.size < w1.heap.size := (Array.getElem?_eq_some_iff.1 hx1).1
  have HK : Hid (∀ (ad : Option Addr) (ac : Nat) (w' : World), Below w1.heap.size w1 w' → RdP w' ad [⟨false, 0, f⟩, ⟨false, 0, s⟩, ⟨false, 0, i⟩] → _) := Lib.hid fun ad ac w' hb hr => key_any ad ac [⟨false, 0, f⟩, ⟨false, 0, s⟩, ⟨false, 0, i⟩] m w' hr ((hb.cell (World.block_lt_of_cell? _ _ hm1)).trans hm1) (by intro p hp; simp at hp; rcases hp with rfl | rfl | rfl <;> simp [TP.ok]) (by intro p hp; simp at hp; rcases hp with rfl | rfl | rfl <;> assumption) (by simp)
  clear hx1 hb1 hm hm1 hf hi hs
  refine wp_region_grow (by kernel_rfl) (by kernel_rfl) [3, 4, 5, 6, 7, 8, 9, 10, 11, 12, 13, 2] rfl (by decide) (by kernel_rfl) (fun iX => [VIs (.pointer (some ⟨w.heap.size, 0, none⟩)), VIs (.string ⟨f.toArray⟩), VIs ((.agg #[.bool false, .int .i64 0, .string ⟨f.toArray⟩])), VIs (.pointer (some ⟨w.heap.size, 2, none⟩)), VIs (.string ⟨s.toArray⟩), VIs ((.agg #[.bool false, .int .i64 0, .string ⟨s.toArray⟩])), VIs (.pointer (some ⟨w.heap.size, 1, none⟩)), VIs (.string ⟨i.toArray⟩), VIs ((.agg #[.bool false, .int .i64 0, .string ⟨i.toArray⟩])), VTP [⟨false, 0, f⟩, ⟨false, 0, s⟩, ⟨false, 0, i⟩], VIs (.string ⟨(keyB [⟨false, 0, f⟩, ⟨false, 0, s⟩, ⟨false, 0, i⟩]).toArray⟩), VIs (.string ⟨(keyB [⟨false, 0, f⟩, ⟨false, 0, s⟩, ⟨false, 0, i⟩]).toArray⟩)].getD iX fun _ _ => True) (stab_list _ ?_) ?_ ?_
  · skip
    intro V hV
    simp only [List.mem_cons, List.mem_nil_iff, or_false] at hV
    rcases hV with rfl | rfl | rfl | rfl | rfl | rfl | rfl | rfl | rfl | rfl | rfl | rfl <;> first | exact VIs.stab _ | exact VBytes.stab _ | exact VStr.stab _ | exact VParts.stab _ | exact VRow.stab _ | exact VRow8.stab _ _ | exact VTP.stab _
  · intro iX o ho a' w' hf hb hd
    rcases iX with _ | _ | _ | _ | _ | _ | _ | _ | _ | _ | _ | _ | iX
    · cases ho
      refine grow_op rfl rfl rfl ?_
      have f1 : a'.tmps.getD 1 undef = .pointer (some ⟨w.heap.size, 0, none⟩) := (hf.same 1 (by decide)).trans rfl
      refine grow_value (v := .pointer (some ⟨w.heap.size, 0, none⟩)) (w' := w') ?_ rfl (Below.refl _ _)
      simp only [execOp, Act.eval]
      go_simp
    · cases ho
      refine grow_op rfl rfl rfl ?_
      have e0 : a'.tmps.getD 3 undef = .pointer (some ⟨w.heap.size, 0, none⟩) := hd 0 (by kernel_rfl)
      obtain ⟨x0, x1, x2⟩ := three_at HX.out hb hxg
      refine grow_value (v := .string ⟨f.toArray⟩) (w' := w') ?_ rfl (Below.refl _ _)
      simp only [execOp, Act.eval, e0]
      go_simp
    · cases ho
      refine grow_op rfl rfl rfl ?_
      have e1 : a'.tmps.getD 4 undef = .string ⟨f.toArray⟩ := hd 1 (by kernel_rfl)
      refine grow_call ent_stext rfl ?_
      simp only [List.map_toArray, List.map_cons, List.map_nil, Act.eval, e1]
      exact ((stext_any _ w').mono (fun e w'' ⟨h1, h2⟩ => ⟨_, h1, rfl, h2⟩))
    · cases ho
      refine grow_op rfl rfl rfl ?_
      have f1 : a'.tmps.getD 1 undef = .pointer (some ⟨w.heap.size, 0, none⟩) := (hf.same 1 (by decide)).trans rfl
      refine grow_value (v := .pointer (some ⟨w.heap.size, 2, none⟩)) (w' := w') ?_ rfl (Below.refl _ _)
      simp only [execOp, Act.eval]
      go_simp
    · cases ho
      refine grow_op rfl rfl rfl ?_
      have e3 : a'.tmps.getD 6 undef = .pointer (some ⟨w.heap.size, 2, none⟩) := hd 3 (by kernel_rfl)
      obtain ⟨x0, x1, x2⟩ := three_at HX.out hb hxg
      refine grow_value (v := .string ⟨s.toArray⟩) (w' := w') ?_ rfl (Below.refl _ _)
      simp only [execOp, Act.eval, e3]
      go_simp
    · cases ho
      refine grow_op rfl rfl rfl ?_
      have e4 : a'.tmps.getD 7 undef = .string ⟨s.toArray⟩ := hd 4 (by kernel_rfl)
      refine grow_call ent_stext rfl ?_
      simp only [List.map_toArray, List.map_cons, List.map_nil, Act.eval, e4]
      exact ((stext_any _ w').mono (fun e w'' ⟨h1, h2⟩ => ⟨_, h1, rfl, h2⟩))
    · cases ho
      refine grow_op rfl rfl rfl ?_
      have f1 : a'.tmps.getD 1 undef = .pointer (some ⟨w.heap.size, 0, none⟩) := (hf.same 1 (by decide)).trans rfl
      refine grow_value (v := .pointer (some ⟨w.heap.size, 1, none⟩)) (w' := w') ?_ rfl (Below.refl _ _)
      simp only [execOp, Act.eval]
      go_simp
    · cases ho
      refine grow_op rfl rfl rfl ?_
      have e6 : a'.tmps.getD 9 undef = .pointer (some ⟨w.heap.size, 1, none⟩) := hd 6 (by kernel_rfl)
      obtain ⟨x0, x1, x2⟩ := three_at HX.out hb hxg
      refine grow_value (v := .string ⟨i.toArray⟩) (w' := w') ?_ rfl (Below.refl _ _)
      simp only [execOp, Act.eval, e6]
      go_simp
    · cases ho
      refine grow_op rfl rfl rfl ?_
      have e7 : a'.tmps.getD 10 undef = .string ⟨i.toArray⟩ := hd 7 (by kernel_rfl)
      refine grow_call ent_stext rfl ?_
      simp only [List.map_toArray, List.map_cons, List.map_nil, Act.eval, e7]
      exact ((stext_any _ w').mono (fun e w'' ⟨h1, h2⟩ => ⟨_, h1, rfl, h2⟩))
    · cases ho
      refine grow_op rfl rfl rfl ?_
      exact grow_three rfl (hd 2 (by kernel_rfl)) (hd 5 (by kernel_rfl)) (hd 8 (by kernel_rfl))
    · cases ho
      refine grow_op rfl rfl rfl ?_
      obtain ⟨ad, ac, ea, hrp⟩ : VTP _ _ _ := hd 9 (by kernel_rfl)
      refine grow_call ent_tkey rfl ?_
      have ea' : a'.tmps.getD 12 undef = _ := ea
      simp only [List.map_toArray, List.map_cons, List.map_nil, Act.eval, ea']
      exact ((HK.out ad ac w' hb hrp).mono (fun e w'' ⟨h1, h2⟩ => ⟨_, h1, rfl, h2⟩))
    · cases ho
      refine grow_op rfl rfl rfl (grow_assign rfl ?_)
      exact hd 10 (by kernel_rfl)
    · simp at ho
  · intro a' w' hf hb hd
    have h2 : a'.tmps.getD 2 undef = .string ⟨(keyB [⟨false, 0, f⟩, ⟨false, 0, s⟩, ⟨false, 0, i⟩]).toArray⟩ := hd 11 (by decide)
    simp only [Array.getD_eq_getD_getElem?] at h2
    have hdf : a'.defers = [] := hf.defers
    have HBx := Lib.hid (HB1.out.trans (hb.mono HB1.out.size))
    clear hd hf hb
    go_wp2_with fail
    refine bodyPost_ret (v := .string ⟨(keyB [⟨false, 0, f⟩, ⟨false, 0, s⟩, ⟨false, 0, i⟩]).toArray⟩) (by simp [results, Tryz.results26, go_sem, h2]) hdf ?_
    exact ⟨by rw [HKB.out], HBx.out⟩
end Go.Proofs.YtfdijcdpmgkdkaaGreatDoor
/- The walk of SubjectKeys. -/
set_option linter.unusedVariables false
namespace Go.Proofs.YtfdijcdpmgkdkaaGreatDoor
open Go.RowKit

theorem ent_skey : ∀ args w, (callFunc 26 args).run Tryz.prog w = .ok (.enter 26 args) w := run_enters Tryz.func26 (by kernel_rfl) rfl
theorem keys_eq (f i s f' i' s' : List UInt8) : (keyS f i s == keyS f' i' s') = (f == f' && (i == i' && s == s')) := by
  rw [Bool.eq_iff_iff, beq_iff_eq, keyS_iff]
  simp
set_option maxRecDepth 100000 in
set_option maxHeartbeats 8000000 in
theorem subjectKeys_walk (f i s f' i' s' : List UInt8) (w : World) (hA : f.length ≤ maxLen ∧ i.length ≤ maxLen ∧ s.length ≤ maxLen) (hB : f'.length ≤ maxLen ∧ i'.length ≤ maxLen ∧ s'.length ≤ maxLen) (hw : f.length ≤ reachBytes ∧ i.length ≤ reachBytes ∧ s.length ≤ reachBytes ∧ f'.length ≤ reachBytes ∧ i'.length ≤ reachBytes ∧ s'.length ≤ reachBytes) (hm : ∃ m, w.cell? ⟨3, 0, none⟩ = some (.int .i64 m)) :
    Calls Tryz.prog 4 #[.agg #[.string ⟨f.toArray⟩, .string ⟨i.toArray⟩, .string ⟨s.toArray⟩], .agg #[.string ⟨f'.toArray⟩, .string ⟨i'.toArray⟩, .string ⟨s'.toArray⟩]] w fun e w' => e = .returned (.bool true) ∧ Below w.heap.size w w' := by
  obtain ⟨m, hm⟩ := hm
  go_enter Tryz.func4, Tryz.ntmps4
  go_upto_region 1 with (fail)
  generalize hw1 : (w.alloc _).alloc _ = w1
  have hb1 : Below w.heap.size w w1 := by rw [← hw1]; exact ((Below.refl _ _).alloc (Nat.le_refl _) _).alloc (by simp) _
  have hx1 : w1.heap[w.heap.size]? = some (.cells #[.string ⟨f.toArray⟩, .string ⟨i.toArray⟩, .string ⟨s.toArray⟩] 46 (0, 0)) := by rw [← hw1]; exact block_alloc (heap_alloc_new w _) _
  have hy1 : w1.heap[w.heap.size + 1]? = some (.cells #[.string ⟨f'.toArray⟩, .string ⟨i'.toArray⟩, .string ⟨s'.toArray⟩] 46 (0, 0)) := by
    rw [← hw1]
    have e : w.heap.size + 1 = (w.alloc (.cells #[.string ⟨f.toArray⟩, .string ⟨i.toArray⟩, .string ⟨s.toArray⟩] 46)).heap.size := by simp
    rw [e]
    exact heap_alloc_new _ _
  have hs1 : w.heap.size + 1 < w1.heap.size := (Array.getElem?_eq_some_iff.1 hy1).1
  have HM := Lib.hid ((hb1.cell (World.block_lt_of_cell? _ _ hm)).trans hm)
  have HB1 := Lib.hid hb1
  have HX1 := Lib.hid hx1
  have HY1 := Lib.hid hy1
  clear hw1 hb1 hx1 hy1 hm
  go_wp2_with fail
  refine (anchor12_any w1).mono ?_
  rintro e w2 ⟨rfl, hb2⟩
  have HB2 := Lib.hid (HB1.out.trans (hb2.mono HB1.out.size))
  have HX := Lib.hid ((hb2.block _ (by omega)).trans HX1.out)
  have HY := Lib.hid ((hb2.block _ hs1).trans HY1.out)
  have HM2 := Lib.hid ((hb2.cell (World.block_lt_of_cell? _ _ HM.out)).trans HM.out)
  have hs2 : w.heap.size + 1 < w2.heap.size := Nat.lt_of_lt_of_le hs1 hb2.size
  have hxg : w.heap.size < w2.heap.size := by omega
  have hyg : w.heap.size + 1 < w2.heap.size := hs2
  clear hb2 HX1 HY1 HM HB1
  obtain ⟨x0, x1, x2⟩ := three_at HX.out (Below.refl w2.heap.size w2) hxg
  obtain ⟨y0, y1, y2⟩ := three_at HY.out (Below.refl w2.heap.size w2) hyg
  clear hA hB
  unfold reachBytes at hw
  obtain ⟨a1, a2, a3, b1, b2, b3⟩ := hw
  by_cases g1 : i.length + i'.length ≤ 800
  case neg =>
    have j1 : (800 : Int) < ((i.length : Nat) : Int) + ((i'.length : Nat) : Int) := by omega
    go_wp2_with fail
    refine bodyPost_ret (results_tmp rfl _ _ _) rfl ?_
    exact ⟨rfl, HB2.out⟩
  by_cases g2 : s.length ≤ 400
  case neg =>
    have j1 : ¬ (800 : Int) < ((i.length : Nat) : Int) + ((i'.length : Nat) : Int) := by omega
    have j2 : (400 : Int) < ((s.length : Nat) : Int) := by omega
    go_wp2_with fail
    refine bodyPost_ret (results_tmp rfl _ _ _) rfl ?_
    exact ⟨rfl, HB2.out⟩
  by_cases g3 : s'.length ≤ 400
  case neg =>
    have j1 : ¬ (800 : Int) < ((i.length : Nat) : Int) + ((i'.length : Nat) : Int) := by omega
    have j2 : ¬ (400 : Int) < ((s.length : Nat) : Int) := by omega
    have j3 : (400 : Int) < ((s'.length : Nat) : Int) := by omega
    go_wp2_with fail
    refine bodyPost_ret (results_tmp rfl _ _ _) rfl ?_
    exact ⟨rfl, HB2.out⟩
  by_cases g4 : f.length ≤ 100
  case neg =>
    have j1 : ¬ (800 : Int) < ((i.length : Nat) : Int) + ((i'.length : Nat) : Int) := by omega
    have j2 : ¬ (400 : Int) < ((s.length : Nat) : Int) := by omega
    have j3 : ¬ (400 : Int) < ((s'.length : Nat) : Int) := by omega
    have j4 : (100 : Int) < ((f.length : Nat) : Int) := by omega
    go_wp2_with fail
    refine bodyPost_ret (results_tmp rfl _ _ _) rfl ?_
    exact ⟨rfl, HB2.out⟩
  by_cases g5 : f'.length ≤ 100
  case neg =>
    have j1 : ¬ (800 : Int) < ((i.length : Nat) : Int) + ((i'.length : Nat) : Int) := by omega
    have j2 : ¬ (400 : Int) < ((s.length : Nat) : Int) := by omega
    have j3 : ¬ (400 : Int) < ((s'.length : Nat) : Int) := by omega
    have j4 : ¬ (100 : Int) < ((f.length : Nat) : Int) := by omega
    have j5 : (100 : Int) < ((f'.length : Nat) : Int) := by omega
    go_wp2_with fail
    refine bodyPost_ret (results_tmp rfl _ _ _) rfl ?_
    exact ⟨rfl, HB2.out⟩
  have j1 : ¬ (800 : Int) < ((i.length : Nat) : Int) + ((i'.length : Nat) : Int) := by omega
  have j2 : ¬ (400 : Int) < ((s.length : Nat) : Int) := by omega
  have j3 : ¬ (400 : Int) < ((s'.length : Nat) : Int) := by omega
  have j4 : ¬ (100 : Int) < ((f.length : Nat) : Int) := by omega
  have j5 : ¬ (100 : Int) < ((f'.length : Nat) : Int) := by omega
  have HKA : Hid (∀ w', Below w2.heap.size w2 w' → _) := Lib.hid fun w' (hb : Below w2.heap.size w2 w') => skey_any f i s m w' ((hb.cell (World.block_lt_of_cell? _ _ HM2.out)).trans HM2.out) (by omega) (by omega) (by omega)
  have HKB : Hid (∀ w', Below w2.heap.size w2 w' → _) := Lib.hid fun w' (hb : Below w2.heap.size w2 w') => skey_any f' i' s' m w' ((hb.cell (World.block_lt_of_cell? _ _ HM2.out)).trans HM2.out) (by omega) (by omega) (by omega)
  have HKK := Lib.hid (keys_eq f i s f' i' s')
  generalize keyS f i s = K at *
  generalize keyS f' i' s' = K' at *
  go_upto_region 5 with (fail)
  clear x0 x1 x2 y0 y1 y2 a1 a2 a3 b1 b2 b3 g1 g2 g3 g4 g5 j1 j2 j3 j4 j5
  refine wp_region_grow (by kernel_rfl) (by kernel_rfl) [39, 40, 41, 42, 43, 44, 45, 46, 47, 4] rfl (by decide) (by kernel_rfl) (fun iX => [VIs (.agg #[.string ⟨f.toArray⟩, .string ⟨i.toArray⟩, .string ⟨s.toArray⟩]), VIs ((.string ⟨K.toArray⟩)), VIs (.agg #[.string ⟨f'.toArray⟩, .string ⟨i'.toArray⟩, .string ⟨s'.toArray⟩]), VIs ((.string ⟨K'.toArray⟩)), VIs (.bool (K == K')), VIs (.agg #[.string ⟨f.toArray⟩, .string ⟨i.toArray⟩, .string ⟨s.toArray⟩]), VIs (.agg #[.string ⟨f'.toArray⟩, .string ⟨i'.toArray⟩, .string ⟨s'.toArray⟩]), VIs (.bool (f == f' && (i == i' && s == s'))), VIs (.bool true), VIs (.bool true)].getD iX fun _ _ => True) (stab_list _ ?_) ?_ ?_
  · skip
    intro V hV
    simp only [List.mem_cons, List.mem_nil_iff, or_false] at hV
    rcases hV with rfl | rfl | rfl | rfl | rfl | rfl | rfl | rfl | rfl | rfl <;> first | exact VIs.stab _ | exact VBytes.stab _ | exact VStr.stab _ | exact VParts.stab _ | exact VRow.stab _ | exact VRow8.stab _ _ | exact VRowIs.stab _ _ _
  · intro iX o ho a' w' hf hb hd
    rcases iX with _ | _ | _ | _ | _ | _ | _ | _ | _ | _ | iX
    · cases ho
      refine grow_op rfl rfl rfl ?_
      have f2 : a'.tmps.getD 2 undef = .pointer (some ⟨w.heap.size, 0, none⟩) := (hf.same 2 (by decide)).trans rfl
      obtain ⟨x0, x1, x2⟩ := three_at HX.out hb hxg
      refine grow_value (v := .agg #[.string ⟨f.toArray⟩, .string ⟨i.toArray⟩, .string ⟨s.toArray⟩]) (w' := w') ?_ rfl (Below.refl _ _)
      simp only [execOp, Act.eval]
      go_simp
    · cases ho
      refine grow_op rfl rfl rfl ?_
      have e0 : a'.tmps.getD 39 undef = .agg #[.string ⟨f.toArray⟩, .string ⟨i.toArray⟩, .string ⟨s.toArray⟩] := hd 0 (by kernel_rfl)
      refine grow_call ent_skey rfl ?_
      simp only [List.map_toArray, List.map_cons, List.map_nil, Act.eval, e0]
      exact ((HKA.out w' hb).mono (fun e w'' ⟨h1, h2⟩ => ⟨_, h1, rfl, h2⟩))
    · cases ho
      refine grow_op rfl rfl rfl ?_
      have f3 : a'.tmps.getD 3 undef = .pointer (some ⟨w.heap.size + 1, 0, none⟩) := (hf.same 3 (by decide)).trans rfl
      obtain ⟨x0, x1, x2⟩ := three_at HY.out hb hyg
      refine grow_value (v := .agg #[.string ⟨f'.toArray⟩, .string ⟨i'.toArray⟩, .string ⟨s'.toArray⟩]) (w' := w') ?_ rfl (Below.refl _ _)
      simp only [execOp, Act.eval]
      go_simp
    · cases ho
      refine grow_op rfl rfl rfl ?_
      have e2 : a'.tmps.getD 41 undef = .agg #[.string ⟨f'.toArray⟩, .string ⟨i'.toArray⟩, .string ⟨s'.toArray⟩] := hd 2 (by kernel_rfl)
      refine grow_call ent_skey rfl ?_
      simp only [List.map_toArray, List.map_cons, List.map_nil, Act.eval, e2]
      exact ((HKB.out w' hb).mono (fun e w'' ⟨h1, h2⟩ => ⟨_, h1, rfl, h2⟩))
    · cases ho
      refine grow_op rfl rfl rfl ?_
      have e1 : a'.tmps.getD 40 undef = (.string ⟨K.toArray⟩) := hd 1 (by kernel_rfl)
      have e3 : a'.tmps.getD 42 undef = (.string ⟨K'.toArray⟩) := hd 3 (by kernel_rfl)
      refine grow_value (v := .bool (K == K')) (w' := w') ?_ rfl (Below.refl _ _)
      simp only [execOp, Act.eval, e1, e3]
      go_simp
      all_goals rfl
    · cases ho
      refine grow_op rfl rfl rfl ?_
      have f2 : a'.tmps.getD 2 undef = .pointer (some ⟨w.heap.size, 0, none⟩) := (hf.same 2 (by decide)).trans rfl
      obtain ⟨x0, x1, x2⟩ := three_at HX.out hb hxg
      refine grow_value (v := .agg #[.string ⟨f.toArray⟩, .string ⟨i.toArray⟩, .string ⟨s.toArray⟩]) (w' := w') ?_ rfl (Below.refl _ _)
      simp only [execOp, Act.eval]
      go_simp
    · cases ho
      refine grow_op rfl rfl rfl ?_
      have f3 : a'.tmps.getD 3 undef = .pointer (some ⟨w.heap.size + 1, 0, none⟩) := (hf.same 3 (by decide)).trans rfl
      obtain ⟨x0, x1, x2⟩ := three_at HY.out hb hyg
      refine grow_value (v := .agg #[.string ⟨f'.toArray⟩, .string ⟨i'.toArray⟩, .string ⟨s'.toArray⟩]) (w' := w') ?_ rfl (Below.refl _ _)
      simp only [execOp, Act.eval]
      go_simp
    · cases ho
      refine grow_op rfl rfl rfl ?_
      have e5 : a'.tmps.getD 44 undef = .agg #[.string ⟨f.toArray⟩, .string ⟨i.toArray⟩, .string ⟨s.toArray⟩] := hd 5 (by kernel_rfl)
      have e6 : a'.tmps.getD 45 undef = .agg #[.string ⟨f'.toArray⟩, .string ⟨i'.toArray⟩, .string ⟨s'.toArray⟩] := hd 6 (by kernel_rfl)
      refine grow_value (v := .bool (f == f' && (i == i' && s == s'))) (w' := w') ?_ rfl (Below.refl _ _)
      simp only [execOp, Act.eval, e5, e6]
      go_simp
      all_goals (by_cases h0 : f = f' <;> by_cases h1 : i = i' <;> by_cases h2 : s = s' <;> simp [h0, h1, h2])
    · cases ho
      refine grow_op rfl rfl rfl ?_
      have e4 : a'.tmps.getD 43 undef = .bool (K == K') := hd 4 (by kernel_rfl)
      have e7 : a'.tmps.getD 46 undef = .bool (f == f' && (i == i' && s == s')) := hd 7 (by kernel_rfl)
      have hkk := HKK.out
      refine grow_value (v := .bool true) (w' := w') ?_ rfl (Below.refl _ _)
      simp only [execOp, Act.eval, e4, e7]
      go_simp
    · cases ho
      refine grow_op rfl rfl rfl (grow_assign rfl ?_)
      exact hd 8 (by kernel_rfl)
    · simp at ho
  · intro a' w' hf hb hd
    have h4 : a'.tmps.getD 4 undef = .bool true := hd 9 (by decide)
    simp only [Array.getD_eq_getD_getElem?] at h4
    have hdf : a'.defers = [] := hf.defers
    have HBx := Lib.hid (HB2.out.trans (hb.mono HB2.out.size))
    clear hd hf hb
    go_wp2_with fail
    refine bodyPost_ret (v := .bool true) (by simp [results, Tryz.results4, go_sem, h4]) hdf ?_
    exact ⟨rfl, HBx.out⟩
end Go.Proofs.YtfdijcdpmgkdkaaGreatDoor
/- Subjects that come in. -/
set_option linter.unusedVariables false
namespace Go.Proofs.YtfdijcdpmgkdkaaGreatDoor
open Go.RowKit Go.ChangeShapes

section
variable {H : Type} {enc : TypeId × Value → H} {w : World} {base : Nat} {spare : Nat → Bool} {held : Bool}
theorem cellsSub : Tryz.prog.cellsOf 46 = 3 := by kernel_rfl
theorem cellsStrS : Tryz.prog.cellsOf 9 = 1 := by kernel_rfl
set_option maxRecDepth 100000 in
theorem open_subject {fuel : Nat} {cs : Array Value} {x : DataW H × List MemPlace} (h : DataW.trod enc Tryz.prog w base spare held fuel 46 (Value.agg cs).cells.toList = some x) :
    ∃ f i s : List UInt8, cs = #[.string ⟨f.toArray⟩, .string ⟨i.toArray⟩, .string ⟨s.toArray⟩] ∧ f.length ≤ maxLen ∧ i.length ≤ maxLen ∧ s.length ≤ maxLen ∧ x.1 = .agg [.lit (.string f), .lit (.string i), .lit (.string s)] := by
  obtain ⟨ys, n, _, hxe, hlen, hyl, hf⟩ := DataW.trod_struct Tryz.underlying46 h
  rw [cellsSub] at hlen
  obtain ⟨l, hl⟩ : ∃ l, (Value.agg cs).cells.toList = l := ⟨_, rfl⟩
  have hcl : cs.toList = l := by rw [← hl]; simp [Value.cells]
  rw [hl] at hlen hf
  match l, hlen, hcl with
  | [c0, c1, c2], _, hcl =>
    have f0 : DataW.trod enc Tryz.prog w base spare held n 9 (([c0, c1, c2].drop 0).take (Tryz.prog.cellsOf 9)) = ys[0]? := hf 0 _ rfl
    have f1 : DataW.trod enc Tryz.prog w base spare held n 9 (([c0, c1, c2].drop 1).take (Tryz.prog.cellsOf 9)) = ys[1]? := hf 1 _ rfl
    have f2 : DataW.trod enc Tryz.prog w base spare held n 9 (([c0, c1, c2].drop 2).take (Tryz.prog.cellsOf 9)) = ys[2]? := hf 2 _ rfl
    rw [cellsStrS] at f0 f1 f2
    match ys, hyl with
    | [y0, y1, y2], _ =>
    have f0 : DataW.trod enc Tryz.prog w base spare held n 9 [c0] = some y0 := f0
    have f1 : DataW.trod enc Tryz.prog w base spare held n 9 [c1] = some y1 := f1
    have f2 : DataW.trod enc Tryz.prog w base spare held n 9 [c2] = some y2 := f2
    obtain ⟨s0, h0, k0, m0⟩ := DataW.trod_string Tryz.underlying9 f0
    obtain ⟨s1, h1, k1, m1⟩ := DataW.trod_string Tryz.underlying9 f1
    obtain ⟨s2, h2, k2, m2⟩ := DataW.trod_string Tryz.underlying9 f2
    simp at h0 h1 h2
    subst h0 h1 h2
    refine ⟨s0.data.toList, s1.data.toList, s2.data.toList, Array.ext' (by rw [hcl]), ?_, ?_, ?_, ?_⟩
    · simpa using m0
    · simpa using m1
    · simpa using m2
    · rw [hxe, k0, k1, k2]
      rfl
end
end Go.Proofs.YtfdijcdpmgkdkaaGreatDoor
