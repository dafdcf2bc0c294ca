/- A part's bytes: a number's. -/
import Derived.Test.YtjofjgjocgooeaaDoorTup2
import Derived.Laws.BitsAllLaws
set_option linter.unusedVariables false
namespace Go.Proofs.YtjofjgjocgooeaaDoor
open Go.RowKit

theorem below_grow_tl' {B : Nat} {a w w' : World} {v : Value} {l : List UInt8} (h : Below B a w) (ht : Tl B w v l) (hg : w.grownBy w' v.ownBlock) (hB : B ≤ w.heap.size) : Below B a w' :=
  h.grown hg hB (fun k hk => (ht.lt k hk).1)
theorem Tl.lit1 (w : World) (b : UInt8) : Tl w.heap.size (w.alloc (.cells #[.int .u8 (b.toNat : Nat)] 5)) (.slice (some ⟨w.heap.size, 0, none⟩) 1 1) [b] :=
  .inr ⟨w.heap.size, 0, 1, #[.int .u8 (b.toNat : Nat)], rfl, Nat.le_refl _, heap_alloc_new w _, by simp, by simp, by decide, fun j hj => by
    obtain rfl : j = 0 := by simp at hj; omega
    rfl⟩

set_option maxRecDepth 100000 in
set_option maxHeartbeats 4000000 in
theorem bytes_num (x : Int) (s : ByteArray) (w : World) (hx1 : -9223372036854775808 ≤ x) (hx2 : x < 9223372036854775808) :
    Calls Tryd.prog 24 #[.agg #[.bool true, .int .i64 x, .string s]] w fun e w' => e = .returned (.string ⟨(pb ⟨true, x, s.data.toList⟩).toArray⟩) ∧ Below w.heap.size w w' := by
  have hcv : IntKind.u64.wrap (IntKind.u64.wrap x + 9223372036854775808) = ((turnN x : Nat) : Int) := by
    rw [IntKind.wrap_u64, IntKind.wrap_u64]; unfold turnN; omega
  have hNl : turnN x < 256 ^ 8 := by unfold turnN; omega
  obtain ⟨N, hN⟩ : ∃ N, turnN x = N := ⟨_, rfl⟩
  rw [hN] at hcv hNl
  have HN := Lib.hid hN
  clear hN
  go_enter Tryd.func24, Tryd.ntmps24
  go_upto_region 6 with (fail)
  have ht0 : Tl w.heap.size ((w.alloc (.cells #[.bool true, .int .i64 x, .string s] 39)).alloc (.cells #[.int .u8 2] 5)) (.slice (some ⟨w.heap.size + 1, 0, none⟩) 1 1) [2] := by
    have h := Tl.lit1 (w.alloc (.cells #[.bool true, .int .i64 x, .string s] 39)) 2
    rw [show (w.alloc (.cells #[.bool true, .int .i64 x, .string s] 39)).heap.size = w.heap.size + 1 by simp] at h
    exact h.mono (by omega)
  have hb0 : Below w.heap.size w ((w.alloc (.cells #[.bool true, .int .i64 x, .string s] 39)).alloc (.cells #[.int .u8 2] 5)) := ((Below.refl _ _).alloc (Nat.le_refl _) _).alloc (by simp) _
  have HT0 := Lib.hid ht0
  have HB0 := Lib.hid hb0
  clear ht0 hb0
  go_loopg [5, 4] 8 (fun k y v wr => ∃ L : List UInt8, ∃ (a : Option Addr) (n c : Nat), y = .int .i64 ((k : Int) - 1) ∧ v = .slice a n c ∧ k ≤ 8 ∧ Hid (Tl w.heap.size wr (.slice a n c) L) ∧ Hid (L ++ beN k N = 2 :: beN 8 N) ∧ Hid (L.length + k ≤ 9) ∧ Hid (Below w.heap.size w wr))
  case atStart => exact ⟨[2], _, _, _, rfl, rfl, Nat.le_refl _, HT0, Lib.hid rfl, Lib.hid (Nat.le_refl _), HB0⟩
  case round =>
    obtain ⟨L, a, n, c, rfl, rfl, hk, HT, HI, HLL, HB⟩ := hrel
    clear HT0 HB0
    rcases (by omega : gk = 0 ∨ gk = 1 ∨ gk = 2 ∨ gk = 3 ∨ gk = 4 ∨ gk = 5 ∨ gk = 6 ∨ gk = 7 ∨ gk = 8) with rfl | rfl | rfl | rfl | rfl | rfl | rfl | rfl | rfl
    · obtain ⟨a', c', hsh, hrd, _⟩ := HT.out.shape
      simp only [Value.slice.injEq] at hsh
      obtain ⟨rfl, rfl, rfl⟩ := hsh
      have hcv2 := str_of_rd hrd _ c rfl
      go_wp2_with fail
      refine bodyPost_ret (results_tmp rfl _ _ _) rfl ?_
      refine ⟨?_, HB.out⟩
      have e : L = 2 :: beN 8 N := by have := HI.out; rw [show beN 0 N = [] from rfl, List.append_nil] at this; exact this
      show Ending.returned (.string ⟨L.toArray⟩) = _
      rw [e, ← HN.out]
      rfl
    · obtain ⟨D, hD⟩ : ∃ D, UInt8.ofNat (N / 256 ^ 0 % 256) = D := ⟨_, rfl⟩
      have hbw : IntKind.u8.wrap (((N : Nat) : Int) / 1) = ((D.toNat : Nat) : Int) := by rw [← hD, IntKind.wrap_u8, UInt8.toNat_ofNat']; omega
      have hbm : ((N : Nat) : Int) % 256 = ((D.toNat : Nat) : Int) := by rw [← hD, UInt8.toNat_ofNat']; omega
      have hL : L ++ D :: beN 0 N = 2 :: beN 8 N := by rw [← hD]; exact HI.out
      have HL := Lib.hid hL
      have HD := Lib.hid (fun wr : World => (Rd.of_lit (T := 5) (fr := (0, 0)) [D] (by rw [heap_alloc_new]; rfl) : Rd (wr.alloc (.cells #[.int .u8 (D.toNat : Nat)] 5)) (some ⟨wr.heap.size, 0, none⟩) [D]))
      clear hL hD
      go_wp2_with (at_builtin; go_loud (refine wpList_append_tl rfl (.tmp 23) (.tmp 29) rfl w.heap.size _ L rfl (HT.out.keep fun k hk => Below.heap_alloc _ _ _ (HT.out.lt k hk).2) (some ⟨wr.heap.size, 0, none⟩) [D] 1 1 rfl rfl (HD.out wr) ?c1 ?c2 ?_))
      case c1 => have := HLL.out; simp; omega
      case c2 => have := HB.out.size; simp; omega
      intro a5 n5 c5 w5 hn5 ht5 hg5 how5
      have hb5 : Below w.heap.size w w5 := below_grow_tl' (HB.out.alloc HB.out.size _) (HT.out.keep fun k hk => Below.heap_alloc _ _ _ (HT.out.lt k hk).2) hg5 (by have := HB.out.size; simp; omega)
      have HT5 := Lib.hid ht5
      have HB5 := Lib.hid hb5
      clear hn5 ht5 hg5 how5 hb5
      go_wp2_with fail
      go_roundg 0
      case measure => omega
      case rel => exact ⟨L ++ [D], a5, n5, c5, by first | rfl | (congr 1), rfl, by omega, HT5, Lib.hid (by have := HL.out; rw [List.append_assoc]; exact this), Lib.hid (by have := HLL.out; simp; omega), HB5⟩
    · obtain ⟨D, hD⟩ : ∃ D, UInt8.ofNat (N / 256 ^ 1 % 256) = D := ⟨_, rfl⟩
      have hbw : IntKind.u8.wrap (((N : Nat) : Int) / 256) = ((D.toNat : Nat) : Int) := by rw [← hD, IntKind.wrap_u8, UInt8.toNat_ofNat']; omega
      have hbm : (((N : Nat) : Int) / 256) % 256 = ((D.toNat : Nat) : Int) := by rw [← hD, UInt8.toNat_ofNat']; omega
      have hL : L ++ D :: beN 1 N = 2 :: beN 8 N := by rw [← hD]; exact HI.out
      have HL := Lib.hid hL
      have HD := Lib.hid (fun wr : World => (Rd.of_lit (T := 5) (fr := (0, 0)) [D] (by rw [heap_alloc_new]; rfl) : Rd (wr.alloc (.cells #[.int .u8 (D.toNat : Nat)] 5)) (some ⟨wr.heap.size, 0, none⟩) [D]))
      clear hL hD
      go_wp2_with (at_builtin; go_loud (refine wpList_append_tl rfl (.tmp 23) (.tmp 29) rfl w.heap.size _ L rfl (HT.out.keep fun k hk => Below.heap_alloc _ _ _ (HT.out.lt k hk).2) (some ⟨wr.heap.size, 0, none⟩) [D] 1 1 rfl rfl (HD.out wr) ?c1 ?c2 ?_))
      case c1 => have := HLL.out; simp; omega
      case c2 => have := HB.out.size; simp; omega
      intro a5 n5 c5 w5 hn5 ht5 hg5 how5
      have hb5 : Below w.heap.size w w5 := below_grow_tl' (HB.out.alloc HB.out.size _) (HT.out.keep fun k hk => Below.heap_alloc _ _ _ (HT.out.lt k hk).2) hg5 (by have := HB.out.size; simp; omega)
      have HT5 := Lib.hid ht5
      have HB5 := Lib.hid hb5
      clear hn5 ht5 hg5 how5 hb5
      go_wp2_with fail
      go_roundg 1
      case measure => omega
      case rel => exact ⟨L ++ [D], a5, n5, c5, by first | rfl | (congr 1), rfl, by omega, HT5, Lib.hid (by have := HL.out; rw [List.append_assoc]; exact this), Lib.hid (by have := HLL.out; simp; omega), HB5⟩
    · obtain ⟨D, hD⟩ : ∃ D, UInt8.ofNat (N / 256 ^ 2 % 256) = D := ⟨_, rfl⟩
      have hbw : IntKind.u8.wrap (((N : Nat) : Int) / 65536) = ((D.toNat : Nat) : Int) := by rw [← hD, IntKind.wrap_u8, UInt8.toNat_ofNat']; omega
      have hbm : (((N : Nat) : Int) / 65536) % 256 = ((D.toNat : Nat) : Int) := by rw [← hD, UInt8.toNat_ofNat']; omega
      have hL : L ++ D :: beN 2 N = 2 :: beN 8 N := by rw [← hD]; exact HI.out
      have HL := Lib.hid hL
      have HD := Lib.hid (fun wr : World => (Rd.of_lit (T := 5) (fr := (0, 0)) [D] (by rw [heap_alloc_new]; rfl) : Rd (wr.alloc (.cells #[.int .u8 (D.toNat : Nat)] 5)) (some ⟨wr.heap.size, 0, none⟩) [D]))
      clear hL hD
      go_wp2_with (at_builtin; go_loud (refine wpList_append_tl rfl (.tmp 23) (.tmp 29) rfl w.heap.size _ L rfl (HT.out.keep fun k hk => Below.heap_alloc _ _ _ (HT.out.lt k hk).2) (some ⟨wr.heap.size, 0, none⟩) [D] 1 1 rfl rfl (HD.out wr) ?c1 ?c2 ?_))
      case c1 => have := HLL.out; simp; omega
      case c2 => have := HB.out.size; simp; omega
      intro a5 n5 c5 w5 hn5 ht5 hg5 how5
      have hb5 : Below w.heap.size w w5 := below_grow_tl' (HB.out.alloc HB.out.size _) (HT.out.keep fun k hk => Below.heap_alloc _ _ _ (HT.out.lt k hk).2) hg5 (by have := HB.out.size; simp; omega)
      have HT5 := Lib.hid ht5
      have HB5 := Lib.hid hb5
      clear hn5 ht5 hg5 how5 hb5
      go_wp2_with fail
      go_roundg 2
      case measure => omega
      case rel => exact ⟨L ++ [D], a5, n5, c5, by first | rfl | (congr 1), rfl, by omega, HT5, Lib.hid (by have := HL.out; rw [List.append_assoc]; exact this), Lib.hid (by have := HLL.out; simp; omega), HB5⟩
    · obtain ⟨D, hD⟩ : ∃ D, UInt8.ofNat (N / 256 ^ 3 % 256) = D := ⟨_, rfl⟩
      have hbw : IntKind.u8.wrap (((N : Nat) : Int) / 16777216) = ((D.toNat : Nat) : Int) := by rw [← hD, IntKind.wrap_u8, UInt8.toNat_ofNat']; omega
      have hbm : (((N : Nat) : Int) / 16777216) % 256 = ((D.toNat : Nat) : Int) := by rw [← hD, UInt8.toNat_ofNat']; omega
      have hL : L ++ D :: beN 3 N = 2 :: beN 8 N := by rw [← hD]; exact HI.out
      have HL := Lib.hid hL
      have HD := Lib.hid (fun wr : World => (Rd.of_lit (T := 5) (fr := (0, 0)) [D] (by rw [heap_alloc_new]; rfl) : Rd (wr.alloc (.cells #[.int .u8 (D.toNat : Nat)] 5)) (some ⟨wr.heap.size, 0, none⟩) [D]))
      clear hL hD
      go_wp2_with (at_builtin; go_loud (refine wpList_append_tl rfl (.tmp 23) (.tmp 29) rfl w.heap.size _ L rfl (HT.out.keep fun k hk => Below.heap_alloc _ _ _ (HT.out.lt k hk).2) (some ⟨wr.heap.size, 0, none⟩) [D] 1 1 rfl rfl (HD.out wr) ?c1 ?c2 ?_))
      case c1 => have := HLL.out; simp; omega
      case c2 => have := HB.out.size; simp; omega
      intro a5 n5 c5 w5 hn5 ht5 hg5 how5
      have hb5 : Below w.heap.size w w5 := below_grow_tl' (HB.out.alloc HB.out.size _) (HT.out.keep fun k hk => Below.heap_alloc _ _ _ (HT.out.lt k hk).2) hg5 (by have := HB.out.size; simp; omega)
      have HT5 := Lib.hid ht5
      have HB5 := Lib.hid hb5
      clear hn5 ht5 hg5 how5 hb5
      go_wp2_with fail
      go_roundg 3
      case measure => omega
      case rel => exact ⟨L ++ [D], a5, n5, c5, by first | rfl | (congr 1), rfl, by omega, HT5, Lib.hid (by have := HL.out; rw [List.append_assoc]; exact this), Lib.hid (by have := HLL.out; simp; omega), HB5⟩
    · obtain ⟨D, hD⟩ : ∃ D, UInt8.ofNat (N / 256 ^ 4 % 256) = D := ⟨_, rfl⟩
      have hbw : IntKind.u8.wrap (((N : Nat) : Int) / 4294967296) = ((D.toNat : Nat) : Int) := by rw [← hD, IntKind.wrap_u8, UInt8.toNat_ofNat']; omega
      have hbm : (((N : Nat) : Int) / 4294967296) % 256 = ((D.toNat : Nat) : Int) := by rw [← hD, UInt8.toNat_ofNat']; omega
      have hL : L ++ D :: beN 4 N = 2 :: beN 8 N := by rw [← hD]; exact HI.out
      have HL := Lib.hid hL
      have HD := Lib.hid (fun wr : World => (Rd.of_lit (T := 5) (fr := (0, 0)) [D] (by rw [heap_alloc_new]; rfl) : Rd (wr.alloc (.cells #[.int .u8 (D.toNat : Nat)] 5)) (some ⟨wr.heap.size, 0, none⟩) [D]))
      clear hL hD
      go_wp2_with (at_builtin; go_loud (refine wpList_append_tl rfl (.tmp 23) (.tmp 29) rfl w.heap.size _ L rfl (HT.out.keep fun k hk => Below.heap_alloc _ _ _ (HT.out.lt k hk).2) (some ⟨wr.heap.size, 0, none⟩) [D] 1 1 rfl rfl (HD.out wr) ?c1 ?c2 ?_))
      case c1 => have := HLL.out; simp; omega
      case c2 => have := HB.out.size; simp; omega
      intro a5 n5 c5 w5 hn5 ht5 hg5 how5
      have hb5 : Below w.heap.size w w5 := below_grow_tl' (HB.out.alloc HB.out.size _) (HT.out.keep fun k hk => Below.heap_alloc _ _ _ (HT.out.lt k hk).2) hg5 (by have := HB.out.size; simp; omega)
      have HT5 := Lib.hid ht5
      have HB5 := Lib.hid hb5
      clear hn5 ht5 hg5 how5 hb5
      go_wp2_with fail
      go_roundg 4
      case measure => omega
      case rel => exact ⟨L ++ [D], a5, n5, c5, by first | rfl | (congr 1), rfl, by omega, HT5, Lib.hid (by have := HL.out; rw [List.append_assoc]; exact this), Lib.hid (by have := HLL.out; simp; omega), HB5⟩
    · obtain ⟨D, hD⟩ : ∃ D, UInt8.ofNat (N / 256 ^ 5 % 256) = D := ⟨_, rfl⟩
      have hbw : IntKind.u8.wrap (((N : Nat) : Int) / 1099511627776) = ((D.toNat : Nat) : Int) := by rw [← hD, IntKind.wrap_u8, UInt8.toNat_ofNat']; omega
      have hbm : (((N : Nat) : Int) / 1099511627776) % 256 = ((D.toNat : Nat) : Int) := by rw [← hD, UInt8.toNat_ofNat']; omega
      have hL : L ++ D :: beN 5 N = 2 :: beN 8 N := by rw [← hD]; exact HI.out
      have HL := Lib.hid hL
      have HD := Lib.hid (fun wr : World => (Rd.of_lit (T := 5) (fr := (0, 0)) [D] (by rw [heap_alloc_new]; rfl) : Rd (wr.alloc (.cells #[.int .u8 (D.toNat : Nat)] 5)) (some ⟨wr.heap.size, 0, none⟩) [D]))
      clear hL hD
      go_wp2_with (at_builtin; go_loud (refine wpList_append_tl rfl (.tmp 23) (.tmp 29) rfl w.heap.size _ L rfl (HT.out.keep fun k hk => Below.heap_alloc _ _ _ (HT.out.lt k hk).2) (some ⟨wr.heap.size, 0, none⟩) [D] 1 1 rfl rfl (HD.out wr) ?c1 ?c2 ?_))
      case c1 => have := HLL.out; simp; omega
      case c2 => have := HB.out.size; simp; omega
      intro a5 n5 c5 w5 hn5 ht5 hg5 how5
      have hb5 : Below w.heap.size w w5 := below_grow_tl' (HB.out.alloc HB.out.size _) (HT.out.keep fun k hk => Below.heap_alloc _ _ _ (HT.out.lt k hk).2) hg5 (by have := HB.out.size; simp; omega)
      have HT5 := Lib.hid ht5
      have HB5 := Lib.hid hb5
      clear hn5 ht5 hg5 how5 hb5
      go_wp2_with fail
      go_roundg 5
      case measure => omega
      case rel => exact ⟨L ++ [D], a5, n5, c5, by first | rfl | (congr 1), rfl, by omega, HT5, Lib.hid (by have := HL.out; rw [List.append_assoc]; exact this), Lib.hid (by have := HLL.out; simp; omega), HB5⟩
    · obtain ⟨D, hD⟩ : ∃ D, UInt8.ofNat (N / 256 ^ 6 % 256) = D := ⟨_, rfl⟩
      have hbw : IntKind.u8.wrap (((N : Nat) : Int) / 281474976710656) = ((D.toNat : Nat) : Int) := by rw [← hD, IntKind.wrap_u8, UInt8.toNat_ofNat']; omega
      have hbm : (((N : Nat) : Int) / 281474976710656) % 256 = ((D.toNat : Nat) : Int) := by rw [← hD, UInt8.toNat_ofNat']; omega
      have hL : L ++ D :: beN 6 N = 2 :: beN 8 N := by rw [← hD]; exact HI.out
      have HL := Lib.hid hL
      have HD := Lib.hid (fun wr : World => (Rd.of_lit (T := 5) (fr := (0, 0)) [D] (by rw [heap_alloc_new]; rfl) : Rd (wr.alloc (.cells #[.int .u8 (D.toNat : Nat)] 5)) (some ⟨wr.heap.size, 0, none⟩) [D]))
      clear hL hD
      go_wp2_with (at_builtin; go_loud (refine wpList_append_tl rfl (.tmp 23) (.tmp 29) rfl w.heap.size _ L rfl (HT.out.keep fun k hk => Below.heap_alloc _ _ _ (HT.out.lt k hk).2) (some ⟨wr.heap.size, 0, none⟩) [D] 1 1 rfl rfl (HD.out wr) ?c1 ?c2 ?_))
      case c1 => have := HLL.out; simp; omega
      case c2 => have := HB.out.size; simp; omega
      intro a5 n5 c5 w5 hn5 ht5 hg5 how5
      have hb5 : Below w.heap.size w w5 := below_grow_tl' (HB.out.alloc HB.out.size _) (HT.out.keep fun k hk => Below.heap_alloc _ _ _ (HT.out.lt k hk).2) hg5 (by have := HB.out.size; simp; omega)
      have HT5 := Lib.hid ht5
      have HB5 := Lib.hid hb5
      clear hn5 ht5 hg5 how5 hb5
      go_wp2_with fail
      go_roundg 6
      case measure => omega
      case rel => exact ⟨L ++ [D], a5, n5, c5, by first | rfl | (congr 1), rfl, by omega, HT5, Lib.hid (by have := HL.out; rw [List.append_assoc]; exact this), Lib.hid (by have := HLL.out; simp; omega), HB5⟩
    · obtain ⟨D, hD⟩ : ∃ D, UInt8.ofNat (N / 256 ^ 7 % 256) = D := ⟨_, rfl⟩
      have hbw : IntKind.u8.wrap (((N : Nat) : Int) / 72057594037927936) = ((D.toNat : Nat) : Int) := by rw [← hD, IntKind.wrap_u8, UInt8.toNat_ofNat']; omega
      have hbm : (((N : Nat) : Int) / 72057594037927936) % 256 = ((D.toNat : Nat) : Int) := by rw [← hD, UInt8.toNat_ofNat']; omega
      have hL : L ++ D :: beN 7 N = 2 :: beN 8 N := by rw [← hD]; exact HI.out
      have HL := Lib.hid hL
      have HD := Lib.hid (fun wr : World => (Rd.of_lit (T := 5) (fr := (0, 0)) [D] (by rw [heap_alloc_new]; rfl) : Rd (wr.alloc (.cells #[.int .u8 (D.toNat : Nat)] 5)) (some ⟨wr.heap.size, 0, none⟩) [D]))
      clear hL hD
      go_wp2_with (at_builtin; go_loud (refine wpList_append_tl rfl (.tmp 23) (.tmp 29) rfl w.heap.size _ L rfl (HT.out.keep fun k hk => Below.heap_alloc _ _ _ (HT.out.lt k hk).2) (some ⟨wr.heap.size, 0, none⟩) [D] 1 1 rfl rfl (HD.out wr) ?c1 ?c2 ?_))
      case c1 => have := HLL.out; simp; omega
      case c2 => have := HB.out.size; simp; omega
      intro a5 n5 c5 w5 hn5 ht5 hg5 how5
      have hb5 : Below w.heap.size w w5 := below_grow_tl' (HB.out.alloc HB.out.size _) (HT.out.keep fun k hk => Below.heap_alloc _ _ _ (HT.out.lt k hk).2) hg5 (by have := HB.out.size; simp; omega)
      have HT5 := Lib.hid ht5
      have HB5 := Lib.hid hb5
      clear hn5 ht5 hg5 how5 hb5
      go_wp2_with fail
      go_roundg 7
      case measure => omega
      case rel => exact ⟨L ++ [D], a5, n5, c5, by first | rfl | (congr 1), rfl, by omega, HT5, Lib.hid (by have := HL.out; rw [List.append_assoc]; exact this), Lib.hid (by have := HLL.out; simp; omega), HB5⟩
end Go.Proofs.YtjofjgjocgooeaaDoor
