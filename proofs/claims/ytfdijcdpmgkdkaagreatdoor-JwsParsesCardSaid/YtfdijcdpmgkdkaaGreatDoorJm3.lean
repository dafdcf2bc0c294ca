/- Merged: RefA, RefB, RefC, Sl, RefD, RefE, ShaL, Mac1, Mac2. -/
import Derived.Great.BuildSlice
import Derived.BigQuiet
import Derived.WalkSpells
import Derived.Deep.OwnRows
import Derived.Deep.LoopGhost
import Derived.Laws.CopyOwn
import Derived.Laws.BitsAllLaws
import Derived.Test.YtfdijcdpmgkdkaaGreatDoorJm1
import Derived.Test.YtfdijcdpmgkdkaaGreatDoorJm2
set_option linter.unusedVariables false
namespace Go.Proofs.YtfdijcdpmgkdkaaGreatDoor
open Go.RowKit

theorem top_any (x : Nat) (w : World) (h : x < 9223372036854775808) : Calls Tryz.prog 148 #[.int .i64 (x : Nat)] w fun e w' => e = .returned (.int .i64 (x % 4294967296 : Nat)) ∧ w' = w := by
  go_enter Tryz.func148, Tryz.ntmps148
  go_wp2
  go_ret
  exact ⟨by simp, rfl⟩

theorem turn_2 (x : Nat) (w : World) (h : x < 4294967296) : Calls Tryz.prog 149 #[.int .i64 (x : Nat), .int .i64 2] w fun e w' => e = .returned (.int .i64 (rot x 2 : Nat)) ∧ ∃ n, w' = w.drewN n := by
  have hx0 : 0 ≤ (x : Int) := by omega
  have e1 : IntKind.i64.wrap ((x : Int) % 4 * 1073741824) = (x : Int) % 4 * 1073741824 := IntWalk.i64_in _ (by omega)
  have e2 : IntKind.i64.wrap ((x : Int) / 4 + (x : Int) % 4 * 1073741824) = (x : Int) / 4 + (x : Int) % 4 * 1073741824 := IntWalk.i64_in _ (by omega)
  go_enter Tryz.func149, Tryz.ntmps149
  go_upto_region 2 with (fail)
  go_quiet (fail)
  go_wp2
  go_ret
  refine ⟨?_, _, rfl⟩
  have : (x : Int) / 4 + (x : Int) % 4 * 1073741824 = ((rot x 2 : Nat) : Int) := by simp [rot]
  rw [this]
  rfl
theorem turn_6 (x : Nat) (w : World) (h : x < 4294967296) : Calls Tryz.prog 149 #[.int .i64 (x : Nat), .int .i64 6] w fun e w' => e = .returned (.int .i64 (rot x 6 : Nat)) ∧ ∃ n, w' = w.drewN n := by
  have hx0 : 0 ≤ (x : Int) := by omega
  have e1 : IntKind.i64.wrap ((x : Int) % 64 * 67108864) = (x : Int) % 64 * 67108864 := IntWalk.i64_in _ (by omega)
  have e2 : IntKind.i64.wrap ((x : Int) / 64 + (x : Int) % 64 * 67108864) = (x : Int) / 64 + (x : Int) % 64 * 67108864 := IntWalk.i64_in _ (by omega)
  go_enter Tryz.func149, Tryz.ntmps149
  go_upto_region 2 with (fail)
  go_quiet (fail)
  go_wp2
  go_ret
  refine ⟨?_, _, rfl⟩
  have : (x : Int) / 64 + (x : Int) % 64 * 67108864 = ((rot x 6 : Nat) : Int) := by simp [rot]
  rw [this]
  rfl
theorem turn_7 (x : Nat) (w : World) (h : x < 4294967296) : Calls Tryz.prog 149 #[.int .i64 (x : Nat), .int .i64 7] w fun e w' => e = .returned (.int .i64 (rot x 7 : Nat)) ∧ ∃ n, w' = w.drewN n := by
  have hx0 : 0 ≤ (x : Int) := by omega
  have e1 : IntKind.i64.wrap ((x : Int) % 128 * 33554432) = (x : Int) % 128 * 33554432 := IntWalk.i64_in _ (by omega)
  have e2 : IntKind.i64.wrap ((x : Int) / 128 + (x : Int) % 128 * 33554432) = (x : Int) / 128 + (x : Int) % 128 * 33554432 := IntWalk.i64_in _ (by omega)
  go_enter Tryz.func149, Tryz.ntmps149
  go_upto_region 2 with (fail)
  go_quiet (fail)
  go_wp2
  go_ret
  refine ⟨?_, _, rfl⟩
  have : (x : Int) / 128 + (x : Int) % 128 * 33554432 = ((rot x 7 : Nat) : Int) := by simp [rot]
  rw [this]
  rfl
theorem turn_11 (x : Nat) (w : World) (h : x < 4294967296) : Calls Tryz.prog 149 #[.int .i64 (x : Nat), .int .i64 11] w fun e w' => e = .returned (.int .i64 (rot x 11 : Nat)) ∧ ∃ n, w' = w.drewN n := by
  have hx0 : 0 ≤ (x : Int) := by omega
  have e1 : IntKind.i64.wrap ((x : Int) % 2048 * 2097152) = (x : Int) % 2048 * 2097152 := IntWalk.i64_in _ (by omega)
  have e2 : IntKind.i64.wrap ((x : Int) / 2048 + (x : Int) % 2048 * 2097152) = (x : Int) / 2048 + (x : Int) % 2048 * 2097152 := IntWalk.i64_in _ (by omega)
  go_enter Tryz.func149, Tryz.ntmps149
  go_upto_region 2 with (fail)
  go_quiet (fail)
  go_wp2
  go_ret
  refine ⟨?_, _, rfl⟩
  have : (x : Int) / 2048 + (x : Int) % 2048 * 2097152 = ((rot x 11 : Nat) : Int) := by simp [rot]
  rw [this]
  rfl
theorem turn_13 (x : Nat) (w : World) (h : x < 4294967296) : Calls Tryz.prog 149 #[.int .i64 (x : Nat), .int .i64 13] w fun e w' => e = .returned (.int .i64 (rot x 13 : Nat)) ∧ ∃ n, w' = w.drewN n := by
  have hx0 : 0 ≤ (x : Int) := by omega
  have e1 : IntKind.i64.wrap ((x : Int) % 8192 * 524288) = (x : Int) % 8192 * 524288 := IntWalk.i64_in _ (by omega)
  have e2 : IntKind.i64.wrap ((x : Int) / 8192 + (x : Int) % 8192 * 524288) = (x : Int) / 8192 + (x : Int) % 8192 * 524288 := IntWalk.i64_in _ (by omega)
  go_enter Tryz.func149, Tryz.ntmps149
  go_upto_region 2 with (fail)
  go_quiet (fail)
  go_wp2
  go_ret
  refine ⟨?_, _, rfl⟩
  have : (x : Int) / 8192 + (x : Int) % 8192 * 524288 = ((rot x 13 : Nat) : Int) := by simp [rot]
  rw [this]
  rfl
theorem turn_17 (x : Nat) (w : World) (h : x < 4294967296) : Calls Tryz.prog 149 #[.int .i64 (x : Nat), .int .i64 17] w fun e w' => e = .returned (.int .i64 (rot x 17 : Nat)) ∧ ∃ n, w' = w.drewN n := by
  have hx0 : 0 ≤ (x : Int) := by omega
  have e1 : IntKind.i64.wrap ((x : Int) % 131072 * 32768) = (x : Int) % 131072 * 32768 := IntWalk.i64_in _ (by omega)
  have e2 : IntKind.i64.wrap ((x : Int) / 131072 + (x : Int) % 131072 * 32768) = (x : Int) / 131072 + (x : Int) % 131072 * 32768 := IntWalk.i64_in _ (by omega)
  go_enter Tryz.func149, Tryz.ntmps149
  go_upto_region 2 with (fail)
  go_quiet (fail)
  go_wp2
  go_ret
  refine ⟨?_, _, rfl⟩
  have : (x : Int) / 131072 + (x : Int) % 131072 * 32768 = ((rot x 17 : Nat) : Int) := by simp [rot]
  rw [this]
  rfl
theorem turn_18 (x : Nat) (w : World) (h : x < 4294967296) : Calls Tryz.prog 149 #[.int .i64 (x : Nat), .int .i64 18] w fun e w' => e = .returned (.int .i64 (rot x 18 : Nat)) ∧ ∃ n, w' = w.drewN n := by
  have hx0 : 0 ≤ (x : Int) := by omega
  have e1 : IntKind.i64.wrap ((x : Int) % 262144 * 16384) = (x : Int) % 262144 * 16384 := IntWalk.i64_in _ (by omega)
  have e2 : IntKind.i64.wrap ((x : Int) / 262144 + (x : Int) % 262144 * 16384) = (x : Int) / 262144 + (x : Int) % 262144 * 16384 := IntWalk.i64_in _ (by omega)
  go_enter Tryz.func149, Tryz.ntmps149
  go_upto_region 2 with (fail)
  go_quiet (fail)
  go_wp2
  go_ret
  refine ⟨?_, _, rfl⟩
  have : (x : Int) / 262144 + (x : Int) % 262144 * 16384 = ((rot x 18 : Nat) : Int) := by simp [rot]
  rw [this]
  rfl
theorem turn_19 (x : Nat) (w : World) (h : x < 4294967296) : Calls Tryz.prog 149 #[.int .i64 (x : Nat), .int .i64 19] w fun e w' => e = .returned (.int .i64 (rot x 19 : Nat)) ∧ ∃ n, w' = w.drewN n := by
  have hx0 : 0 ≤ (x : Int) := by omega
  have e1 : IntKind.i64.wrap ((x : Int) % 524288 * 8192) = (x : Int) % 524288 * 8192 := IntWalk.i64_in _ (by omega)
  have e2 : IntKind.i64.wrap ((x : Int) / 524288 + (x : Int) % 524288 * 8192) = (x : Int) / 524288 + (x : Int) % 524288 * 8192 := IntWalk.i64_in _ (by omega)
  go_enter Tryz.func149, Tryz.ntmps149
  go_upto_region 2 with (fail)
  go_quiet (fail)
  go_wp2
  go_ret
  refine ⟨?_, _, rfl⟩
  have : (x : Int) / 524288 + (x : Int) % 524288 * 8192 = ((rot x 19 : Nat) : Int) := by simp [rot]
  rw [this]
  rfl
theorem turn_22 (x : Nat) (w : World) (h : x < 4294967296) : Calls Tryz.prog 149 #[.int .i64 (x : Nat), .int .i64 22] w fun e w' => e = .returned (.int .i64 (rot x 22 : Nat)) ∧ ∃ n, w' = w.drewN n := by
  have hx0 : 0 ≤ (x : Int) := by omega
  have e1 : IntKind.i64.wrap ((x : Int) % 4194304 * 1024) = (x : Int) % 4194304 * 1024 := IntWalk.i64_in _ (by omega)
  have e2 : IntKind.i64.wrap ((x : Int) / 4194304 + (x : Int) % 4194304 * 1024) = (x : Int) / 4194304 + (x : Int) % 4194304 * 1024 := IntWalk.i64_in _ (by omega)
  go_enter Tryz.func149, Tryz.ntmps149
  go_upto_region 2 with (fail)
  go_quiet (fail)
  go_wp2
  go_ret
  refine ⟨?_, _, rfl⟩
  have : (x : Int) / 4194304 + (x : Int) % 4194304 * 1024 = ((rot x 22 : Nat) : Int) := by simp [rot]
  rw [this]
  rfl
theorem turn_25 (x : Nat) (w : World) (h : x < 4294967296) : Calls Tryz.prog 149 #[.int .i64 (x : Nat), .int .i64 25] w fun e w' => e = .returned (.int .i64 (rot x 25 : Nat)) ∧ ∃ n, w' = w.drewN n := by
  have hx0 : 0 ≤ (x : Int) := by omega
  have e1 : IntKind.i64.wrap ((x : Int) % 33554432 * 128) = (x : Int) % 33554432 * 128 := IntWalk.i64_in _ (by omega)
  have e2 : IntKind.i64.wrap ((x : Int) / 33554432 + (x : Int) % 33554432 * 128) = (x : Int) / 33554432 + (x : Int) % 33554432 * 128 := IntWalk.i64_in _ (by omega)
  go_enter Tryz.func149, Tryz.ntmps149
  go_upto_region 2 with (fail)
  go_quiet (fail)
  go_wp2
  go_ret
  refine ⟨?_, _, rfl⟩
  have : (x : Int) / 33554432 + (x : Int) % 33554432 * 128 = ((rot x 25 : Nat) : Int) := by simp [rot]
  rw [this]
  rfl

theorem wr_nat (n : Nat) (h : n < 9223372036854775808) : IntKind.i64.wrap (n : Int) = (n : Int) := IntWalk.i64_in _ (by omega)
set_option maxHeartbeats 1000000 in
theorem word_ref (a : Option Addr) (l : List UInt8) (n c t : Nat) (I : Int) (w : World) (hr : Rd w a l) (hn : n = l.length) (hI : I = 4 * (t : Int)) (hl : l.length ≤ 1000000) (ht : 4 * t + 3 < l.length) :
    Calls Tryz.prog 188 #[.slice a n c, .int .i64 I] w fun e w' => e = .returned (.int .i64 (word l t : Nat)) ∧ ∃ n, w' = w.drewN n := by
  subst hn hI
  obtain ⟨b, off, rfl, hc⟩ := hr.at (show 0 < l.length by omega)
  have hc0 := hc (4 * t) (by omega)
  have hc1 := hc (4 * t + 1) (by omega)
  have hc2 := hc (4 * t + 2) (by omega)
  have hc3 := hc (4 * t + 3) (by omega)
  have hb0 := (l[4 * t]'(by omega)).toNat_lt
  have hb1 := (l[4 * t + 1]'(by omega)).toNat_lt
  have hb2 := (l[4 * t + 2]'(by omega)).toNat_lt
  have hb3 := (l[4 * t + 3]'(by omega)).toNat_lt
  have hword : word l t = (l[4 * t]'(by omega)).toNat * 16777216 + (l[4 * t + 1]'(by omega)).toNat * 65536 + (l[4 * t + 2]'(by omega)).toNat * 256 + (l[4 * t + 3]'(by omega)).toNat := by
    unfold word
    rw [getD_at l (4 * t) (by omega), getD_at l (4 * t + 1) (by omega), getD_at l (4 * t + 2) (by omega), getD_at l (4 * t + 3) (by omega)]
  obtain ⟨x0, hx0⟩ : ∃ x, (l[4 * t]'(by omega)).toNat = x := ⟨_, rfl⟩
  obtain ⟨x1, hx1⟩ : ∃ x, (l[4 * t + 1]'(by omega)).toNat = x := ⟨_, rfl⟩
  obtain ⟨x2, hx2⟩ : ∃ x, (l[4 * t + 2]'(by omega)).toNat = x := ⟨_, rfl⟩
  obtain ⟨x3, hx3⟩ : ∃ x, (l[4 * t + 3]'(by omega)).toNat = x := ⟨_, rfl⟩
  rw [hx0] at hc0 hb0 hword
  rw [hx1] at hc1 hb1 hword
  rw [hx2] at hc2 hb2 hword
  rw [hx3] at hc3 hb3 hword
  have w0 : IntKind.i64.wrap (x0 : Int) = (x0 : Int) := wr_nat _ (by omega)
  have w1 : IntKind.i64.wrap (x1 : Int) = (x1 : Int) := wr_nat _ (by omega)
  have w2 : IntKind.i64.wrap (x2 : Int) = (x2 : Int) := wr_nat _ (by omega)
  have w3 : IntKind.i64.wrap (x3 : Int) = (x3 : Int) := wr_nat _ (by omega)
  have HW := Lib.hid hword
  clear hword hc hr hx0 hx1 hx2 hx3
  have i1 : IntKind.i64.wrap (4 * (t : Int) + 1) = 4 * (t : Int) + 1 := IntWalk.i64_in _ (by omega)
  have i2 : IntKind.i64.wrap (4 * (t : Int) + 2) = 4 * (t : Int) + 2 := IntWalk.i64_in _ (by omega)
  have i3 : IntKind.i64.wrap (4 * (t : Int) + 3) = 4 * (t : Int) + 3 := IntWalk.i64_in _ (by omega)
  have n0 : (4 * (t : Int)).toNat = 4 * t := by omega
  have n1 : (4 * (t : Int) + 1).toNat = 4 * t + 1 := by omega
  have n2 : (4 * (t : Int) + 2).toNat = 4 * t + 2 := by omega
  have n3 : (4 * (t : Int) + 3).toNat = 4 * t + 3 := by omega
  have p0 : 0 ≤ 4 * (t : Int) := by omega
  have p1 : 0 ≤ 4 * (t : Int) + 1 := by omega
  have p2 : 0 ≤ 4 * (t : Int) + 2 := by omega
  have p3 : 0 ≤ 4 * (t : Int) + 3 := by omega
  have q0 : 4 * (t : Int) < (l.length : Int) := by omega
  have q1 : 4 * (t : Int) + 1 < (l.length : Int) := by omega
  have q2 : 4 * (t : Int) + 2 < (l.length : Int) := by omega
  have q3 : 4 * (t : Int) + 3 < (l.length : Int) := by omega
  have m0 : IntKind.i64.wrap ((x0 : Int) * 16777216) = (x0 : Int) * 16777216 := wr_nat (x0 * 16777216) (by omega)
  have m1 : IntKind.i64.wrap ((x1 : Int) * 65536) = (x1 : Int) * 65536 := wr_nat (x1 * 65536) (by omega)
  have m2 : IntKind.i64.wrap ((x2 : Int) * 256) = (x2 : Int) * 256 := wr_nat (x2 * 256) (by omega)
  have s1 : IntKind.i64.wrap ((x0 : Int) * 16777216 + (x1 : Int) * 65536) = (x0 : Int) * 16777216 + (x1 : Int) * 65536 := wr_nat (x0 * 16777216 + x1 * 65536) (by omega)
  have s2 : IntKind.i64.wrap ((x0 : Int) * 16777216 + (x1 : Int) * 65536 + (x2 : Int) * 256) = (x0 : Int) * 16777216 + (x1 : Int) * 65536 + (x2 : Int) * 256 := wr_nat (x0 * 16777216 + x1 * 65536 + x2 * 256) (by omega)
  have s3 : IntKind.i64.wrap ((x0 : Int) * 16777216 + (x1 : Int) * 65536 + (x2 : Int) * 256 + (x3 : Int)) = (x0 : Int) * 16777216 + (x1 : Int) * 65536 + (x2 : Int) * 256 + (x3 : Int) := wr_nat (x0 * 16777216 + x1 * 65536 + x2 * 256 + x3) (by omega)
  go_enter Tryz.func188, Tryz.ntmps188
  go_upto_region 1 with (fail)
  go_quiet (fail)
  go_wp2
  go_ret
  refine ⟨?_, _, rfl⟩
  have : (x0 : Int) * 16777216 + (x1 : Int) * 65536 + (x2 : Int) * 256 + (x3 : Int) = ((word l t : Nat) : Int) := by rw [HW.out]; simp
  rw [this]
  rfl

theorem iv_ints : (ints iv).toArray = #[.int .i64 1779033703, .int .i64 3144134277, .int .i64 1013904242, .int .i64 2773480762, .int .i64 1359893119, .int .i64 2600822924, .int .i64 528734635, .int .i64 1541459225] := rfl
theorem first_any (w : World) : Calls Tryz.prog 146 #[] w fun e w' => e = .returned (.slice (some ⟨w.heap.size, 0, none⟩) 8 8) ∧ w' = w.alloc (.cells (ints iv).toArray 3) := by
  rw [iv_ints]
  go_enter Tryz.func146, Tryz.ntmps146
  go_wp2
  go_ret
  exact ⟨rfl, rfl⟩
set_option maxRecDepth 100000 in
set_option maxHeartbeats 4000000 in
theorem keys_any (w : World) : Calls Tryz.prog 145 #[] w fun e w' => e = .returned (.slice (some ⟨w.heap.size, 0, none⟩) 64 64) ∧ w' = w.alloc (.cells (ints kTab).toArray 3) := by
  have e : (ints kTab).toArray = ((kTab.map fun n : Nat => (n : Int)).map (Value.int .i64)).toArray := by simp only [ints, List.map_map]; rfl
  rw [e]
  clear e
  obtain ⟨zs, hzs⟩ : ∃ zs, ((kTab.map fun n : Nat => (n : Int)).map (Value.int .i64)).toArray = zs := ⟨_, rfl⟩
  rw [hzs]
  go_enter Tryz.func145, Tryz.ntmps145
  go_upto_region 1 with (fail)
  apply wp_region_lit
  refine wpList_buildFlat rfl 186 3 64 _ rfl .i64 (kTab.map fun n : Nat => (n : Int)) Tryz.underlying186 (by kernel_rfl) (by kernel_rfl) rfl (by decide) (by decide) (by kernel_rfl) ?_
  rw [hzs]
  clear hzs
  go_wp2
  go_ret
  exact ⟨rfl, rfl⟩
end Go.Proofs.YtfdijcdpmgkdkaaGreatDoor
set_option linter.unusedVariables false
namespace Go.Proofs.YtfdijcdpmgkdkaaGreatDoor
open Go.RowKit

theorem i64_xor_nat (a b : Nat) (ha : a < 4294967296) (hb : b < 4294967296) : bits .xor .i64 (a : Int) (b : Int) = ((a ^^^ b : Nat) : Int) := by
  have hx : a ^^^ b < 2 ^ 32 := Nat.xor_lt_two_pow (by omega) (by omega)
  show IntKind.i64.wrap ((BitVec.ofInt 64 (a : Int) ^^^ BitVec.ofInt 64 (b : Int)).toNat : Int) = _
  rw [BitVec.toNat_xor, ofInt_u64 a (by omega), ofInt_u64 b (by omega), IntKind.wrap_i64]
  omega

/-- A row of machine numbers of the call's own. -/
def OwnI (B : Nat) (w : World) (v : Value) (ns : List Nat) : Prop := w.ownsRow B 3 1 v ns.length (ints ns)
theorem ints_len (l : List Nat) : (ints l).length = l.length := by simp [ints]
theorem ints_app (l m : List Nat) : ints (l ++ m) = ints l ++ ints m := by simp [ints]
theorem ints_one (l : List Nat) : ∀ u ∈ ints l, u.oneCell' = true := by
  intro u hu; obtain ⟨_, _, rfl⟩ := List.mem_map.1 hu; rfl
theorem OwnI.nil (B : Nat) (w : World) : OwnI B w (.slice none 0 0) [] := World.ownsRow_nil _ _ _ _
theorem OwnI.empty (w : World) : OwnI w.heap.size (w.alloc (.cells #[] 3)) (.slice (some ⟨w.heap.size, 0, none⟩) 0 0) [] := World.ownsRow_made w #[] 0 (Nat.le_refl _) (by decide) rfl
theorem OwnI.lt {B : Nat} {w : World} {v : Value} {l : List Nat} (h : OwnI B w v l) : ∀ k, v.ownBlock = some k → B ≤ k ∧ k < w.heap.size := World.ownsRow.lt h
theorem OwnI.alloc {B : Nat} {w : World} {v : Value} {l : List Nat} (h : OwnI B w v l) (o : Obj) : OwnI B (w.alloc o) v l := World.ownsRow.alloc h o
theorem OwnI.cell {B : Nat} {w : World} {g off n c : Nat} {ns : List Nat} (h : OwnI B w (.slice (some ⟨g, off, none⟩) n c) ns) {j : Nat} (hj : j < ns.length) : w.cell? ⟨g, j, none⟩ = some (.int .i64 (ns[j] : Nat)) := by
  rcases h.2 with ⟨h0, _⟩ | ⟨g', cap, cur, h0, _, hg, hle, _, hsz, htake⟩
  · cases h0
  · simp at h0
    obtain ⟨⟨rfl, rfl⟩, rfl, rfl⟩ := h0
    have h1 : (cur.toList.take (ns.length * 1))[j]? = (ints ns)[j]? := by rw [htake]
    rw [List.getElem?_take, if_pos (by omega)] at h1
    rw [Lib.cell_of_heap hg, ← Array.getElem?_toList, h1]
    simp [ints, hj]
theorem OwnI.shape {B : Nat} {w : World} {v : Value} {ns : List Nat} (h : OwnI B w v ns) (hne : 0 < ns.length) : ∃ g c, v = .slice (some ⟨g, 0, none⟩) ns.length c := by
  rcases h.2 with ⟨_, h0⟩ | ⟨g', cap, cur, h0, _⟩
  · omega
  · exact ⟨g', cap, h0⟩
/-- The relation looks at its own block alone. -/
theorem OwnI.keep {B : Nat} {w w' : World} {v : Value} {l : List Nat} (h : OwnI B w v l) (hk : ∀ k, v.ownBlock = some k → w'.heap[k]? = w.heap[k]?) : OwnI B w' v l := by
  refine ⟨h.1, h.2.imp id ?_⟩
  rintro ⟨g, cap, cur, rfl, hB, hg, h⟩
  exact ⟨g, cap, cur, rfl, hB, by rw [hk g rfl]; exact hg, h⟩
theorem OwnI.below {B : Nat} {w w' : World} {v : Value} {l : List Nat} (h : OwnI B w v l) (hb : Below w.heap.size w w') : OwnI B w' v l := h.keep fun k hk => hb.block k (h.lt k hk).2
theorem info_int : ∃ i, Tryz.prog.info? 3 = some i ∧ i.zero = some (.int .i64 0) ∧ i.size = 1 ∧ i.bytes = 8 := info_parts (by kernel_rfl)

theorem wpList_append_ints {ops : Array Oper} {rest : List Oper} {o : Oper} {a : Act} {w : World} {Q : Exit → Act → World → Prop} (hgd : o.guard = none) (s x : Operand)
    (ho : o.op = .call { callee := .builtin .append, args := #[s, x], argTypes := #[186, 186] })
    (B : Nat) (v : Value) (l : List Nat) (hs : a.eval s = v) (hown : OwnI B w v l) (g : Nat) (m : List Nat) (n c : Nat) (hx : a.eval x = .slice (some ⟨g, 0, none⟩) n c) (hn : n = m.length) (hm : 0 < m.length)
    (hcell : ∀ j (h : j < m.length), w.cell? ⟨g, j, none⟩ = some (.int .i64 (m[j] : Nat)))
    (hlen : l.length + m.length ≤ 1000000) (hB : B ≤ w.heap.size)
    (hk : ∀ g' n' c' w', Hid (n' = (l ++ m).length) → OwnI B w' (.slice (some ⟨g', 0, none⟩) n' c') (l ++ m) → w.grownBy w' v.ownBlock → (some g' = v.ownBlock ∨ w.heap.size ≤ g') →
      wpList Tryz.prog ops Q rest (a.put o.dst (.slice (some ⟨g', 0, none⟩) n' c')) w') : wpList Tryz.prog ops Q (o :: rest) a w := by
  subst hn
  obtain ⟨i0, hi, hz0, hz1, hz2⟩ := info_int
  refine wpList_append_own_at w hgd s x 186 ho B 3 i0 (.int .i64 0) 1 8 Tryz.underlying186 hi hz0 hz1 hz2 rfl (by decide) v l.length (ints l) hs hown ⟨g, 0, none⟩ m.length c (ints m) hx (by simp [ints_len])
    (fun j u hu => by
      have hj : j < m.length := by have := (List.getElem?_eq_some_iff.1 hu).1; simpa [ints] using this
      have e1 : u = .int .i64 (m[j] : Nat) := by
        simp [ints, hj] at hu
        exact hu.symm
      rw [e1, ← hcell j hj, Addr.add_lit, Nat.zero_add]) (ints_one m) (by unfold maxLen; omega) (by omega) hB ?_
  intro v' w' h1 h2 _ h4
  have hown' : OwnI B w' v' (l ++ m) := by
    unfold OwnI
    rw [ints_app, List.length_append]
    exact h1
  obtain ⟨g', c', rfl⟩ := hown'.shape (by simp; omega)
  refine hk g' _ c' w' (Lib.hid rfl) hown' h2 ?_
  rcases h4 with h4 | h4
  · exact .inl h4
  · simp [Value.ownBlock] at h4
    exact .inr (by omega)

theorem getD_nat (ns : List Nat) (j : Nat) (h : j < ns.length) : ns[j] = ns.getD j 0 := by rw [List.getD_eq_getElem?_getD, List.getElem?_eq_getElem h]; rfl
theorem ent_top : ∀ args w, (callFunc 148 args).run Tryz.prog w = .ok (.enter 148 args) w := run_enters Tryz.func148 (by kernel_rfl) rfl
/-- As schedule reckons a number. -/
theorem ref_next (x y s7 s16 : Nat) (hx : x < 4294967296) (hy : y < 4294967296) (h7 : s7 < 4294967296) (h16 : s16 < 4294967296) :
    ∃ r7 r18 r17 r19 v0 v1 g0 g1 m1 m2 m3 : Nat,
      (∀ w', Calls Tryz.prog 149 #[.int .i64 (x : Nat), .int .i64 7] w' fun e w'' => e = .returned (.int .i64 (r7 : Nat)) ∧ ∃ n, w'' = w'.drewN n) ∧
      (∀ w', Calls Tryz.prog 149 #[.int .i64 (x : Nat), .int .i64 18] w' fun e w'' => e = .returned (.int .i64 (r18 : Nat)) ∧ ∃ n, w'' = w'.drewN n) ∧
      (∀ w', Calls Tryz.prog 149 #[.int .i64 (y : Nat), .int .i64 17] w' fun e w'' => e = .returned (.int .i64 (r17 : Nat)) ∧ ∃ n, w'' = w'.drewN n) ∧
      (∀ w', Calls Tryz.prog 149 #[.int .i64 (y : Nat), .int .i64 19] w' fun e w'' => e = .returned (.int .i64 (r19 : Nat)) ∧ ∃ n, w'' = w'.drewN n) ∧
      bits .xor .i64 (r7 : Int) (r18 : Int) = (v0 : Int) ∧ bits .xor .i64 (v0 : Int) ((x : Int) / 8) = (g0 : Int) ∧
      bits .xor .i64 (r17 : Int) (r19 : Int) = (v1 : Int) ∧ bits .xor .i64 (v1 : Int) ((y : Int) / 1024) = (g1 : Int) ∧
      IntKind.i64.wrap ((g1 : Int) + (s7 : Int)) = (m1 : Int) ∧ IntKind.i64.wrap ((m1 : Int) + (g0 : Int)) = (m2 : Int) ∧ IntKind.i64.wrap ((m2 : Int) + (s16 : Int)) = (m3 : Int) ∧
      m3 % 4294967296 = (sg1 y + s7 + sg0 x + s16) % 4294967296 ∧ m3 < 9223372036854775808 := by
  have l0 := sg0_lt x hx
  have l1 := sg1_lt y hy
  have a7 := rot_lt x 7 hx (by decide)
  have a18 := rot_lt x 18 hx (by decide)
  have a17 := rot_lt y 17 hy (by decide)
  have a19 := rot_lt y 19 hy (by decide)
  have e3 := i64_xor_nat (rot x 7 ^^^ rot x 18) (x / 8) (xor_lt _ _ a7 a18) (by omega)
  have e4 := i64_xor_nat (rot y 17 ^^^ rot y 19) (y / 1024) (xor_lt _ _ a17 a19) (by omega)
  rw [show ((x / 8 : Nat) : Int) = (x : Int) / 8 by simp] at e3
  rw [show ((y / 1024 : Nat) : Int) = (y : Int) / 1024 by simp] at e4
  refine ⟨rot x 7, rot x 18, rot y 17, rot y 19, rot x 7 ^^^ rot x 18, rot y 17 ^^^ rot y 19, sg0 x, sg1 y, sg1 y + s7, sg1 y + s7 + sg0 x, sg1 y + s7 + sg0 x + s16,
    fun w' => turn_7 x w' hx, fun w' => turn_18 x w' hx, fun w' => turn_17 y w' hy, fun w' => turn_19 y w' hy,
    i64_xor_nat _ _ a7 a18, e3, i64_xor_nat _ _ a17 a19, e4, wr_nat (sg1 y + s7) (by omega), wr_nat (sg1 y + s7 + sg0 x) (by omega), wr_nat (sg1 y + s7 + sg0 x + s16) (by omega), rfl, by omega⟩

set_option maxRecDepth 100000 in
set_option maxHeartbeats 4000000 in
theorem schedule_ref (a : Option Addr) (l : List UInt8) (n cp : Nat) (w : World) (hr : Rd w a l) (hn : n = l.length) (hl : 64 ≤ l.length) (hm : l.length ≤ 1000000) :
    Calls Tryz.prog 147 #[.slice a n cp] w fun e w' => ∃ g c, e = .returned (.slice (some ⟨g, 0, none⟩) 64 c) ∧ OwnI w.heap.size w' (.slice (some ⟨g, 0, none⟩) 64 c) (schedU l 64) ∧ Below w.heap.size w w' := by
  subst hn
  have HR := Lib.hid hr
  clear hr
  go_enter Tryz.func147, Tryz.ntmps147
  go_wp2_with fail
  go_loopg [4, 3] 16 (fun k y x wr => ∃ t : Nat, y = .int .i64 t ∧ t + k = 16 ∧ Hid (OwnI w.heap.size wr x (schedU l t)) ∧ Hid (Below w.heap.size w wr))
  case atStart => exact ⟨0, rfl, rfl, Lib.hid (OwnI.nil _ _), Lib.hid (Below.refl _ _)⟩
  case round =>
    obtain ⟨t, rfl, ht, HO, HB⟩ := hrel
    by_cases h16 : t < 16
    · have hmul : IntKind.i64.wrap (4 * (t : Int)) = 4 * (t : Int) := IntWalk.i64_in _ (by omega)
      have htI : (t : Int) < 16 := by omega
      go_wp2_with fail
      refine (word_ref a l l.length cp t (4 * (t : Int)) wr (HR.out.below HB.out) rfl rfl hm (by omega)).mono ?_
      rintro e w2 ⟨rfl, nd, hw2⟩
      have hb2 : Below w.heap.size w w2 := by rw [hw2]; exact HB.out.trans ⟨rfl, rfl, rfl, Nat.le_refl _, fun _ _ => rfl⟩
      have ho2 : OwnI w.heap.size w2 u3 (schedU l t) := by rw [hw2]; exact HO.out.keep fun _ _ => rfl
      obtain ⟨xw, hxw⟩ : ∃ x, word l t = x := ⟨_, rfl⟩
      rw [hxw]
      have HX := Lib.hid hxw
      have HB2 := Lib.hid hb2
      have HO2 := Lib.hid ho2
      clear hw2 hb2 ho2 hxw
      go_wp2_with (at_builtin; go_loud (refine wpList_append_ints rfl (.tmp 14) (.tmp 19) rfl w.heap.size _ (schedU l t) rfl (HO2.out.alloc _) w2.heap.size [xw] 1 1 rfl rfl (by simp) ?c0 ?c1 ?c2 ?_))
      case c0 =>
        intro j hj
        simp at hj
        subst hj
        rw [Lib.cell_of_heap (heap_alloc_new w2 _)]
        rfl
      case c1 => rw [schedU_len]; simp; omega
      case c2 => have := HB2.out.size; simp; omega
      intro g4 n4 c4 w4 hn4 ho4 hg4 how4
      have hb4 : Below w.heap.size w w4 := (HB2.out.alloc HB2.out.size (.cells #[.int .i64 (xw : Int)] 3)).grown hg4 (by have := HB2.out.size; simp; omega) (fun k hk => (HO2.out.lt k hk).1)
      have ho5 : OwnI w.heap.size w4 (.slice (some ⟨g4, 0, none⟩) n4 c4) (schedU l (t + 1)) := by
        have e : schedU l (t + 1) = schedU l t ++ [xw] := by
          simp only [schedU]
          congr 2
          unfold nextW
          rw [schedU_len, if_pos h16]
          exact HX.out
        rw [e]
        exact ho4
      have HB4 := Lib.hid hb4
      have HO5 := Lib.hid ho5
      clear hn4 ho4 hg4 how4 hb4 ho5
      go_wp2_with fail
      go_roundg (gk - 1)
      case measure => omega
      case rel => exact ⟨t + 1, by go_num, by omega, HO5, HB4⟩
    · obtain rfl : t = 16 := by omega
      obtain ⟨g, c, hv⟩ := HO.out.shape (by rw [schedU_len]; decide)
      rw [schedU_len] at hv
      subst hv
      go_wp2_with fail
      go_loopg [5, 3] 48 (fun k y x wr => ∃ t g q c : Nat, y = .int .i64 t ∧ x = .slice (some ⟨g, 0, none⟩) q c ∧ t + k = 64 ∧ 16 ≤ t ∧ Hid (q = t) ∧ Hid (OwnI w.heap.size wr (.slice (some ⟨g, 0, none⟩) q c) (schedU l t)) ∧ Hid (Below w.heap.size w wr))
      case atStart => exact ⟨16, g, 16, c, rfl, rfl, rfl, by decide, Lib.hid rfl, HO, HB⟩
      case round =>
        clear HO HB
        obtain ⟨t, g, q, c, rfl, rfl, ht, ht16, HQ, HO, HB⟩ := hrel
        by_cases hlt : t < 64
        · have htI : (t : Int) < 64 := by omega
          have hlen := schedU_len l t
          have hnext : nextW l (schedU l t) = (sg1 ((schedU l t).getD (t - 2) 0) + (schedU l t).getD (t - 7) 0 + sg0 ((schedU l t).getD (t - 15) 0) + (schedU l t).getD (t - 16) 0) % 4294967296 := by
            unfold nextW; rw [schedU_len, if_neg (by omega)]
          have hc2 := HO.out.cell (j := t - 2) (by omega)
          have hc7 := HO.out.cell (j := t - 7) (by omega)
          have hc15 := HO.out.cell (j := t - 15) (by omega)
          have hc16 := HO.out.cell (j := t - 16) (by omega)
          rw [getD_nat] at hc2 hc7 hc15 hc16
          have b2 := getD_lt l t (t - 2)
          have b7 := getD_lt l t (t - 7)
          have b15 := getD_lt l t (t - 15)
          have b16 := getD_lt l t (t - 16)
          obtain ⟨y, hy⟩ : ∃ y, (schedU l t).getD (t - 2) 0 = y := ⟨_, rfl⟩
          obtain ⟨s7, h7⟩ : ∃ y, (schedU l t).getD (t - 7) 0 = y := ⟨_, rfl⟩
          obtain ⟨x, hx⟩ : ∃ y, (schedU l t).getD (t - 15) 0 = y := ⟨_, rfl⟩
          obtain ⟨s16, h16'⟩ : ∃ y, (schedU l t).getD (t - 16) 0 = y := ⟨_, rfl⟩
          rw [hy] at hc2 b2 hnext
          rw [h7] at hc7 b7 hnext
          rw [hx] at hc15 b15 hnext
          rw [h16'] at hc16 b16 hnext
          obtain ⟨r7, r18, r17, r19, v0, v1, g0, g1, m1, m2, m3, C7, C18, C17, C19, e1, e2, e3, e4, f1, f2, f3, em, bm⟩ := ref_next x y s7 s16 b15 b2 b7 b16
          have hnx : schedU l (t + 1) = schedU l t ++ [m3 % 4294967296] := by
            simp only [schedU]
            rw [hnext, em]
          have HN := Lib.hid hnx
          have HC7 := Lib.hid C7
          have HC18 := Lib.hid C18
          have HC17 := Lib.hid C17
          have HC19 := Lib.hid C19
          have HBM := Lib.hid bm
          have hq := HQ.out
          have i2 : IntKind.i64.wrap ((t : Int) - 2) = (t : Int) - 2 := IntWalk.i64_in _ (by omega)
          have i7 : IntKind.i64.wrap ((t : Int) - 7) = (t : Int) - 7 := IntWalk.i64_in _ (by omega)
          have i15 : IntKind.i64.wrap ((t : Int) - 15) = (t : Int) - 15 := IntWalk.i64_in _ (by omega)
          have i16 : IntKind.i64.wrap ((t : Int) - 16) = (t : Int) - 16 := IntWalk.i64_in _ (by omega)
          have p2 : 0 ≤ (t : Int) - 2 := by omega
          have p7 : 0 ≤ (t : Int) - 7 := by omega
          have p15 : 0 ≤ (t : Int) - 15 := by omega
          have p16 : 0 ≤ (t : Int) - 16 := by omega
          have q2 : (t : Int) - 2 < (q : Int) := by omega
          have q7 : (t : Int) - 7 < (q : Int) := by omega
          have q15 : (t : Int) - 15 < (q : Int) := by omega
          have q16 : (t : Int) - 16 < (q : Int) := by omega
          have n2 : ((t : Int) - 2).toNat = t - 2 := by omega
          have n7 : ((t : Int) - 7).toNat = t - 7 := by omega
          have n15 : ((t : Int) - 15).toNat = t - 15 := by omega
          have n16 : ((t : Int) - 16).toNat = t - 16 := by omega
          have hu2 : 2 ≤ (t : Int) := by omega
          have hu7 : 7 ≤ (t : Int) := by omega
          have hu15 : 15 ≤ (t : Int) := by omega
          have hu16 : 16 ≤ (t : Int) := by omega
          have d8 : wrap64 ((x : Int) / 8) = (x : Int) / 8 := wrap64_in _ (by omega) (by omega)
          have d1024 : wrap64 ((y : Int) / 1024) = (y : Int) / 1024 := wrap64_in _ (by omega) (by omega)
          clear hlen hnext hy h7 hx h16' C7 C18 C17 C19 em bm hnx hq b2 b7 b15 b16 ht16
          go_upto_region 11 with (fail)
          go_wp2_with fail
          refine (HC7.out _).mono ?_
          rintro e w2 ⟨rfl, n1, rfl⟩
          go_wp2_with fail
          refine (HC18.out _).mono ?_
          rintro e w2 ⟨rfl, n2', rfl⟩
          go_wp2_with fail
          refine (HC17.out _).mono ?_
          rintro e w2 ⟨rfl, n3', rfl⟩
          go_wp2_with fail
          refine (HC19.out _).mono ?_
          rintro e w2 ⟨rfl, n4', rfl⟩
          go_upto_region 13 with (fail)
          obtain ⟨wq, hwq⟩ : ∃ wq, wr.drewN (n1 + n2' + n3' + n4') = wq := ⟨_, rfl⟩
          have hc7' : wq.cell? ⟨g, t - 7, none⟩ = some (.int .i64 s7) := by rw [← hwq]; exact hc7
          have hc16' : wq.cell? ⟨g, t - 16, none⟩ = some (.int .i64 s16) := by rw [← hwq]; exact hc16
          have ho2 : OwnI w.heap.size wq (.slice (some ⟨g, 0, none⟩) q c) (schedU l t) := by rw [← hwq]; exact HO.out.keep fun _ _ => rfl
          have hb2 : Below w.heap.size w wq := by rw [← hwq]; exact HB.out.trans ⟨rfl, rfl, rfl, Nat.le_refl _, fun _ _ => rfl⟩
          have HO2 := Lib.hid ho2
          have HB2 := Lib.hid hb2
          rw [hwq]
          clear hwq ho2 hb2 hc2 hc7 hc15 hc16 HO HB e1 e2 e3 e4 d8 d1024 HC7 HC18 HC17 HC19
          refine wp_region_grow_tail 18 (by kernel_rfl) (by kernel_rfl) (by decide) (by kernel_rfl) [51, 52, 53, 54, 55, 56, 57, 58, 59, 60, 61, 62, 63, 64, 65, 66, 67, 68] rfl (by decide) (by kernel_rfl) (fun i => [VIs (.slice (some ⟨g, 0, none⟩) q c), VIs (.int .i64 (g1 : Nat)), VIs (.slice (some ⟨g, 0, none⟩) q c), VIs (.int .i64 (t : Nat)), VIs (.int .i64 ((t : Int) - 7)), VIs (.pointer (some ⟨g, t - 7, none⟩)), VIs (.int .i64 (s7 : Nat)), VIs (.int .i64 (m1 : Nat)), VIs (.int .i64 (g0 : Nat)), VIs (.int .i64 (m2 : Nat)), VIs (.slice (some ⟨g, 0, none⟩) q c), VIs (.int .i64 (t : Nat)), VIs (.int .i64 ((t : Int) - 16)), VIs (.pointer (some ⟨g, t - 16, none⟩)), VIs (.int .i64 (s16 : Nat)), VIs (.int .i64 (m3 : Nat)), VIs (.int .i64 (m3 % 4294967296 : Nat)), VRow (m3 % 4294967296)].getD i fun _ _ => True) (stab_list _ ?_) ?_ ?_
          · intro V hV
            simp only [List.mem_cons, List.mem_nil_iff, or_false] at hV
            rcases hV with rfl | rfl | rfl | rfl | rfl | rfl | rfl | rfl | rfl | rfl | rfl | rfl | rfl | rfl | rfl | rfl | rfl | rfl <;> first | exact VIs.stab _ | exact VBytes.stab _ | exact VStr.stab _ | exact VParts.stab _ | exact VRow.stab _
          · intro i o ho a' w' hf hb hd
            rcases i with _ | _ | _ | _ | _ | _ | _ | _ | _ | _ | _ | _ | _ | _ | _ | _ | _ | _ | i
            · cases ho
              refine grow_op rfl rfl rfl (grow_move rfl ?_)
              exact (hf.same 3 (by decide)).trans rfl
            · cases ho
              refine grow_op rfl rfl rfl (grow_move rfl ?_)
              exact (hf.same 9 (by decide)).trans rfl
            · cases ho
              refine grow_op rfl rfl rfl (grow_move rfl ?_)
              exact (hf.same 3 (by decide)).trans rfl
            · cases ho
              refine grow_op rfl rfl rfl (grow_move rfl ?_)
              exact (hf.same 5 (by decide)).trans rfl
            · cases ho
              refine grow_op rfl rfl rfl ?_
              have e3 : a'.tmps.getD 54 undef = .int .i64 (t : Nat) := hd 3 (by kernel_rfl)
              refine grow_value (v := .int .i64 ((t : Int) - 7)) (w' := w') ?_ rfl (Below.refl _ _)
              simp only [execOp, Act.eval, e3]
              go_simp
            · cases ho
              refine grow_op rfl rfl rfl ?_
              have e2 : a'.tmps.getD 53 undef = .slice (some ⟨g, 0, none⟩) q c := hd 2 (by kernel_rfl)
              have e4 : a'.tmps.getD 55 undef = .int .i64 ((t : Int) - 7) := hd 4 (by kernel_rfl)
              refine grow_value (v := .pointer (some ⟨g, t - 7, none⟩)) (w' := w') ?_ rfl (Below.refl _ _)
              simp only [execOp, Act.eval, e2, e4]
              go_simp
            · cases ho
              refine grow_op rfl rfl rfl ?_
              have e5 : a'.tmps.getD 56 undef = .pointer (some ⟨g, t - 7, none⟩) := hd 5 (by kernel_rfl)
              have hc := cell_now hb hc7'
              refine grow_value (v := .int .i64 (s7 : Nat)) (w' := w') ?_ rfl (Below.refl _ _)
              simp only [execOp, Act.eval, e5]
              go_simp
            · cases ho
              refine grow_op rfl rfl rfl ?_
              have e1 : a'.tmps.getD 52 undef = .int .i64 (g1 : Nat) := hd 1 (by kernel_rfl)
              have e6 : a'.tmps.getD 57 undef = .int .i64 (s7 : Nat) := hd 6 (by kernel_rfl)
              refine grow_value (v := .int .i64 (m1 : Nat)) (w' := w') ?_ rfl (Below.refl _ _)
              simp only [execOp, Act.eval, e1, e6]
              go_simp
            · cases ho
              refine grow_op rfl rfl rfl (grow_move rfl ?_)
              exact (hf.same 8 (by decide)).trans rfl
            · cases ho
              refine grow_op rfl rfl rfl ?_
              have e7 : a'.tmps.getD 58 undef = .int .i64 (m1 : Nat) := hd 7 (by kernel_rfl)
              have e8 : a'.tmps.getD 59 undef = .int .i64 (g0 : Nat) := hd 8 (by kernel_rfl)
              refine grow_value (v := .int .i64 (m2 : Nat)) (w' := w') ?_ rfl (Below.refl _ _)
              simp only [execOp, Act.eval, e7, e8]
              go_simp
            · cases ho
              refine grow_op rfl rfl rfl (grow_move rfl ?_)
              exact (hf.same 3 (by decide)).trans rfl
            · cases ho
              refine grow_op rfl rfl rfl (grow_move rfl ?_)
              exact (hf.same 5 (by decide)).trans rfl
            · cases ho
              refine grow_op rfl rfl rfl ?_
              have e11 : a'.tmps.getD 62 undef = .int .i64 (t : Nat) := hd 11 (by kernel_rfl)
              refine grow_value (v := .int .i64 ((t : Int) - 16)) (w' := w') ?_ rfl (Below.refl _ _)
              simp only [execOp, Act.eval, e11]
              go_simp
            · cases ho
              refine grow_op rfl rfl rfl ?_
              have e10 : a'.tmps.getD 61 undef = .slice (some ⟨g, 0, none⟩) q c := hd 10 (by kernel_rfl)
              have e12 : a'.tmps.getD 63 undef = .int .i64 ((t : Int) - 16) := hd 12 (by kernel_rfl)
              refine grow_value (v := .pointer (some ⟨g, t - 16, none⟩)) (w' := w') ?_ rfl (Below.refl _ _)
              simp only [execOp, Act.eval, e10, e12]
              go_simp
            · cases ho
              refine grow_op rfl rfl rfl ?_
              have e13 : a'.tmps.getD 64 undef = .pointer (some ⟨g, t - 16, none⟩) := hd 13 (by kernel_rfl)
              have hc := cell_now hb hc16'
              refine grow_value (v := .int .i64 (s16 : Nat)) (w' := w') ?_ rfl (Below.refl _ _)
              simp only [execOp, Act.eval, e13]
              go_simp
            · cases ho
              refine grow_op rfl rfl rfl ?_
              have e9 : a'.tmps.getD 60 undef = .int .i64 (m2 : Nat) := hd 9 (by kernel_rfl)
              have e14 : a'.tmps.getD 65 undef = .int .i64 (s16 : Nat) := hd 14 (by kernel_rfl)
              refine grow_value (v := .int .i64 (m3 : Nat)) (w' := w') ?_ rfl (Below.refl _ _)
              simp only [execOp, Act.eval, e9, e14]
              go_simp
            · cases ho
              refine grow_op rfl rfl rfl ?_
              have e : a'.tmps.getD 66 undef = .int .i64 (m3 : Nat) := hd 15 (by kernel_rfl)
              refine grow_call ent_top rfl ?_
              simp only [List.map_toArray, List.map_cons, List.map_nil, Act.eval, e]
              exact (top_any (m3) w' HBM.out).mono (fun e w'' ⟨h1, h2⟩ => ⟨_, h1, rfl, by rw [h2]; exact Below.refl _ _⟩)
            · cases ho
              refine grow_op rfl rfl rfl ?_
              exact grow_row rfl (hd 16 (by kernel_rfl))
            · simp at ho
          · intro a' w' hf hb hd
            obtain ⟨gx, hgx, hcx⟩ : VRow (m3 % 4294967296) (a'.tmps.getD 68 undef) w' := hd 17 (by decide)
            obtain rfl := hf.eq [.slice (some ⟨g, 0, none⟩) q c, .int .i64 (g1 : Nat), .slice (some ⟨g, 0, none⟩) q c, .int .i64 (t : Nat), .int .i64 ((t : Int) - 7), .pointer (some ⟨g, t - 7, none⟩), .int .i64 (s7 : Nat), .int .i64 (m1 : Nat), .int .i64 (g0 : Nat), .int .i64 (m2 : Nat), .slice (some ⟨g, 0, none⟩) q c, .int .i64 (t : Nat), .int .i64 ((t : Int) - 16), .pointer (some ⟨g, t - 16, none⟩), .int .i64 (s16 : Nat), .int .i64 (m3 : Nat), .int .i64 (m3 % 4294967296 : Nat), .slice (some ⟨gx, 0, none⟩) 1 1] (fun j hj => match j, hj with
              | 0, _ => hd 0 (by decide)
              | 1, _ => hd 1 (by decide)
              | 2, _ => hd 2 (by decide)
              | 3, _ => hd 3 (by decide)
              | 4, _ => hd 4 (by decide)
              | 5, _ => hd 5 (by decide)
              | 6, _ => hd 6 (by decide)
              | 7, _ => hd 7 (by decide)
              | 8, _ => hd 8 (by decide)
              | 9, _ => hd 9 (by decide)
              | 10, _ => hd 10 (by decide)
              | 11, _ => hd 11 (by decide)
              | 12, _ => hd 12 (by decide)
              | 13, _ => hd 13 (by decide)
              | 14, _ => hd 14 (by decide)
              | 15, _ => hd 15 (by decide)
              | 16, _ => hd 16 (by decide)
              | 17, _ => hgx
              | k + 18, h => absurd h (by simp)) (by decide) (by kernel_rfl) rfl
            simp only [List.zip_cons_cons, List.zip_nil_right, List.foldl_cons, List.foldl_nil]
            have hOw := HO2.out.below hb
            have hBw := HB2.out.trans (hb.mono HB2.out.size)
            obtain ⟨xw, hxw⟩ : ∃ x, m3 % 4294967296 = x := ⟨_, rfl⟩
            have hnx := HN.out
            rw [hxw] at hnx hcx ⊢
            have HNX := Lib.hid hnx
            have HOW := Lib.hid hOw
            have HBW := Lib.hid hBw
            have HCX := Lib.hid hcx
            clear hnx hOw hBw hcx hxw hd hf hgx hb hc7' hc16' f1 f2 f3 HO2 HB2
            simp only [Act.put, List.setIfInBounds_toArray, List.set_cons_succ, List.set_cons_zero]
            refine wpList_append_ints rfl (.tmp 51) (.tmp 68) rfl w.heap.size (.slice (some ⟨g, 0, none⟩) q c) (schedU l t) rfl HOW.out gx [xw] 1 1 rfl rfl (by simp) ?c0 ?c1 ?c2 ?_
            case c0 =>
              intro j hj
              simp at hj
              subst hj
              exact HCX.out
            case c1 => rw [schedU_len]; simp; omega
            case c2 => exact HBW.out.size
            intro g4 n4 c4 w4 hn4 ho4 hg4 how4
            have hb4 : Below w.heap.size w w4 := HBW.out.grown hg4 HBW.out.size (fun k hk => (HOW.out.lt k hk).1)
            have ho5 : OwnI w.heap.size w4 (.slice (some ⟨g4, 0, none⟩) n4 c4) (schedU l (t + 1)) := by
              rw [HNX.out]
              exact ho4
            have hn5 : n4 = t + 1 := by
              obtain ⟨g, c, h⟩ := ho5.shape (by rw [schedU_len]; omega)
              rw [schedU_len] at h
              simp at h
              exact h.2.1
            have HN5 := Lib.hid hn5
            have HB4 := Lib.hid hb4
            have HO5 := Lib.hid ho5
            clear hn4 ho4 hg4 how4 hb4 ho5 hn5
            go_wp2_with fail
            go_roundg (gk - 1)
            case measure => omega
            case rel => exact ⟨t + 1, g4, n4, c4, by go_num, rfl, by omega, by omega, HN5, HO5, HB4⟩
        · obtain rfl : t = 64 := by omega
          obtain rfl : q = 64 := HQ.out
          go_wp2_with fail
          go_ret
          exact ⟨g, c, rfl, HO.out, HB.out⟩
end Go.Proofs.YtfdijcdpmgkdkaaGreatDoor
set_option linter.unusedVariables false
namespace Go.Proofs.YtfdijcdpmgkdkaaGreatDoor
open Go.RowKit

theorem ent_turn : ∀ args w, (callFunc 149 args).run Tryz.prog w = .ok (.enter 149 args) w := run_enters Tryz.func149 (by kernel_rfl) rfl
theorem turn_grew {f : FuncId} {args : Array Value} {w : World} {x : Value} (h : Calls Tryz.prog f args w fun e w' => e = .returned x ∧ ∃ n, w' = w.drewN n) : Calls Tryz.prog f args w fun e w' => ∃ v, e = .returned v ∧ VIs x v w' ∧ Below w.heap.size w w' :=
  h.mono fun e w' ⟨h1, n, h2⟩ => ⟨_, h1, rfl, by rw [h2]; exact ⟨rfl, rfl, rfl, Nat.le_refl _, fun _ _ => rfl⟩⟩
theorem i64_and_nat (a b : Nat) (ha : a < 4294967296) (hb : b < 4294967296) : bits .and .i64 (a : Int) (b : Int) = ((a &&& b : Nat) : Int) := i64_and a b (by omega) (by omega)

theorem ref_round1 (e f g h k w : Nat) (he : e < 4294967296) (hf : f < 4294967296) (hg : g < 4294967296) (hh : h < 4294967296) (hk : k < 4294967296) (hw : w < 4294967296) :
    ∃ r6 r11 r25 v1 v2 s1 a1 ne a2 ch s2 s3 s4 : Nat,
      (∀ w', Calls Tryz.prog 149 #[.int .i64 (e : Nat), .int .i64 6] w' fun x w'' => x = .returned (.int .i64 (r6 : Nat)) ∧ ∃ n, w'' = w'.drewN n) ∧
      (∀ w', Calls Tryz.prog 149 #[.int .i64 (e : Nat), .int .i64 11] w' fun x w'' => x = .returned (.int .i64 (r11 : Nat)) ∧ ∃ n, w'' = w'.drewN n) ∧
      (∀ w', Calls Tryz.prog 149 #[.int .i64 (e : Nat), .int .i64 25] w' fun x w'' => x = .returned (.int .i64 (r25 : Nat)) ∧ ∃ n, w'' = w'.drewN n) ∧
      bits .xor .i64 (r6 : Int) (r11 : Int) = (v1 : Int) ∧ bits .xor .i64 (v1 : Int) (r25 : Int) = (v2 : Int) ∧
      IntKind.i64.wrap ((h : Int) + (v2 : Int)) = (s1 : Int) ∧ bits .and .i64 (e : Int) (f : Int) = (a1 : Int) ∧
      IntKind.i64.wrap (4294967295 - (e : Int)) = (ne : Int) ∧ bits .and .i64 (ne : Int) (g : Int) = (a2 : Int) ∧ bits .xor .i64 (a1 : Int) (a2 : Int) = (ch : Int) ∧
      IntKind.i64.wrap ((s1 : Int) + (ch : Int)) = (s2 : Int) ∧ IntKind.i64.wrap ((s2 : Int) + (k : Int)) = (s3 : Int) ∧ IntKind.i64.wrap ((s3 : Int) + (w : Int)) = (s4 : Int) ∧
      s4 % 4294967296 = t1F e f g h k w ∧ s4 < 9223372036854775808 := by
  have l6 := rot_lt e 6 he (by decide)
  have l11 := rot_lt e 11 he (by decide)
  have l25 := rot_lt e 25 he (by decide)
  have lv := xor_lt _ _ l6 l11
  have lv2 := xor_lt _ _ lv l25
  have la := and_lt e f he
  have ln : 4294967295 - e < 4294967296 := by omega
  have lb := and_lt (4294967295 - e) g ln
  have lc := xor_lt _ _ la lb
  refine ⟨rot e 6, rot e 11, rot e 25, rot e 6 ^^^ rot e 11, bs1 e, h + bs1 e, e &&& f, 4294967295 - e, (4294967295 - e) &&& g, chF e f g, h + bs1 e + chF e f g, h + bs1 e + chF e f g + k, h + bs1 e + chF e f g + k + w,
    fun w' => turn_6 e w' he, fun w' => turn_11 e w' he, fun w' => turn_25 e w' he,
    i64_xor_nat _ _ l6 l11, i64_xor_nat _ _ lv l25, ?_, i64_and_nat _ _ he hf, ?_, i64_and_nat _ _ ln hg, i64_xor_nat _ _ la lb, ?_, ?_, ?_, rfl, ?_⟩
  · exact wr_nat (h + bs1 e) (by unfold bs1; omega)
  · have := wr_nat (4294967295 - e) (by omega)
    rw [← this]
    congr 1
    omega
  · exact wr_nat (h + bs1 e + chF e f g) (by unfold bs1 chF; omega)
  · exact wr_nat (h + bs1 e + chF e f g + k) (by unfold bs1 chF; omega)
  · exact wr_nat (h + bs1 e + chF e f g + k + w) (by unfold bs1 chF; omega)
  · unfold bs1 chF; omega

theorem ref_round2 (a b c : Nat) (ha : a < 4294967296) (hb : b < 4294967296) (hc : c < 4294967296) :
    ∃ r2 r13 r22 v1 v2 b1 b2 b3 c1 mj t2 : Nat,
      (∀ w', Calls Tryz.prog 149 #[.int .i64 (a : Nat), .int .i64 2] w' fun x w'' => x = .returned (.int .i64 (r2 : Nat)) ∧ ∃ n, w'' = w'.drewN n) ∧
      (∀ w', Calls Tryz.prog 149 #[.int .i64 (a : Nat), .int .i64 13] w' fun x w'' => x = .returned (.int .i64 (r13 : Nat)) ∧ ∃ n, w'' = w'.drewN n) ∧
      (∀ w', Calls Tryz.prog 149 #[.int .i64 (a : Nat), .int .i64 22] w' fun x w'' => x = .returned (.int .i64 (r22 : Nat)) ∧ ∃ n, w'' = w'.drewN n) ∧
      bits .xor .i64 (r2 : Int) (r13 : Int) = (v1 : Int) ∧ bits .xor .i64 (v1 : Int) (r22 : Int) = (v2 : Int) ∧
      bits .and .i64 (a : Int) (b : Int) = (b1 : Int) ∧ bits .and .i64 (a : Int) (c : Int) = (b2 : Int) ∧ bits .xor .i64 (b1 : Int) (b2 : Int) = (c1 : Int) ∧
      bits .and .i64 (b : Int) (c : Int) = (b3 : Int) ∧ bits .xor .i64 (c1 : Int) (b3 : Int) = (mj : Int) ∧ IntKind.i64.wrap ((v2 : Int) + (mj : Int)) = (t2 : Int) ∧
      t2 % 4294967296 = t2F a b c ∧ t2 < 9223372036854775808 := by
  have l6 := rot_lt a 2 ha (by decide)
  have l11 := rot_lt a 13 ha (by decide)
  have l25 := rot_lt a 22 ha (by decide)
  have lv := xor_lt _ _ l6 l11
  have lv2 := xor_lt _ _ lv l25
  have l1 := and_lt a b ha
  have l2 := and_lt a c ha
  have l3 := and_lt b c hb
  have l4 := xor_lt _ _ l1 l2
  have l5 := xor_lt _ _ l4 l3
  refine ⟨rot a 2, rot a 13, rot a 22, rot a 2 ^^^ rot a 13, bs0 a, a &&& b, a &&& c, b &&& c, (a &&& b) ^^^ (a &&& c), majF a b c, bs0 a + majF a b c, fun w' => turn_2 a w' ha, fun w' => turn_13 a w' ha, fun w' => turn_22 a w' ha,
    i64_xor_nat _ _ l6 l11, i64_xor_nat _ _ lv l25, i64_and_nat _ _ ha hb, i64_and_nat _ _ ha hc, i64_xor_nat _ _ l1 l2, i64_and_nat _ _ hb hc, i64_xor_nat _ _ l4 l3, ?_, rfl, ?_⟩
  · exact wr_nat (bs0 a + majF a b c) (by unfold bs0 majF; omega)
  · unfold bs0 majF; omega

theorem schedU_take (l : List UInt8) (t : Nat) : schedU (l.take 64) t = schedU l t :=
  schedU_congr _ _ (fun i hi => by simp [List.getD_eq_getElem?_getD, hi]) t
/-- The first j numbers have had the block's own put to them (the other way round). -/
theorem mix_step' (R st : List Nat) (hR : St8 R) (hst : St8 st) (j : Nat) (hj : j < 8) : ∃ r x, (mix st R j)[j]? = some r ∧ R[j]? = some x ∧ r < 4294967296 ∧ x < 4294967296 ∧ mix st R (j + 1) = (mix st R j).set j ((r + x) % 4294967296) := mix_step st R hst hR j hj
theorem mix_comm (R st : List Nat) (hR : St8 R) (hst : St8 st) : mix st R 8 = List.zipWith (fun x y => (x + y) % 4294967296) R st := by
  rw [mix_all st R hst hR]
  obtain ⟨a, b, c, d, e, f, g, i, rfl, _⟩ := hR.shape
  obtain ⟨a', b', c', d', e', f', g', i', rfl, _⟩ := hst.shape
  simp [Nat.add_comm]
end Go.Proofs.YtfdijcdpmgkdkaaGreatDoor
set_option linter.unusedVariables false
namespace Go.Proofs.YtfdijcdpmgkdkaaGreatDoor
open Go.RowKit

theorem Rd.sub {w : World} {a : Option Addr} {l : List UInt8} (h : Rd w a l) (i n c : Nat) (hc : l.length ≤ c) (hi : i + n ≤ l.length) : Rd w (if c = i then a else a.map (·.add (i * 1))) ((l.drop i).take n) := by
  rcases h with rfl | ⟨b, off, rfl, hcell⟩
  · exact .inl (by simp)
  · by_cases e : c = i
    · refine .inl ?_
      have : n = 0 := by omega
      subst this
      simp
    · rw [if_neg e]
      refine .inr ⟨b, off + i, by simp [Addr.add_lit], fun j hj => ?_⟩
      simp at hj
      have := hcell (i + j) (by omega)
      rw [show off + i + j = off + (i + j) by omega, this]
      simp
set_option maxRecDepth 100000 in
/-- l[i:j], l[:j], l[i:]. -/
theorem slice_lh (a : Option Addr) (l : List UInt8) (c i j n : Nat) (I J : Int) (hI : I = i) (hJ : J = j) (hc : l.length ≤ c) (hij : i ≤ j) (hj : j ≤ l.length) (hn : n = j - i) :
    ∃ a' c', (∀ w, (Instr.slice 41 (.slice a l.length c) (some (.int .i64 I)) (some (.int .i64 J)) none).run Tryz.prog w = .ok (.slice a' n c') w) ∧ ∀ w, Rd w a l → Rd w a' ((l.drop i).take n) := by
  subst hI hJ
  refine ⟨if c = i then a else a.map (·.add (i * 1)), c - i, fun w => ?_, fun w h => ?_⟩
  · rw [run_slice_lh w 41 a l.length c Tryz.underlying41 .i64 .i64 i j (by omega) (by omega) (by omega)]
    simp [go_sem, hn]
  · exact h.sub i n c hc (by omega)
end Go.Proofs.YtfdijcdpmgkdkaaGreatDoor
set_option linter.unusedVariables false
namespace Go.Proofs.YtfdijcdpmgkdkaaGreatDoor
open Go.RowKit

theorem be64_small (N : Nat) (h : N < 4294967296) : be64 N = [0, 0, 0, 0] ++ [UInt8.ofNat (N / 16777216), UInt8.ofNat (N / 65536 % 256), UInt8.ofNat (N / 256 % 256), UInt8.ofNat (N % 256)] := by
  have e : ∀ x : Nat, UInt8.ofNat (x % 256) = UInt8.ofNat x := fun x => by
    apply UInt8.toNat_inj.1
    simp [UInt8.toNat_ofNat']
  unfold be64
  rw [e, e, e, show N / 2 ^ 56 = 0 by omega, show N / 2 ^ 48 = 0 by omega, show N / 2 ^ 40 = 0 by omega, show N / 2 ^ 32 = 0 by omega]
  rfl
theorem wrap_byteM (N D : Nat) : IntKind.u8.wrap ((N : Int) / (D : Int) % 256) = ((UInt8.ofNat (N / D % 256)).toNat : Int) := by
  simp [IntKind.wrap, IntKind.bits, IntKind.signed, UInt8.toNat_ofNat']
theorem wrap_byteN (N D : Nat) : IntKind.u8.wrap ((N : Int) / (D : Int) % 256) = ((UInt8.ofNat (N / D)).toNat : Int) := by
  simp [IntKind.wrap, IntKind.bits, IntKind.signed, UInt8.toNat_ofNat']
theorem wrap_byteN1 (N : Nat) : IntKind.u8.wrap ((N : Int) % 256) = ((UInt8.ofNat N).toNat : Int) := by
  simp [IntKind.wrap, IntKind.bits, IntKind.signed, UInt8.toNat_ofNat']
theorem wrap_byteM1 (N : Nat) : IntKind.u8.wrap ((N : Int) % 256) = ((UInt8.ofNat (N % 256)).toNat : Int) := by
  simp [IntKind.wrap, IntKind.bits, IntKind.signed, UInt8.toNat_ofNat']

set_option maxRecDepth 100000 in
set_option maxHeartbeats 8000000 in
theorem sum_ref (m : List UInt8) (a0 : Option Addr) (n c0 : Nat) (w : World) (hr : Rd w a0 m) (hn : n = m.length) (hlen : m.length ≤ 900000) :
    Calls Tryz.prog 111 #[.slice a0 n c0] w fun e w' => ∃ v', e = .returned v' ∧ Tl w.heap.size w' v' (sha m) ∧ Below w.heap.size w w' := by
  subst hn
  have HR := Lib.hid hr
  clear hr
  go_enter Tryz.func111, Tryz.ntmps111
  go_wp2_with (at_builtin; go_loud (refine wpList_append_tl rfl (.tmp 18) (.tmp 19) rfl w.heap.size _ [] rfl (Tl.of_own (Own.empty w)) a0 m m.length c0 rfl rfl (HR.out.alloc _) ?c1 ?c2 ?_))
  case c1 => simp; omega
  case c2 => simp
  intro a1 n1 c1 w1 hn1 ht1 hg1 how1
  have hB1 : Below w.heap.size w w1 := below_grow_tl ((Below.refl _ _).alloc (Nat.le_refl _) _) (Tl.of_own (Own.empty w)) hg1 (by simp)
  clear hg1 how1 hn1
  go_wp2_with (at_builtin; go_loud (refine wpList_append_tl rfl (.tmp 20) (.tmp 21) rfl w.heap.size _ m rfl (ht1.alloc _) (some ⟨w1.heap.size, 0, none⟩) [0x80] 1 1 rfl rfl (Rd.of_lit (T := 5) (fr := (0, 0)) [0x80] ?c0) ?c1 ?c2 ?_))
  case c0 => rw [heap_alloc_new]; rfl
  case c1 => simp; omega
  case c2 => have := hB1.size; simp; omega
  intro a2 n2 c2 w2 hn2 ht2 hg2 how2
  have hB2 : Below w.heap.size w w2 := below_grow_tl (hB1.alloc hB1.size (.cells #[.int .u8 (128 : Int)] 5)) (ht1.alloc _) hg2 (by have := hB1.size; simp; omega)
  obtain ⟨r2, hr2⟩ : ∃ x, m ++ [0x80] = x := ⟨_, rfl⟩
  have hr2l : r2.length = m.length + 1 := by rw [← hr2, List.length_append]; rfl
  rw [hr2] at ht2
  obtain rfl : n2 = m.length + 1 := by
    obtain ⟨a, c, h, _⟩ := ht2.shape
    simp at h
    rw [h.2.1, hr2l]
  have HR2 := Lib.hid hr2
  have HT2 := Lib.hid ht2
  have HB2 := Lib.hid hB2
  have H2L := Lib.hid hr2l
  clear hn2 hg2 how2 hr2 ht1 hB1 hr2l ht2 hB2
  go_wp2_with fail
  go_loopg [3] (zer m.length) (fun k x wr => ∃ z a c, ∃ q : Nat, x = .slice a q c ∧ z + k = zer m.length ∧ q = m.length + 1 + z ∧ Hid (Tl w.heap.size wr (.slice a q c) (r2 ++ List.replicate z 0)) ∧ Hid (Below w.heap.size w wr))
  case atStart => exact ⟨0, a2, c2, _, rfl, by omega, rfl, by simpa using HT2, HB2⟩
  case round =>
    obtain ⟨z, a, c, q, rfl, hz, hq, HT, HB⟩ := hrel
    by_cases hlt : z < zer m.length
    · have hc : ((q : Nat) : Int) % 64 ≠ 56 := by unfold zer at hlt; omega
      have HQ := Lib.hid hq
      clear hq
      go_wp2_with (at_builtin; go_loud (refine wpList_append_tl rfl (.tmp 27) (.tmp 28) rfl w.heap.size _ (r2 ++ List.replicate z 0) rfl (HT.out.alloc _) (some ⟨wr.heap.size, 0, none⟩) [0] 1 1 rfl rfl (Rd.of_lit (T := 5) (fr := (0, 0)) [0] ?c0) ?c1 ?c2 ?_))
      case c0 => rw [heap_alloc_new]; rfl
      case c1 => have := H2L.out; have := zer_lt m.length; simp; omega
      case c2 => have := HB.out.size; simp; omega
      intro a4 n4 c4 w4 hn4 ht4 hg4 how4
      have hB4 : Below w.heap.size w w4 := below_grow_tl (HB.out.alloc HB.out.size (.cells #[.int .u8 (0 : Int)] 5)) (HT.out.alloc _) hg4 (by have := HB.out.size; simp; omega)
      have hn5 : n4 = m.length + 1 + (z + 1) := by
        obtain ⟨a, c, h, _⟩ := ht4.shape
        simp at h
        have := H2L.out
        omega
      have HN5 := Lib.hid hn5
      clear hn4 hg4 how4 hn5
      go_wp2_with fail
      go_roundg (gk - 1)
      case measure => omega
      case rel =>
        refine ⟨z + 1, a4, c4, n4, rfl, by omega, HN5.out, Lib.hid ?_, Lib.hid hB4⟩
        rw [List.replicate_succ']
        simpa using ht4
    · obtain rfl : z = zer m.length := by omega
      have hc : ((q : Nat) : Int) % 64 = 56 := by unfold zer at hq; omega
      obtain ⟨r3, hr3⟩ : ∃ x, r2 ++ List.replicate (zer m.length) 0 = x := ⟨_, rfl⟩
      rw [hr3] at HT
      have HR3 := Lib.hid hr3
      have h3l : r3.length = m.length + 1 + zer m.length := by rw [← hr3, List.length_append, List.length_replicate, H2L.out]
      have H3L := Lib.hid h3l
      have HQ := Lib.hid hq
      clear hq hr3 h3l
      go_wp2_with (at_builtin; go_loud (refine wpList_append_tl rfl (.tmp 30) (.tmp 31) rfl w.heap.size _ r3 rfl (HT.out.alloc _) (some ⟨wr.heap.size, 0, none⟩) [0, 0, 0, 0] 4 4 rfl rfl (Rd.of_lit (T := 5) (fr := (0, 0)) [0, 0, 0, 0] ?c0) ?c1 ?c2 ?_))
      case c0 => rw [heap_alloc_new]; rfl
      case c1 => have := H3L.out; have := zer_lt m.length; simp; omega
      case c2 => have := HB.out.size; simp; omega
      intro a4 n4 c4 w4 hn4 ht4 hg4 how4
      have hB4 : Below w.heap.size w w4 := below_grow_tl (HB.out.alloc HB.out.size (.cells #[.int .u8 (0 : Int), .int .u8 (0 : Int), .int .u8 (0 : Int), .int .u8 (0 : Int)] 5)) (HT.out.alloc _) hg4 (by have := HB.out.size; simp; omega)
      obtain ⟨r4, hr4⟩ : ∃ x, r3 ++ [0, 0, 0, 0] = x := ⟨_, rfl⟩
      rw [hr4] at ht4
      have HR4 := Lib.hid hr4
      have h4l : r4.length ≤ m.length + 69 := by rw [← hr4, List.length_append, H3L.out]; have := zer_lt m.length; simp; omega
      have H4L := Lib.hid h4l
      have HT4 := Lib.hid ht4
      have HB4 := Lib.hid hB4
      clear hn4 hg4 how4 hr4 ht4 hB4 h4l hc
      obtain ⟨N, hN⟩ : ∃ x, m.length * 8 = x := ⟨_, rfl⟩
      have hmul : IntKind.i64.wrap (8 * (m.length : Int)) = (N : Int) := by rw [← hN, show 8 * (m.length : Int) = ((m.length * 8 : Nat) : Int) by omega]; exact wr_nat _ (by omega)
      have hN2 : N < 4294967296 := by omega
      have hbe := be64_small N hN2
      obtain ⟨b0, hb0⟩ : ∃ y, UInt8.ofNat (N / 16777216) = y := ⟨_, rfl⟩
      obtain ⟨b1, hb1⟩ : ∃ y, UInt8.ofNat (N / 65536 % 256) = y := ⟨_, rfl⟩
      obtain ⟨b2, hb2⟩ : ∃ y, UInt8.ofNat (N / 256 % 256) = y := ⟨_, rfl⟩
      obtain ⟨b3, hb3⟩ : ∃ y, UInt8.ofNat (N % 256) = y := ⟨_, rfl⟩
      have k0 : IntKind.u8.wrap ((N : Int) / 16777216) = ((b0.toNat : Nat) : Int) := by rw [← hb0]; exact wrap_byte N 16777216
      have k1 : IntKind.u8.wrap ((N : Int) / 65536 % 256) = ((b1.toNat : Nat) : Int) := by rw [← hb1]; exact wrap_byteM N 65536
      have k2 : IntKind.u8.wrap ((N : Int) / 256 % 256) = ((b2.toNat : Nat) : Int) := by rw [← hb2]; exact wrap_byteM N 256
      have k3 : IntKind.u8.wrap ((N : Int) % 256) = ((b3.toNat : Nat) : Int) := by rw [← hb3]; exact wrap_byteM1 N
      have d1 : wrap64 ((N : Int) / 16777216) = (N : Int) / 16777216 := wrap64_in _ (by omega) (by omega)
      have d2 : wrap64 ((N : Int) / 65536) = (N : Int) / 65536 := wrap64_in _ (by omega) (by omega)
      have d3 : wrap64 ((N : Int) / 256) = (N : Int) / 256 := wrap64_in _ (by omega) (by omega)
      rw [hb0, hb1, hb2, hb3] at hbe
      have HBE := Lib.hid hbe
      have HN := Lib.hid hN
      clear hN hbe hb0 hb1 hb2 hb3
      go_wp2_with (at_builtin; go_loud (refine wpList_append_tl rfl (.tmp 36) (.tmp 51) rfl w.heap.size _ r4 rfl (HT4.out.alloc _) (some ⟨w4.heap.size, 0, none⟩) [b0, b1, b2, b3] 4 4 rfl rfl (Rd.of_lit (T := 5) (fr := (0, 0)) [b0, b1, b2, b3] ?c0) ?c1 ?c2 ?_))
      case c0 => rw [heap_alloc_new]; rfl
      case c1 => have := H4L.out; simp; omega
      case c2 => have := HB4.out.size; simp; omega
      intro a5 n5 c5 w5 hn5 ht5 hg5 how5
      have hB5 : Below w.heap.size w w5 := below_grow_tl (HB4.out.alloc HB4.out.size (.cells #[.int .u8 (b0.toNat : Int), .int .u8 (b1.toNat : Int), .int .u8 (b2.toNat : Int), .int .u8 (b3.toNat : Int)] 5)) (HT4.out.alloc _) hg5 (by have := HB4.out.size; simp; omega)
      have hpd : r4 ++ [b0, b1, b2, b3] = padded m := by
        rw [← HR4.out, ← HR3.out, ← HR2.out]
        unfold padded padT
        rw [HN.out, HBE.out]
        simp
      rw [hpd] at ht5
      have hpl := padded_len m
      have hple := padded_le m
      have hpg := padded_gt m
      have hsha : sha m = outB (stOf (padded m) ((padded m).length / 64)) := rfl
      obtain ⟨PD, hPD⟩ : ∃ x, padded m = x := ⟨_, rfl⟩
      rw [hPD] at ht5 hpl hple hsha hpg
      have hPpos : 0 < PD.length := by omega
      obtain ⟨a6, c6, hv6, hrd6, hc6, _⟩ := ht5.shape
      simp at hv6
      obtain ⟨rfl, rfl, rfl⟩ := hv6
      have hPb : PD.length ≤ 900072 := by omega
      have HRD := Lib.hid hrd6
      have HC6 := Lib.hid hc6
      have HB5 := Lib.hid hB5
      have HSH := Lib.hid hsha
      have HPL := Lib.hid hpl
      clear hn5 ht5 hg5 how5 hB5 hpd hsha hpl hple hpg hPD hrd6 hc6 d1 d2 d3 k0 k1 k2 k3 hmul hN2 HB4 HT4 HB HT HR2 HR3 HR4 H2L H3L H4L HT2 HB2 HN HBE HQ HR hz hlt
      go_wp2_with fail
      refine (keys_any w5).mono ?_
      rintro e w6 ⟨rfl, hw6⟩
      have hk6 : w6.heap[w5.heap.size]? = some (.cells (ints kTab).toArray 3 (0, 0)) := by rw [hw6]; exact heap_alloc_new w5 _
      have hb6 : Below w5.heap.size w5 w6 := by rw [hw6]; exact (Below.refl _ _).alloc (Nat.le_refl _) _
      have hs6 : w6.heap.size = w5.heap.size + 1 := by rw [hw6]; simp
      obtain ⟨gy, hgy⟩ : ∃ g, w5.heap.size = g := ⟨_, rfl⟩
      rw [hgy] at hk6 hs6 ⊢
      clear hw6
      go_wp2_with fail
      refine (first_any w6).mono ?_
      rintro e w7 ⟨rfl, hw7⟩
      have hh7 : w7.heap[w6.heap.size]? = some (.cells (ints iv).toArray 3 (0, 0)) := by rw [hw7]; exact heap_alloc_new w6 _
      have hb7 : Below w6.heap.size w6 w7 := by rw [hw7]; exact (Below.refl _ _).alloc (Nat.le_refl _) _
      obtain ⟨gh, hgh⟩ : ∃ g, w6.heap.size = g := ⟨_, rfl⟩
      rw [hgh] at hh7 ⊢
      have hk7 := block_below hk6 hb7
      have hrd7 := (HRD.out.below hb6).below hb7
      have hane : ∀ b off s, a5 = some ⟨b, off, s⟩ → b < gy := by
        intro b off s e
        have h1 := HRD.out
        rw [e] at h1
        have := h1.lt (fun h0 => by rw [h0] at hPpos; simp at hPpos)
        omega
      have HANE := Lib.hid hane
      have hbel7 : Below w.heap.size w w7 := (HB5.out.trans (hb6.mono HB5.out.size)).trans (hb7.mono (Nat.le_trans HB5.out.size hb6.size))
      have hW0 : w.heap.size ≤ gy := by rw [← hgy]; exact HB5.out.size
      have hyh : gy < gh := by omega
      have HK7 := Lib.hid hk7
      have HH7 := Lib.hid hh7
      have HR7 := Lib.hid hrd7
      have HB7 := Lib.hid hbel7
      clear hw7 hb7 hb6 hs6 hk6 hh7 hk7 hrd7 hbel7 hgy hgh HB5 HRD hane
      go_wp2_with fail
      go_loopg [7] (PD.length / 64) (fun k y wr => ∃ j : Nat, y = .int .i64 (64 * (j : Int)) ∧ j + k = PD.length / 64 ∧ Hid (Rd wr a5 PD) ∧ Hid (wr.heap[gy]? = some (.cells (ints kTab).toArray 3 (0, 0))) ∧ Hid (wr.heap[gh]? = some (.cells (ints (stOf PD j)).toArray 3 (0, 0))) ∧ Hid (Below w.heap.size w wr))
      case atStart => exact ⟨0, rfl, by omega, HR7, HK7, HH7, HB7⟩
      case round =>
        clear HR7 HK7 HH7 HB7
        obtain ⟨j, rfl, hj, HR, HK, HH, HB⟩ := hrel
        obtain ⟨gO, rfl⟩ : ∃ x : Nat, x = gk := ⟨_, rfl⟩
        obtain ⟨st, hst⟩ : ∃ x, stOf PD j = x := ⟨_, rfl⟩
        have hst8 := stOf_st8 PD j
        rw [hst] at HH hst8
        by_cases hlt : j < PD.length / 64
        · have hplm := HPL.out
          have hjI : 64 * (j : Int) < (PD.length : Int) := by omega
          have hw64 : IntKind.i64.wrap (64 * (j : Int) + 64) = 64 * (j : Int) + 64 := IntWalk.i64_in _ (by omega)
          obtain ⟨a', c', hsl, hrd⟩ := slice_lh a5 PD c5 (64 * j) (64 * j + 64) 64 (64 * (j : Int)) (64 * (j : Int) + 64) (by omega) (by omega) HC6.out (by omega) (by omega) (by omega)
          have hrdw := hrd wr HR.out
          obtain ⟨L, hL⟩ : ∃ L, (PD.drop (64 * j)).take 64 = L := ⟨_, rfl⟩
          have hLl : L.length = 64 := by rw [← hL, List.length_take, List.length_drop]; omega
          have hws : schedU L 64 = schedU (PD.drop (64 * j)) 64 := by rw [← hL]; exact schedU_take _ _
          rw [hL] at hrdw
          have hsc := schedule_ref a' L 64 c' wr hrdw hLl.symm (by omega) (by omega)
          rw [hws] at hsc
          have hwl : (schedU (PD.drop (64 * j)) 64).length = 64 := schedU_len _ _
          have hwlt : ∀ t, (schedU (PD.drop (64 * j)) 64).getD t 0 < 4294967296 := fun t => getD_lt _ 64 t
          have hstep : stOf PD (j + 1) = List.zipWith (fun x y => (x + y) % 4294967296) (rnds (schedU (PD.drop (64 * j)) 64) st 64) st := by
            simp only [stOf]
            rw [hst]
            rfl
          obtain ⟨ws, hwse⟩ : ∃ ws, schedU (PD.drop (64 * j)) 64 = ws := ⟨_, rfl⟩
          rw [hwse] at hsc hwl hwlt hstep
          have HSC := Lib.hid hsc
          have HWL := Lib.hid hwlt
          have HST := Lib.hid hstep
          clear hrd hrdw hL hws hsc hwlt hstep hwse hLl
          go_upto_region 12 with (fail)
          go_wp2_with fail
          refine HSC.out.mono ?_
          rintro e w1 ⟨gw, cw, rfl, how, hb1⟩
          have hrw : RowI w1 gw ws := fun i hi => how.cell hi
          have HRW := Lib.hid hrw
          have hk1 := block_below HK.out hb1
          have hh1 := block_below HH.out hb1
          have hr1 := HR.out.below hb1
          have hB1 := HB.out.trans (hb1.mono HB.out.size)
          have HK1 := Lib.hid hk1
          have HH1 := Lib.hid hh1
          have HR1 := Lib.hid hr1
          have HB1 := Lib.hid hB1
          have h8 : st.length = 8 := hst8.1
          clear how hb1 hrw hk1 hh1 hr1 hB1 HSC HR HK HH HB hsl
          go_wp2_with (at_builtin; go_loud (refine wpList_append_ints rfl (.tmp 67) (.tmp 68) rfl w1.heap.size _ [] rfl (OwnI.empty w1) gh st 8 8 rfl h8.symm (by omega) ?c0 ?c1 ?c2 ?_))
          case c0 =>
            intro i hi
            have h1 : w1.cell? ⟨gh, i, none⟩ = some (.int .i64 (st[i] : Nat)) := by
              rw [Lib.cell_of_heap HH1.out]
              simp [ints, hi]
            rw [World.cell?_alloc_lt _ _ _ (World.block_lt_of_cell? _ _ h1)]
            exact h1
          case c1 => simp; omega
          case c2 => simp
          intro gs n2 cs w2 hn2 ho2 hg2 how2
          have hb2 : Below w1.heap.size w1 w2 := ((Below.refl _ _).alloc (Nat.le_refl _) _).grown hg2 (by simp) (fun k hk => (OwnI.lt (OwnI.empty w1) k hk).1)
          obtain rfl : n2 = 8 := by
            obtain ⟨g, c, h⟩ := ho2.shape (by first | omega | (simp; omega))
            simp at h
            omega
          have hgs2 : gh < gs := by
            have h1 := (Array.getElem?_eq_some_iff.1 HH1.out).1
            rcases how2 with h | h
            · simp [Value.ownBlock] at h
              omega
            · try simp at h
              omega
          have hrs : RowI w2 gs st := fun i hi => ho2.cell (by simpa using hi)
          have hrw2 := HRW.out.below hb2
          have hk2 := block_below HK1.out hb2
          have hh2 := block_below HH1.out hb2
          have hr2 := HR1.out.below hb2
          have hB2 := HB1.out.trans (hb2.mono HB1.out.size)
          have HRS := Lib.hid hrs
          have HRW := Lib.hid hrw2
          have HK2 := Lib.hid hk2
          have HH2 := Lib.hid hh2
          have HR2 := Lib.hid hr2
          have HB2 := Lib.hid hB2
          clear hn2 ho2 hg2 how2 hb2 hrs hrw2 hk2 hh2 hr2 hB2 HK1 HH1 HR1 HB1
          go_wp2_with fail
          go_loopg [10, 9] 64 (fun k y x wr => ∃ t gs cs : Nat, y = .int .i64 t ∧ x = .slice (some ⟨gs, 0, none⟩) 8 cs ∧ t + k = 64 ∧ gh < gs ∧ Hid (RowI wr gs (rnds ws st t)) ∧ Hid (Below w2.heap.size w2 wr))
          case atStart => exact ⟨0, gs, cs, rfl, rfl, rfl, hgs2, HRS, Lib.hid (Below.refl _ _)⟩
          case round =>
            clear HRS
            obtain ⟨t, gs, cs, rfl, rfl, ht, hgg, HS, HB⟩ := hrel
            by_cases ht64 : t < 64
            · obtain ⟨sa, sb, sc, sd, se, sf, sg, sh, hs, ba, bb, bc, bd, be, bf, bg, bh⟩ := (rnds_st8 ws hst8 t).shape
              have hS := HS.out
              rw [hs] at hS
              have c0 := hS 0 (by simp)
              have c1 := hS 1 (by simp)
              have c2 := hS 2 (by simp)
              have c3 := hS 3 (by simp)
              have c4 := hS 4 (by simp)
              have c5 := hS 5 (by simp)
              have c6 := hS 6 (by simp)
              have c7 := hS 7 (by simp)
              simp only [List.getElem_cons_zero, List.getElem_cons_succ] at c0 c1 c2 c3 c4 c5 c6 c7
              have hkt := kAt_lt t
              have hwt := HWL.out t
              have ck := (show wr.cell? ⟨gy, t, none⟩ = some (.int .i64 (kAt t : Nat)) by
                rw [Lib.cell_of_heap (block_below HK2.out HB.out)]
                have : t < kTab.length := ht64
                simp [ints, kAt, List.getD, this])
              have cwt := (show wr.cell? ⟨gw, t, none⟩ = some (.int .i64 (ws.getD t 0 : Nat)) by
                have := (HRW.out.below HB.out) t (by omega)
                rw [this, getD_nat])
              have hrn : rnds ws st (t + 1) = rnd (kAt t) (ws.getD t 0) [sa, sb, sc, sd, se, sf, sg, sh] := by
                simp only [rnds]
                rw [hs]
              obtain ⟨wt, ewt⟩ : ∃ x, ws.getD t 0 = x := ⟨_, rfl⟩
              obtain ⟨kt, ekt⟩ : ∃ x, kAt t = x := ⟨_, rfl⟩
              rw [ewt] at hwt cwt hrn
              rw [ekt] at hkt ck hrn
              obtain ⟨r6, r11, r25, v1, v2, s1, a1, ne, a2, ch, s2, s3, s4, C6, C11, C25, f1, f2, f3, f4, f5, f6, f7, f8, f9, f10, em, bm⟩ := ref_round1 se sf sg sh kt wt be bf bg bh hkt hwt
              have HR6 := Lib.hid C6
              have HR11 := Lib.hid C11
              have HR25 := Lib.hid C25
              have HBS4 := Lib.hid bm
              have HEM := Lib.hid em
              have HRN := Lib.hid hrn
              have tn : ((t : Int)).toNat = t := by omega
              have t0 : 0 ≤ (t : Int) := by omega
              have t64 : (t : Int) < 64 := by omega
              clear hS hs ewt ekt C6 C11 C25 em bm hrn hkt hwt
              go_upto_region 19 with (fail)
              refine wp_region_grow (by kernel_rfl) (by kernel_rfl) [80, 81, 82, 83, 84, 85, 86, 87, 88, 89, 90, 91, 92, 93, 94, 95, 96, 97, 98, 99, 100, 101, 102, 103, 104, 105, 106, 107, 108, 109, 110, 111, 112, 113, 114, 115, 13] rfl (by decide) (by kernel_rfl) (fun i => [VIs (.slice (some ⟨gs, 0, none⟩) 8 cs), VIs (.pointer (some ⟨gs, 7, none⟩)), VIs (.int .i64 (sh : Nat)), VIs (.int .i64 (se : Nat)), VIs (.int .i64 (r6 : Nat)), VIs (.int .i64 (se : Nat)), VIs (.int .i64 (r11 : Nat)), VIs (.int .i64 (v1 : Nat)), VIs (.int .i64 (se : Nat)), VIs (.int .i64 (r25 : Nat)), VIs (.int .i64 (v2 : Nat)), VIs (.int .i64 (s1 : Nat)), VIs (.int .i64 (se : Nat)), VIs (.slice (some ⟨gs, 0, none⟩) 8 cs), VIs (.pointer (some ⟨gs, 5, none⟩)), VIs (.int .i64 (sf : Nat)), VIs (.int .i64 (a1 : Nat)), VIs (.int .i64 (se : Nat)), VIs (.int .i64 (ne : Nat)), VIs (.slice (some ⟨gs, 0, none⟩) 8 cs), VIs (.pointer (some ⟨gs, 6, none⟩)), VIs (.int .i64 (sg : Nat)), VIs (.int .i64 (a2 : Nat)), VIs (.int .i64 (ch : Nat)), VIs (.int .i64 (s2 : Nat)), VIs (.slice (some ⟨gy, 0, none⟩) 64 64), VIs (.int .i64 (t : Nat)), VIs (.pointer (some ⟨gy, t, none⟩)), VIs (.int .i64 (kt : Nat)), VIs (.int .i64 (s3 : Nat)), VIs (.slice (some ⟨gw, 0, none⟩) 64 cw), VIs (.int .i64 (t : Nat)), VIs (.pointer (some ⟨gw, t, none⟩)), VIs (.int .i64 (wt : Nat)), VIs (.int .i64 (s4 : Nat)), VIs (.int .i64 ((s4) % 4294967296 : Nat)), VIs (.int .i64 (s4 % 4294967296 : Nat))].getD i fun _ _ => True) (stab_list _ ?_) ?_ ?_
              · intro V hV
                simp only [List.mem_cons, List.mem_nil_iff, or_false] at hV
                rcases hV with rfl | rfl | rfl | rfl | rfl | rfl | rfl | rfl | rfl | rfl | rfl | rfl | rfl | rfl | rfl | rfl | rfl | rfl | rfl | rfl | rfl | rfl | rfl | rfl | rfl | rfl | rfl | rfl | rfl | rfl | rfl | rfl | rfl | rfl | rfl | rfl | rfl <;> first | exact VIs.stab _ | exact VBytes.stab _ | exact VStr.stab _ | exact VParts.stab _ | exact VRow.stab _ | exact VRow8.stab _ _
              · intro i o ho a' w' hf hb hd
                rcases i with _ | _ | _ | _ | _ | _ | _ | _ | _ | _ | _ | _ | _ | _ | _ | _ | _ | _ | _ | _ | _ | _ | _ | _ | _ | _ | _ | _ | _ | _ | _ | _ | _ | _ | _ | _ | _ | i
                · cases ho
                  refine grow_op rfl rfl rfl (grow_move rfl ?_)
                  exact (hf.same 9 (by decide)).trans rfl
                · cases ho
                  refine grow_op rfl rfl rfl ?_
                  have e0 : a'.tmps.getD 80 undef = .slice (some ⟨gs, 0, none⟩) 8 cs := hd 0 (by kernel_rfl)
                  refine grow_value (v := .pointer (some ⟨gs, 7, none⟩)) (w' := w') ?_ rfl (Below.refl _ _)
                  simp only [execOp, Act.eval, e0]
                  go_simp
                · cases ho
                  refine grow_op rfl rfl rfl ?_
                  have e1 : a'.tmps.getD 81 undef = .pointer (some ⟨gs, 7, none⟩) := hd 1 (by kernel_rfl)
                  have hc := cell_now hb c7
                  refine grow_value (v := .int .i64 (sh : Nat)) (w' := w') ?_ rfl (Below.refl _ _)
                  simp only [execOp, Act.eval, e1]
                  go_simp
                · cases ho
                  refine grow_op rfl rfl rfl (grow_move rfl ?_)
                  exact (hf.same 11 (by decide)).trans rfl
                · cases ho
                  refine grow_op rfl rfl rfl ?_
                  have e3 : a'.tmps.getD 83 undef = .int .i64 (se : Nat) := hd 3 (by kernel_rfl)
                  refine grow_call ent_turn rfl ?_
                  simp only [List.map_toArray, List.map_cons, List.map_nil, Act.eval, e3]
                  exact turn_grew (HR6.out w')
                · cases ho
                  refine grow_op rfl rfl rfl (grow_move rfl ?_)
                  exact (hf.same 11 (by decide)).trans rfl
                · cases ho
                  refine grow_op rfl rfl rfl ?_
                  have e5 : a'.tmps.getD 85 undef = .int .i64 (se : Nat) := hd 5 (by kernel_rfl)
                  refine grow_call ent_turn rfl ?_
                  simp only [List.map_toArray, List.map_cons, List.map_nil, Act.eval, e5]
                  exact turn_grew (HR11.out w')
                · cases ho
                  refine grow_op rfl rfl rfl ?_
                  have e4 : a'.tmps.getD 84 undef = .int .i64 (r6 : Nat) := hd 4 (by kernel_rfl)
                  have e6 : a'.tmps.getD 86 undef = .int .i64 (r11 : Nat) := hd 6 (by kernel_rfl)
                  refine grow_value (v := .int .i64 (v1 : Nat)) (w' := w') ?_ rfl (Below.refl _ _)
                  simp only [execOp, Act.eval, e4, e6]
                  go_simp
                · cases ho
                  refine grow_op rfl rfl rfl (grow_move rfl ?_)
                  exact (hf.same 11 (by decide)).trans rfl
                · cases ho
                  refine grow_op rfl rfl rfl ?_
                  have e8 : a'.tmps.getD 88 undef = .int .i64 (se : Nat) := hd 8 (by kernel_rfl)
                  refine grow_call ent_turn rfl ?_
                  simp only [List.map_toArray, List.map_cons, List.map_nil, Act.eval, e8]
                  exact turn_grew (HR25.out w')
                · cases ho
                  refine grow_op rfl rfl rfl ?_
                  have e7 : a'.tmps.getD 87 undef = .int .i64 (v1 : Nat) := hd 7 (by kernel_rfl)
                  have e9 : a'.tmps.getD 89 undef = .int .i64 (r25 : Nat) := hd 9 (by kernel_rfl)
                  refine grow_value (v := .int .i64 (v2 : Nat)) (w' := w') ?_ rfl (Below.refl _ _)
                  simp only [execOp, Act.eval, e7, e9]
                  go_simp
                · cases ho
                  refine grow_op rfl rfl rfl ?_
                  have e2 : a'.tmps.getD 82 undef = .int .i64 (sh : Nat) := hd 2 (by kernel_rfl)
                  have e10 : a'.tmps.getD 90 undef = .int .i64 (v2 : Nat) := hd 10 (by kernel_rfl)
                  refine grow_value (v := .int .i64 (s1 : Nat)) (w' := w') ?_ rfl (Below.refl _ _)
                  simp only [execOp, Act.eval, e2, e10]
                  go_simp
                · cases ho
                  refine grow_op rfl rfl rfl (grow_move rfl ?_)
                  exact (hf.same 11 (by decide)).trans rfl
                · cases ho
                  refine grow_op rfl rfl rfl (grow_move rfl ?_)
                  exact (hf.same 9 (by decide)).trans rfl
                · cases ho
                  refine grow_op rfl rfl rfl ?_
                  have e13 : a'.tmps.getD 93 undef = .slice (some ⟨gs, 0, none⟩) 8 cs := hd 13 (by kernel_rfl)
                  refine grow_value (v := .pointer (some ⟨gs, 5, none⟩)) (w' := w') ?_ rfl (Below.refl _ _)
                  simp only [execOp, Act.eval, e13]
                  go_simp
                · cases ho
                  refine grow_op rfl rfl rfl ?_
                  have e14 : a'.tmps.getD 94 undef = .pointer (some ⟨gs, 5, none⟩) := hd 14 (by kernel_rfl)
                  have hc := cell_now hb c5
                  refine grow_value (v := .int .i64 (sf : Nat)) (w' := w') ?_ rfl (Below.refl _ _)
                  simp only [execOp, Act.eval, e14]
                  go_simp
                · cases ho
                  refine grow_op rfl rfl rfl ?_
                  have e12 : a'.tmps.getD 92 undef = .int .i64 (se : Nat) := hd 12 (by kernel_rfl)
                  have e15 : a'.tmps.getD 95 undef = .int .i64 (sf : Nat) := hd 15 (by kernel_rfl)
                  refine grow_value (v := .int .i64 (a1 : Nat)) (w' := w') ?_ rfl (Below.refl _ _)
                  simp only [execOp, Act.eval, e12, e15]
                  go_simp
                · cases ho
                  refine grow_op rfl rfl rfl (grow_move rfl ?_)
                  exact (hf.same 11 (by decide)).trans rfl
                · cases ho
                  refine grow_op rfl rfl rfl ?_
                  have e17 : a'.tmps.getD 97 undef = .int .i64 (se : Nat) := hd 17 (by kernel_rfl)
                  refine grow_value (v := .int .i64 (ne : Nat)) (w' := w') ?_ rfl (Below.refl _ _)
                  simp only [execOp, Act.eval, e17]
                  go_simp
                · cases ho
                  refine grow_op rfl rfl rfl (grow_move rfl ?_)
                  exact (hf.same 9 (by decide)).trans rfl
                · cases ho
                  refine grow_op rfl rfl rfl ?_
                  have e19 : a'.tmps.getD 99 undef = .slice (some ⟨gs, 0, none⟩) 8 cs := hd 19 (by kernel_rfl)
                  refine grow_value (v := .pointer (some ⟨gs, 6, none⟩)) (w' := w') ?_ rfl (Below.refl _ _)
                  simp only [execOp, Act.eval, e19]
                  go_simp
                · cases ho
                  refine grow_op rfl rfl rfl ?_
                  have e20 : a'.tmps.getD 100 undef = .pointer (some ⟨gs, 6, none⟩) := hd 20 (by kernel_rfl)
                  have hc := cell_now hb c6
                  refine grow_value (v := .int .i64 (sg : Nat)) (w' := w') ?_ rfl (Below.refl _ _)
                  simp only [execOp, Act.eval, e20]
                  go_simp
                · cases ho
                  refine grow_op rfl rfl rfl ?_
                  have e18 : a'.tmps.getD 98 undef = .int .i64 (ne : Nat) := hd 18 (by kernel_rfl)
                  have e21 : a'.tmps.getD 101 undef = .int .i64 (sg : Nat) := hd 21 (by kernel_rfl)
                  refine grow_value (v := .int .i64 (a2 : Nat)) (w' := w') ?_ rfl (Below.refl _ _)
                  simp only [execOp, Act.eval, e18, e21]
                  go_simp
                · cases ho
                  refine grow_op rfl rfl rfl ?_
                  have e16 : a'.tmps.getD 96 undef = .int .i64 (a1 : Nat) := hd 16 (by kernel_rfl)
                  have e22 : a'.tmps.getD 102 undef = .int .i64 (a2 : Nat) := hd 22 (by kernel_rfl)
                  refine grow_value (v := .int .i64 (ch : Nat)) (w' := w') ?_ rfl (Below.refl _ _)
                  simp only [execOp, Act.eval, e16, e22]
                  go_simp
                · cases ho
                  refine grow_op rfl rfl rfl ?_
                  have e11 : a'.tmps.getD 91 undef = .int .i64 (s1 : Nat) := hd 11 (by kernel_rfl)
                  have e23 : a'.tmps.getD 103 undef = .int .i64 (ch : Nat) := hd 23 (by kernel_rfl)
                  refine grow_value (v := .int .i64 (s2 : Nat)) (w' := w') ?_ rfl (Below.refl _ _)
                  simp only [execOp, Act.eval, e11, e23]
                  go_simp
                · cases ho
                  refine grow_op rfl rfl rfl (grow_move rfl ?_)
                  exact (hf.same 5 (by decide)).trans rfl
                · cases ho
                  refine grow_op rfl rfl rfl (grow_move rfl ?_)
                  exact (hf.same 10 (by decide)).trans rfl
                · cases ho
                  refine grow_op rfl rfl rfl ?_
                  have e25 : a'.tmps.getD 105 undef = .slice (some ⟨gy, 0, none⟩) 64 64 := hd 25 (by kernel_rfl)
                  have e26 : a'.tmps.getD 106 undef = .int .i64 (t : Nat) := hd 26 (by kernel_rfl)
                  refine grow_value (v := .pointer (some ⟨gy, t, none⟩)) (w' := w') ?_ rfl (Below.refl _ _)
                  simp only [execOp, Act.eval, e25, e26]
                  go_simp
                · cases ho
                  refine grow_op rfl rfl rfl ?_
                  have e27 : a'.tmps.getD 107 undef = .pointer (some ⟨gy, t, none⟩) := hd 27 (by kernel_rfl)
                  have hc := cell_now hb ck
                  refine grow_value (v := .int .i64 (kt : Nat)) (w' := w') ?_ rfl (Below.refl _ _)
                  simp only [execOp, Act.eval, e27]
                  go_simp
                · cases ho
                  refine grow_op rfl rfl rfl ?_
                  have e24 : a'.tmps.getD 104 undef = .int .i64 (s2 : Nat) := hd 24 (by kernel_rfl)
                  have e28 : a'.tmps.getD 108 undef = .int .i64 (kt : Nat) := hd 28 (by kernel_rfl)
                  refine grow_value (v := .int .i64 (s3 : Nat)) (w' := w') ?_ rfl (Below.refl _ _)
                  simp only [execOp, Act.eval, e24, e28]
                  go_simp
                · cases ho
                  refine grow_op rfl rfl rfl (grow_move rfl ?_)
                  exact (hf.same 8 (by decide)).trans rfl
                · cases ho
                  refine grow_op rfl rfl rfl (grow_move rfl ?_)
                  exact (hf.same 10 (by decide)).trans rfl
                · cases ho
                  refine grow_op rfl rfl rfl ?_
                  have e30 : a'.tmps.getD 110 undef = .slice (some ⟨gw, 0, none⟩) 64 cw := hd 30 (by kernel_rfl)
                  have e31 : a'.tmps.getD 111 undef = .int .i64 (t : Nat) := hd 31 (by kernel_rfl)
                  refine grow_value (v := .pointer (some ⟨gw, t, none⟩)) (w' := w') ?_ rfl (Below.refl _ _)
                  simp only [execOp, Act.eval, e30, e31]
                  go_simp
                · cases ho
                  refine grow_op rfl rfl rfl ?_
                  have e32 : a'.tmps.getD 112 undef = .pointer (some ⟨gw, t, none⟩) := hd 32 (by kernel_rfl)
                  have hc := cell_now hb cwt
                  refine grow_value (v := .int .i64 (wt : Nat)) (w' := w') ?_ rfl (Below.refl _ _)
                  simp only [execOp, Act.eval, e32]
                  go_simp
                · cases ho
                  refine grow_op rfl rfl rfl ?_
                  have e29 : a'.tmps.getD 109 undef = .int .i64 (s3 : Nat) := hd 29 (by kernel_rfl)
                  have e33 : a'.tmps.getD 113 undef = .int .i64 (wt : Nat) := hd 33 (by kernel_rfl)
                  refine grow_value (v := .int .i64 (s4 : Nat)) (w' := w') ?_ rfl (Below.refl _ _)
                  simp only [execOp, Act.eval, e29, e33]
                  go_simp
                · cases ho
                  refine grow_op rfl rfl rfl ?_
                  have e : a'.tmps.getD 114 undef = .int .i64 (s4 : Nat) := hd 34 (by kernel_rfl)
                  refine grow_call ent_top rfl ?_
                  simp only [List.map_toArray, List.map_cons, List.map_nil, Act.eval, e]
                  exact (top_any (s4) w' HBS4.out).mono (fun e w'' ⟨h1, h2⟩ => ⟨_, h1, rfl, by rw [h2]; exact Below.refl _ _⟩)
                · cases ho
                  refine grow_op rfl rfl rfl (grow_assign rfl ?_)
                  exact hd 35 (by kernel_rfl)
                · simp at ho
              · intro a' w' hf hb hd
                obtain rfl := hf.eq [Value.slice (some ⟨gs, 0, none⟩) 8 cs, Value.pointer (some ⟨gs, 7, none⟩), Value.int IntKind.i64 (sh : Nat), Value.int IntKind.i64 (se : Nat), Value.int IntKind.i64 (r6 : Nat), Value.int IntKind.i64 (se : Nat), Value.int IntKind.i64 (r11 : Nat), Value.int IntKind.i64 (v1 : Nat), Value.int IntKind.i64 (se : Nat), Value.int IntKind.i64 (r25 : Nat), Value.int IntKind.i64 (v2 : Nat), Value.int IntKind.i64 (s1 : Nat), Value.int IntKind.i64 (se : Nat), Value.slice (some ⟨gs, 0, none⟩) 8 cs, Value.pointer (some ⟨gs, 5, none⟩), Value.int IntKind.i64 (sf : Nat), Value.int IntKind.i64 (a1 : Nat), Value.int IntKind.i64 (se : Nat), Value.int IntKind.i64 (ne : Nat), Value.slice (some ⟨gs, 0, none⟩) 8 cs, Value.pointer (some ⟨gs, 6, none⟩), Value.int IntKind.i64 (sg : Nat), Value.int IntKind.i64 (a2 : Nat), Value.int IntKind.i64 (ch : Nat), Value.int IntKind.i64 (s2 : Nat), Value.slice (some ⟨gy, 0, none⟩) 64 64, Value.int IntKind.i64 (t : Nat), Value.pointer (some ⟨gy, t, none⟩), Value.int IntKind.i64 (kt : Nat), Value.int IntKind.i64 (s3 : Nat), Value.slice (some ⟨gw, 0, none⟩) 64 cw, Value.int IntKind.i64 (t : Nat), Value.pointer (some ⟨gw, t, none⟩), Value.int IntKind.i64 (wt : Nat), Value.int IntKind.i64 (s4 : Nat), Value.int IntKind.i64 ((s4) % 4294967296 : Nat), Value.int IntKind.i64 (s4 % 4294967296 : Nat)] (fun j hj => match j, hj with
                  | 0, _ => hd 0 (by decide)
                  | 1, _ => hd 1 (by decide)
                  | 2, _ => hd 2 (by decide)
                  | 3, _ => hd 3 (by decide)
                  | 4, _ => hd 4 (by decide)
                  | 5, _ => hd 5 (by decide)
                  | 6, _ => hd 6 (by decide)
                  | 7, _ => hd 7 (by decide)
                  | 8, _ => hd 8 (by decide)
                  | 9, _ => hd 9 (by decide)
                  | 10, _ => hd 10 (by decide)
                  | 11, _ => hd 11 (by decide)
                  | 12, _ => hd 12 (by decide)
                  | 13, _ => hd 13 (by decide)
                  | 14, _ => hd 14 (by decide)
                  | 15, _ => hd 15 (by decide)
                  | 16, _ => hd 16 (by decide)
                  | 17, _ => hd 17 (by decide)
                  | 18, _ => hd 18 (by decide)
                  | 19, _ => hd 19 (by decide)
                  | 20, _ => hd 20 (by decide)
                  | 21, _ => hd 21 (by decide)
                  | 22, _ => hd 22 (by decide)
                  | 23, _ => hd 23 (by decide)
                  | 24, _ => hd 24 (by decide)
                  | 25, _ => hd 25 (by decide)
                  | 26, _ => hd 26 (by decide)
                  | 27, _ => hd 27 (by decide)
                  | 28, _ => hd 28 (by decide)
                  | 29, _ => hd 29 (by decide)
                  | 30, _ => hd 30 (by decide)
                  | 31, _ => hd 31 (by decide)
                  | 32, _ => hd 32 (by decide)
                  | 33, _ => hd 33 (by decide)
                  | 34, _ => hd 34 (by decide)
                  | 35, _ => hd 35 (by decide)
                  | 36, _ => hd 36 (by decide)
                  | k + 37, h => absurd h (by simp)) (by decide) (by kernel_rfl) rfl
                simp only [List.zip_cons_cons, List.zip_nil_right, List.foldl_cons, List.foldl_nil, Act.put, List.setIfInBounds_toArray, List.set_cons_succ, List.set_cons_zero]
                have hbA := HB.out.trans (hb.mono HB.out.size)
                have d0 := cell_now hb c0
                have d1 := cell_now hb c1
                have d2 := cell_now hb c2
                have d3 := cell_now hb c3
                have d4 := cell_now hb c4
                have d5 := cell_now hb c5
                have d6 := cell_now hb c6
                obtain ⟨x1, hx1⟩ : ∃ x, s4 % 4294967296 = x := ⟨_, rfl⟩
                rw [hx1]
                have hx1l : x1 < 4294967296 := by omega
                have hem := HEM.out
                rw [hx1] at hem
                have HX1 := Lib.hid hem
                have HBA := Lib.hid hbA
                obtain ⟨r2, r13, r22, v1', v2', z1, z2, z3, z4, mj, t2, C2, C13, C22, g1, g2, g3, g4, g5, g6, g7, g8, em2, bm2⟩ := ref_round2 sa sb sc ba bb bc
                have HR2' := Lib.hid C2
                have HR13 := Lib.hid C13
                have HR22 := Lib.hid C22
                have HBT2 := Lib.hid bm2
                have HEM2 := Lib.hid em2
                clear C2 C13 C22 bm2 em2 hb hf hd hbA c0 c1 c2 c3 c4 c5 c6 c7 ck cwt f1 f2 f3 f4 f5 f6 f7 f8 f9 f10 HR6 HR11 HR25 HBS4 HEM hx1 hem HB HS
                obtain ⟨wA, hwA⟩ : ∃ x, w' = x := ⟨_, rfl⟩
                rw [hwA] at d0 d1 d2 d3 d4 d5 d6 HBA ⊢
                clear hwA
                go_upto_region 20 with (fail)
                refine wp_region_grow (by kernel_rfl) (by kernel_rfl) [116, 117, 118, 119, 120, 121, 122, 123, 124, 125, 126, 127, 128, 129, 130, 131, 132, 133, 134, 135, 136, 137, 138, 139, 140, 141, 142, 143, 144, 14] rfl (by decide) (by kernel_rfl) (fun i => [VIs (.int .i64 (sa : Nat)), VIs (.int .i64 (r2 : Nat)), VIs (.int .i64 (sa : Nat)), VIs (.int .i64 (r13 : Nat)), VIs (.int .i64 (v1' : Nat)), VIs (.int .i64 (sa : Nat)), VIs (.int .i64 (r22 : Nat)), VIs (.int .i64 (v2' : Nat)), VIs (.int .i64 (sa : Nat)), VIs (.slice (some ⟨gs, 0, none⟩) 8 cs), VIs (.pointer (some ⟨gs, 1, none⟩)), VIs (.int .i64 (sb : Nat)), VIs (.int .i64 (z1 : Nat)), VIs (.int .i64 (sa : Nat)), VIs (.slice (some ⟨gs, 0, none⟩) 8 cs), VIs (.pointer (some ⟨gs, 2, none⟩)), VIs (.int .i64 (sc : Nat)), VIs (.int .i64 (z2 : Nat)), VIs (.int .i64 (z4 : Nat)), VIs (.slice (some ⟨gs, 0, none⟩) 8 cs), VIs (.pointer (some ⟨gs, 1, none⟩)), VIs (.int .i64 (sb : Nat)), VIs (.slice (some ⟨gs, 0, none⟩) 8 cs), VIs (.pointer (some ⟨gs, 2, none⟩)), VIs (.int .i64 (sc : Nat)), VIs (.int .i64 (z3 : Nat)), VIs (.int .i64 (mj : Nat)), VIs (.int .i64 (t2 : Nat)), VIs (.int .i64 ((t2) % 4294967296 : Nat)), VIs (.int .i64 (t2 % 4294967296 : Nat))].getD i fun _ _ => True) (stab_list _ ?_) ?_ ?_
                · intro V hV
                  simp only [List.mem_cons, List.mem_nil_iff, or_false] at hV
                  rcases hV with rfl | rfl | rfl | rfl | rfl | rfl | rfl | rfl | rfl | rfl | rfl | rfl | rfl | rfl | rfl | rfl | rfl | rfl | rfl | rfl | rfl | rfl | rfl | rfl | rfl | rfl | rfl | rfl | rfl | rfl <;> first | exact VIs.stab _ | exact VBytes.stab _ | exact VStr.stab _ | exact VParts.stab _ | exact VRow.stab _ | exact VRow8.stab _ _
                · intro i o ho a' w' hf hb hd
                  rcases i with _ | _ | _ | _ | _ | _ | _ | _ | _ | _ | _ | _ | _ | _ | _ | _ | _ | _ | _ | _ | _ | _ | _ | _ | _ | _ | _ | _ | _ | _ | i
                  · cases ho
                    refine grow_op rfl rfl rfl (grow_move rfl ?_)
                    exact (hf.same 12 (by decide)).trans rfl
                  · cases ho
                    refine grow_op rfl rfl rfl ?_
                    have e0 : a'.tmps.getD 116 undef = .int .i64 (sa : Nat) := hd 0 (by kernel_rfl)
                    refine grow_call ent_turn rfl ?_
                    simp only [List.map_toArray, List.map_cons, List.map_nil, Act.eval, e0]
                    exact turn_grew (HR2'.out w')
                  · cases ho
                    refine grow_op rfl rfl rfl (grow_move rfl ?_)
                    exact (hf.same 12 (by decide)).trans rfl
                  · cases ho
                    refine grow_op rfl rfl rfl ?_
                    have e2 : a'.tmps.getD 118 undef = .int .i64 (sa : Nat) := hd 2 (by kernel_rfl)
                    refine grow_call ent_turn rfl ?_
                    simp only [List.map_toArray, List.map_cons, List.map_nil, Act.eval, e2]
                    exact turn_grew (HR13.out w')
                  · cases ho
                    refine grow_op rfl rfl rfl ?_
                    have e1 : a'.tmps.getD 117 undef = .int .i64 (r2 : Nat) := hd 1 (by kernel_rfl)
                    have e3 : a'.tmps.getD 119 undef = .int .i64 (r13 : Nat) := hd 3 (by kernel_rfl)
                    refine grow_value (v := .int .i64 (v1' : Nat)) (w' := w') ?_ rfl (Below.refl _ _)
                    simp only [execOp, Act.eval, e1, e3]
                    go_simp
                  · cases ho
                    refine grow_op rfl rfl rfl (grow_move rfl ?_)
                    exact (hf.same 12 (by decide)).trans rfl
                  · cases ho
                    refine grow_op rfl rfl rfl ?_
                    have e5 : a'.tmps.getD 121 undef = .int .i64 (sa : Nat) := hd 5 (by kernel_rfl)
                    refine grow_call ent_turn rfl ?_
                    simp only [List.map_toArray, List.map_cons, List.map_nil, Act.eval, e5]
                    exact turn_grew (HR22.out w')
                  · cases ho
                    refine grow_op rfl rfl rfl ?_
                    have e4 : a'.tmps.getD 120 undef = .int .i64 (v1' : Nat) := hd 4 (by kernel_rfl)
                    have e6 : a'.tmps.getD 122 undef = .int .i64 (r22 : Nat) := hd 6 (by kernel_rfl)
                    refine grow_value (v := .int .i64 (v2' : Nat)) (w' := w') ?_ rfl (Below.refl _ _)
                    simp only [execOp, Act.eval, e4, e6]
                    go_simp
                  · cases ho
                    refine grow_op rfl rfl rfl (grow_move rfl ?_)
                    exact (hf.same 12 (by decide)).trans rfl
                  · cases ho
                    refine grow_op rfl rfl rfl (grow_move rfl ?_)
                    exact (hf.same 9 (by decide)).trans rfl
                  · cases ho
                    refine grow_op rfl rfl rfl ?_
                    have e9 : a'.tmps.getD 125 undef = .slice (some ⟨gs, 0, none⟩) 8 cs := hd 9 (by kernel_rfl)
                    refine grow_value (v := .pointer (some ⟨gs, 1, none⟩)) (w' := w') ?_ rfl (Below.refl _ _)
                    simp only [execOp, Act.eval, e9]
                    go_simp
                  · cases ho
                    refine grow_op rfl rfl rfl ?_
                    have e10 : a'.tmps.getD 126 undef = .pointer (some ⟨gs, 1, none⟩) := hd 10 (by kernel_rfl)
                    have hc := cell_now hb d1
                    refine grow_value (v := .int .i64 (sb : Nat)) (w' := w') ?_ rfl (Below.refl _ _)
                    simp only [execOp, Act.eval, e10]
                    go_simp
                  · cases ho
                    refine grow_op rfl rfl rfl ?_
                    have e8 : a'.tmps.getD 124 undef = .int .i64 (sa : Nat) := hd 8 (by kernel_rfl)
                    have e11 : a'.tmps.getD 127 undef = .int .i64 (sb : Nat) := hd 11 (by kernel_rfl)
                    refine grow_value (v := .int .i64 (z1 : Nat)) (w' := w') ?_ rfl (Below.refl _ _)
                    simp only [execOp, Act.eval, e8, e11]
                    go_simp
                  · cases ho
                    refine grow_op rfl rfl rfl (grow_move rfl ?_)
                    exact (hf.same 12 (by decide)).trans rfl
                  · cases ho
                    refine grow_op rfl rfl rfl (grow_move rfl ?_)
                    exact (hf.same 9 (by decide)).trans rfl
                  · cases ho
                    refine grow_op rfl rfl rfl ?_
                    have e14 : a'.tmps.getD 130 undef = .slice (some ⟨gs, 0, none⟩) 8 cs := hd 14 (by kernel_rfl)
                    refine grow_value (v := .pointer (some ⟨gs, 2, none⟩)) (w' := w') ?_ rfl (Below.refl _ _)
                    simp only [execOp, Act.eval, e14]
                    go_simp
                  · cases ho
                    refine grow_op rfl rfl rfl ?_
                    have e15 : a'.tmps.getD 131 undef = .pointer (some ⟨gs, 2, none⟩) := hd 15 (by kernel_rfl)
                    have hc := cell_now hb d2
                    refine grow_value (v := .int .i64 (sc : Nat)) (w' := w') ?_ rfl (Below.refl _ _)
                    simp only [execOp, Act.eval, e15]
                    go_simp
                  · cases ho
                    refine grow_op rfl rfl rfl ?_
                    have e13 : a'.tmps.getD 129 undef = .int .i64 (sa : Nat) := hd 13 (by kernel_rfl)
                    have e16 : a'.tmps.getD 132 undef = .int .i64 (sc : Nat) := hd 16 (by kernel_rfl)
                    refine grow_value (v := .int .i64 (z2 : Nat)) (w' := w') ?_ rfl (Below.refl _ _)
                    simp only [execOp, Act.eval, e13, e16]
                    go_simp
                  · cases ho
                    refine grow_op rfl rfl rfl ?_
                    have e12 : a'.tmps.getD 128 undef = .int .i64 (z1 : Nat) := hd 12 (by kernel_rfl)
                    have e17 : a'.tmps.getD 133 undef = .int .i64 (z2 : Nat) := hd 17 (by kernel_rfl)
                    refine grow_value (v := .int .i64 (z4 : Nat)) (w' := w') ?_ rfl (Below.refl _ _)
                    simp only [execOp, Act.eval, e12, e17]
                    go_simp
                  · cases ho
                    refine grow_op rfl rfl rfl (grow_move rfl ?_)
                    exact (hf.same 9 (by decide)).trans rfl
                  · cases ho
                    refine grow_op rfl rfl rfl ?_
                    have e19 : a'.tmps.getD 135 undef = .slice (some ⟨gs, 0, none⟩) 8 cs := hd 19 (by kernel_rfl)
                    refine grow_value (v := .pointer (some ⟨gs, 1, none⟩)) (w' := w') ?_ rfl (Below.refl _ _)
                    simp only [execOp, Act.eval, e19]
                    go_simp
                  · cases ho
                    refine grow_op rfl rfl rfl ?_
                    have e20 : a'.tmps.getD 136 undef = .pointer (some ⟨gs, 1, none⟩) := hd 20 (by kernel_rfl)
                    have hc := cell_now hb d1
                    refine grow_value (v := .int .i64 (sb : Nat)) (w' := w') ?_ rfl (Below.refl _ _)
                    simp only [execOp, Act.eval, e20]
                    go_simp
                  · cases ho
                    refine grow_op rfl rfl rfl (grow_move rfl ?_)
                    exact (hf.same 9 (by decide)).trans rfl
                  · cases ho
                    refine grow_op rfl rfl rfl ?_
                    have e22 : a'.tmps.getD 138 undef = .slice (some ⟨gs, 0, none⟩) 8 cs := hd 22 (by kernel_rfl)
                    refine grow_value (v := .pointer (some ⟨gs, 2, none⟩)) (w' := w') ?_ rfl (Below.refl _ _)
                    simp only [execOp, Act.eval, e22]
                    go_simp
                  · cases ho
                    refine grow_op rfl rfl rfl ?_
                    have e23 : a'.tmps.getD 139 undef = .pointer (some ⟨gs, 2, none⟩) := hd 23 (by kernel_rfl)
                    have hc := cell_now hb d2
                    refine grow_value (v := .int .i64 (sc : Nat)) (w' := w') ?_ rfl (Below.refl _ _)
                    simp only [execOp, Act.eval, e23]
                    go_simp
                  · cases ho
                    refine grow_op rfl rfl rfl ?_
                    have e21 : a'.tmps.getD 137 undef = .int .i64 (sb : Nat) := hd 21 (by kernel_rfl)
                    have e24 : a'.tmps.getD 140 undef = .int .i64 (sc : Nat) := hd 24 (by kernel_rfl)
                    refine grow_value (v := .int .i64 (z3 : Nat)) (w' := w') ?_ rfl (Below.refl _ _)
                    simp only [execOp, Act.eval, e21, e24]
                    go_simp
                  · cases ho
                    refine grow_op rfl rfl rfl ?_
                    have e18 : a'.tmps.getD 134 undef = .int .i64 (z4 : Nat) := hd 18 (by kernel_rfl)
                    have e25 : a'.tmps.getD 141 undef = .int .i64 (z3 : Nat) := hd 25 (by kernel_rfl)
                    refine grow_value (v := .int .i64 (mj : Nat)) (w' := w') ?_ rfl (Below.refl _ _)
                    simp only [execOp, Act.eval, e18, e25]
                    go_simp
                  · cases ho
                    refine grow_op rfl rfl rfl ?_
                    have e7 : a'.tmps.getD 123 undef = .int .i64 (v2' : Nat) := hd 7 (by kernel_rfl)
                    have e26 : a'.tmps.getD 142 undef = .int .i64 (mj : Nat) := hd 26 (by kernel_rfl)
                    refine grow_value (v := .int .i64 (t2 : Nat)) (w' := w') ?_ rfl (Below.refl _ _)
                    simp only [execOp, Act.eval, e7, e26]
                    go_simp
                  · cases ho
                    refine grow_op rfl rfl rfl ?_
                    have e : a'.tmps.getD 143 undef = .int .i64 (t2 : Nat) := hd 27 (by kernel_rfl)
                    refine grow_call ent_top rfl ?_
                    simp only [List.map_toArray, List.map_cons, List.map_nil, Act.eval, e]
                    exact (top_any (t2) w' HBT2.out).mono (fun e w'' ⟨h1, h2⟩ => ⟨_, h1, rfl, by rw [h2]; exact Below.refl _ _⟩)
                  · cases ho
                    refine grow_op rfl rfl rfl (grow_assign rfl ?_)
                    exact hd 28 (by kernel_rfl)
                  · simp at ho
                · intro a' w' hf hb hd
                  obtain rfl := hf.eq [Value.int IntKind.i64 (sa : Nat), Value.int IntKind.i64 (r2 : Nat), Value.int IntKind.i64 (sa : Nat), Value.int IntKind.i64 (r13 : Nat), Value.int IntKind.i64 (v1' : Nat), Value.int IntKind.i64 (sa : Nat), Value.int IntKind.i64 (r22 : Nat), Value.int IntKind.i64 (v2' : Nat), Value.int IntKind.i64 (sa : Nat), Value.slice (some ⟨gs, 0, none⟩) 8 cs, Value.pointer (some ⟨gs, 1, none⟩), Value.int IntKind.i64 (sb : Nat), Value.int IntKind.i64 (z1 : Nat), Value.int IntKind.i64 (sa : Nat), Value.slice (some ⟨gs, 0, none⟩) 8 cs, Value.pointer (some ⟨gs, 2, none⟩), Value.int IntKind.i64 (sc : Nat), Value.int IntKind.i64 (z2 : Nat), Value.int IntKind.i64 (z4 : Nat), Value.slice (some ⟨gs, 0, none⟩) 8 cs, Value.pointer (some ⟨gs, 1, none⟩), Value.int IntKind.i64 (sb : Nat), Value.slice (some ⟨gs, 0, none⟩) 8 cs, Value.pointer (some ⟨gs, 2, none⟩), Value.int IntKind.i64 (sc : Nat), Value.int IntKind.i64 (z3 : Nat), Value.int IntKind.i64 (mj : Nat), Value.int IntKind.i64 (t2 : Nat), Value.int IntKind.i64 ((t2) % 4294967296 : Nat), Value.int IntKind.i64 (t2 % 4294967296 : Nat)] (fun j hj => match j, hj with
                    | 0, _ => hd 0 (by decide)
                    | 1, _ => hd 1 (by decide)
                    | 2, _ => hd 2 (by decide)
                    | 3, _ => hd 3 (by decide)
                    | 4, _ => hd 4 (by decide)
                    | 5, _ => hd 5 (by decide)
                    | 6, _ => hd 6 (by decide)
                    | 7, _ => hd 7 (by decide)
                    | 8, _ => hd 8 (by decide)
                    | 9, _ => hd 9 (by decide)
                    | 10, _ => hd 10 (by decide)
                    | 11, _ => hd 11 (by decide)
                    | 12, _ => hd 12 (by decide)
                    | 13, _ => hd 13 (by decide)
                    | 14, _ => hd 14 (by decide)
                    | 15, _ => hd 15 (by decide)
                    | 16, _ => hd 16 (by decide)
                    | 17, _ => hd 17 (by decide)
                    | 18, _ => hd 18 (by decide)
                    | 19, _ => hd 19 (by decide)
                    | 20, _ => hd 20 (by decide)
                    | 21, _ => hd 21 (by decide)
                    | 22, _ => hd 22 (by decide)
                    | 23, _ => hd 23 (by decide)
                    | 24, _ => hd 24 (by decide)
                    | 25, _ => hd 25 (by decide)
                    | 26, _ => hd 26 (by decide)
                    | 27, _ => hd 27 (by decide)
                    | 28, _ => hd 28 (by decide)
                    | 29, _ => hd 29 (by decide)
                    | k + 30, h => absurd h (by simp)) (by decide) (by kernel_rfl) rfl
                  simp only [List.zip_cons_cons, List.zip_nil_right, List.foldl_cons, List.foldl_nil, Act.put, List.setIfInBounds_toArray, List.set_cons_succ, List.set_cons_zero]

                  have hbA := HBA.out.trans (hb.mono HBA.out.size)
                  have c0 := cell_now hb d0
                  have c1 := cell_now hb d1
                  have c2 := cell_now hb d2
                  have c3 := cell_now hb d3
                  have c4 := cell_now hb d4
                  have c5 := cell_now hb d5
                  have c6 := cell_now hb d6
                  obtain ⟨x2, hx2⟩ : ∃ x, t2 % 4294967296 = x := ⟨_, rfl⟩
                  rw [hx2]
                  have hx2l : x2 < 4294967296 := by omega
                  have hem := HEM2.out
                  rw [hx2] at hem
                  have HX2 := Lib.hid hem
                  have HBA2 := Lib.hid hbA
                  have f1 : IntKind.i64.wrap ((x1 : Int) + (x2 : Int)) = ((x1 + x2 : Nat) : Int) := wr_nat (x1 + x2) (by omega)
                  have f2 : IntKind.i64.wrap ((sd : Int) + (x1 : Int)) = ((sd + x1 : Nat) : Int) := wr_nat (sd + x1) (by omega)
                  clear hb hf hd hbA d0 d1 d2 d3 d4 d5 d6 g1 g2 g3 g4 g5 g6 g7 g8 HR2' HR13 HR22 HBT2 HEM2 hx2 hem HBA
                  obtain ⟨wB, hwB⟩ : ∃ x, w' = x := ⟨_, rfl⟩
                  rw [hwB] at c0 c1 c2 c3 c4 c5 c6 HBA2 ⊢
                  clear hwB
                  have hghs : gh + 1 ≤ wB.heap.size := by
                    have h1 := (Array.getElem?_eq_some_iff.1 HH2.out).1
                    have h2 := HBA2.out.size
                    omega
                  go_upto_region 21 with (fail)
                  refine wp_region_grow_tail 29 (by kernel_rfl) (by kernel_rfl) (by decide) (by kernel_rfl) [145, 146, 147, 148, 149, 150, 151, 152, 153, 154, 155, 156, 157, 158, 159, 160, 161, 162, 163, 164, 165, 166, 167, 168, 169, 170, 171, 172, 173] rfl (by decide) (by kernel_rfl) (fun i => [VIs (.int .i64 (x1 : Nat)), VIs (.int .i64 (x2 : Nat)), VIs (.int .i64 (x1 + x2 : Nat)), VIs (.int .i64 ((x1 + x2) % 4294967296 : Nat)), VIs (.slice (some ⟨gs, 0, none⟩) 8 cs), VIs (.pointer (some ⟨gs, 0, none⟩)), VIs (.int .i64 (sa : Nat)), VIs (.slice (some ⟨gs, 0, none⟩) 8 cs), VIs (.pointer (some ⟨gs, 1, none⟩)), VIs (.int .i64 (sb : Nat)), VIs (.slice (some ⟨gs, 0, none⟩) 8 cs), VIs (.pointer (some ⟨gs, 2, none⟩)), VIs (.int .i64 (sc : Nat)), VIs (.slice (some ⟨gs, 0, none⟩) 8 cs), VIs (.pointer (some ⟨gs, 3, none⟩)), VIs (.int .i64 (sd : Nat)), VIs (.int .i64 (x1 : Nat)), VIs (.int .i64 (sd + x1 : Nat)), VIs (.int .i64 ((sd + x1) % 4294967296 : Nat)), VIs (.slice (some ⟨gs, 0, none⟩) 8 cs), VIs (.pointer (some ⟨gs, 4, none⟩)), VIs (.int .i64 (se : Nat)), VIs (.slice (some ⟨gs, 0, none⟩) 8 cs), VIs (.pointer (some ⟨gs, 5, none⟩)), VIs (.int .i64 (sf : Nat)), VIs (.slice (some ⟨gs, 0, none⟩) 8 cs), VIs (.pointer (some ⟨gs, 6, none⟩)), VIs (.int .i64 (sg : Nat)), VRow8 (gh + 1) [(x1 + x2) % 4294967296, sa, sb, sc, (sd + x1) % 4294967296, se, sf, sg]].getD i fun _ _ => True) (stab_list _ ?_) ?_ ?_
                  · intro V hV
                    simp only [List.mem_cons, List.mem_nil_iff, or_false] at hV
                    rcases hV with rfl | rfl | rfl | rfl | rfl | rfl | rfl | rfl | rfl | rfl | rfl | rfl | rfl | rfl | rfl | rfl | rfl | rfl | rfl | rfl | rfl | rfl | rfl | rfl | rfl | rfl | rfl | rfl | rfl <;> first | exact VIs.stab _ | exact VBytes.stab _ | exact VStr.stab _ | exact VParts.stab _ | exact VRow.stab _ | exact VRow8.stab _ _
                  · intro i o ho a' w' hf hb hd
                    rcases i with _ | _ | _ | _ | _ | _ | _ | _ | _ | _ | _ | _ | _ | _ | _ | _ | _ | _ | _ | _ | _ | _ | _ | _ | _ | _ | _ | _ | _ | i
                    · cases ho
                      refine grow_op rfl rfl rfl (grow_move rfl ?_)
                      exact (hf.same 13 (by decide)).trans rfl
                    · cases ho
                      refine grow_op rfl rfl rfl (grow_move rfl ?_)
                      exact (hf.same 14 (by decide)).trans rfl
                    · cases ho
                      refine grow_op rfl rfl rfl ?_
                      have e0 : a'.tmps.getD 145 undef = .int .i64 (x1 : Nat) := hd 0 (by kernel_rfl)
                      have e1 : a'.tmps.getD 146 undef = .int .i64 (x2 : Nat) := hd 1 (by kernel_rfl)
                      refine grow_value (v := .int .i64 (x1 + x2 : Nat)) (w' := w') ?_ rfl (Below.refl _ _)
                      simp only [execOp, Act.eval, e0, e1]
                      go_simp
                    · cases ho
                      refine grow_op rfl rfl rfl ?_
                      have e : a'.tmps.getD 147 undef = .int .i64 (x1 + x2 : Nat) := hd 2 (by kernel_rfl)
                      refine grow_call ent_top rfl ?_
                      simp only [List.map_toArray, List.map_cons, List.map_nil, Act.eval, e]
                      exact (top_any (x1 + x2) w' (by omega)).mono (fun e w'' ⟨h1, h2⟩ => ⟨_, h1, rfl, by rw [h2]; exact Below.refl _ _⟩)
                    · cases ho
                      refine grow_op rfl rfl rfl (grow_move rfl ?_)
                      exact (hf.same 9 (by decide)).trans rfl
                    · cases ho
                      refine grow_op rfl rfl rfl ?_
                      have e4 : a'.tmps.getD 149 undef = .slice (some ⟨gs, 0, none⟩) 8 cs := hd 4 (by kernel_rfl)
                      refine grow_value (v := .pointer (some ⟨gs, 0, none⟩)) (w' := w') ?_ rfl (Below.refl _ _)
                      simp only [execOp, Act.eval, e4]
                      go_simp
                    · cases ho
                      refine grow_op rfl rfl rfl ?_
                      have e5 : a'.tmps.getD 150 undef = .pointer (some ⟨gs, 0, none⟩) := hd 5 (by kernel_rfl)
                      have hc := cell_now hb c0
                      refine grow_value (v := .int .i64 (sa : Nat)) (w' := w') ?_ rfl (Below.refl _ _)
                      simp only [execOp, Act.eval, e5]
                      go_simp
                    · cases ho
                      refine grow_op rfl rfl rfl (grow_move rfl ?_)
                      exact (hf.same 9 (by decide)).trans rfl
                    · cases ho
                      refine grow_op rfl rfl rfl ?_
                      have e7 : a'.tmps.getD 152 undef = .slice (some ⟨gs, 0, none⟩) 8 cs := hd 7 (by kernel_rfl)
                      refine grow_value (v := .pointer (some ⟨gs, 1, none⟩)) (w' := w') ?_ rfl (Below.refl _ _)
                      simp only [execOp, Act.eval, e7]
                      go_simp
                    · cases ho
                      refine grow_op rfl rfl rfl ?_
                      have e8 : a'.tmps.getD 153 undef = .pointer (some ⟨gs, 1, none⟩) := hd 8 (by kernel_rfl)
                      have hc := cell_now hb c1
                      refine grow_value (v := .int .i64 (sb : Nat)) (w' := w') ?_ rfl (Below.refl _ _)
                      simp only [execOp, Act.eval, e8]
                      go_simp
                    · cases ho
                      refine grow_op rfl rfl rfl (grow_move rfl ?_)
                      exact (hf.same 9 (by decide)).trans rfl
                    · cases ho
                      refine grow_op rfl rfl rfl ?_
                      have e10 : a'.tmps.getD 155 undef = .slice (some ⟨gs, 0, none⟩) 8 cs := hd 10 (by kernel_rfl)
                      refine grow_value (v := .pointer (some ⟨gs, 2, none⟩)) (w' := w') ?_ rfl (Below.refl _ _)
                      simp only [execOp, Act.eval, e10]
                      go_simp
                    · cases ho
                      refine grow_op rfl rfl rfl ?_
                      have e11 : a'.tmps.getD 156 undef = .pointer (some ⟨gs, 2, none⟩) := hd 11 (by kernel_rfl)
                      have hc := cell_now hb c2
                      refine grow_value (v := .int .i64 (sc : Nat)) (w' := w') ?_ rfl (Below.refl _ _)
                      simp only [execOp, Act.eval, e11]
                      go_simp
                    · cases ho
                      refine grow_op rfl rfl rfl (grow_move rfl ?_)
                      exact (hf.same 9 (by decide)).trans rfl
                    · cases ho
                      refine grow_op rfl rfl rfl ?_
                      have e13 : a'.tmps.getD 158 undef = .slice (some ⟨gs, 0, none⟩) 8 cs := hd 13 (by kernel_rfl)
                      refine grow_value (v := .pointer (some ⟨gs, 3, none⟩)) (w' := w') ?_ rfl (Below.refl _ _)
                      simp only [execOp, Act.eval, e13]
                      go_simp
                    · cases ho
                      refine grow_op rfl rfl rfl ?_
                      have e14 : a'.tmps.getD 159 undef = .pointer (some ⟨gs, 3, none⟩) := hd 14 (by kernel_rfl)
                      have hc := cell_now hb c3
                      refine grow_value (v := .int .i64 (sd : Nat)) (w' := w') ?_ rfl (Below.refl _ _)
                      simp only [execOp, Act.eval, e14]
                      go_simp
                    · cases ho
                      refine grow_op rfl rfl rfl (grow_move rfl ?_)
                      exact (hf.same 13 (by decide)).trans rfl
                    · cases ho
                      refine grow_op rfl rfl rfl ?_
                      have e15 : a'.tmps.getD 160 undef = .int .i64 (sd : Nat) := hd 15 (by kernel_rfl)
                      have e16 : a'.tmps.getD 161 undef = .int .i64 (x1 : Nat) := hd 16 (by kernel_rfl)
                      refine grow_value (v := .int .i64 (sd + x1 : Nat)) (w' := w') ?_ rfl (Below.refl _ _)
                      simp only [execOp, Act.eval, e15, e16]
                      go_simp
                    · cases ho
                      refine grow_op rfl rfl rfl ?_
                      have e : a'.tmps.getD 162 undef = .int .i64 (sd + x1 : Nat) := hd 17 (by kernel_rfl)
                      refine grow_call ent_top rfl ?_
                      simp only [List.map_toArray, List.map_cons, List.map_nil, Act.eval, e]
                      exact (top_any (sd + x1) w' (by omega)).mono (fun e w'' ⟨h1, h2⟩ => ⟨_, h1, rfl, by rw [h2]; exact Below.refl _ _⟩)
                    · cases ho
                      refine grow_op rfl rfl rfl (grow_move rfl ?_)
                      exact (hf.same 9 (by decide)).trans rfl
                    · cases ho
                      refine grow_op rfl rfl rfl ?_
                      have e19 : a'.tmps.getD 164 undef = .slice (some ⟨gs, 0, none⟩) 8 cs := hd 19 (by kernel_rfl)
                      refine grow_value (v := .pointer (some ⟨gs, 4, none⟩)) (w' := w') ?_ rfl (Below.refl _ _)
                      simp only [execOp, Act.eval, e19]
                      go_simp
                    · cases ho
                      refine grow_op rfl rfl rfl ?_
                      have e20 : a'.tmps.getD 165 undef = .pointer (some ⟨gs, 4, none⟩) := hd 20 (by kernel_rfl)
                      have hc := cell_now hb c4
                      refine grow_value (v := .int .i64 (se : Nat)) (w' := w') ?_ rfl (Below.refl _ _)
                      simp only [execOp, Act.eval, e20]
                      go_simp
                    · cases ho
                      refine grow_op rfl rfl rfl (grow_move rfl ?_)
                      exact (hf.same 9 (by decide)).trans rfl
                    · cases ho
                      refine grow_op rfl rfl rfl ?_
                      have e22 : a'.tmps.getD 167 undef = .slice (some ⟨gs, 0, none⟩) 8 cs := hd 22 (by kernel_rfl)
                      refine grow_value (v := .pointer (some ⟨gs, 5, none⟩)) (w' := w') ?_ rfl (Below.refl _ _)
                      simp only [execOp, Act.eval, e22]
                      go_simp
                    · cases ho
                      refine grow_op rfl rfl rfl ?_
                      have e23 : a'.tmps.getD 168 undef = .pointer (some ⟨gs, 5, none⟩) := hd 23 (by kernel_rfl)
                      have hc := cell_now hb c5
                      refine grow_value (v := .int .i64 (sf : Nat)) (w' := w') ?_ rfl (Below.refl _ _)
                      simp only [execOp, Act.eval, e23]
                      go_simp
                    · cases ho
                      refine grow_op rfl rfl rfl (grow_move rfl ?_)
                      exact (hf.same 9 (by decide)).trans rfl
                    · cases ho
                      refine grow_op rfl rfl rfl ?_
                      have e25 : a'.tmps.getD 170 undef = .slice (some ⟨gs, 0, none⟩) 8 cs := hd 25 (by kernel_rfl)
                      refine grow_value (v := .pointer (some ⟨gs, 6, none⟩)) (w' := w') ?_ rfl (Below.refl _ _)
                      simp only [execOp, Act.eval, e25]
                      go_simp
                    · cases ho
                      refine grow_op rfl rfl rfl ?_
                      have e26 : a'.tmps.getD 171 undef = .pointer (some ⟨gs, 6, none⟩) := hd 26 (by kernel_rfl)
                      have hc := cell_now hb c6
                      refine grow_value (v := .int .i64 (sg : Nat)) (w' := w') ?_ rfl (Below.refl _ _)
                      simp only [execOp, Act.eval, e26]
                      go_simp
                    · cases ho
                      refine grow_op rfl rfl rfl ?_
                      exact grow_row8 (Nat.le_trans hghs hb.size) rfl (hd 3 (by kernel_rfl)) (hd 6 (by kernel_rfl)) (hd 9 (by kernel_rfl)) (hd 12 (by kernel_rfl)) (hd 18 (by kernel_rfl)) (hd 21 (by kernel_rfl)) (hd 24 (by kernel_rfl)) (hd 27 (by kernel_rfl))
                    · simp at ho
                  · intro a' w' hf hb hd

                    obtain ⟨gn, hv173, hgn, hrow⟩ : VRow8 _ _ (a'.tmps.getD 173 undef) w' := hd 28 (by decide)
                    obtain rfl := hf.eq [Value.int IntKind.i64 (x1 : Nat), Value.int IntKind.i64 (x2 : Nat), Value.int IntKind.i64 (x1 + x2 : Nat), Value.int IntKind.i64 ((x1 + x2) % 4294967296 : Nat), Value.slice (some ⟨gs, 0, none⟩) 8 cs, Value.pointer (some ⟨gs, 0, none⟩), Value.int IntKind.i64 (sa : Nat), Value.slice (some ⟨gs, 0, none⟩) 8 cs, Value.pointer (some ⟨gs, 1, none⟩), Value.int IntKind.i64 (sb : Nat), Value.slice (some ⟨gs, 0, none⟩) 8 cs, Value.pointer (some ⟨gs, 2, none⟩), Value.int IntKind.i64 (sc : Nat), Value.slice (some ⟨gs, 0, none⟩) 8 cs, Value.pointer (some ⟨gs, 3, none⟩), Value.int IntKind.i64 (sd : Nat), Value.int IntKind.i64 (x1 : Nat), Value.int IntKind.i64 (sd + x1 : Nat), Value.int IntKind.i64 ((sd + x1) % 4294967296 : Nat), Value.slice (some ⟨gs, 0, none⟩) 8 cs, Value.pointer (some ⟨gs, 4, none⟩), Value.int IntKind.i64 (se : Nat), Value.slice (some ⟨gs, 0, none⟩) 8 cs, Value.pointer (some ⟨gs, 5, none⟩), Value.int IntKind.i64 (sf : Nat), Value.slice (some ⟨gs, 0, none⟩) 8 cs, Value.pointer (some ⟨gs, 6, none⟩), Value.int IntKind.i64 (sg : Nat), Value.slice (some ⟨gn, 0, none⟩) 8 8] (fun j hj => match j, hj with
                      | 0, _ => hd 0 (by decide)
                      | 1, _ => hd 1 (by decide)
                      | 2, _ => hd 2 (by decide)
                      | 3, _ => hd 3 (by decide)
                      | 4, _ => hd 4 (by decide)
                      | 5, _ => hd 5 (by decide)
                      | 6, _ => hd 6 (by decide)
                      | 7, _ => hd 7 (by decide)
                      | 8, _ => hd 8 (by decide)
                      | 9, _ => hd 9 (by decide)
                      | 10, _ => hd 10 (by decide)
                      | 11, _ => hd 11 (by decide)
                      | 12, _ => hd 12 (by decide)
                      | 13, _ => hd 13 (by decide)
                      | 14, _ => hd 14 (by decide)
                      | 15, _ => hd 15 (by decide)
                      | 16, _ => hd 16 (by decide)
                      | 17, _ => hd 17 (by decide)
                      | 18, _ => hd 18 (by decide)
                      | 19, _ => hd 19 (by decide)
                      | 20, _ => hd 20 (by decide)
                      | 21, _ => hd 21 (by decide)
                      | 22, _ => hd 22 (by decide)
                      | 23, _ => hd 23 (by decide)
                      | 24, _ => hd 24 (by decide)
                      | 25, _ => hd 25 (by decide)
                      | 26, _ => hd 26 (by decide)
                      | 27, _ => hd 27 (by decide)
                      | 28, _ => hv173
                      | k + 29, h => absurd h (by simp)) (by decide) (by kernel_rfl) rfl
                    simp only [List.zip_cons_cons, List.zip_nil_right, List.foldl_cons, List.foldl_nil, Act.put, List.setIfInBounds_toArray, List.set_cons_succ, List.set_cons_zero]

                    have hbB := HBA2.out.trans (hb.mono HBA2.out.size)
                    have hrow2 : RowI w' gn (rnds ws st (t + 1)) := by
                      rw [HRN.out]
                      simp only [rnd]
                      rw [← HX1.out, ← HX2.out]
                      exact hrow
                    have HROW := Lib.hid hrow2
                    have HBB := Lib.hid hbB
                    clear hb hf hd hbB c0 c1 c2 c3 c4 c5 c6 f1 f2 HX1 HX2 hrow hrow2 hv173 HBA2
                    obtain ⟨wC, hwC⟩ : ∃ x, w' = x := ⟨_, rfl⟩
                    rw [hwC] at HROW HBB ⊢
                    clear hwC
                    have hti : IntKind.i64.wrap ((t : Int) + 1) = (t : Int) + 1 := IntWalk.i64_in _ (by omega)
                    go_wp2_with fail
                    go_roundg (gk - 1)
                    case measure => omega
                    case rel => exact ⟨t + 1, gn, 8, by go_num, rfl, by omega, by omega, HROW, HBB⟩
            · obtain rfl : t = 64 := by omega
              have hR8 := rnds_st8 ws hst8 64
              have hstep := HST.out
              have hrow := HS.out
              obtain ⟨R, hRe⟩ : ∃ R, rnds ws st 64 = R := ⟨_, rfl⟩
              rw [hRe] at hR8 hstep hrow
              rw [← mix_comm R st hR8 hst8] at hstep
              have HSTEP := Lib.hid hstep
              have HROW := Lib.hid hrow
              have hh3 := block_below HH2.out HB.out
              rw [← mix_zero st R] at hh3
              have HH3 := Lib.hid hh3
              clear hRe hstep hrow hh3 HST HS
              go_wp2_with fail
              obtain ⟨w3, hw3⟩ : ∃ w3, wr = w3 := ⟨_, rfl⟩
              go_loopg [15] 8 (fun k y wr => ∃ q : Nat, y = .int .i64 q ∧ q + k = 8 ∧ Hid (wr.heap[gh]? = some (.cells (ints (mix st R q)).toArray 3 (0, 0))) ∧ Hid (Keeps (fun k => k = gh) w3 wr))
              case atStart => exact ⟨0, rfl, rfl, HH3, Lib.hid (by rw [hw3]; exact Keeps.refl _ _)⟩
              case round =>
                rw [hw3] at HROW HB
                clear HH3 hw3
                obtain ⟨q, rfl, hq, HHq, HK3⟩ := hrel
                by_cases hq8 : q < 8
                · obtain ⟨x, y, m1, m2, hx, hy, m3⟩ := mix_step' R st hR8 hst8 q hq8
                  have ch : wr.cell? ⟨gh, q, none⟩ = some (.int .i64 (x : Nat)) := by
                    rw [Lib.cell_of_heap HHq.out]
                    simp [ints, m1]
                  have chf : wr.frozen? ⟨gh, q, none⟩ = false := Lib.frozen_of_heap HHq.out q
                  have cs' : wr.cell? ⟨gs, q, none⟩ = some (.int .i64 (y : Nat)) := by
                    have hlt : q < R.length := (List.getElem?_eq_some_iff.1 m2).1
                    have h1 := HROW.out q hlt
                    have e : R[q] = y := by rw [List.getElem?_eq_getElem hlt] at m2; simpa using m2
                    rw [e] at h1
                    have hb := World.block_lt_of_cell? _ _ h1
                    have h2 := World.cell?_of_block (w := w3) (w' := wr) (a := ⟨gs, q, none⟩) (HK3.out.block gs hb (by omega))
                    rw [h2]
                    exact h1
                  have hsum : IntKind.i64.wrap ((x : Int) + (y : Int)) = ((x + y : Nat) : Int) := wr_nat (x + y) (by omega)
                  obtain ⟨sm, hsm⟩ : ∃ z, x + y = z := ⟨_, rfl⟩
                  rw [hsm] at hsum m3
                  have HTOP := Lib.hid (fun w' : World => top_any sm w' (by omega))
                  obtain ⟨z, hz⟩ : ∃ z, sm % 4294967296 = z := ⟨_, rfl⟩
                  rw [hz] at HTOP m3
                  have HM3 := Lib.hid m3
                  have tn : ((q : Int)).toNat = q := by omega
                  have t0 : 0 ≤ (q : Int) := by omega
                  have t8 : (q : Int) < 8 := by omega
                  clear m1 m2 m3 hsm hz
                  go_upto_region 25 with (fail)
                  refine wp_region_still_tail 12 (by kernel_rfl) (by kernel_rfl) ?_
                  simp only [List.take_succ_cons, List.take_zero, List.drop_succ_cons, List.drop_zero]
                  repeat (refine wpStill_step (fun K hK => ?_); go_simp; (first | (with_reducible refine hK _ ?_) | (with_reducible refine ⟨_, HTOP.out _, hK _ ?_⟩)); clear hK K)
                  refine wpStill_nil ?_
                  change wpList _ _ _ _ _ wr.drew
                  have ch2 : wr.drew.cell? ⟨gh, q, none⟩ = some (.int .i64 (x : Nat)) := ch
                  have chf2 : wr.drew.frozen? ⟨gh, q, none⟩ = false := chf
                  have hhq2 : wr.drew.heap[gh]? = some (.cells (ints (mix st R q)).toArray 3 (0, 0)) := HHq.out
                  have hk3 := HK3.out.drew
                  have HHQ2 := Lib.hid hhq2
                  have HK32 := Lib.hid hk3
                  obtain ⟨wd, hwd⟩ : ∃ wd, wr.drew = wd := ⟨_, rfl⟩
                  rw [hwd] at ch2 chf2 HHQ2 HK32 ⊢
                  clear hwd ch chf cs' hhq2 hk3 hsum HHq HK3
                  go_wp2_with fail
                  go_roundg (gk - 1)
                  case measure => omega
                  case rel =>
                    refine ⟨q + 1, by go_num, by omega, Lib.hid ?_, Lib.hid (HK32.out.trans (Keeps.setCell (f := fun k => k = gh) _ _ _ rfl) (fun k _ h => h))⟩
                    rw [setCell_blockS HHQ2.out, HM3.out]
                    simp [ints, List.map_set]
                · obtain rfl : q = 8 := by omega
                  have hhj := HHq.out
                  rw [← HSTEP.out] at hhj
                  have hrj : Rd wr a5 PD := (HR2.out.below HB.out).keeps HK3.out (fun b off s e => by
                    have := HANE.out b off s e
                    omega)
                  have hkj : wr.heap[gy]? = some (.cells (ints kTab).toArray 3 (0, 0)) := by
                    have h1 := block_below HK2.out HB.out
                    rw [HK3.out.block gy (Array.getElem?_eq_some_iff.1 h1).1 (by omega)]
                    exact h1
                  have hbj : Below w.heap.size w wr := (HB2.out.trans (HB.out.mono HB2.out.size)).trans (HK3.out.below w.heap.size (Nat.le_trans HB2.out.size HB.out.size) (fun k hk e => by omega))
                  have HHJ := Lib.hid hhj
                  have HRJ := Lib.hid hrj
                  have HKJ := Lib.hid hkj
                  have HBJ := Lib.hid hbj
                  clear hhj hrj hkj hbj HHq HK3
                  have hi64 : IntKind.i64.wrap (64 * (j : Int) + 64) = 64 * (j : Int) + 64 := IntWalk.i64_in _ (by omega)
                  go_wp2_with fail
                  go_roundg (gO - 1)
                  case measure => omega
                  case rel => exact ⟨j + 1, by first | (congr 1; done) | (congr 1; omega), by omega, HRJ, HKJ, HHJ, HBJ⟩
        · obtain rfl : j = PD.length / 64 := by omega
          have hplm := HPL.out
          have hjI : ¬ 64 * ((PD.length / 64 : Nat) : Int) < (PD.length : Int) := by omega
          obtain ⟨J, hJ⟩ : ∃ x, PD.length / 64 = x := ⟨_, rfl⟩
          rw [hJ] at hjI hst
          have hfin : outB st = sha m := by rw [HSH.out, hJ, hst]
          have HFIN := Lib.hid hfin
          have h8l : st.length = 8 := hst8.1
          clear hfin hst hplm
          go_wp2_with fail
          go_loopg [17, 16] 8 (fun k y x wr => ∃ q qo co : Nat, ∃ ao : Option Addr, y = .int .i64 q ∧ x = .slice ao qo co ∧ q + k = 8 ∧ Hid (Tl w.heap.size wr (.slice ao qo co) (outB (st.take q))) ∧ Hid (wr.heap[gh]? = some (.cells (ints st).toArray 3 (0, 0))) ∧ Hid (Below w.heap.size w wr))
          case atStart => exact ⟨0, 0, 0, none, rfl, rfl, rfl, Lib.hid (Tl.nil _ _), HH, HB⟩
          case round =>
            clear HH HB HR HK
            obtain ⟨q, qo, co, ao, rfl, rfl, hq, HT, HH, HB⟩ := hrel
            by_cases hq8 : q < 8
            · obtain ⟨x, hx⟩ : ∃ x, st[q]? = some x := ⟨_, List.getElem?_eq_getElem (by omega)⟩
              have hxl : x < 4294967296 := hst8.2 x (List.mem_of_getElem? hx)
              have hout : outB (st.take (q + 1)) = outB (st.take q) ++ be32 x := by
                unfold outB
                rw [List.take_add_one, hx]
                simp
              have cx : wr.cell? ⟨gh, q, none⟩ = some (.int .i64 (x : Nat)) := by
                rw [Lib.cell_of_heap HH.out]
                simp [ints, hx]
              obtain ⟨y0, hy0⟩ : ∃ y, UInt8.ofNat (x / 16777216) = y := ⟨_, rfl⟩
              obtain ⟨y1, hy1⟩ : ∃ y, UInt8.ofNat (x / 65536) = y := ⟨_, rfl⟩
              obtain ⟨y2, hy2⟩ : ∃ y, UInt8.ofNat (x / 256) = y := ⟨_, rfl⟩
              obtain ⟨y3, hy3⟩ : ∃ y, UInt8.ofNat x = y := ⟨_, rfl⟩
              have k0 : IntKind.u8.wrap ((x : Int) / 16777216) = ((y0.toNat : Nat) : Int) := by rw [← hy0]; exact wrap_byte x 16777216
              have k1 : IntKind.u8.wrap ((x : Int) / 65536 % 256) = ((y1.toNat : Nat) : Int) := by rw [← hy1]; exact wrap_byteN x 65536
              have k2 : IntKind.u8.wrap ((x : Int) / 256 % 256) = ((y2.toNat : Nat) : Int) := by rw [← hy2]; exact wrap_byteN x 256
              have k3 : IntKind.u8.wrap ((x : Int) % 256) = ((y3.toNat : Nat) : Int) := by rw [← hy3]; exact wrap_byteN1 x
              have d1 : wrap64 ((x : Int) / 16777216) = (x : Int) / 16777216 := wrap64_in _ (by omega) (by omega)
              have d2 : wrap64 ((x : Int) / 65536) = (x : Int) / 65536 := wrap64_in _ (by omega) (by omega)
              have d3 : wrap64 ((x : Int) / 256) = (x : Int) / 256 := wrap64_in _ (by omega) (by omega)
              have e1 : IntKind.i64.wrap ((x : Int) / 16777216) = (x : Int) / 16777216 := IntWalk.i64_in _ (by omega)
              have e2 : IntKind.i64.wrap ((x : Int) / 65536) = (x : Int) / 65536 := IntWalk.i64_in _ (by omega)
              have e3 : IntKind.i64.wrap ((x : Int) / 256) = (x : Int) / 256 := IntWalk.i64_in _ (by omega)
              have u1 : ((x : Int) / 65536).tmod 256 = (x : Int) / 65536 % 256 := Int.tmod_eq_emod_of_nonneg (by omega)
              have u2 : ((x : Int) / 256).tmod 256 = (x : Int) / 256 % 256 := Int.tmod_eq_emod_of_nonneg (by omega)
              have u3 : ((x : Int)).tmod 256 = (x : Int) % 256 := Int.tmod_eq_emod_of_nonneg (by omega)
              have hbe : be32 x = [y0, y1, y2, y3] := by unfold be32; rw [hy0, hy1, hy2, hy3]
              rw [hbe] at hout
              have HOUT := Lib.hid hout
              have tn : ((q : Int)).toNat = q := by omega
              have t0 : 0 ≤ (q : Int) := by omega
              have t8 : (q : Int) < 8 := by omega
              have hol : (outB (st.take q)).length ≤ 32 := by rw [outB_len, List.length_take]; omega
              have HOL := Lib.hid hol
              clear hy0 hy1 hy2 hy3 hbe hout hx hol
              go_upto_region 30 with (fail)
              refine wp_region_grow_tail 28 (by kernel_rfl) (by kernel_rfl) (by decide) (by kernel_rfl) [195, 196, 197, 198, 199, 200, 201, 202, 203, 204, 205, 206, 207, 208, 209, 210, 211, 212, 213, 214, 215, 216, 217, 218, 219, 220, 221, 222] rfl (by decide) (by kernel_rfl) (fun i => [VIs (.slice ao qo co), VIs (.slice (some ⟨gh, 0, none⟩) 8 8), VIs (.int .i64 (q : Nat)), VIs (.pointer (some ⟨gh, q, none⟩)), VIs (.int .i64 (x : Nat)), VIs (.int .i64 ((x : Int) / 16777216)), VIs (.int .u8 (y0.toNat : Nat)), VIs (.slice (some ⟨gh, 0, none⟩) 8 8), VIs (.int .i64 (q : Nat)), VIs (.pointer (some ⟨gh, q, none⟩)), VIs (.int .i64 (x : Nat)), VIs (.int .i64 ((x : Int) / 65536)), VIs (.int .i64 ((x : Int) / 65536 % 256)), VIs (.int .u8 (y1.toNat : Nat)), VIs (.slice (some ⟨gh, 0, none⟩) 8 8), VIs (.int .i64 (q : Nat)), VIs (.pointer (some ⟨gh, q, none⟩)), VIs (.int .i64 (x : Nat)), VIs (.int .i64 ((x : Int) / 256)), VIs (.int .i64 ((x : Int) / 256 % 256)), VIs (.int .u8 (y2.toNat : Nat)), VIs (.slice (some ⟨gh, 0, none⟩) 8 8), VIs (.int .i64 (q : Nat)), VIs (.pointer (some ⟨gh, q, none⟩)), VIs (.int .i64 (x : Nat)), VIs (.int .i64 ((x : Int) % 256)), VIs (.int .u8 (y3.toNat : Nat)), VBytes [y0, y1, y2, y3]].getD i fun _ _ => True) (stab_list _ ?_) ?_ ?_
              · intro V hV
                simp only [List.mem_cons, List.mem_nil_iff, or_false] at hV
                rcases hV with rfl | rfl | rfl | rfl | rfl | rfl | rfl | rfl | rfl | rfl | rfl | rfl | rfl | rfl | rfl | rfl | rfl | rfl | rfl | rfl | rfl | rfl | rfl | rfl | rfl | rfl | rfl | rfl <;> first | exact VIs.stab _ | exact VBytes.stab _ | exact VStr.stab _ | exact VParts.stab _ | exact VRow.stab _ | exact VRow8.stab _ _
              · intro i o ho a' w' hf hb hd
                rcases i with _ | _ | _ | _ | _ | _ | _ | _ | _ | _ | _ | _ | _ | _ | _ | _ | _ | _ | _ | _ | _ | _ | _ | _ | _ | _ | _ | _ | i
                · cases ho
                  refine grow_op rfl rfl rfl (grow_move rfl ?_)
                  exact (hf.same 16 (by decide)).trans rfl
                · cases ho
                  refine grow_op rfl rfl rfl (grow_move rfl ?_)
                  exact (hf.same 6 (by decide)).trans rfl
                · cases ho
                  refine grow_op rfl rfl rfl (grow_move rfl ?_)
                  exact (hf.same 17 (by decide)).trans rfl
                · cases ho
                  refine grow_op rfl rfl rfl ?_
                  have e1 : a'.tmps.getD 196 undef = .slice (some ⟨gh, 0, none⟩) 8 8 := hd 1 (by kernel_rfl)
                  have e2 : a'.tmps.getD 197 undef = .int .i64 (q : Nat) := hd 2 (by kernel_rfl)
                  refine grow_value (v := .pointer (some ⟨gh, q, none⟩)) (w' := w') ?_ rfl (Below.refl _ _)
                  simp only [execOp, Act.eval, e1, e2]
                  go_simp
                · cases ho
                  refine grow_op rfl rfl rfl ?_
                  have e3 : a'.tmps.getD 198 undef = .pointer (some ⟨gh, q, none⟩) := hd 3 (by kernel_rfl)
                  have hc := cell_now hb cx
                  refine grow_value (v := .int .i64 (x : Nat)) (w' := w') ?_ rfl (Below.refl _ _)
                  simp only [execOp, Act.eval, e3]
                  go_simp
                · cases ho
                  refine grow_op rfl rfl rfl ?_
                  have e4 : a'.tmps.getD 199 undef = .int .i64 (x : Nat) := hd 4 (by kernel_rfl)
                  refine grow_value (v := .int .i64 ((x : Int) / 16777216)) (w' := w') ?_ rfl (Below.refl _ _)
                  simp only [execOp, Act.eval, e4]
                  go_simp
                · cases ho
                  refine grow_op rfl rfl rfl ?_
                  have e5 : a'.tmps.getD 200 undef = .int .i64 ((x : Int) / 16777216) := hd 5 (by kernel_rfl)
                  refine grow_value (v := .int .u8 (y0.toNat : Nat)) (w' := w') ?_ rfl (Below.refl _ _)
                  simp only [execOp, Act.eval, e5]
                  go_simp
                · cases ho
                  refine grow_op rfl rfl rfl (grow_move rfl ?_)
                  exact (hf.same 6 (by decide)).trans rfl
                · cases ho
                  refine grow_op rfl rfl rfl (grow_move rfl ?_)
                  exact (hf.same 17 (by decide)).trans rfl
                · cases ho
                  refine grow_op rfl rfl rfl ?_
                  have e7 : a'.tmps.getD 202 undef = .slice (some ⟨gh, 0, none⟩) 8 8 := hd 7 (by kernel_rfl)
                  have e8 : a'.tmps.getD 203 undef = .int .i64 (q : Nat) := hd 8 (by kernel_rfl)
                  refine grow_value (v := .pointer (some ⟨gh, q, none⟩)) (w' := w') ?_ rfl (Below.refl _ _)
                  simp only [execOp, Act.eval, e7, e8]
                  go_simp
                · cases ho
                  refine grow_op rfl rfl rfl ?_
                  have e9 : a'.tmps.getD 204 undef = .pointer (some ⟨gh, q, none⟩) := hd 9 (by kernel_rfl)
                  have hc := cell_now hb cx
                  refine grow_value (v := .int .i64 (x : Nat)) (w' := w') ?_ rfl (Below.refl _ _)
                  simp only [execOp, Act.eval, e9]
                  go_simp
                · cases ho
                  refine grow_op rfl rfl rfl ?_
                  have e10 : a'.tmps.getD 205 undef = .int .i64 (x : Nat) := hd 10 (by kernel_rfl)
                  refine grow_value (v := .int .i64 ((x : Int) / 65536)) (w' := w') ?_ rfl (Below.refl _ _)
                  simp only [execOp, Act.eval, e10]
                  go_simp
                · cases ho
                  refine grow_op rfl rfl rfl ?_
                  have e11 : a'.tmps.getD 206 undef = .int .i64 ((x : Int) / 65536) := hd 11 (by kernel_rfl)
                  refine grow_value (v := .int .i64 ((x : Int) / 65536 % 256)) (w' := w') ?_ rfl (Below.refl _ _)
                  simp only [execOp, Act.eval, e11]
                  go_simp
                · cases ho
                  refine grow_op rfl rfl rfl ?_
                  have e12 : a'.tmps.getD 207 undef = .int .i64 ((x : Int) / 65536 % 256) := hd 12 (by kernel_rfl)
                  refine grow_value (v := .int .u8 (y1.toNat : Nat)) (w' := w') ?_ rfl (Below.refl _ _)
                  simp only [execOp, Act.eval, e12]
                  go_simp
                · cases ho
                  refine grow_op rfl rfl rfl (grow_move rfl ?_)
                  exact (hf.same 6 (by decide)).trans rfl
                · cases ho
                  refine grow_op rfl rfl rfl (grow_move rfl ?_)
                  exact (hf.same 17 (by decide)).trans rfl
                · cases ho
                  refine grow_op rfl rfl rfl ?_
                  have e14 : a'.tmps.getD 209 undef = .slice (some ⟨gh, 0, none⟩) 8 8 := hd 14 (by kernel_rfl)
                  have e15 : a'.tmps.getD 210 undef = .int .i64 (q : Nat) := hd 15 (by kernel_rfl)
                  refine grow_value (v := .pointer (some ⟨gh, q, none⟩)) (w' := w') ?_ rfl (Below.refl _ _)
                  simp only [execOp, Act.eval, e14, e15]
                  go_simp
                · cases ho
                  refine grow_op rfl rfl rfl ?_
                  have e16 : a'.tmps.getD 211 undef = .pointer (some ⟨gh, q, none⟩) := hd 16 (by kernel_rfl)
                  have hc := cell_now hb cx
                  refine grow_value (v := .int .i64 (x : Nat)) (w' := w') ?_ rfl (Below.refl _ _)
                  simp only [execOp, Act.eval, e16]
                  go_simp
                · cases ho
                  refine grow_op rfl rfl rfl ?_
                  have e17 : a'.tmps.getD 212 undef = .int .i64 (x : Nat) := hd 17 (by kernel_rfl)
                  refine grow_value (v := .int .i64 ((x : Int) / 256)) (w' := w') ?_ rfl (Below.refl _ _)
                  simp only [execOp, Act.eval, e17]
                  go_simp
                · cases ho
                  refine grow_op rfl rfl rfl ?_
                  have e18 : a'.tmps.getD 213 undef = .int .i64 ((x : Int) / 256) := hd 18 (by kernel_rfl)
                  refine grow_value (v := .int .i64 ((x : Int) / 256 % 256)) (w' := w') ?_ rfl (Below.refl _ _)
                  simp only [execOp, Act.eval, e18]
                  go_simp
                · cases ho
                  refine grow_op rfl rfl rfl ?_
                  have e19 : a'.tmps.getD 214 undef = .int .i64 ((x : Int) / 256 % 256) := hd 19 (by kernel_rfl)
                  refine grow_value (v := .int .u8 (y2.toNat : Nat)) (w' := w') ?_ rfl (Below.refl _ _)
                  simp only [execOp, Act.eval, e19]
                  go_simp
                · cases ho
                  refine grow_op rfl rfl rfl (grow_move rfl ?_)
                  exact (hf.same 6 (by decide)).trans rfl
                · cases ho
                  refine grow_op rfl rfl rfl (grow_move rfl ?_)
                  exact (hf.same 17 (by decide)).trans rfl
                · cases ho
                  refine grow_op rfl rfl rfl ?_
                  have e21 : a'.tmps.getD 216 undef = .slice (some ⟨gh, 0, none⟩) 8 8 := hd 21 (by kernel_rfl)
                  have e22 : a'.tmps.getD 217 undef = .int .i64 (q : Nat) := hd 22 (by kernel_rfl)
                  refine grow_value (v := .pointer (some ⟨gh, q, none⟩)) (w' := w') ?_ rfl (Below.refl _ _)
                  simp only [execOp, Act.eval, e21, e22]
                  go_simp
                · cases ho
                  refine grow_op rfl rfl rfl ?_
                  have e23 : a'.tmps.getD 218 undef = .pointer (some ⟨gh, q, none⟩) := hd 23 (by kernel_rfl)
                  have hc := cell_now hb cx
                  refine grow_value (v := .int .i64 (x : Nat)) (w' := w') ?_ rfl (Below.refl _ _)
                  simp only [execOp, Act.eval, e23]
                  go_simp
                · cases ho
                  refine grow_op rfl rfl rfl ?_
                  have e24 : a'.tmps.getD 219 undef = .int .i64 (x : Nat) := hd 24 (by kernel_rfl)
                  refine grow_value (v := .int .i64 ((x : Int) % 256)) (w' := w') ?_ rfl (Below.refl _ _)
                  simp only [execOp, Act.eval, e24]
                  go_simp
                · cases ho
                  refine grow_op rfl rfl rfl ?_
                  have e25 : a'.tmps.getD 220 undef = .int .i64 ((x : Int) % 256) := hd 25 (by kernel_rfl)
                  refine grow_value (v := .int .u8 (y3.toNat : Nat)) (w' := w') ?_ rfl (Below.refl _ _)
                  simp only [execOp, Act.eval, e25]
                  go_simp
                · cases ho
                  refine grow_op rfl rfl rfl ?_
                  exact grow_bytes4 rfl (hd 6 (by kernel_rfl)) (hd 13 (by kernel_rfl)) (hd 20 (by kernel_rfl)) (hd 26 (by kernel_rfl))
                · simp at ho
              · intro a' w' hf hb hd
                obtain ⟨ab, cb, hv222, hrb⟩ : VBytes [y0, y1, y2, y3] (a'.tmps.getD 222 undef) w' := hd 27 (by decide)
                obtain rfl := hf.eq [Value.slice ao qo co, Value.slice (some ⟨gh, 0, none⟩) 8 8, Value.int IntKind.i64 (q : Nat), Value.pointer (some ⟨gh, q, none⟩), Value.int IntKind.i64 (x : Nat), Value.int IntKind.i64 ((x : Int) / 16777216), Value.int IntKind.u8 (y0.toNat : Nat), Value.slice (some ⟨gh, 0, none⟩) 8 8, Value.int IntKind.i64 (q : Nat), Value.pointer (some ⟨gh, q, none⟩), Value.int IntKind.i64 (x : Nat), Value.int IntKind.i64 ((x : Int) / 65536), Value.int IntKind.i64 ((x : Int) / 65536 % 256), Value.int IntKind.u8 (y1.toNat : Nat), Value.slice (some ⟨gh, 0, none⟩) 8 8, Value.int IntKind.i64 (q : Nat), Value.pointer (some ⟨gh, q, none⟩), Value.int IntKind.i64 (x : Nat), Value.int IntKind.i64 ((x : Int) / 256), Value.int IntKind.i64 ((x : Int) / 256 % 256), Value.int IntKind.u8 (y2.toNat : Nat), Value.slice (some ⟨gh, 0, none⟩) 8 8, Value.int IntKind.i64 (q : Nat), Value.pointer (some ⟨gh, q, none⟩), Value.int IntKind.i64 (x : Nat), Value.int IntKind.i64 ((x : Int) % 256), Value.int IntKind.u8 (y3.toNat : Nat), Value.slice ab 4 cb] (fun j hj => match j, hj with
                  | 0, _ => hd 0 (by decide)
                  | 1, _ => hd 1 (by decide)
                  | 2, _ => hd 2 (by decide)
                  | 3, _ => hd 3 (by decide)
                  | 4, _ => hd 4 (by decide)
                  | 5, _ => hd 5 (by decide)
                  | 6, _ => hd 6 (by decide)
                  | 7, _ => hd 7 (by decide)
                  | 8, _ => hd 8 (by decide)
                  | 9, _ => hd 9 (by decide)
                  | 10, _ => hd 10 (by decide)
                  | 11, _ => hd 11 (by decide)
                  | 12, _ => hd 12 (by decide)
                  | 13, _ => hd 13 (by decide)
                  | 14, _ => hd 14 (by decide)
                  | 15, _ => hd 15 (by decide)
                  | 16, _ => hd 16 (by decide)
                  | 17, _ => hd 17 (by decide)
                  | 18, _ => hd 18 (by decide)
                  | 19, _ => hd 19 (by decide)
                  | 20, _ => hd 20 (by decide)
                  | 21, _ => hd 21 (by decide)
                  | 22, _ => hd 22 (by decide)
                  | 23, _ => hd 23 (by decide)
                  | 24, _ => hd 24 (by decide)
                  | 25, _ => hd 25 (by decide)
                  | 26, _ => hd 26 (by decide)
                  | 27, _ => hv222
                  | k + 28, h => absurd h (by simp)) (by decide) (by kernel_rfl) rfl
                simp only [List.zip_cons_cons, List.zip_nil_right, List.foldl_cons, List.foldl_nil, Act.put, List.setIfInBounds_toArray, List.set_cons_succ, List.set_cons_zero]
                have htx := HT.out.keep (w' := w') fun k hk => hb.block k (HT.out.lt k hk).2
                have hhx := block_below HH.out hb
                have hbx := HB.out.trans (hb.mono HB.out.size)
                have HTx := Lib.hid htx
                have HHx := Lib.hid hhx
                have HBx := Lib.hid hbx
                have HRB := Lib.hid hrb
                clear htx hhx hbx hrb hd hf hb hv222 k0 k1 k2 k3 d1 d2 d3 cx e1 e2 e3 u1 u2 u3 HT HH HB
                refine wpList_append_tl rfl (.tmp 195) (.tmp 222) rfl w.heap.size (.slice ao qo co) (outB (st.take q)) rfl HTx.out ab [y0, y1, y2, y3] 4 cb rfl rfl HRB.out ?c1 ?c2 ?_
                case c1 => have := HOL.out; simp; omega
                case c2 => exact HBx.out.size
                intro a4 n4 c4 w4 hn4 ht4 hg4 how4
                have hB4 : Below w.heap.size w w4 := below_grow_tl HBx.out HTx.out hg4 HBx.out.size
                have hh4 : w4.heap[gh]? = some (.cells (ints st).toArray 3 (0, 0)) := by
                  rw [hg4.block gh (Array.getElem?_eq_some_iff.1 HHx.out).1 (fun e => by
                    obtain ⟨cur, hc⟩ := HTx.out.kind gh e.symm
                    rw [HHx.out] at hc
                    simp at hc)]
                  exact HHx.out
                have ht5 : Tl w.heap.size w4 (.slice a4 n4 c4) (outB (st.take (q + 1))) := by rw [HOUT.out]; exact ht4
                have HT5 := Lib.hid ht5
                have HB5 := Lib.hid hB4
                have HH5 := Lib.hid hh4
                clear hn4 hg4 how4 ht4 ht5 hB4 hh4
                go_wp2_with fail
                go_roundg (gk - 1)
                case measure => omega
                case rel => exact ⟨q + 1, n4, c4, a4, by go_num, rfl, by omega, HT5, HH5, HB5⟩
            · obtain rfl : q = 8 := by omega
              have hfin : outB (st.take 8) = sha m := by
                rw [← HFIN.out, List.take_of_length_le (by omega)]
              have HFI := Lib.hid hfin
              clear hfin
              go_wp2_with fail
              go_ret
              refine ⟨_, rfl, ?_, HB.out⟩
              rw [← HFI.out]
              exact HT.out
end Go.Proofs.YtfdijcdpmgkdkaaGreatDoor
set_option linter.unusedVariables false
namespace Go.Proofs.YtfdijcdpmgkdkaaGreatDoor
open Go.RowKit
end Go.Proofs.YtfdijcdpmgkdkaaGreatDoor
set_option linter.unusedVariables false
namespace Go.Proofs.YtfdijcdpmgkdkaaGreatDoor
open Go.RowKit

/-- The first j bytes are c, the others noughts. -/
def edge (n j : Nat) (c : UInt8) : List UInt8 := List.replicate j c ++ List.replicate (n - j) 0
theorem edge_made (n : Nat) (c : UInt8) : madeCells #[.int .u8 0] n = (Lib.byteCells (edge n 0 c)).toArray := by
  apply Array.ext
  · simp [madeCells, Lib.byteCells, edge]
  · intro i h1 h2
    simp [madeCells, Lib.byteCells, edge, Nat.mod_one]
end Go.Proofs.YtfdijcdpmgkdkaaGreatDoor
set_option linter.unusedVariables false
namespace Go.Proofs.YtfdijcdpmgkdkaaGreatDoor
open Go.RowKit

/-- Noughts behind a key. -/
def padK (k : List UInt8) : List UInt8 := k ++ List.replicate (64 - k.length) 0
/-- What a key stands for. -/
def keyF (k : List UInt8) : List UInt8 := if k.length > 64 then sha k else k
def padF (k : List UInt8) (x : UInt8) : List UInt8 := (padK (keyF k)).map (· ^^^ x)
theorem padK_len (k : List UInt8) (h : k.length ≤ 64) : (padK k).length = 64 := by simp [padK]; omega
theorem keyF_len (k : List UInt8) : (keyF k).length ≤ 64 := by
  unfold keyF
  split
  · rw [sha_len]; decide
  · omega
theorem padF_len (k : List UInt8) (x : UInt8) : (padF k x).length = 64 := by
  unfold padF
  rw [List.length_map, padK_len _ (keyF_len k)]
theorem splice_padN (n : Nat) (k : List UInt8) (h : k.length ≤ n) : splice (Lib.byteCells (edge n 0 0)) 0 (Lib.byteCells k) = Lib.byteCells (k ++ List.replicate (n - k.length) 0) := by
  simp [splice, edge, Lib.byteCells]
theorem splice_pad (k : List UInt8) (h : k.length ≤ 64) : splice (Lib.byteCells (edge 64 0 0)) 0 (Lib.byteCells k) = Lib.byteCells (padK k) := splice_padN 64 k h
/-- The first j bytes are xored. -/
def xorN (l : List UInt8) (x : UInt8) (j : Nat) : List UInt8 := (l.take j).map (· ^^^ x) ++ l.drop j
theorem xorN_zero (l : List UInt8) (x : UInt8) : xorN l x 0 = l := by simp [xorN]
theorem xorN_all (l : List UInt8) (x : UInt8) (h : l.length = 64) : xorN l x 64 = l.map (· ^^^ x) := by
  simp [xorN, List.take_of_length_le (by omega : l.length ≤ 64), List.drop_eq_nil_of_le (by omega : l.length ≤ 64)]
theorem xorN_at (l : List UInt8) (x : UInt8) (j : Nat) (h : j < l.length) : (xorN l x j)[j]? = some l[j] := by
  unfold xorN
  rw [List.getElem?_append_right (by simp; omega)]
  simp
  rw [Nat.min_eq_left (by omega)]
  simp [h]
theorem xorN_step (l : List UInt8) (x : UInt8) (j : Nat) (h : j < l.length) : (Lib.byteCells (xorN l x j)).toArray.setIfInBounds j (.int .u8 ((l[j] ^^^ x).toNat : Nat)) = (Lib.byteCells (xorN l x (j + 1))).toArray := by
  have e1 : (Lib.byteCells (xorN l x j)).set j (.int .u8 ((l[j] ^^^ x).toNat : Nat)) = Lib.byteCells ((xorN l x j).set j (l[j] ^^^ x)) := by simp [Lib.byteCells, List.map_set]
  have e2 : (xorN l x j).set j (l[j] ^^^ x) = xorN l x (j + 1) := by
    unfold xorN
    rw [List.drop_eq_getElem_cons h, List.set_append_right _ _ (by simp; omega), List.take_add_one, List.getElem?_eq_getElem h]
    simp only [List.length_map, List.length_take, Nat.min_eq_left (show j ≤ l.length by omega), Nat.sub_self, List.set_cons_zero, List.map_append, List.append_assoc, Option.toList_some, List.map_cons, List.map_nil, List.cons_append, List.nil_append]
  rw [List.setIfInBounds_toArray, e1, e2]

set_option maxRecDepth 100000 in
set_option maxHeartbeats 4000000 in
theorem pad_any (a : Option Addr) (c : Nat) (l : List UInt8) (n : Nat) (xb : UInt8) (X : Int) (w : World) (hr : Rd w a l) (hn : n = l.length) (hX : X = (xb.toNat : Nat)) (hlen : l.length ≤ 900000) :
    Calls Tryz.prog 107 #[.slice a n c, .int .u8 X] w fun e w' => ∃ g, e = .returned (.slice (some ⟨g, 0, none⟩) 64 64) ∧ Tl w.heap.size w' (.slice (some ⟨g, 0, none⟩) 64 64) (padF l xb) ∧ Below w.heap.size w w' := by
  subst hn hX
  have HR := Lib.hid hr
  clear hr
  obtain ⟨i0, hi, hz0, hz1, hz2⟩ := info_u8'
  have HI := Lib.hid (And.intro hi (And.intro hz0 (And.intro hz1 hz2)))
  clear hi hz0 hz1 hz2
  go_enter Tryz.func107, Tryz.ntmps107
  by_cases h64 : l.length ≤ 64
  · have h64I : (l.length : Int) ≤ 64 := by omega
    have HPF : Hid (padF l xb = (padK l).map (· ^^^ xb)) := Lib.hid (by unfold padF keyF; rw [if_neg (by omega)])
    have HK : Hid (Rd w a l) := HR
    have HKL : Hid (l.length = l.length) := Lib.hid rfl
    have HK64 : Hid (l.length ≤ 64) := Lib.hid h64
    have HW2 : Hid (Below w.heap.size w w) := Lib.hid (Below.refl _ _)
    go_upto_region 3 with (fail)
    apply wp_region_lit
    refine wpList_make_row w rfl (.const (.int .i64 64)) (.const (.int .i64 64)) 41 rfl 5 i0 (.int .u8 0) Tryz.underlying41 HI.out.1 HI.out.2.1 HI.out.2.2.1 rfl .i64 .i64 64 rfl rfl (by rw [HI.out.2.2.2]; decide) (by decide) ?_
    rw [edge_made 64 0]
    have hnew := heap_alloc_new w (.cells (Lib.byteCells (edge 64 0 0)).toArray 5)
    have hb3 : Below w.heap.size w (w.alloc (.cells (Lib.byteCells (edge 64 0 0)).toArray 5)) := (Below.refl _ _).alloc (Nat.le_refl _) _
    have hrk3 := HK.out.below hb3
    obtain ⟨w3, hw3⟩ : ∃ w3, w.alloc (.cells (Lib.byteCells (edge 64 0 0)).toArray 5) = w3 := ⟨_, rfl⟩
    rw [hw3] at hnew hb3 hrk3 ⊢
    obtain ⟨g, hg⟩ : ∃ g, w.heap.size = g := ⟨_, rfl⟩
    rw [hg] at hnew hb3 ⊢
    have HN := Lib.hid hnew
    have HB3 := Lib.hid hb3
    have HG := Lib.hid hg
    have HRK := Lib.hid hrk3
    clear hw3 hnew hb3 hg hrk3
    go_upto_region 4 with (fail)
    apply wp_region_lit
    iterate 2 (refine wpList_plain rfl (fun K hK => ?_); go_simp; (with_reducible refine hK _ _ ?_); clear hK K)
    refine wpList_copy_splice rfl (.tmp 14) (.tmp 15) 41 41 rfl 5 Tryz.underlying41 (by kernel_rfl) (some ⟨g, 0, none⟩) a 64 64 l.length c rfl rfl g 0 (Lib.byteCells (edge 64 0 0)) 5 HN.out (Lib.byteCells l) (by rw [byteCells_len, HKL.out]; exact (Nat.min_eq_left HK64.out).symm) (fun hpos => ⟨rfl, by
      rcases HRK.out with h | ⟨b, off, h, hc⟩
      · rw [h] at hpos; simp [Lib.byteCells] at hpos
      · refine ⟨_, h, fun j v hv => ?_⟩
        have hj : j < l.length := by have := (List.getElem?_eq_some_iff.1 hv).1; simpa [Lib.byteCells] using this
        simp [Lib.byteCells, hj] at hv
        rw [Addr.add_lit, hc j hj, ← hv]⟩) (by have := HK64.out; have := HKL.out; rw [byteCells_len, byteCells_len]; simp [edge]; omega) (byteCells_one l) g w HB3.out (Nat.le_refl _) ?_
    intro w4 hc4 hb4
    have hpl : splice (Lib.byteCells (edge 64 0 0)) 0 (Lib.byteCells l) = Lib.byteCells (padK l) := splice_pad l (by rw [HKL.out]; exact HK64.out)
    have hc4' := hc4.out
    rw [hpl] at hc4'
    have hplen := padK_len l (by rw [HKL.out]; exact HK64.out)
    obtain ⟨L, hL⟩ : ∃ L, padK l = L := ⟨_, rfl⟩
    rw [hL] at hc4' hplen
    have hx0 := xorN_zero L xb
    rw [← hx0] at hc4'
    have HC4 := Lib.hid hc4'
    have HB4 := Lib.hid hb4
    have HL := Lib.hid hL
    clear hc4 hb4 hpl hc4' hL hx0 HN HB3 HRK
    rw [byteCells_len]
    go_wp2_with fail
    go_loopg [19] 64 (fun k y wr => ∃ j : Nat, y = .int .i64 j ∧ j + k = 64 ∧ Hid (wr.heap[g]? = some (.cells (Lib.byteCells (xorN L xb j)).toArray 5 (0, 0))) ∧ Hid (Below g w wr))
    case atStart => exact ⟨0, rfl, rfl, HC4, HB4⟩
    case round =>
      clear HC4 HB4
      obtain ⟨j, rfl, hj, HC, HB⟩ := hrel
      by_cases hlt : j < 64
      · have hlj : j < L.length := by omega
        have hcx : wr.cell? ⟨g, j, none⟩ = some (.int .u8 ((L[j]).toNat : Nat)) := by
          rw [Lib.cell_of_heap HC.out]
          simp only [List.getElem?_toArray, Lib.byteCells, List.getElem?_map, xorN_at L xb j hlj]
          rfl
        have hfz : wr.frozen? ⟨g, j, none⟩ = false := Lib.frozen_of_heap HC.out j
        have hxo : bits .xor .u8 (((L[j]).toNat : Nat) : Int) ((xb.toNat : Nat) : Int) = (((L[j] ^^^ xb).toNat : Nat) : Int) := by
          rw [u8_xor_nat _ _ (L[j]).toNat_lt xb.toNat_lt, UInt8.toNat_xor]
        have hst := xorN_step L xb j hlj
        obtain ⟨x0, hx0⟩ : ∃ x, L[j] = x := ⟨_, rfl⟩
        rw [hx0] at hcx hxo hst
        obtain ⟨n1, hn1⟩ : ∃ x, x0.toNat = x := ⟨_, rfl⟩
        rw [hn1] at hcx hxo
        obtain ⟨x1, hx1⟩ : ∃ x, x0 ^^^ xb = x := ⟨_, rfl⟩
        rw [hx1] at hxo hst
        have HST := Lib.hid hst
        have j0 : 0 ≤ (j : Int) := by omega
        have jn : ((j : Int)).toNat = j := by omega
        have jlt : (j : Int) < 64 := by omega
        clear hst hx0 hn1 hx1
        go_wp2_with fail
        go_roundg (gk - 1)
        case measure => omega
        case rel =>
          refine ⟨j + 1, by go_num, by omega, Lib.hid ?_, Lib.hid (HB.out.setCell (by simp) _)⟩
          rw [setCell_blockS HC.out, HST.out]
      · obtain rfl : j = 64 := by omega
        have hc := HC.out
        rw [xorN_all L xb (by omega)] at hc
        have hbw : Below w.heap.size w wr := HW2.out.trans ((show Below w.heap.size w wr by rw [HG.out]; exact HB.out).mono HW2.out.size)
        have htl : Tl w.heap.size wr (.slice (some ⟨g, 0, none⟩) 64 64) (padF l xb) := by
          rw [HPF.out, HL.out]
          exact .inr ⟨g, 0, 64, _, by rw [List.length_map, hplen], by rw [← HG.out]; exact HW2.out.size, hc, by rw [List.length_map, hplen]; exact Nat.le_refl _, by simp [Lib.byteCells, hplen], by decide, fun i hi => by
            rw [Nat.zero_add]
            simp [Lib.byteCells] at hi ⊢
            simp [hi]⟩
        have HT := Lib.hid htl
        have HBW := Lib.hid hbw
        clear htl hbw hc
        go_wp2_with fail
        go_ret
        exact ⟨g, rfl, HT.out, HBW.out⟩
  · have h64I : (64 : Int) < (l.length : Int) := by omega
    have hkf : padF l xb = (padK (sha l)).map (· ^^^ xb) := by unfold padF keyF; rw [if_pos (by omega)]
    have HPF := Lib.hid hkf
    have hrs := RdS.one (c := c) HR.out 41
    have hsm := sum_any [l] (some ⟨w.heap.size, 0, none⟩) 1 1 _ hrs rfl (by simp) (by simp; omega)
    rw [List.flatten_singleton] at hsm
    have HSM := Lib.hid hsm
    clear hkf hrs hsm
    go_wp2_with fail
    refine HSM.out.mono ?_
    rintro e w2 ⟨v2, rfl, ht2, hb2⟩
    obtain ⟨ak, ck, rfl, hrk, _⟩ := ht2.shape
    have hb2' : Below w.heap.size w w2 := ((Below.refl _ _).alloc (Nat.le_refl _) (.cells #[.slice a l.length c] 41)).trans (hb2.mono (by simp))
    rw [sha_len]
    have HK := Lib.hid hrk
    have HKL : Hid ((sha l).length = 32) := Lib.hid (sha_len l)
    have HK64 : Hid (32 ≤ 64) := Lib.hid (by decide)
    have HW2 := Lib.hid hb2'
    clear ht2 hb2 hb2' hrk HSM
    go_upto_region 3 with (fail)
    apply wp_region_lit
    refine wpList_make_row w2 rfl (.const (.int .i64 64)) (.const (.int .i64 64)) 41 rfl 5 i0 (.int .u8 0) Tryz.underlying41 HI.out.1 HI.out.2.1 HI.out.2.2.1 rfl .i64 .i64 64 rfl rfl (by rw [HI.out.2.2.2]; decide) (by decide) ?_
    rw [edge_made 64 0]
    have hnew := heap_alloc_new w2 (.cells (Lib.byteCells (edge 64 0 0)).toArray 5)
    have hb3 : Below w2.heap.size w2 (w2.alloc (.cells (Lib.byteCells (edge 64 0 0)).toArray 5)) := (Below.refl _ _).alloc (Nat.le_refl _) _
    have hrk3 := HK.out.below hb3
    obtain ⟨w3, hw3⟩ : ∃ w3, w2.alloc (.cells (Lib.byteCells (edge 64 0 0)).toArray 5) = w3 := ⟨_, rfl⟩
    rw [hw3] at hnew hb3 hrk3 ⊢
    obtain ⟨g, hg⟩ : ∃ g, w2.heap.size = g := ⟨_, rfl⟩
    rw [hg] at hnew hb3 ⊢
    have HN := Lib.hid hnew
    have HB3 := Lib.hid hb3
    have HG := Lib.hid hg
    have HRK := Lib.hid hrk3
    clear hw3 hnew hb3 hg hrk3
    go_upto_region 4 with (fail)
    apply wp_region_lit
    iterate 2 (refine wpList_plain rfl (fun K hK => ?_); go_simp; (with_reducible refine hK _ _ ?_); clear hK K)
    refine wpList_copy_splice rfl (.tmp 14) (.tmp 15) 41 41 rfl 5 Tryz.underlying41 (by kernel_rfl) (some ⟨g, 0, none⟩) ak 64 64 32 ck rfl rfl g 0 (Lib.byteCells (edge 64 0 0)) 5 HN.out (Lib.byteCells (sha l)) (by rw [byteCells_len, HKL.out]; exact (Nat.min_eq_left HK64.out).symm) (fun hpos => ⟨rfl, by
      rcases HRK.out with h | ⟨b, off, h, hc⟩
      · rw [h] at hpos; simp [Lib.byteCells] at hpos
      · refine ⟨_, h, fun j v hv => ?_⟩
        have hj : j < (sha l).length := by have := (List.getElem?_eq_some_iff.1 hv).1; simpa [Lib.byteCells] using this
        simp [Lib.byteCells, hj] at hv
        rw [Addr.add_lit, hc j hj, ← hv]⟩) (by have := HK64.out; have := HKL.out; rw [byteCells_len, byteCells_len]; simp [edge]; omega) (byteCells_one (sha l)) g w2 HB3.out (Nat.le_refl _) ?_
    intro w4 hc4 hb4
    have hpl : splice (Lib.byteCells (edge 64 0 0)) 0 (Lib.byteCells (sha l)) = Lib.byteCells (padK (sha l)) := splice_pad (sha l) (by rw [HKL.out]; exact HK64.out)
    have hc4' := hc4.out
    rw [hpl] at hc4'
    have hplen := padK_len (sha l) (by rw [HKL.out]; exact HK64.out)
    obtain ⟨L, hL⟩ : ∃ L, padK (sha l) = L := ⟨_, rfl⟩
    rw [hL] at hc4' hplen
    have hx0 := xorN_zero L xb
    rw [← hx0] at hc4'
    have HC4 := Lib.hid hc4'
    have HB4 := Lib.hid hb4
    have HL := Lib.hid hL
    clear hc4 hb4 hpl hc4' hL hx0 HN HB3 HRK
    rw [byteCells_len]
    go_wp2_with fail
    go_loopg [19] 64 (fun k y wr => ∃ j : Nat, y = .int .i64 j ∧ j + k = 64 ∧ Hid (wr.heap[g]? = some (.cells (Lib.byteCells (xorN L xb j)).toArray 5 (0, 0))) ∧ Hid (Below g w2 wr))
    case atStart => exact ⟨0, rfl, rfl, HC4, HB4⟩
    case round =>
      clear HC4 HB4
      obtain ⟨j, rfl, hj, HC, HB⟩ := hrel
      by_cases hlt : j < 64
      · have hlj : j < L.length := by omega
        have hcx : wr.cell? ⟨g, j, none⟩ = some (.int .u8 ((L[j]).toNat : Nat)) := by
          rw [Lib.cell_of_heap HC.out]
          simp only [List.getElem?_toArray, Lib.byteCells, List.getElem?_map, xorN_at L xb j hlj]
          rfl
        have hfz : wr.frozen? ⟨g, j, none⟩ = false := Lib.frozen_of_heap HC.out j
        have hxo : bits .xor .u8 (((L[j]).toNat : Nat) : Int) ((xb.toNat : Nat) : Int) = (((L[j] ^^^ xb).toNat : Nat) : Int) := by
          rw [u8_xor_nat _ _ (L[j]).toNat_lt xb.toNat_lt, UInt8.toNat_xor]
        have hst := xorN_step L xb j hlj
        obtain ⟨x0, hx0⟩ : ∃ x, L[j] = x := ⟨_, rfl⟩
        rw [hx0] at hcx hxo hst
        obtain ⟨n1, hn1⟩ : ∃ x, x0.toNat = x := ⟨_, rfl⟩
        rw [hn1] at hcx hxo
        obtain ⟨x1, hx1⟩ : ∃ x, x0 ^^^ xb = x := ⟨_, rfl⟩
        rw [hx1] at hxo hst
        have HST := Lib.hid hst
        have j0 : 0 ≤ (j : Int) := by omega
        have jn : ((j : Int)).toNat = j := by omega
        have jlt : (j : Int) < 64 := by omega
        clear hst hx0 hn1 hx1
        go_wp2_with fail
        go_roundg (gk - 1)
        case measure => omega
        case rel =>
          refine ⟨j + 1, by go_num, by omega, Lib.hid ?_, Lib.hid (HB.out.setCell (by simp) _)⟩
          rw [setCell_blockS HC.out, HST.out]
      · obtain rfl : j = 64 := by omega
        have hc := HC.out
        rw [xorN_all L xb (by omega)] at hc
        have hbw : Below w.heap.size w wr := HW2.out.trans ((show Below w2.heap.size w2 wr by rw [HG.out]; exact HB.out).mono HW2.out.size)
        have htl : Tl w.heap.size wr (.slice (some ⟨g, 0, none⟩) 64 64) (padF l xb) := by
          rw [HPF.out, HL.out]
          exact .inr ⟨g, 0, 64, _, by rw [List.length_map, hplen], by rw [← HG.out]; exact HW2.out.size, hc, by rw [List.length_map, hplen]; exact Nat.le_refl _, by simp [Lib.byteCells, hplen], by decide, fun i hi => by
            rw [Nat.zero_add]
            simp [Lib.byteCells] at hi ⊢
            simp [hi]⟩
        have HT := Lib.hid htl
        have HBW := Lib.hid hbw
        clear htl hbw hc
        go_wp2_with fail
        go_ret
        exact ⟨g, rfl, HT.out, HBW.out⟩
end Go.Proofs.YtfdijcdpmgkdkaaGreatDoor
set_option linter.unusedVariables false
namespace Go.Proofs.YtfdijcdpmgkdkaaGreatDoor
open Go.RowKit

/-- The code of a message under a key. -/
def mac (k m : List UInt8) : List UInt8 := sha (padF k 0x5c ++ sha (padF k 0x36 ++ m))
theorem mac_len (k m : List UInt8) : (mac k m).length = 32 := sha_len _
/-- Two parts. -/
theorem RdS.two {w : World} {a b : Option Addr} {l m : List UInt8} {c d : Nat} (h : Rd w a l) (k : Rd w b m) (T : TypeId) : RdS (w.alloc (.cells #[.slice a l.length c, .slice b m.length d] T)) (some ⟨w.heap.size, 0, none⟩) [l, m] := by
  refine .inr ⟨w.heap.size, 0, rfl, fun i hi => ?_⟩
  match i, hi with
  | 0, _ => exact ⟨a, c, by rw [Lib.cell_of_heap (heap_alloc_new w _)]; rfl, h.alloc _⟩
  | 1, _ => exact ⟨b, d, by rw [Lib.cell_of_heap (heap_alloc_new w _)]; rfl, k.alloc _⟩
  | n + 2, h => exact absurd h (by simp)

set_option maxRecDepth 100000 in
set_option maxHeartbeats 4000000 in
theorem code_any (ak : Option Addr) (ck nk : Nat) (key : List UInt8) (ps : List (List UInt8)) (ap : Option Addr) (n c : Nat) (w : World) (hk : Rd w ak key) (hnk : nk = key.length) (hr : RdS w ap ps) (hn : n = ps.length) (hkl : key.length ≤ 800000) (hps : ps.length ≤ 1000000) (hlen : ps.flatten.length ≤ 800000) :
    Calls Tryz.prog 70 #[.slice ak nk ck, .slice ap n c] w fun e w' => ∃ v', e = .returned v' ∧ Tl w.heap.size w' v' (mac key ps.flatten) ∧ Below w.heap.size w w' := by
  subst hn hnk
  have HR := Lib.hid hr
  have HKY := Lib.hid hk
  clear hr hk
  go_enter Tryz.func70, Tryz.ntmps70
  go_wp2_with fail
  refine (new_any w).mono ?_
  rintro e w1 ⟨rfl, rfl⟩
  have hm := new_hm w.heap.size w (Nat.le_refl _)
  have hb1 : Below w.heap.size w (w.alloc (.cells (hCells iv (.slice none 0 0) 0) 184)) := (Below.refl _ _).alloc (Nat.le_refl _) _
  have hsz : w.heap.size < (w.alloc (.cells (hCells iv (.slice none 0 0) 0) 184)).heap.size := by simp
  obtain ⟨w1, hw1⟩ : ∃ w1, w.alloc (.cells (hCells iv (.slice none 0 0) 0) 184) = w1 := ⟨_, rfl⟩
  rw [hw1] at hm hb1 hsz ⊢
  have HM1 := Lib.hid hm
  have HB1 := Lib.hid hb1
  have HSZ := Lib.hid hsz
  clear hw1 hm hb1 hsz
  go_wp2_with fail
  refine (pad_any ak ck key key.length 0x36 54 w1 (HKY.out.below HB1.out) rfl rfl (by omega)).mono ?_
  rintro e w2 ⟨gp, rfl, htp, hbp⟩
  have hm2 := HAt.below HM1.out hbp
  have hb2 := HB1.out.trans (hbp.mono HB1.out.size)
  have hgp := htp.lt gp rfl
  have hrp : Rd w2 (some ⟨gp, 0, none⟩) (padF key 0x36) := by
    obtain ⟨a', c', h, hr, _⟩ := htp.shape
    simp at h
    rw [h.1]
    exact hr
  have hW := write_any w.heap.size w.heap.size (.slice none 0 0) [] (padF key 0x36) (some ⟨gp, 0, none⟩) 64 64 w2 hm2 hb2.size hrp (padF_len _ _).symm (fun hne b off s e => by
    simp at e
    have := HSZ.out
    omega) (by rw [padF_len]; simp)
  rw [List.nil_append] at hW
  have HW := Lib.hid hW
  have HB2 := Lib.hid hb2
  clear hW hb2 hgp hrp hm2 htp hbp HM1
  go_wp2_with fail
  refine HW.out.mono ?_
  rintro e w3 ⟨rfl, v3, hm3, hk3, _⟩
  have hb3 : Below w.heap.size w w3 := HB2.out.trans (hk3.below w.heap.size HB2.out.size (fun k hk h => by
    rcases h with h | h
    · omega
    · cases h))
  obtain ⟨P, hP⟩ : ∃ P, padF key 0x36 = P := ⟨_, rfl⟩
  have hPl : P.length = 64 := by rw [← hP]; exact padF_len _ _
  rw [hP] at hm3
  have HM3 := Lib.hid hm3
  have HB3 := Lib.hid hb3
  have HPP := Lib.hid hP
  have HPL := Lib.hid hPl
  clear hm3 hk3 hb3 HW hP hPl HB1 HB2
  go_wp2_with fail
  go_loopg [15] ps.length (fun k y wr => ∃ j : Nat, ∃ v : Value, y = .int .i64 j ∧ j + k = ps.length ∧ Hid (HM w.heap.size wr w.heap.size v (P ++ (ps.take j).flatten)) ∧ Hid (Below w.heap.size w wr))
  case atStart => exact ⟨0, v3, rfl, by omega, by simpa using HM3, HB3⟩
  case round =>
    clear HM3 HB3
    obtain ⟨j, v, rfl, hj, HX, HB⟩ := hrel
    by_cases hlt : j < ps.length
    · obtain ⟨b, off, hap, hc⟩ : ∃ b off, ap = some ⟨b, off, none⟩ ∧ ∀ i (h : i < ps.length), ∃ x c, w.cell? ⟨b, off + i, none⟩ = some (.slice x (ps[i]).length c) ∧ Rd w x ps[i] := by
        rcases HR.out with h | h
        · rw [h] at hlt; simp at hlt
        · exact h
      obtain ⟨x, cx, hcell, hrd⟩ := hc j hlt
      obtain ⟨l, hl⟩ : ∃ l, ps[j] = l := ⟨_, rfl⟩
      rw [hl] at hcell hrd
      have hcell' := cell_now HB.out hcell
      have htake : (ps.take (j + 1)).flatten = (ps.take j).flatten ++ l := by
        rw [List.take_add_one, List.getElem?_eq_getElem hlt, hl]
        simp
      have hfl := flatten_le ps (j + 1)
      rw [htake, List.length_append] at hfl
      have hpl := HPL.out
      have hw := write_any w.heap.size w.heap.size v (P ++ (ps.take j).flatten) l x l.length cx wr HX.out HB.out.size (hrd.below HB.out) rfl (fun hne b off s e => by
        subst e
        have := hrd.lt hne
        omega) (by rw [List.length_append]; omega)
      rw [List.append_assoc, ← htake] at hw
      have HW := Lib.hid hw
      have hjI : (j : Int) < (ps.length : Int) := by omega
      have hjn : ((j : Int)).toNat = j := by omega
      have hj0 : 0 ≤ (j : Int) := by omega
      subst hap
      clear hc hcell hrd hl hw htake hfl hpl
      go_wp2_with fail
      refine HW.out.mono ?_
      rintro e w2 ⟨rfl, v', hm2, hk2, _⟩
      have hb2 : Below w.heap.size w w2 := HB.out.trans (hk2.below w.heap.size HB.out.size (fun k hk h => by
        rcases h with h | h
        · omega
        · have := (HX.out.tl.lt k h).1
          omega))
      have HM2 := Lib.hid hm2
      have HB2 := Lib.hid hb2
      clear hm2 hk2 hb2 hcell'
      go_wp2_with fail
      go_roundg (gk - 1)
      case measure => omega
      case rel => exact ⟨j + 1, v', by go_num, by omega, HM2, HB2⟩
    · obtain rfl : j = ps.length := by omega
      have hm := HX.out
      rw [List.take_length] at hm
      have hpl := HPL.out
      obtain ⟨M, hM⟩ : ∃ M, ps.flatten = M := ⟨_, rfl⟩
      rw [hM] at hm hlen
      have HM2 := Lib.hid hm
      have HMM := Lib.hid hM
      clear hm hM HX
      go_wp2_with fail
      refine (pad_any ak ck key key.length 0x5c 92 wr (HKY.out.below HB.out) rfl rfl (by omega)).mono ?_
      rintro e w4 ⟨gp, rfl, htp, hbp⟩
      have HM4 := Lib.hid (HAt.below HM2.out hbp)
      have HB4 := Lib.hid (HB.out.trans (hbp.mono HB.out.size))
      have HTP := Lib.hid htp
      clear htp hbp HM2 HB
      go_wp2_with fail
      refine (hsum_any w.heap.size w.heap.size v (P ++ M) w4 HM4.out (by rw [List.length_append]; omega)).mono ?_
      rintro e w5 ⟨v5, rfl, ht5, hb5⟩
      have hr5 : Rd w5 (some ⟨gp, 0, none⟩) (padF key 0x5c) := by
        obtain ⟨a', c', h, hr, _⟩ := (HTP.out.keep (w' := w5) fun k hk => hb5.block k (HTP.out.lt k hk).2).shape
        simp at h
        rw [h.1]
        exact hr
      obtain ⟨a6, c6, rfl, hr6, _⟩ := ht5.shape
      have hb6 := HB4.out.trans (hb5.mono HB4.out.size)
      have hrs := RdS.two (c := 64) (d := c6) hr5 hr6 41
      rw [padF_len, sha_len] at hrs
      have hb7 := hb6.alloc hb6.size (.cells #[.slice (some ⟨gp, 0, none⟩) 64 64, .slice a6 32 c6] 41)
      have hsm := sum_any [padF key 0x5c, sha (P ++ M)] (some ⟨w5.heap.size, 0, none⟩) 2 2 _ hrs rfl (by simp) (by simp [padF_len, sha_len])
      rw [sha_len]
      have HSM := Lib.hid hsm
      have HB7 := Lib.hid hb7
      clear hr5 hr6 hb6 hrs hb7 hsm ht5 hb5 HTP HM4 HB4
      go_wp2_with fail
      refine HSM.out.mono ?_
      rintro e w8 ⟨v8, rfl, ht8, hb8⟩
      have hmac : sha [padF key 0x5c, sha (P ++ M)].flatten = mac key M := by
        unfold mac
        rw [HPP.out]
        simp
      rw [hmac] at ht8
      have hb9 := HB7.out.trans (hb8.mono HB7.out.size)
      have ht9 := ht8.mono HB7.out.size
      obtain ⟨a9, c9, rfl, _⟩ := ht9.shape
      have HT9 := Lib.hid ht9
      have HB9 := Lib.hid hb9
      rw [mac_len] at HT9 ⊢
      clear ht8 hb8 ht9 hb9 hmac
      go_wp2_with fail
      go_ret
      exact ⟨_, rfl, by rw [HMM.out]; exact HT9.out, HB9.out⟩
end Go.Proofs.YtfdijcdpmgkdkaaGreatDoor
