/- Package klaxonref01: top, turn, word, keys, first. -/
import Derived.Test.YtofoadpnfeamoaaShaB
import Derived.Test.YtofoadpnfeamoaaShaQ
import Derived.Great.BuildSlice
set_option linter.unusedVariables false
namespace Go.Proofs.Ytofoadpnfeamoaa
open Go.RowKit

theorem top_any (x : Nat) (w : World) (h : x < 9223372036854775808) : Calls Try.prog 45 #[.int .i64 (x : Nat)] w fun e w' => e = .returned (.int .i64 (x % 4294967296 : Nat)) ∧ w' = w := by
  go_enter Try.func45, Try.ntmps45
  go_wp2
  go_ret
  exact ⟨by simp, rfl⟩

theorem turn_2 (x : Nat) (w : World) (h : x < 4294967296) : Calls Try.prog 46 #[.int .i64 (x : Nat), .int .i64 2] w fun e w' => e = .returned (.int .i64 (rot x 2 : Nat)) ∧ ∃ n, w' = w.drewN n := by
  have hx0 : 0 ≤ (x : Int) := by omega
  have e1 : IntKind.i64.wrap ((x : Int) % 4 * 1073741824) = (x : Int) % 4 * 1073741824 := IntWalk.i64_in _ (by omega)
  have e2 : IntKind.i64.wrap ((x : Int) / 4 + (x : Int) % 4 * 1073741824) = (x : Int) / 4 + (x : Int) % 4 * 1073741824 := IntWalk.i64_in _ (by omega)
  go_enter Try.func46, Try.ntmps46
  go_upto_region 2 with (fail)
  go_quiet (fail)
  go_wp2
  go_ret
  refine ⟨?_, _, rfl⟩
  have : (x : Int) / 4 + (x : Int) % 4 * 1073741824 = ((rot x 2 : Nat) : Int) := by simp [rot]
  rw [this]
  rfl
theorem turn_6 (x : Nat) (w : World) (h : x < 4294967296) : Calls Try.prog 46 #[.int .i64 (x : Nat), .int .i64 6] w fun e w' => e = .returned (.int .i64 (rot x 6 : Nat)) ∧ ∃ n, w' = w.drewN n := by
  have hx0 : 0 ≤ (x : Int) := by omega
  have e1 : IntKind.i64.wrap ((x : Int) % 64 * 67108864) = (x : Int) % 64 * 67108864 := IntWalk.i64_in _ (by omega)
  have e2 : IntKind.i64.wrap ((x : Int) / 64 + (x : Int) % 64 * 67108864) = (x : Int) / 64 + (x : Int) % 64 * 67108864 := IntWalk.i64_in _ (by omega)
  go_enter Try.func46, Try.ntmps46
  go_upto_region 2 with (fail)
  go_quiet (fail)
  go_wp2
  go_ret
  refine ⟨?_, _, rfl⟩
  have : (x : Int) / 64 + (x : Int) % 64 * 67108864 = ((rot x 6 : Nat) : Int) := by simp [rot]
  rw [this]
  rfl
theorem turn_7 (x : Nat) (w : World) (h : x < 4294967296) : Calls Try.prog 46 #[.int .i64 (x : Nat), .int .i64 7] w fun e w' => e = .returned (.int .i64 (rot x 7 : Nat)) ∧ ∃ n, w' = w.drewN n := by
  have hx0 : 0 ≤ (x : Int) := by omega
  have e1 : IntKind.i64.wrap ((x : Int) % 128 * 33554432) = (x : Int) % 128 * 33554432 := IntWalk.i64_in _ (by omega)
  have e2 : IntKind.i64.wrap ((x : Int) / 128 + (x : Int) % 128 * 33554432) = (x : Int) / 128 + (x : Int) % 128 * 33554432 := IntWalk.i64_in _ (by omega)
  go_enter Try.func46, Try.ntmps46
  go_upto_region 2 with (fail)
  go_quiet (fail)
  go_wp2
  go_ret
  refine ⟨?_, _, rfl⟩
  have : (x : Int) / 128 + (x : Int) % 128 * 33554432 = ((rot x 7 : Nat) : Int) := by simp [rot]
  rw [this]
  rfl
theorem turn_11 (x : Nat) (w : World) (h : x < 4294967296) : Calls Try.prog 46 #[.int .i64 (x : Nat), .int .i64 11] w fun e w' => e = .returned (.int .i64 (rot x 11 : Nat)) ∧ ∃ n, w' = w.drewN n := by
  have hx0 : 0 ≤ (x : Int) := by omega
  have e1 : IntKind.i64.wrap ((x : Int) % 2048 * 2097152) = (x : Int) % 2048 * 2097152 := IntWalk.i64_in _ (by omega)
  have e2 : IntKind.i64.wrap ((x : Int) / 2048 + (x : Int) % 2048 * 2097152) = (x : Int) / 2048 + (x : Int) % 2048 * 2097152 := IntWalk.i64_in _ (by omega)
  go_enter Try.func46, Try.ntmps46
  go_upto_region 2 with (fail)
  go_quiet (fail)
  go_wp2
  go_ret
  refine ⟨?_, _, rfl⟩
  have : (x : Int) / 2048 + (x : Int) % 2048 * 2097152 = ((rot x 11 : Nat) : Int) := by simp [rot]
  rw [this]
  rfl
theorem turn_13 (x : Nat) (w : World) (h : x < 4294967296) : Calls Try.prog 46 #[.int .i64 (x : Nat), .int .i64 13] w fun e w' => e = .returned (.int .i64 (rot x 13 : Nat)) ∧ ∃ n, w' = w.drewN n := by
  have hx0 : 0 ≤ (x : Int) := by omega
  have e1 : IntKind.i64.wrap ((x : Int) % 8192 * 524288) = (x : Int) % 8192 * 524288 := IntWalk.i64_in _ (by omega)
  have e2 : IntKind.i64.wrap ((x : Int) / 8192 + (x : Int) % 8192 * 524288) = (x : Int) / 8192 + (x : Int) % 8192 * 524288 := IntWalk.i64_in _ (by omega)
  go_enter Try.func46, Try.ntmps46
  go_upto_region 2 with (fail)
  go_quiet (fail)
  go_wp2
  go_ret
  refine ⟨?_, _, rfl⟩
  have : (x : Int) / 8192 + (x : Int) % 8192 * 524288 = ((rot x 13 : Nat) : Int) := by simp [rot]
  rw [this]
  rfl
theorem turn_17 (x : Nat) (w : World) (h : x < 4294967296) : Calls Try.prog 46 #[.int .i64 (x : Nat), .int .i64 17] w fun e w' => e = .returned (.int .i64 (rot x 17 : Nat)) ∧ ∃ n, w' = w.drewN n := by
  have hx0 : 0 ≤ (x : Int) := by omega
  have e1 : IntKind.i64.wrap ((x : Int) % 131072 * 32768) = (x : Int) % 131072 * 32768 := IntWalk.i64_in _ (by omega)
  have e2 : IntKind.i64.wrap ((x : Int) / 131072 + (x : Int) % 131072 * 32768) = (x : Int) / 131072 + (x : Int) % 131072 * 32768 := IntWalk.i64_in _ (by omega)
  go_enter Try.func46, Try.ntmps46
  go_upto_region 2 with (fail)
  go_quiet (fail)
  go_wp2
  go_ret
  refine ⟨?_, _, rfl⟩
  have : (x : Int) / 131072 + (x : Int) % 131072 * 32768 = ((rot x 17 : Nat) : Int) := by simp [rot]
  rw [this]
  rfl
theorem turn_18 (x : Nat) (w : World) (h : x < 4294967296) : Calls Try.prog 46 #[.int .i64 (x : Nat), .int .i64 18] w fun e w' => e = .returned (.int .i64 (rot x 18 : Nat)) ∧ ∃ n, w' = w.drewN n := by
  have hx0 : 0 ≤ (x : Int) := by omega
  have e1 : IntKind.i64.wrap ((x : Int) % 262144 * 16384) = (x : Int) % 262144 * 16384 := IntWalk.i64_in _ (by omega)
  have e2 : IntKind.i64.wrap ((x : Int) / 262144 + (x : Int) % 262144 * 16384) = (x : Int) / 262144 + (x : Int) % 262144 * 16384 := IntWalk.i64_in _ (by omega)
  go_enter Try.func46, Try.ntmps46
  go_upto_region 2 with (fail)
  go_quiet (fail)
  go_wp2
  go_ret
  refine ⟨?_, _, rfl⟩
  have : (x : Int) / 262144 + (x : Int) % 262144 * 16384 = ((rot x 18 : Nat) : Int) := by simp [rot]
  rw [this]
  rfl
theorem turn_19 (x : Nat) (w : World) (h : x < 4294967296) : Calls Try.prog 46 #[.int .i64 (x : Nat), .int .i64 19] w fun e w' => e = .returned (.int .i64 (rot x 19 : Nat)) ∧ ∃ n, w' = w.drewN n := by
  have hx0 : 0 ≤ (x : Int) := by omega
  have e1 : IntKind.i64.wrap ((x : Int) % 524288 * 8192) = (x : Int) % 524288 * 8192 := IntWalk.i64_in _ (by omega)
  have e2 : IntKind.i64.wrap ((x : Int) / 524288 + (x : Int) % 524288 * 8192) = (x : Int) / 524288 + (x : Int) % 524288 * 8192 := IntWalk.i64_in _ (by omega)
  go_enter Try.func46, Try.ntmps46
  go_upto_region 2 with (fail)
  go_quiet (fail)
  go_wp2
  go_ret
  refine ⟨?_, _, rfl⟩
  have : (x : Int) / 524288 + (x : Int) % 524288 * 8192 = ((rot x 19 : Nat) : Int) := by simp [rot]
  rw [this]
  rfl
theorem turn_22 (x : Nat) (w : World) (h : x < 4294967296) : Calls Try.prog 46 #[.int .i64 (x : Nat), .int .i64 22] w fun e w' => e = .returned (.int .i64 (rot x 22 : Nat)) ∧ ∃ n, w' = w.drewN n := by
  have hx0 : 0 ≤ (x : Int) := by omega
  have e1 : IntKind.i64.wrap ((x : Int) % 4194304 * 1024) = (x : Int) % 4194304 * 1024 := IntWalk.i64_in _ (by omega)
  have e2 : IntKind.i64.wrap ((x : Int) / 4194304 + (x : Int) % 4194304 * 1024) = (x : Int) / 4194304 + (x : Int) % 4194304 * 1024 := IntWalk.i64_in _ (by omega)
  go_enter Try.func46, Try.ntmps46
  go_upto_region 2 with (fail)
  go_quiet (fail)
  go_wp2
  go_ret
  refine ⟨?_, _, rfl⟩
  have : (x : Int) / 4194304 + (x : Int) % 4194304 * 1024 = ((rot x 22 : Nat) : Int) := by simp [rot]
  rw [this]
  rfl
theorem turn_25 (x : Nat) (w : World) (h : x < 4294967296) : Calls Try.prog 46 #[.int .i64 (x : Nat), .int .i64 25] w fun e w' => e = .returned (.int .i64 (rot x 25 : Nat)) ∧ ∃ n, w' = w.drewN n := by
  have hx0 : 0 ≤ (x : Int) := by omega
  have e1 : IntKind.i64.wrap ((x : Int) % 33554432 * 128) = (x : Int) % 33554432 * 128 := IntWalk.i64_in _ (by omega)
  have e2 : IntKind.i64.wrap ((x : Int) / 33554432 + (x : Int) % 33554432 * 128) = (x : Int) / 33554432 + (x : Int) % 33554432 * 128 := IntWalk.i64_in _ (by omega)
  go_enter Try.func46, Try.ntmps46
  go_upto_region 2 with (fail)
  go_quiet (fail)
  go_wp2
  go_ret
  refine ⟨?_, _, rfl⟩
  have : (x : Int) / 33554432 + (x : Int) % 33554432 * 128 = ((rot x 25 : Nat) : Int) := by simp [rot]
  rw [this]
  rfl

theorem wr_nat (n : Nat) (h : n < 9223372036854775808) : IntKind.i64.wrap (n : Int) = (n : Int) := IntWalk.i64_in _ (by omega)
set_option maxHeartbeats 1000000 in
theorem word_ref (a : Option Addr) (l : List UInt8) (n c t : Nat) (I : Int) (w : World) (hr : Rd w a l) (hn : n = l.length) (hI : I = 4 * (t : Int)) (hl : l.length ≤ 1000000) (ht : 4 * t + 3 < l.length) :
    Calls Try.prog 54 #[.slice a n c, .int .i64 I] w fun e w' => e = .returned (.int .i64 (word l t : Nat)) ∧ ∃ n, w' = w.drewN n := by
  subst hn hI
  obtain ⟨b, off, rfl, hc⟩ := hr.at (show 0 < l.length by omega)
  have hc0 := hc (4 * t) (by omega)
  have hc1 := hc (4 * t + 1) (by omega)
  have hc2 := hc (4 * t + 2) (by omega)
  have hc3 := hc (4 * t + 3) (by omega)
  have hb0 := (l[4 * t]'(by omega)).toNat_lt
  have hb1 := (l[4 * t + 1]'(by omega)).toNat_lt
  have hb2 := (l[4 * t + 2]'(by omega)).toNat_lt
  have hb3 := (l[4 * t + 3]'(by omega)).toNat_lt
  have hword : word l t = (l[4 * t]'(by omega)).toNat * 16777216 + (l[4 * t + 1]'(by omega)).toNat * 65536 + (l[4 * t + 2]'(by omega)).toNat * 256 + (l[4 * t + 3]'(by omega)).toNat := by
    unfold word
    rw [getD_at l (4 * t) (by omega), getD_at l (4 * t + 1) (by omega), getD_at l (4 * t + 2) (by omega), getD_at l (4 * t + 3) (by omega)]
  obtain ⟨x0, hx0⟩ : ∃ x, (l[4 * t]'(by omega)).toNat = x := ⟨_, rfl⟩
  obtain ⟨x1, hx1⟩ : ∃ x, (l[4 * t + 1]'(by omega)).toNat = x := ⟨_, rfl⟩
  obtain ⟨x2, hx2⟩ : ∃ x, (l[4 * t + 2]'(by omega)).toNat = x := ⟨_, rfl⟩
  obtain ⟨x3, hx3⟩ : ∃ x, (l[4 * t + 3]'(by omega)).toNat = x := ⟨_, rfl⟩
  rw [hx0] at hc0 hb0 hword
  rw [hx1] at hc1 hb1 hword
  rw [hx2] at hc2 hb2 hword
  rw [hx3] at hc3 hb3 hword
  have w0 : IntKind.i64.wrap (x0 : Int) = (x0 : Int) := wr_nat _ (by omega)
  have w1 : IntKind.i64.wrap (x1 : Int) = (x1 : Int) := wr_nat _ (by omega)
  have w2 : IntKind.i64.wrap (x2 : Int) = (x2 : Int) := wr_nat _ (by omega)
  have w3 : IntKind.i64.wrap (x3 : Int) = (x3 : Int) := wr_nat _ (by omega)
  have HW := Lib.hid hword
  clear hword hc hr hx0 hx1 hx2 hx3
  have i1 : IntKind.i64.wrap (4 * (t : Int) + 1) = 4 * (t : Int) + 1 := IntWalk.i64_in _ (by omega)
  have i2 : IntKind.i64.wrap (4 * (t : Int) + 2) = 4 * (t : Int) + 2 := IntWalk.i64_in _ (by omega)
  have i3 : IntKind.i64.wrap (4 * (t : Int) + 3) = 4 * (t : Int) + 3 := IntWalk.i64_in _ (by omega)
  have n0 : (4 * (t : Int)).toNat = 4 * t := by omega
  have n1 : (4 * (t : Int) + 1).toNat = 4 * t + 1 := by omega
  have n2 : (4 * (t : Int) + 2).toNat = 4 * t + 2 := by omega
  have n3 : (4 * (t : Int) + 3).toNat = 4 * t + 3 := by omega
  have p0 : 0 ≤ 4 * (t : Int) := by omega
  have p1 : 0 ≤ 4 * (t : Int) + 1 := by omega
  have p2 : 0 ≤ 4 * (t : Int) + 2 := by omega
  have p3 : 0 ≤ 4 * (t : Int) + 3 := by omega
  have q0 : 4 * (t : Int) < (l.length : Int) := by omega
  have q1 : 4 * (t : Int) + 1 < (l.length : Int) := by omega
  have q2 : 4 * (t : Int) + 2 < (l.length : Int) := by omega
  have q3 : 4 * (t : Int) + 3 < (l.length : Int) := by omega
  have m0 : IntKind.i64.wrap ((x0 : Int) * 16777216) = (x0 : Int) * 16777216 := wr_nat (x0 * 16777216) (by omega)
  have m1 : IntKind.i64.wrap ((x1 : Int) * 65536) = (x1 : Int) * 65536 := wr_nat (x1 * 65536) (by omega)
  have m2 : IntKind.i64.wrap ((x2 : Int) * 256) = (x2 : Int) * 256 := wr_nat (x2 * 256) (by omega)
  have s1 : IntKind.i64.wrap ((x0 : Int) * 16777216 + (x1 : Int) * 65536) = (x0 : Int) * 16777216 + (x1 : Int) * 65536 := wr_nat (x0 * 16777216 + x1 * 65536) (by omega)
  have s2 : IntKind.i64.wrap ((x0 : Int) * 16777216 + (x1 : Int) * 65536 + (x2 : Int) * 256) = (x0 : Int) * 16777216 + (x1 : Int) * 65536 + (x2 : Int) * 256 := wr_nat (x0 * 16777216 + x1 * 65536 + x2 * 256) (by omega)
  have s3 : IntKind.i64.wrap ((x0 : Int) * 16777216 + (x1 : Int) * 65536 + (x2 : Int) * 256 + (x3 : Int)) = (x0 : Int) * 16777216 + (x1 : Int) * 65536 + (x2 : Int) * 256 + (x3 : Int) := wr_nat (x0 * 16777216 + x1 * 65536 + x2 * 256 + x3) (by omega)
  go_enter Try.func54, Try.ntmps54
  go_upto_region 1 with (fail)
  go_quiet (fail)
  go_wp2
  go_ret
  refine ⟨?_, _, rfl⟩
  have : (x0 : Int) * 16777216 + (x1 : Int) * 65536 + (x2 : Int) * 256 + (x3 : Int) = ((word l t : Nat) : Int) := by rw [HW.out]; simp
  rw [this]
  rfl

/-- The cells of machine numbers. -/
theorem ints_toArray (ns : List Nat) (i : Nat) : (ints ns).toArray[i]? = (ns[i]?).map fun n : Nat => Value.int .i64 (n : Int) := by simp [ints]

theorem iv_ints : (ints iv).toArray = #[.int .i64 1779033703, .int .i64 3144134277, .int .i64 1013904242, .int .i64 2773480762, .int .i64 1359893119, .int .i64 2600822924, .int .i64 528734635, .int .i64 1541459225] := rfl
theorem first_any (w : World) : Calls Try.prog 43 #[] w fun e w' => e = .returned (.slice (some ⟨w.heap.size, 0, none⟩) 8 8) ∧ w' = w.alloc (.cells (ints iv).toArray 3) := by
  rw [iv_ints]
  go_enter Try.func43, Try.ntmps43
  go_wp2
  go_ret
  exact ⟨rfl, rfl⟩
set_option maxRecDepth 100000 in
set_option maxHeartbeats 4000000 in
theorem keys_any (w : World) : Calls Try.prog 42 #[] w fun e w' => e = .returned (.slice (some ⟨w.heap.size, 0, none⟩) 64 64) ∧ w' = w.alloc (.cells (ints kTab).toArray 3) := by
  have e : (ints kTab).toArray = ((kTab.map fun n : Nat => (n : Int)).map (Value.int .i64)).toArray := by simp only [ints, List.map_map]; rfl
  rw [e]
  clear e
  obtain ⟨zs, hzs⟩ : ∃ zs, ((kTab.map fun n : Nat => (n : Int)).map (Value.int .i64)).toArray = zs := ⟨_, rfl⟩
  rw [hzs]
  go_enter Try.func42, Try.ntmps42
  go_upto_region 1 with (fail)
  apply wp_region_lit
  refine wpList_buildFlat rfl 66 3 64 _ rfl .i64 (kTab.map fun n : Nat => (n : Int)) Try.underlying66 (by kernel_rfl) (by kernel_rfl) rfl (by decide) (by decide) (by kernel_rfl) ?_
  rw [hzs]
  clear hzs
  go_wp2
  go_ret
  exact ⟨rfl, rfl⟩
end Go.Proofs.Ytofoadpnfeamoaa
