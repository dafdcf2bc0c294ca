/- Package sha: turning right, and the rounds' numbers. -/
import Derived.Test.YtbblnlddiafkhaaDoorProg
import Derived.Test.YtbblnlddiafkhaaDoorNum
import Derived.Test.YtbblnlddiafkhaaDoorShaP
import Derived.WalkKit
import Derived.WalkSpells
import Derived.WalkLawsBesides
import Derived.KernelRfl
import Derived.Lib.Hide
import Derived.Deep.QuietTactic
import Derived.BigQuiet
set_option linter.unusedVariables false
namespace Go.Proofs.YtbblnlddiafkhaaDoor
open Go.RowKit

/-- To the right by n: as the program reckons it. -/
def rotI (x : Int) (n : Nat) : Int := bits .or .u32 (IntKind.u32.wrap (x * 2 ^ (32 - n))) (x / 2 ^ n)

set_option maxHeartbeats 1000000 in
theorem right_2 (x : Int) (w : World) (h0 : 0 ≤ x) (h1 : x < 4294967296) :
    Calls Tryd.prog 86 #[.int .u32 x, .int .i64 2] w fun e w' => e = .returned (.int .u32 (rotI x 2)) ∧ w' = w := by
  have hs : bits .and .u64 (IntKind.u64.wrap (-2)) 31 = 30 := by kernel_rfl
  go_enter Tryd.func86, Tryd.ntmps86
  go_wp2
  go_ret
  exact ⟨rfl, rfl⟩

set_option maxHeartbeats 1000000 in
theorem right_6 (x : Int) (w : World) (h0 : 0 ≤ x) (h1 : x < 4294967296) :
    Calls Tryd.prog 86 #[.int .u32 x, .int .i64 6] w fun e w' => e = .returned (.int .u32 (rotI x 6)) ∧ w' = w := by
  have hs : bits .and .u64 (IntKind.u64.wrap (-6)) 31 = 26 := by kernel_rfl
  go_enter Tryd.func86, Tryd.ntmps86
  go_wp2
  go_ret
  exact ⟨rfl, rfl⟩

set_option maxHeartbeats 1000000 in
theorem right_7 (x : Int) (w : World) (h0 : 0 ≤ x) (h1 : x < 4294967296) :
    Calls Tryd.prog 86 #[.int .u32 x, .int .i64 7] w fun e w' => e = .returned (.int .u32 (rotI x 7)) ∧ w' = w := by
  have hs : bits .and .u64 (IntKind.u64.wrap (-7)) 31 = 25 := by kernel_rfl
  go_enter Tryd.func86, Tryd.ntmps86
  go_wp2
  go_ret
  exact ⟨rfl, rfl⟩

set_option maxHeartbeats 1000000 in
theorem right_11 (x : Int) (w : World) (h0 : 0 ≤ x) (h1 : x < 4294967296) :
    Calls Tryd.prog 86 #[.int .u32 x, .int .i64 11] w fun e w' => e = .returned (.int .u32 (rotI x 11)) ∧ w' = w := by
  have hs : bits .and .u64 (IntKind.u64.wrap (-11)) 31 = 21 := by kernel_rfl
  go_enter Tryd.func86, Tryd.ntmps86
  go_wp2
  go_ret
  exact ⟨rfl, rfl⟩

set_option maxHeartbeats 1000000 in
theorem right_13 (x : Int) (w : World) (h0 : 0 ≤ x) (h1 : x < 4294967296) :
    Calls Tryd.prog 86 #[.int .u32 x, .int .i64 13] w fun e w' => e = .returned (.int .u32 (rotI x 13)) ∧ w' = w := by
  have hs : bits .and .u64 (IntKind.u64.wrap (-13)) 31 = 19 := by kernel_rfl
  go_enter Tryd.func86, Tryd.ntmps86
  go_wp2
  go_ret
  exact ⟨rfl, rfl⟩

set_option maxHeartbeats 1000000 in
theorem right_17 (x : Int) (w : World) (h0 : 0 ≤ x) (h1 : x < 4294967296) :
    Calls Tryd.prog 86 #[.int .u32 x, .int .i64 17] w fun e w' => e = .returned (.int .u32 (rotI x 17)) ∧ w' = w := by
  have hs : bits .and .u64 (IntKind.u64.wrap (-17)) 31 = 15 := by kernel_rfl
  go_enter Tryd.func86, Tryd.ntmps86
  go_wp2
  go_ret
  exact ⟨rfl, rfl⟩

set_option maxHeartbeats 1000000 in
theorem right_18 (x : Int) (w : World) (h0 : 0 ≤ x) (h1 : x < 4294967296) :
    Calls Tryd.prog 86 #[.int .u32 x, .int .i64 18] w fun e w' => e = .returned (.int .u32 (rotI x 18)) ∧ w' = w := by
  have hs : bits .and .u64 (IntKind.u64.wrap (-18)) 31 = 14 := by kernel_rfl
  go_enter Tryd.func86, Tryd.ntmps86
  go_wp2
  go_ret
  exact ⟨rfl, rfl⟩

set_option maxHeartbeats 1000000 in
theorem right_19 (x : Int) (w : World) (h0 : 0 ≤ x) (h1 : x < 4294967296) :
    Calls Tryd.prog 86 #[.int .u32 x, .int .i64 19] w fun e w' => e = .returned (.int .u32 (rotI x 19)) ∧ w' = w := by
  have hs : bits .and .u64 (IntKind.u64.wrap (-19)) 31 = 13 := by kernel_rfl
  go_enter Tryd.func86, Tryd.ntmps86
  go_wp2
  go_ret
  exact ⟨rfl, rfl⟩

set_option maxHeartbeats 1000000 in
theorem right_22 (x : Int) (w : World) (h0 : 0 ≤ x) (h1 : x < 4294967296) :
    Calls Tryd.prog 86 #[.int .u32 x, .int .i64 22] w fun e w' => e = .returned (.int .u32 (rotI x 22)) ∧ w' = w := by
  have hs : bits .and .u64 (IntKind.u64.wrap (-22)) 31 = 10 := by kernel_rfl
  go_enter Tryd.func86, Tryd.ntmps86
  go_wp2
  go_ret
  exact ⟨rfl, rfl⟩

set_option maxHeartbeats 1000000 in
theorem right_25 (x : Int) (w : World) (h0 : 0 ≤ x) (h1 : x < 4294967296) :
    Calls Tryd.prog 86 #[.int .u32 x, .int .i64 25] w fun e w' => e = .returned (.int .u32 (rotI x 25)) ∧ w' = w := by
  have hs : bits .and .u64 (IntKind.u64.wrap (-25)) 31 = 7 := by kernel_rfl
  go_enter Tryd.func86, Tryd.ntmps86
  go_wp2
  go_ret
  exact ⟨rfl, rfl⟩


theorem rotI_eq (x n : Nat) (hx : x < 4294967296) (hn : n ≤ 32) : rotI x n = ((rot x n : Nat) : Int) := by
  unfold rotI
  have h2 : 2 ^ n * 2 ^ (32 - n) = 4294967296 := by rw [← Nat.pow_add, show n + (32 - n) = 32 by omega]
  have e1 : IntKind.u32.wrap ((x : Int) * 2 ^ (32 - n)) = ((x % 2 ^ n * 2 ^ (32 - n) : Nat) : Int) := by
    rw [IntKind.wrap_u32]
    have : ((x * 2 ^ (32 - n) : Nat) : Int) % 4294967296 = ((x * 2 ^ (32 - n) % 4294967296 : Nat) : Int) := by omega
    rw [show (x : Int) * 2 ^ (32 - n) = ((x * 2 ^ (32 - n) : Nat) : Int) by simp, this, ← h2, Nat.mul_mod_mul_right]
  have e2 : (x : Int) / 2 ^ n = ((x / 2 ^ n : Nat) : Int) := by simp
  have h1 : x % 2 ^ n < 2 ^ n := Nat.mod_lt _ (Nat.two_pow_pos _)
  have h3 : x / 2 ^ n < 2 ^ (32 - n) := by
    rw [Nat.div_lt_iff_lt_mul (Nat.two_pow_pos _), Nat.mul_comm, h2]; exact hx
  have h4 : (x % 2 ^ n + 1) * 2 ^ (32 - n) ≤ 4294967296 := by rw [← h2]; exact Nat.mul_le_mul_right _ h1
  have h5 : x % 2 ^ n * 2 ^ (32 - n) < 4294967296 := by
    rw [Nat.add_mul] at h4
    have := Nat.two_pow_pos (32 - n)
    omega
  rw [e1, e2, u32_or_nat _ _ h5 (by have := Nat.div_le_self x (2 ^ n); omega), or_add _ _ _ h3]
  unfold rot
  rw [Nat.add_comm]
theorem rt_2 (x : Nat) (w : World) (h : x < 4294967296) : Calls Tryd.prog 86 #[.int .u32 x, .int .i64 2] w fun e w' => e = .returned (.int .u32 (rot x 2 : Nat)) ∧ w' = w := by
  rw [← rotI_eq x 2 h (by decide)]
  exact right_2 x w (by omega) (by omega)
theorem rt_6 (x : Nat) (w : World) (h : x < 4294967296) : Calls Tryd.prog 86 #[.int .u32 x, .int .i64 6] w fun e w' => e = .returned (.int .u32 (rot x 6 : Nat)) ∧ w' = w := by
  rw [← rotI_eq x 6 h (by decide)]
  exact right_6 x w (by omega) (by omega)
theorem rt_7 (x : Nat) (w : World) (h : x < 4294967296) : Calls Tryd.prog 86 #[.int .u32 x, .int .i64 7] w fun e w' => e = .returned (.int .u32 (rot x 7 : Nat)) ∧ w' = w := by
  rw [← rotI_eq x 7 h (by decide)]
  exact right_7 x w (by omega) (by omega)
theorem rt_11 (x : Nat) (w : World) (h : x < 4294967296) : Calls Tryd.prog 86 #[.int .u32 x, .int .i64 11] w fun e w' => e = .returned (.int .u32 (rot x 11 : Nat)) ∧ w' = w := by
  rw [← rotI_eq x 11 h (by decide)]
  exact right_11 x w (by omega) (by omega)
theorem rt_13 (x : Nat) (w : World) (h : x < 4294967296) : Calls Tryd.prog 86 #[.int .u32 x, .int .i64 13] w fun e w' => e = .returned (.int .u32 (rot x 13 : Nat)) ∧ w' = w := by
  rw [← rotI_eq x 13 h (by decide)]
  exact right_13 x w (by omega) (by omega)
theorem rt_17 (x : Nat) (w : World) (h : x < 4294967296) : Calls Tryd.prog 86 #[.int .u32 x, .int .i64 17] w fun e w' => e = .returned (.int .u32 (rot x 17 : Nat)) ∧ w' = w := by
  rw [← rotI_eq x 17 h (by decide)]
  exact right_17 x w (by omega) (by omega)
theorem rt_18 (x : Nat) (w : World) (h : x < 4294967296) : Calls Tryd.prog 86 #[.int .u32 x, .int .i64 18] w fun e w' => e = .returned (.int .u32 (rot x 18 : Nat)) ∧ w' = w := by
  rw [← rotI_eq x 18 h (by decide)]
  exact right_18 x w (by omega) (by omega)
theorem rt_19 (x : Nat) (w : World) (h : x < 4294967296) : Calls Tryd.prog 86 #[.int .u32 x, .int .i64 19] w fun e w' => e = .returned (.int .u32 (rot x 19 : Nat)) ∧ w' = w := by
  rw [← rotI_eq x 19 h (by decide)]
  exact right_19 x w (by omega) (by omega)
theorem rt_22 (x : Nat) (w : World) (h : x < 4294967296) : Calls Tryd.prog 86 #[.int .u32 x, .int .i64 22] w fun e w' => e = .returned (.int .u32 (rot x 22 : Nat)) ∧ w' = w := by
  rw [← rotI_eq x 22 h (by decide)]
  exact right_22 x w (by omega) (by omega)
theorem rt_25 (x : Nat) (w : World) (h : x < 4294967296) : Calls Tryd.prog 86 #[.int .u32 x, .int .i64 25] w fun e w' => e = .returned (.int .u32 (rot x 25 : Nat)) ∧ w' = w := by
  rw [← rotI_eq x 25 h (by decide)]
  exact right_25 x w (by omega) (by omega)
end Go.Proofs.YtbblnlddiafkhaaDoor
