/- Plain facts on machine numbers: bits of int, wraps. -/
import Derived.WalkKit
import Derived.Lib.Hide
namespace Go.Proofs.YtbblnlddiafkhaaDoor
open Go.RowKit

theorem wraps_i64 (n : Int) (h0 : 0 ≤ n) (h1 : n < 2 ^ 63) : IntKind.i64.wrap n = n := by rw [IntKind.wrap_i64]; omega
theorem i64_or (a b : Nat) (ha : a < 2 ^ 63) (hb : b < 2 ^ 63) : bits .or .i64 (a : Int) (b : Int) = ((a ||| b : Nat) : Int) := (bits_nat .i64 63 (by decide) wraps_i64 a b ha hb).2
theorem i64_and (a b : Nat) (ha : a < 2 ^ 63) (hb : b < 2 ^ 63) : bits .and .i64 (a : Int) (b : Int) = ((a &&& b : Nat) : Int) := (bits_nat .i64 63 (by decide) wraps_i64 a b ha hb).1
theorem wrap64_in (n : Int) (h0 : -9223372036854775808 ≤ n) (h1 : n < 9223372036854775808) : wrap64 n = n := by unfold wrap64; omega
theorem or_add (r n k : Nat) (hn : n < 2 ^ k) : (r * 2 ^ k) ||| n = r * 2 ^ k + n := by
  have := Nat.two_pow_add_eq_or_of_lt hn r
  rw [Nat.mul_comm] at this
  exact this.symm
end Go.Proofs.YtbblnlddiafkhaaDoor
