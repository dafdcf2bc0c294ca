/- The laws B64Lengths, B64Encodes, B64Decodes. -/
import Derived.Test.YtofoadpnfeamoaaB64c
import Derived.Test.YtofoadpnfeamoaaB64d
import Derived.Test.YtofoadpnfeamoaaB64f
set_option linter.unusedVariables false
namespace Go.Proofs.Ytofoadpnfeamoaa
open Go.RowKit

theorem int_bounds {x : Int} (h : (Lit.int .i64 x).wf = true) : -9223372036854775808 ≤ x ∧ x ≤ 9223372036854775807 := by
  simp [Lit.wf, IntKind.min, IntKind.max, IntKind.signed, IntKind.bits] at h
  omega

theorem Length_some (n : Int) (w : World) : Calls Try.prog 21 #[.int .i64 n] w fun e w' => ∃ k x : Int, e = .returned (.tuple #[.int .i64 k, .int .i64 x]) ∧ w' = w := by
  by_cases h : n < 0 ∨ 1073741824 < n
  · exact (Length_out n w h).mono fun e w' ⟨he, hw⟩ => ⟨_, _, he, hw⟩
  · exact (Length_in n w (by omega) (by omega)).mono fun e w' ⟨he, hw⟩ => ⟨_, _, he, hw⟩

/-- What 'three of numbers' reads as at a remainder. -/
theorem index3 (n c : Int) (h : (n % 3 = 0 ∧ c = 0) ∨ (n % 3 = 1 ∧ c = 2) ∨ (n % 3 = 2 ∧ c = 3)) (w : World) :
    (Instr.index 29 (.agg #[.int .i64 0, .int .i64 2, .int .i64 3]) (.int .i64 (n % 3))).run Try.prog w = .ok (.int .i64 c) w := by
  rcases h with ⟨h, rfl⟩ | ⟨h, rfl⟩ | ⟨h, rfl⟩ <;> rw [h] <;> kernel_rfl
theorem len3 (n : Int) (h : 0 ≤ n) : ∃ c, ((n % 3 = 0 ∧ c = 0) ∨ (n % 3 = 1 ∧ c = 2) ∨ (n % 3 = 2 ∧ c = 3)) ∧ 0 ≤ c ∧ c ≤ 3 ∧ ((n * 8 + 5) / 6 == n / 3 * 4 + c) = true := by
  rcases (by omega : n % 3 = 0 ∨ n % 3 = 1 ∨ n % 3 = 2) with h | h | h
  · exact ⟨0, by simp [h], by omega, by omega, by simp; omega⟩
  · exact ⟨2, by simp [h], by omega, by omega, by simp; omega⟩
  · exact ⟨3, by simp [h], by omega, by omega, by simp; omega⟩

set_option maxHeartbeats 1000000 in
theorem B64Lengths_any (a0 : Option Addr) (c0 : Nat) (l : List UInt8) (n : Int) (w : World) (h0 : Rd w a0 l) (hn : (Lit.int .i64 n).wf = true) :
    Calls Try.prog 4 #[.slice a0 l.length c0, .int .i64 n] w fun e w' => e = .returned (.bool true) ∧ Below w.heap.size w w' := by
  go_enter Try.func4, Try.ntmps4
  go_wp2_with fail
  refine (anchor04 w).mono ?_
  rintro e w1 ⟨rfl, hb1⟩
  have hn2 := int_bounds hn
  clear hn
  have hN := Lib.hid hn2
  clear hn2
  by_cases k0 : l.length ≤ 2000
  · have hk := enc_len l
    have HK := Lib.hid hk
    have heq : (((l.length : Int) * 8 + 5) / 6 != ((enc l).length : Int)) = false := by rw [hk]; simp
    clear hk
    go_wp2_with fail
    refine (Length_in _ _ (by omega) (by omega)).mono ?_
    rintro e w2 ⟨rfl, rfl⟩
    go_wp2_with fail
    by_cases n0 : n < 0
    · refine (Length_out n _ (.inl n0)).mono ?_
      rintro e w3 ⟨rfl, rfl⟩
      go_wp2_with fail
      refine (Encode_any a0 l c0 _ (h0.below hb1) (by omega)).mono ?_
      rintro e w4 ⟨rfl, hb3⟩
      go_wp2_with fail
      go_ret
      exact ⟨rfl, hb1.trans (hb3.mono hb1.size)⟩
    by_cases n1 : 1073741824 < n
    · refine (Length_out n _ (.inr n1)).mono ?_
      rintro e w3 ⟨rfl, rfl⟩
      go_wp2_with fail
      refine (Encode_any a0 l c0 _ (h0.below hb1) (by omega)).mono ?_
      rintro e w4 ⟨rfl, hb3⟩
      go_wp2_with fail
      go_ret
      exact ⟨rfl, hb1.trans (hb3.mono hb1.size)⟩
    · refine (Length_in n _ (by omega) (by omega)).mono ?_
      rintro e w3 ⟨rfl, rfl⟩
      go_wp2_with fail
      refine (Encode_any a0 l c0 _ (h0.below hb1) (by omega)).mono ?_
      rintro e w4 ⟨rfl, hb3⟩
      obtain ⟨c, hc, hc0, hc3, heq3⟩ := len3 n (by omega)
      have hix := index3 n c hc
      clear hc
      go_wp2_with fail
      go_ret
      exact ⟨rfl, hb1.trans (hb3.mono hb1.size)⟩
  · go_wp2_with fail
    refine (Length_some _ _).mono ?_
    rintro e w2 ⟨k, x, rfl, rfl⟩
    go_wp2_with fail
    by_cases n0 : n < 0
    · refine (Length_out n _ (.inl n0)).mono ?_
      rintro e w3 ⟨rfl, rfl⟩
      go_wp2_with fail
      go_ret
      exact ⟨rfl, hb1⟩
    by_cases n1 : 1073741824 < n
    · refine (Length_out n _ (.inr n1)).mono ?_
      rintro e w3 ⟨rfl, rfl⟩
      go_wp2_with fail
      go_ret
      exact ⟨rfl, hb1⟩
    · refine (Length_in n _ (by omega) (by omega)).mono ?_
      rintro e w3 ⟨rfl, rfl⟩
      obtain ⟨c, hc, hc0, hc3, heq3⟩ := len3 n (by omega)
      have hix := index3 n c hc
      clear hc
      go_wp2_with fail
      go_ret
      exact ⟨rfl, hb1⟩

set_option maxHeartbeats 1000000 in
theorem B64Encodes_any (a0 : Option Addr) (c0 : Nat) (l : List UInt8) (w : World) (h0 : Rd w a0 l) :
    Calls Try.prog 11 #[.slice a0 l.length c0] w fun e w' => e = .returned (.bool true) ∧ Below w.heap.size w w' := by
  go_enter Try.func11, Try.ntmps11
  go_wp2_with fail
  refine (anchor04 w).mono ?_
  rintro e w1 ⟨rfl, hb1⟩
  by_cases k0 : 2000 < l.length
  · go_wp2_with fail
    go_ret
    exact ⟨rfl, hb1⟩
  have hlen : (enc l).length ≤ 3000 := by rw [enc_len]; omega
  have hsz : (ByteArray.mk (enc l).toArray).size ≤ 1000000 := by simp [ByteArray.size]; omega
  have HD := Lib.hid (dec_enc l)
  go_wp2_with fail
  refine (Encode_any a0 l c0 w1 (h0.below hb1) (by omega)).mono ?_
  rintro e w2 ⟨rfl, hb2⟩
  have hB2 : Below w.heap.size w w2 := hb1.trans (hb2.mono hb1.size)
  go_wp2_with fail
  refine (Decode_any _ w2 hsz).mono ?_
  rintro e w3 ⟨hb3, ⟨hd, rfl⟩ | ⟨b, v, hd, hbl, rfl, hown⟩⟩
  · simp only at hd; rw [HD.out] at hd; cases hd
  · simp only at hd; rw [HD.out] at hd; cases hd
    have hB3 : Below w.heap.size w w3 := hB2.trans (hb3.mono hB2.size)
    go_wp2_with fail
    refine (refEncode_at a0 l _ c0 w3 (h0.below hB3) rfl (by omega)).mono ?_
    rintro e w4 ⟨rfl, hb4⟩
    have hB4 : Below w.heap.size w w4 := hB3.trans (hb4.mono hB3.size)
    have hown4 := hown.below hb4
    obtain ⟨a4, c4, rfl, hr4⟩ := hown4.shape
    have hconv := str_of_rd hr4 _ c4 rfl
    have hr0 := str_of_rd (h0.below hB4) _ c0 rfl
    go_wp2_with fail
    go_ret
    exact ⟨by simp, hB4⟩

set_option maxHeartbeats 1000000 in
theorem B64Decodes_any (s : ByteArray) (w : World) (hs : s.size ≤ maxLen) :
    Calls Try.prog 12 #[.string s] w fun e w' => e = .returned (.bool true) ∧ Below w.heap.size w w' := by
  unfold maxLen at hs
  go_enter Try.func12, Try.ntmps12
  go_wp2_with fail
  refine (anchor04 w).mono ?_
  rintro e w1 ⟨rfl, hb1⟩
  by_cases k0 : 2000 < s.size
  · go_wp2_with fail
    go_ret
    exact ⟨rfl, hb1⟩
  go_wp2_with fail
  refine (Decode_any s w1 (by omega)).mono ?_
  rintro e w2 ⟨hb2, ⟨hd, rfl⟩ | ⟨b, v, hd, hbl, rfl, hown⟩⟩
  · have hB2 : Below w.heap.size w w2 := hb1.trans (hb2.mono hb1.size)
    have HD := Lib.hid hd
    clear hd
    go_wp2_with fail
    refine (refDecode_any s w2 (by omega)).mono ?_
    rintro e w3 ⟨hb3, ⟨hd, rfl⟩ | ⟨b, v, hd, hbl, rfl, hown⟩⟩
    · have hB3 : Below w.heap.size w w3 := hB2.trans (hb3.mono hB2.size)
      clear hd
      go_wp2_with fail
      go_ret
      exact ⟨by simp, hB3⟩
    · rw [HD.out] at hd; cases hd
  · have hB2 : Below w.heap.size w w2 := hb1.trans (hb2.mono hb1.size)
    have HD := Lib.hid hd
    clear hd
    go_wp2_with fail
    refine (refDecode_any s w2 (by omega)).mono ?_
    rintro e w3 ⟨hb3, ⟨hd, rfl⟩ | ⟨b2, v2, hd, hbl2, rfl, hown2⟩⟩
    · rw [HD.out] at hd; cases hd
    · rw [HD.out] at hd; cases hd
      have hB3 : Below w.heap.size w w3 := hB2.trans (hb3.mono hB2.size)
      have hown3 := hown.below hb3
      obtain ⟨a3, c3, rfl, hr3⟩ := hown3.shape
      obtain ⟨a4, c4, rfl, hr4⟩ := hown2.shape
      have hconv := str_of_rd hr3 _ c3 rfl
      have hconv4 := str_of_rd hr4 _ c4 rfl
      have hsl : s.data.toList.length = s.size := by simp
      have HE := Lib.hid (enc_dec _ _ HD.out)
      have HSL := Lib.hid hsl
      clear hsl
      go_wp2_with fail
      refine (Encode_at a3 b _ c3 w3 hr3 rfl (by rw [HSL.out] at hbl; omega)).mono ?_
      rintro e w4 ⟨rfl, hb4⟩
      have hB4 : Below w.heap.size w w4 := hB3.trans (hb4.mono hB3.size)
      go_wp2_with fail
      go_ret
      refine ⟨?_, hB4⟩
      have e1 : (enc b == s.toList) = true := by rw [ByteArray.toList_eq, HE.out]; simp
      rw [← e1]
      rfl
end Go.Proofs.Ytofoadpnfeamoaa
