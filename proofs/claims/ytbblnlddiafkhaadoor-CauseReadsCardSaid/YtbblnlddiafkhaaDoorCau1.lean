/- cause.Jti, cause.ReadJti. -/
import Derived.Test.YtbblnlddiafkhaaDoorStd
import Derived.Test.YtbblnlddiafkhaaDoorJti1
import Derived.Test.YtbblnlddiafkhaaDoorCut
import Derived.Test.YtbblnlddiafkhaaDoorApp
set_option linter.unusedVariables false
namespace Go.Proofs.YtbblnlddiafkhaaDoor
open Go.RowKit

theorem strv_len (l : List UInt8) : (⟨l.toArray⟩ : ByteArray).size = l.length := by simp [ByteArray.size]
def ownB (n : Int) : Bool := decide (1 ≤ n) && decide (n ≤ 1099511627776)
theorem ownB_iff (n : Int) : ownB n = true ↔ OwnN n := by simp [ownB, OwnN]
set_option maxRecDepth 100000 in
set_option maxHeartbeats 4000000 in
theorem number_walk21 (n : Int) (b : Bool) (w : World) (hb : ownB n = b) :
    Calls Tryd.prog 38 #[.int .i64 n] w fun e w' => e = .returned (.bool b) ∧ w' = w := by
  unfold ownB at hb
  by_cases h1 : 1 ≤ n
  · by_cases h2 : n ≤ 1099511627776
    · have e : b = true := by rw [← hb]; simp [h1, h2]
      subst e
      clear hb
      go_enter Tryd.func38, Tryd.ntmps38
      go_wp2_with fail
      go_ret
      exact ⟨rfl, rfl⟩
    · have e : b = false := by rw [← hb]; simp [h2]
      subst e
      clear hb
      have h3 : 1099511627776 < n := by omega
      go_enter Tryd.func38, Tryd.ntmps38
      go_wp2_with fail
      go_ret
      exact ⟨rfl, rfl⟩
  · have e : b = false := by rw [← hb]; simp [h1]
    subst e
    clear hb
    have h3 : n < 1 := by omega
    go_enter Tryd.func38, Tryd.ntmps38
    go_wp2_with fail
    go_ret
    exact ⟨rfl, rfl⟩
theorem jti_cat (a b : List UInt8) : (⟨#[101]⟩ : ByteArray) ++ (⟨a.toArray⟩ : ByteArray) ++ (⟨#[46]⟩ : ByteArray) ++ (⟨b.toArray⟩ : ByteArray) = ⟨(101 :: (a ++ 46 :: b)).toArray⟩ := by
  apply ByteArray.ext
  simp
set_option maxRecDepth 100000 in
set_option maxHeartbeats 4000000 in
theorem jti_ok (n m : Nat) (w : World) (hs : Std w) (h1 : 1 ≤ n) (h2 : n ≤ 1099511627776) (h3 : 1 ≤ m) (h4 : m ≤ 1099511627776) :
    Calls Tryd.prog 21 #[.int .i64 (n : Int), .int .i64 (m : Int)] w fun e w' => e = .returned (.tuple #[.string ⟨(jtiL n m).toArray⟩, .int .i64 0]) ∧ Below w.heap.size w w' := by
  have hl1 := dec_len n 13 (by decide) (by have : (10 : Nat) ^ 13 = 10000000000000 := by decide
                                           omega)
  have hl2 := dec_len m 13 (by decide) (by have : (10 : Nat) ^ 13 = 10000000000000 := by decide
                                           omega)
  have HS := Lib.hid hs
  have o1 : ownB (n : Int) = true := (ownB_iff _).2 ⟨by omega, by omega⟩
  have o2 : ownB (m : Int) = true := (ownB_iff _).2 ⟨by omega, by omega⟩
  have O1 := Lib.hid o1
  have O2 := Lib.hid o2
  clear hs o1 o2
  go_enter Tryd.func21, Tryd.ntmps21
  go_wp2_with fail
  refine (number_walk21 n true w O1.out).mono ?_
  rintro e w' ⟨rfl, rfl⟩
  go_wp2_with fail
  refine (number_walk21 m true w' O2.out).mono ?_
  rintro e w'' ⟨rfl, rfl⟩
  go_wp2_with fail
  refine (itoa_any n w'' h2 HS.out.pow).mono ?_
  rintro e w1 ⟨rfl, hb1⟩
  have HB1 := Lib.hid hb1
  have HS1 := Lib.hid (HS.out.below hb1)
  have HJ := Lib.hid (show jtiL n m = 101 :: (Lib.decDigits n ++ 46 :: Lib.decDigits m) from rfl)
  clear hb1
  generalize Lib.decDigits n = A at *
  go_wp2_with fail
  refine (itoa_any m w1 h4 HS1.out.pow).mono ?_
  rintro e w2 ⟨rfl, hb2⟩
  have HB2 := Lib.hid (HB1.out.trans (hb2.mono HB1.out.size))
  clear hb2
  generalize Lib.decDigits m = B at *
  go_wp2_with fail
  go_ret2
  refine ⟨?_, HB2.out⟩
  rw [HJ.out, ← jti_cat]
  rfl
set_option maxRecDepth 100000 in
set_option maxHeartbeats 4000000 in
theorem jti_no (n m : Int) (w : World) (h : ¬ (OwnN n ∧ OwnN m)) :
    Calls Tryd.prog 21 #[.int .i64 n, .int .i64 m] w fun e w' => e = .returned (.tuple #[.string ⟨#[]⟩, .int .i64 12]) ∧ w' = w := by
  cases o1 : ownB n with
  | false =>
    have O1 := Lib.hid o1
    clear o1 h
    go_enter Tryd.func21, Tryd.ntmps21
    go_wp2_with fail
    refine (number_walk21 n false w O1.out).mono ?_
    rintro e w' ⟨rfl, rfl⟩
    go_wp2_with fail
    go_ret2
    exact ⟨rfl, rfl⟩
  | true =>
    have o2 : ownB m = false := by
      cases o2 : ownB m with
      | false => rfl
      | true => exact absurd ⟨(ownB_iff _).1 o1, (ownB_iff _).1 o2⟩ h
    have O1 := Lib.hid o1
    have O2 := Lib.hid o2
    clear o1 o2 h
    go_enter Tryd.func21, Tryd.ntmps21
    go_wp2_with fail
    refine (number_walk21 n true w O1.out).mono ?_
    rintro e w' ⟨rfl, rfl⟩
    go_wp2_with fail
    refine (number_walk21 m false w' O2.out).mono ?_
    rintro e w' ⟨rfl, rfl⟩
    go_wp2_with fail
    go_ret2
    exact ⟨rfl, rfl⟩
/-- Names are unlike. -/
theorem dec_no46 (n : Nat) : (46 : UInt8) ∉ Lib.decDigits n := dec_no n 46 (.inl (by decide))
theorem jti_inj {n m n' m' : Nat} (h : jtiL n m = jtiL n' m') : n = n' ∧ m = m' := by
  unfold jtiL at h
  have h1 := (List.cons.inj h).2
  have e1 := cut_hit 46 (Lib.decDigits n) (Lib.decDigits m) (dec_no46 n)
  have e2 := cut_hit 46 (Lib.decDigits n') (Lib.decDigits m') (dec_no46 n')
  rw [h1, e2] at e1
  simp only [Prod.mk.injEq, and_true] at e1
  exact ⟨(dec_inj e1.1).symm, (dec_inj e1.2).symm⟩
set_option maxRecDepth 100000 in
set_option maxHeartbeats 4000000 in
theorem readjti_yes (n m : Nat) (w : World) (hs : Std w) (h1 : 1 ≤ n) (h2 : n ≤ 1099511627776) (h3 : 1 ≤ m) (h4 : m ≤ 1099511627776) :
    Calls Tryd.prog 10 #[.string ⟨(jtiL n m).toArray⟩] w fun e w' => e = .returned (.tuple #[.int .i64 (n : Int), .int .i64 (m : Int), .bool true]) ∧ Below w.heap.size w w' := by
  have hl1 := dec_len n 13 (by decide) (by have : (10 : Nat) ^ 13 = 10000000000000 := by decide
                                           omega)
  have hl2 := dec_len m 13 (by decide) (by have : (10 : Nat) ^ 13 = 10000000000000 := by decide
                                           omega)
  obtain ⟨mx, hm⟩ := hs.mx
  have HM := Lib.hid hm
  have HS := Lib.hid hs
  have HA := Lib.hid (atoiAll_dec n h2)
  have HB := Lib.hid (atoiAll_dec m h4)
  have HC := Lib.hid (cut_hit 46 (Lib.decDigits n) (Lib.decDigits m) (dec_no46 n))
  have HJO := Lib.hid (fun w hs => jti_ok n m w hs h1 h2 h3 h4)
  have HP : Hid (Lib.hasPrefix (jtiL n m) [101] = true ∧ Lib.trimPrefix (jtiL n m) [101] = Lib.decDigits n ++ 46 :: Lib.decDigits m) := by
    refine Lib.hid ⟨?_, ?_⟩
    · unfold jtiL Lib.hasPrefix; simp
    · unfold jtiL Lib.trimPrefix; simp [Lib.hasPrefix]
  clear hm hs
  generalize jtiL n m = J at *
  generalize Lib.decDigits n = A at *
  generalize Lib.decDigits m = B at *
  go_enter Tryd.func10, Tryd.ntmps10
  go_wp2_with fail
  refine (Tryd.strings_CutPrefix ⟨J.toArray⟩ ⟨#[101]⟩ w).mono ?_
  rintro e w' ⟨rfl, rfl⟩
  have p1 : Lib.hasPrefix (⟨J.toArray⟩ : ByteArray).data.toList (⟨#[101]⟩ : ByteArray).data.toList = true := HP.out.1
  have p2 : Lib.trimPrefix (⟨J.toArray⟩ : ByteArray).data.toList (⟨#[101]⟩ : ByteArray).data.toList = A ++ 46 :: B := HP.out.2
  rw [p1, p2]
  clear p1 p2 HP
  go_wp2_with fail
  refine (Tryd.strings_Cut ⟨(A ++ 46 :: B).toArray⟩ ⟨#[46]⟩ mx w' (by rw [strv_len]; simp only [List.length_append, List.length_cons]; omega) HM.out).mono ?_
  rintro e w1 ⟨rfl, q, rfl⟩
  have hc : Lib.cut (⟨(A ++ 46 :: B).toArray⟩ : ByteArray).data.toList (⟨#[46]⟩ : ByteArray).data.toList = (A, B, true) := HC.out
  rw [hc]
  clear hc HC
  have HB1 := Lib.hid (below_draws w' q)
  have HS1 := Lib.hid (HS.out.below HB1.out)
  generalize w'.drewN q = w1 at *
  go_wp2_with fail
  refine (atoi_any A w1 (by omega) HS1.out).mono ?_
  rintro e w2 ⟨hA, hb2⟩
  rcases hA with ⟨v, hv, rfl⟩ | ⟨hv, _⟩
  · obtain rfl : (n : Int) = v := by
      have := HA.out
      rw [hv] at this
      simpa using this.symm
    have HB2 := Lib.hid (HB1.out.trans (hb2.mono HB1.out.size))
    have HS2 := Lib.hid (HS1.out.below hb2)
    clear hv hb2
    go_wp2_with fail
    refine (atoi_any B w2 (by omega) HS2.out).mono ?_
    rintro e w3 ⟨hA, hb3⟩
    rcases hA with ⟨v, hv, rfl⟩ | ⟨hv, _⟩
    · obtain rfl : (m : Int) = v := by
        have := HB.out
        rw [hv] at this
        simpa using this.symm
      have HB3 := Lib.hid (HB2.out.trans (hb3.mono HB2.out.size))
      have HS3 := Lib.hid (HS2.out.below hb3)
      clear hv hb3
      go_wp2_with fail
      refine (HJO.out w3 HS3.out).mono ?_
      rintro e w4 ⟨rfl, hb4⟩
      have HB4 := Lib.hid (HB3.out.trans (hb4.mono HB3.out.size))
      clear hb4
      go_wp2_with fail
      go_ret3
      exact ⟨rfl, HB4.out⟩
    · exact absurd HB.out (hv _)
  · exact absurd HA.out (hv _)
end Go.Proofs.YtbblnlddiafkhaaDoor
