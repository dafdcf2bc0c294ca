/- cause.ReadJti of what is no name. -/
import Derived.Test.YtbblnlddiafkhaaDoorCau1
set_option linter.unusedVariables false
namespace Go.Proofs.YtbblnlddiafkhaaDoor
open Go.RowKit

theorem cut_len (s sep : List UInt8) : (Lib.cut s sep).1.length ≤ s.length ∧ (Lib.cut s sep).2.1.length ≤ s.length := by
  unfold Lib.cut
  split
  · simp only [List.length_take, List.length_drop]; omega
  · simp
theorem trim_len (s p : List UInt8) : (Lib.trimPrefix s p).length ≤ s.length := by
  unfold Lib.trimPrefix
  split <;> simp
/-- A value that an error is. -/
def ErrV (v : Value) (b : Bool) : Prop := (b = false ∧ v = .nilIface) ∨ (b = true ∧ ∃ tp p, v = .iface tp (.pointer (some p)))
theorem atoi_err (l : List UInt8) (w : World) (hl : l.length ≤ 100000) (hs : Std w) :
    Calls Tryd.prog 24 #[.string ⟨l.toArray⟩] w fun e w' => (∃ (v : Int) (x : Value) (b : Bool), e = .returned (.tuple #[.int .i64 v, x]) ∧ ErrV x b) ∧ Below w.heap.size w w' :=
  (atoi_any l w hl hs).mono fun e w' ⟨h, hb⟩ => ⟨by
    rcases h with ⟨v, _, rfl⟩ | ⟨_, v, tp, p, rfl⟩
    · exact ⟨v, _, false, rfl, .inl ⟨rfl, rfl⟩⟩
    · exact ⟨v, _, true, rfl, .inr ⟨rfl, tp, p, rfl⟩⟩, hb⟩
set_option maxRecDepth 100000 in
set_option maxHeartbeats 16000000 in
theorem readjti_no (s : List UInt8) (w : World) (hs : Std w) (hl : s.length ≤ 1000) (h : ∀ n m : Nat, OwnN n → OwnN m → s ≠ jtiL n m) :
    Calls Tryd.prog 10 #[.string ⟨s.toArray⟩] w fun e w' => e = .returned (.tuple #[.int .i64 0, .int .i64 0, .bool false]) ∧ Below w.heap.size w w' := by
  obtain ⟨mx, hm⟩ := hs.mx
  have HM := Lib.hid hm
  have HS := Lib.hid hs
  have HN := Lib.hid h
  clear hm hs h
  go_enter Tryd.func10, Tryd.ntmps10
  go_wp2_with fail
  refine (Tryd.strings_CutPrefix ⟨s.toArray⟩ ⟨#[101]⟩ w).mono ?_
  rintro e w' ⟨rfl, rfl⟩
  have ht : (Lib.trimPrefix (⟨s.toArray⟩ : ByteArray).data.toList (⟨#[101]⟩ : ByteArray).data.toList).length ≤ s.length := trim_len _ _
  generalize Lib.hasPrefix (⟨s.toArray⟩ : ByteArray).data.toList (⟨#[101]⟩ : ByteArray).data.toList = p1
  generalize Lib.trimPrefix (⟨s.toArray⟩ : ByteArray).data.toList (⟨#[101]⟩ : ByteArray).data.toList = T at *
  go_wp2_with fail
  refine (Tryd.strings_Cut ⟨T.toArray⟩ ⟨#[46]⟩ mx w' (by rw [strv_len]; omega) HM.out).mono ?_
  rintro e w1 ⟨rfl, q, rfl⟩
  have hc : (Lib.cut (⟨T.toArray⟩ : ByteArray).data.toList (⟨#[46]⟩ : ByteArray).data.toList).1.length ≤ T.length ∧ (Lib.cut (⟨T.toArray⟩ : ByteArray).data.toList (⟨#[46]⟩ : ByteArray).data.toList).2.1.length ≤ T.length := cut_len _ _
  generalize Lib.cut (⟨T.toArray⟩ : ByteArray).data.toList (⟨#[46]⟩ : ByteArray).data.toList = C at *
  obtain ⟨A, B, two⟩ := C
  obtain ⟨hc1, hc2⟩ := hc
  simp only at hc1 hc2
  have HB1 := Lib.hid (below_draws w' q)
  have HS1 := Lib.hid (HS.out.below HB1.out)
  generalize w'.drewN q = w1 at *
  go_wp2_with fail
  refine (atoi_err A w1 (by omega) HS1.out).mono ?_
  rintro e w2 ⟨⟨n, x, b1, rfl, hx⟩, hb2⟩
  have HB2 := Lib.hid (HB1.out.trans (hb2.mono HB1.out.size))
  have HS2 := Lib.hid (HS1.out.below hb2)
  clear hb2
  go_wp2_with fail
  refine (atoi_err B w2 (by omega) HS2.out).mono ?_
  rintro e w3 ⟨⟨m, y, b2, rfl, hy⟩, hb3⟩
  have HB3 := Lib.hid (HB2.out.trans (hb3.mono HB2.out.size))
  have HS3 := Lib.hid (HS2.out.below hb3)
  clear hb3
  go_wp2_with fail
  by_cases hown : OwnN n ∧ OwnN m
  · obtain ⟨N, rfl⟩ : ∃ k : Nat, n = (k : Int) := ⟨n.toNat, by have := hown.1.1; omega⟩
    obtain ⟨M, rfl⟩ : ∃ k : Nat, m = (k : Int) := ⟨m.toNat, by have := hown.2.1; omega⟩
    have hne := HN.out N M hown.1 hown.2
    have o1 := hown.1.1
    have o2 := hown.1.2
    have o3 := hown.2.1
    have o4 := hown.2.2
    clear hown HN
    refine (jti_ok N M w3 HS3.out (by omega) (by omega) (by omega) (by omega)).mono ?_
    rintro e w4 ⟨rfl, hb4⟩
    have HB4 := Lib.hid (HB3.out.trans (hb4.mono HB3.out.size))
    clear hb4 o1 o2 o3 o4
    generalize jtiL N M = J at *
    have hne2 : (J == s) = false := by simpa using fun e => hne e.symm
    cases p1 <;> cases two <;> rcases hx with ⟨rfl, rfl⟩ | ⟨rfl, tp, p, rfl⟩ <;> rcases hy with ⟨rfl, rfl⟩ | ⟨rfl, tq, q, rfl⟩
    all_goals
      go_wp2_with fail
      go_ret3
      exact ⟨rfl, HB4.out⟩
  · refine (jti_no n m w3 hown).mono ?_
    rintro e w4 ⟨rfl, rfl⟩
    clear hown HN
    cases p1 <;> cases two <;> rcases hx with ⟨rfl, rfl⟩ | ⟨rfl, tp, p, rfl⟩ <;> rcases hy with ⟨rfl, rfl⟩ | ⟨rfl, tq, q, rfl⟩
    all_goals
      go_wp2_with fail
      go_ret3
      exact ⟨rfl, HB3.out⟩
end Go.Proofs.YtbblnlddiafkhaaDoor
