/- The document's names of events; the anchor of klaxonlaw21. -/
import Derived.Test.YtbblnlddiafkhaaDoorCau2
import Derived.Test.YtbblnlddiafkhaaDoorTok2
set_option linter.unusedVariables false
namespace Go.Proofs.YtbblnlddiafkhaaDoor
open Go.RowKit

set_option maxRecDepth 100000 in
set_option maxHeartbeats 4000000 in
theorem own16_any (n : Int) (b : Bool) (w : World) (hb : ownB n = b) :
    Calls Tryd.prog 25 #[.int .i64 n] w fun e w' => e = .returned (.bool b) ∧ w' = w := by
  unfold ownB at hb
  by_cases h1 : 1 ≤ n
  · by_cases h2 : n ≤ 1099511627776
    · have e : b = true := by rw [← hb]; simp [h1, h2]
      subst e
      clear hb
      go_enter Tryd.func25, Tryd.ntmps25
      go_wp2_with fail
      go_ret
      exact ⟨rfl, rfl⟩
    · have e : b = false := by rw [← hb]; simp [h2]
      subst e
      clear hb
      have h3 : 1099511627776 < n := by omega
      go_enter Tryd.func25, Tryd.ntmps25
      go_wp2_with fail
      go_ret
      exact ⟨rfl, rfl⟩
  · have e : b = false := by rw [← hb]; simp [h1]
    subst e
    clear hb
    have h3 : n < 1 := by omega
    go_enter Tryd.func25, Tryd.ntmps25
    go_wp2_with fail
    go_ret
    exact ⟨rfl, rfl⟩
theorem ent_num : ∀ args w, (callFunc 26 args).run Tryd.prog w = .ok (.enter 26 args) w := run_enters Tryd.func26 (by kernel_rfl) rfl
set_option maxRecDepth 100000 in
set_option maxHeartbeats 4000000 in
theorem num_any (n : Nat) : ∀ (w : World), n ≤ 1099511627776 →
    Calls Tryd.prog 26 #[.int .i64 (n : Int)] w fun e w' => e = .returned (.string ⟨(Lib.decDigits n).toArray⟩) ∧ Below w.heap.size w w' := by
  induction n using Nat.strongRecOn with
  | _ n ih =>
  intro w hn
  have hp1 : ¬ (n : Int) ≤ -10 := by omega
  have hp2 : ¬ (n : Int) < 0 := by omega
  by_cases h10 : n < 10
  · have h10I : (n : Int) < 10 := by omega
    obtain ⟨D, hD⟩ : ∃ D : UInt8, D = UInt8.ofNat (48 + n) := ⟨_, rfl⟩
    have hDv : D.toNat = 48 + n := by rw [hD]; exact digit_nat n h10
    have hw1 : IntKind.i64.wrap (48 + (n : Int)) = 48 + (n : Int) := IntWalk.i64_in _ (by omega)
    have hw8 : IntKind.u8.wrap (48 + (n : Int)) = (D.toNat : Int) := by rw [IntKind.wrap_u8]; omega
    have hdd : Lib.decDigits n = [D] := by rw [dec_small n h10, hD]
    have hba : Below w.heap.size w (w.alloc (.cells #[.int .u8 (D.toNat : Int)] 5)) := (Below.refl _ _).alloc (Nat.le_refl _) _
    have hst := str_of_rd (byte_lit D (heap_alloc_new w (.cells #[.int .u8 (D.toNat : Int)] 5))) 1 1 rfl
    have HDD := Lib.hid hdd
    clear hD hDv hdd ih
    go_enter Tryd.func26, Tryd.ntmps26
    go_wp2_with fail
    go_ret
    exact ⟨by rw [HDD.out]; rfl, hba⟩
  · have h10I : ¬ (n : Int) < 10 := by omega
    obtain ⟨D, hD⟩ : ∃ D : UInt8, D = UInt8.ofNat (48 + n % 10) := ⟨_, rfl⟩
    have hDv : D.toNat = 48 + n % 10 := by rw [hD]; exact digit_nat (n % 10) (by omega)
    have hdd : Lib.decDigits n = Lib.decDigits (n / 10) ++ [D] := by rw [dec_big n h10, hD]
    have hlen := dec_len (n / 10) 13 (by decide) (by have : (10 : Nat) ^ 13 = 10000000000000 := by decide
                                                     omega)
    have hcat : (⟨(Lib.decDigits (n / 10)).toArray⟩ : ByteArray) ++ (⟨#[D]⟩ : ByteArray) = ⟨(Lib.decDigits n).toArray⟩ := by
      rw [hdd]
      apply ByteArray.ext
      simp
    have HCAT := Lib.hid hcat
    have HD1 := Lib.hid (show (n : Int) / 10 = ((n / 10 : Nat) : Int) by omega)
    clear hcat hdd hD
    go_enter Tryd.func26, Tryd.ntmps26
    go_upto_region 7 with (fail)
    refine wp_region_grow (by kernel_rfl) (by kernel_rfl) [28, 29, 30, 31, 32, 33, 34, 35, 36, 37, 2] rfl (by decide) (by kernel_rfl) (fun iX => [VIs (.int .i64 (n : Int)), VIs (.int .i64 ((n / 10 : Nat) : Int)), VIs (.string ⟨(Lib.decDigits (n / 10)).toArray⟩), VIs (.int .i64 (n : Int)), VIs (.int .i64 ((n % 10 : Nat) : Int)), VIs (.int .i64 ((48 + n % 10 : Nat) : Int)), VIs (.int .u8 (D.toNat : Nat)), VBytes [D], VStr [D], VIs (.string ⟨(Lib.decDigits n).toArray⟩), VIs (.string ⟨(Lib.decDigits n).toArray⟩)].getD iX fun _ _ => True) (stab_list _ ?_) ?_ ?_
    · skip
      intro V hV
      simp only [List.mem_cons, List.mem_nil_iff, or_false] at hV
      rcases hV with rfl | rfl | rfl | rfl | rfl | rfl | rfl | rfl | rfl | rfl | rfl <;> first | exact VIs.stab _ | exact VBytes.stab _ | exact VStr.stab _ | exact VParts.stab _ | exact VRow.stab _ | exact VRow8.stab _ _ | exact VRowIs.stab _ _ _
    · intro iX o ho a' w' hf hb hd
      rcases iX with _ | _ | _ | _ | _ | _ | _ | _ | _ | _ | _ | iX
      · cases ho
        refine grow_op rfl rfl rfl (grow_move rfl ?_)
        exact (hf.same 0 (by decide)).trans rfl
      · cases ho
        refine grow_op rfl rfl rfl ?_
        have e0 : a'.tmps.getD 28 undef = .int .i64 (n : Int) := hd 0 (by kernel_rfl)
        refine grow_value (v := .int .i64 ((n / 10 : Nat) : Int)) (w' := w') ?_ rfl (Below.refl _ _)
        simp only [execOp, Act.eval, e0]
        go_simp
        exact IntWalk.i64_in _ (by omega)
      · cases ho
        refine grow_op rfl rfl rfl ?_
        have e1 : a'.tmps.getD 29 undef = .int .i64 ((n / 10 : Nat) : Int) := hd 1 (by kernel_rfl)
        refine grow_call ent_num rfl ?_
        simp only [List.map_toArray, List.map_cons, List.map_nil, Act.eval, e1]
        exact (ih (n / 10) (by omega) w' (by omega)).mono (fun e w'' ⟨h1, h2⟩ => ⟨_, h1, rfl, h2⟩)
      · cases ho
        refine grow_op rfl rfl rfl (grow_move rfl ?_)
        exact (hf.same 0 (by decide)).trans rfl
      · cases ho
        refine grow_op rfl rfl rfl ?_
        have e3 : a'.tmps.getD 31 undef = .int .i64 (n : Int) := hd 3 (by kernel_rfl)
        refine grow_value (v := .int .i64 ((n % 10 : Nat) : Int)) (w' := w') ?_ rfl (Below.refl _ _)
        simp only [execOp, Act.eval, e3]
        go_simp
        exact Int.tmod_eq_emod_of_nonneg (by omega)
      · cases ho
        refine grow_op rfl rfl rfl ?_
        have e4 : a'.tmps.getD 32 undef = .int .i64 ((n % 10 : Nat) : Int) := hd 4 (by kernel_rfl)
        refine grow_value (v := .int .i64 ((48 + n % 10 : Nat) : Int)) (w' := w') ?_ rfl (Below.refl _ _)
        simp only [execOp, Act.eval, e4]
        go_simp
        exact IntWalk.i64_in _ (by omega)
      · cases ho
        refine grow_op rfl rfl rfl ?_
        have e5 : a'.tmps.getD 33 undef = .int .i64 ((48 + n % 10 : Nat) : Int) := hd 5 (by kernel_rfl)
        refine grow_value (v := .int .u8 (D.toNat : Nat)) (w' := w') ?_ rfl (Below.refl _ _)
        simp only [execOp, Act.eval, e5]
        go_simp
        rw [IntKind.wrap_u8]; omega
      · cases ho
        refine grow_op rfl rfl rfl ?_
        exact grow_byte1 rfl (hd 6 (by kernel_rfl))
      · cases ho
        refine grow_op rfl rfl rfl ?_
        exact grow_str rfl (hd 7 (by kernel_rfl))
      · cases ho
        refine grow_op rfl rfl rfl ?_
        have e2 : a'.tmps.getD 30 undef = .string ⟨(Lib.decDigits (n / 10)).toArray⟩ := hd 2 (by kernel_rfl)
        have e8 : a'.tmps.getD 36 undef = .string ⟨[D].toArray⟩ := hd 8 (by kernel_rfl)
        refine grow_value (v := .string ⟨(Lib.decDigits n).toArray⟩) (w' := w') ?_ rfl (Below.refl _ _)
        simp only [execOp, Act.eval, e2, e8]
        go_simp
        rw [if_neg (by omega), HCAT.out]
      · cases ho
        refine grow_op rfl rfl rfl (grow_assign rfl ?_)
        exact hd 9 (by kernel_rfl)
      · simp at ho
    · intro a' w' hf hb hd
      obtain ⟨a35, c35, hv35, _⟩ := hd 7 (by decide)
      obtain rfl := hf.eq [Value.int IntKind.i64 (n : Int), Value.int IntKind.i64 ((n / 10 : Nat) : Int), Value.string ⟨(Lib.decDigits (n / 10)).toArray⟩, Value.int IntKind.i64 (n : Int), Value.int IntKind.i64 ((n % 10 : Nat) : Int), Value.int IntKind.i64 ((48 + n % 10 : Nat) : Int), Value.int IntKind.u8 (D.toNat : Nat), Value.slice a35 [D].length c35, Value.string ⟨[D].toArray⟩, Value.string ⟨(Lib.decDigits n).toArray⟩, Value.string ⟨(Lib.decDigits n).toArray⟩] (fun j hj => match j, hj with
        | 0, _ => hd 0 (by decide)
        | 1, _ => hd 1 (by decide)
        | 2, _ => hd 2 (by decide)
        | 3, _ => hd 3 (by decide)
        | 4, _ => hd 4 (by decide)
        | 5, _ => hd 5 (by decide)
        | 6, _ => hd 6 (by decide)
        | 7, _ => hv35
        | 8, _ => hd 8 (by decide)
        | 9, _ => hd 9 (by decide)
        | 10, _ => hd 10 (by decide)
        | k + 11, h => absurd h (by simp)) (by decide) (by kernel_rfl) rfl
      simp only [List.zip_cons_cons, List.zip_nil_right, List.foldl_cons, List.foldl_nil, Act.put, List.setIfInBounds_toArray, List.set_cons_succ, List.set_cons_zero]
      have HB := Lib.hid hb
      clear hd hf hb hv35 ih
      go_wp2_with fail
      go_ret
      exact ⟨rfl, HB.out⟩
set_option maxRecDepth 100000 in
set_option maxHeartbeats 4000000 in
theorem refjti_ok (n m : Nat) (w : World) (h1 : 1 ≤ n) (h2 : n ≤ 1099511627776) (h3 : 1 ≤ m) (h4 : m ≤ 1099511627776) :
    Calls Tryd.prog 11 #[.int .i64 (n : Int), .int .i64 (m : Int)] w fun e w' => e = .returned (.tuple #[.string ⟨(jtiL n m).toArray⟩, .bool true]) ∧ Below w.heap.size w w' := by
  have hl1 := dec_len n 13 (by decide) (by have : (10 : Nat) ^ 13 = 10000000000000 := by decide
                                           omega)
  have hl2 := dec_len m 13 (by decide) (by have : (10 : Nat) ^ 13 = 10000000000000 := by decide
                                           omega)
  have o1 : ownB (n : Int) = true := (ownB_iff _).2 ⟨by omega, by omega⟩
  have o2 : ownB (m : Int) = true := (ownB_iff _).2 ⟨by omega, by omega⟩
  have O1 := Lib.hid o1
  have O2 := Lib.hid o2
  clear o1 o2
  go_enter Tryd.func11, Tryd.ntmps11
  go_wp2_with fail
  refine (own16_any n true w O1.out).mono ?_
  rintro e w' ⟨rfl, rfl⟩
  go_wp2_with fail
  refine (own16_any m true w' O2.out).mono ?_
  rintro e w'' ⟨rfl, rfl⟩
  go_wp2_with fail
  refine (num_any n w'' h2).mono ?_
  rintro e w1 ⟨rfl, hb1⟩
  have HB1 := Lib.hid hb1
  have HJ := Lib.hid (show jtiL n m = 101 :: (Lib.decDigits n ++ 46 :: Lib.decDigits m) from rfl)
  clear hb1
  generalize Lib.decDigits n = A at *
  go_wp2_with fail
  refine (num_any m w1 h4).mono ?_
  rintro e w2 ⟨rfl, hb2⟩
  have HB2 := Lib.hid (HB1.out.trans (hb2.mono HB1.out.size))
  clear hb2
  generalize Lib.decDigits m = B at *
  go_wp2_with fail
  go_ret2
  refine ⟨?_, HB2.out⟩
  rw [HJ.out, ← jti_cat]
  rfl
theorem jti_72 : jtiL 7 2 = [101, 55, 46, 50] := by
  unfold jtiL
  rw [dec_small 7 (by decide), dec_small 2 (by decide)]
  rfl
set_option maxRecDepth 100000 in
set_option maxHeartbeats 4000000 in
theorem anchor21_any (w : World) (hs : Std w) :
    Calls Tryd.prog 9 #[] w fun e w' => e = .returned (.bool true) ∧ Below w.heap.size w w' := by
  have HS := Lib.hid hs
  have H1 := Lib.hid (jti_ok 7 2 w hs (by decide) (by decide) (by decide) (by decide))
  have H2 := Lib.hid (fun w hs => readjti_yes 7 2 w hs (by decide) (by decide) (by decide) (by decide))
  rw [jti_72] at H1 H2
  clear hs
  go_enter Tryd.func9, Tryd.ntmps9
  go_wp2_with fail
  refine H1.out.mono ?_
  rintro e w1 ⟨rfl, hb1⟩
  have HB1 := Lib.hid hb1
  have HS1 := Lib.hid (HS.out.below hb1)
  clear hb1
  go_wp2_with fail
  refine (H2.out w1 HS1.out).mono ?_
  rintro e w2 ⟨rfl, hb2⟩
  have HB2 := Lib.hid (HB1.out.trans (hb2.mono HB1.out.size))
  clear hb2
  go_wp2_with fail
  go_ret
  exact ⟨rfl, HB2.out⟩
end Go.Proofs.YtbblnlddiafkhaaDoor
