/- text.digit, text.pair. -/
import Derived.Test.YtgmieceebchmfaaDoorTxtG
set_option linter.unusedVariables false
namespace Go.Proofs.YtgmieceebchmfaaDoor
open Go.RowKit

theorem dig_fin : ∀ c : Fin 256, (hasB (97, 102) c.val = true → Lib.indexByte hexU (c.val - 32).toUInt8 = digI c.val) ∧ (hasB (97, 102) c.val = false → Lib.indexByte hexU c.val.toUInt8 = digI c.val) := by decide +kernel
theorem or_fin : ∀ a b : Fin 16, bits .or .i64 ((a.val : Int) * 16) (b.val : Int) = (a.val : Int) * 16 + b.val := by decide +kernel
theorem digI_range : ∀ c : Fin 256, -1 ≤ digI c.val ∧ digI c.val < 16 := by decide +kernel

set_option maxRecDepth 100000 in
set_option maxHeartbeats 4000000 in
theorem digit_any (c : UInt8) (w : World) :
    Calls Tryd.prog 52 #[.int .u8 (c.toNat : Nat)] w fun e w' => e = .returned (.int .i64 (digI c.toNat)) ∧ Below w.heap.size w w' := by
  have hc := UInt8.toNat_lt c
  obtain ⟨f1, f2⟩ := dig_fin ⟨c.toNat, hc⟩
  simp only at f1 f2
  have F1 := Lib.hid f1
  have F2 := Lib.hid f2
  clear f1 f2
  go_enter Tryd.func52, Tryd.ntmps52
  go_wp2_with fail
  refine (has_any 97 102 c.toNat _).mono ?_
  rintro e w1 ⟨rfl, hb1⟩
  have HB1 := Lib.hid hb1
  clear hb1
  cases hh : hasB (97, 102) c.toNat with
  | true =>
    have h97 : 97 ≤ c.toNat := by
      unfold hasB at hh
      simp only [Bool.and_eq_true, decide_eq_true_eq] at hh
      exact hh.1
    have hwr : IntKind.u8.wrap (((c.toNat : Nat) : Int) - 32) = ((c.toNat : Nat) : Int) - 32 := by rw [IntKind.wrap_u8]; omega
    have hd := F1.out hh
    have HD := Lib.hid hd
    clear hd hh F1 F2
    go_wp2_with fail
    refine (Tryd.strings_IndexByte ⟨#[48, 49, 50, 51, 52, 53, 54, 55, 56, 57, 65, 66, 67, 68, 69, 70]⟩ _ _).mono ?_
    rintro e w2 ⟨rfl, rfl⟩
    have hd2 : Lib.indexByte (⟨#[48, 49, 50, 51, 52, 53, 54, 55, 56, 57, 65, 66, 67, 68, 69, 70]⟩ : ByteArray).data.toList ((((c.toNat : Nat) : Int) - 32).toNat.toUInt8) = digI c.toNat := by
      rw [show ((((c.toNat : Nat) : Int) - 32).toNat) = c.toNat - 32 by omega]
      exact HD.out
    rw [hd2]
    clear hd2
    go_wp2_with fail
    refine bodyPost_ret (results_tmp rfl _ _ _) rfl ?_
    exact ⟨rfl, HB1.out⟩
  | false =>
    have hd := F2.out hh
    have HD := Lib.hid hd
    clear hd hh F1 F2
    go_wp2_with fail
    refine (Tryd.strings_IndexByte ⟨#[48, 49, 50, 51, 52, 53, 54, 55, 56, 57, 65, 66, 67, 68, 69, 70]⟩ _ _).mono ?_
    rintro e w2 ⟨rfl, rfl⟩
    have hd2 : Lib.indexByte (⟨#[48, 49, 50, 51, 52, 53, 54, 55, 56, 57, 65, 66, 67, 68, 69, 70]⟩ : ByteArray).data.toList (((c.toNat : Nat) : Int).toNat.toUInt8) = digI c.toNat := HD.out
    rw [hd2]
    clear hd2
    go_wp2_with fail
    refine bodyPost_ret (results_tmp rfl _ _ _) rfl ?_
    exact ⟨rfl, HB1.out⟩

theorem ent_digit : ∀ args w, (callFunc 52 args).run Tryd.prog w = .ok (.enter 52 args) w := run_enters Tryd.func52 (by kernel_rfl) rfl
/-- The byte of two digits. -/
def pairL : List UInt8 → Option UInt8
  | a :: b :: _ => if digI a.toNat < 0 ∨ digI b.toNat < 0 then none else some (UInt8.ofNat ((digI a.toNat).toNat * 16 + (digI b.toNat).toNat))
  | _ => none
def pairV (s : List UInt8) : Value := match pairL s with
  | some x => .tuple #[.int .u8 (x.toNat : Nat), .bool true]
  | none => .tuple #[.int .u8 0, .bool false]

set_option maxRecDepth 100000 in
set_option maxHeartbeats 4000000 in
theorem pair_any (s : List UInt8) (w : World) (hs : s.length ≤ 1000000) :
    Calls Tryd.prog 33 #[.string ⟨s.toArray⟩] w fun e w' => e = .returned (pairV s) ∧ Below w.heap.size w w' := by
  match s, hs with
  | [], _ =>
    go_enter Tryd.func33, Tryd.ntmps33
    go_wp2_with fail
    go_ret2
    exact ⟨rfl, Below.refl _ _⟩
  | [a], _ =>
    go_enter Tryd.func33, Tryd.ntmps33
    go_wp2_with fail
    go_ret2
    exact ⟨rfl, Below.refl _ _⟩
  | a :: b :: q, hs =>
    have HIX0 := Lib.hid (show ∀ w, (Instr.index 9 (.string ⟨(a :: b :: q).toArray⟩) (.int .i64 0)).run Tryd.prog w = .ok (.int .u8 (a.toNat : Nat)) w from fun w => str_at (a :: b :: q) 0 (by simp) w)
    have HIX1 := Lib.hid (show ∀ w, (Instr.index 9 (.string ⟨(a :: b :: q).toArray⟩) (.int .i64 1)).run Tryd.prog w = .ok (.int .u8 (b.toNat : Nat)) w from fun w => str_at (a :: b :: q) 1 (by simp) w)
    obtain ⟨ra1, ra2⟩ := digI_range ⟨a.toNat, UInt8.toNat_lt a⟩
    obtain ⟨rb1, rb2⟩ := digI_range ⟨b.toNat, UInt8.toNat_lt b⟩
    simp only [List.length_cons] at hs ra1 ra2 rb1 rb2
    have hqI : ¬ (q.length : Int) + 1 + 1 < 2 := by omega
    have hv : pairV (a :: b :: q) = if digI a.toNat < 0 ∨ digI b.toNat < 0 then .tuple #[.int .u8 0, .bool false] else .tuple #[.int .u8 ((UInt8.ofNat ((digI a.toNat).toNat * 16 + (digI b.toNat).toNat)).toNat : Nat), .bool true] := by
      by_cases h : digI a.toNat < 0 ∨ digI b.toNat < 0
      · rw [if_pos h]; unfold pairV; rw [show pairL (a :: b :: q) = none from if_pos h]
      · rw [if_neg h]; unfold pairV; rw [show pairL (a :: b :: q) = some _ from if_neg h]
    have HV := Lib.hid hv
    clear hv
    go_enter Tryd.func33, Tryd.ntmps33
    go_upto_region 3 with (fail)
    refine wp_region_grow (by kernel_rfl) (by kernel_rfl) [9, 10, 11, 12, 13, 14, 4, 5] rfl (by decide) (by kernel_rfl) (fun iX => [VIs (.string ⟨(a :: b :: q).toArray⟩), VIs (.int .u8 (a.toNat : Nat)), VIs (.int .i64 (digI a.toNat)), VIs (.string ⟨(a :: b :: q).toArray⟩), VIs (.int .u8 (b.toNat : Nat)), VIs (.int .i64 (digI b.toNat)), VIs (.int .i64 (digI a.toNat)), VIs (.int .i64 (digI b.toNat))].getD iX fun _ _ => True) (stab_list _ ?_) ?_ ?_
    · skip
      intro V hV
      simp only [List.mem_cons, List.mem_nil_iff, or_false] at hV
      rcases hV with rfl | rfl | rfl | rfl | rfl | rfl | rfl | rfl <;> first | exact VIs.stab _ | exact VBytes.stab _ | exact VStr.stab _ | exact VParts.stab _ | exact VRow.stab _ | exact VRow8.stab _ _ | exact VRowIs.stab _ _ _
    · intro iX o ho a' w' hf hb hd
      rcases iX with _ | _ | _ | _ | _ | _ | _ | _ | iX
      · cases ho
        refine grow_op rfl rfl rfl (grow_move rfl ?_)
        exact (hf.same 0 (by decide)).trans rfl
      · cases ho
        refine grow_op rfl rfl rfl ?_
        have e0 : a'.tmps.getD 9 undef = .string ⟨(a :: b :: q).toArray⟩ := hd 0 (by kernel_rfl)
        have hx := HIX0.out w'
        refine grow_value (v := .int .u8 (a.toNat : Nat)) (w' := w') ?_ rfl (Below.refl _ _)
        simp only [execOp, Act.eval, e0]
        go_simp
      · cases ho
        refine grow_op rfl rfl rfl ?_
        have e1 : a'.tmps.getD 10 undef = .int .u8 (a.toNat : Nat) := hd 1 (by kernel_rfl)
        refine grow_call ent_digit rfl ?_
        simp only [List.map_toArray, List.map_cons, List.map_nil, Act.eval, e1]
        exact (digit_any a w').mono (fun e w'' ⟨h1, h2⟩ => ⟨_, h1, rfl, h2⟩)
      · cases ho
        refine grow_op rfl rfl rfl (grow_move rfl ?_)
        exact (hf.same 0 (by decide)).trans rfl
      · cases ho
        refine grow_op rfl rfl rfl ?_
        have e3 : a'.tmps.getD 12 undef = .string ⟨(a :: b :: q).toArray⟩ := hd 3 (by kernel_rfl)
        have hx := HIX1.out w'
        refine grow_value (v := .int .u8 (b.toNat : Nat)) (w' := w') ?_ rfl (Below.refl _ _)
        simp only [execOp, Act.eval, e3]
        go_simp
      · cases ho
        refine grow_op rfl rfl rfl ?_
        have e4 : a'.tmps.getD 13 undef = .int .u8 (b.toNat : Nat) := hd 4 (by kernel_rfl)
        refine grow_call ent_digit rfl ?_
        simp only [List.map_toArray, List.map_cons, List.map_nil, Act.eval, e4]
        exact (digit_any b w').mono (fun e w'' ⟨h1, h2⟩ => ⟨_, h1, rfl, h2⟩)
      · cases ho
        refine grow_op rfl rfl rfl (grow_assign rfl ?_)
        exact hd 2 (by kernel_rfl)
      · cases ho
        refine grow_op rfl rfl rfl (grow_assign rfl ?_)
        exact hd 5 (by kernel_rfl)
      · simp at ho
    · intro a' w' hf hb hd
      obtain rfl := hf.eq [Value.string ⟨(a :: b :: q).toArray⟩, Value.int IntKind.u8 (a.toNat : Nat), Value.int IntKind.i64 (digI a.toNat), Value.string ⟨(a :: b :: q).toArray⟩, Value.int IntKind.u8 (b.toNat : Nat), Value.int IntKind.i64 (digI b.toNat), Value.int IntKind.i64 (digI a.toNat), Value.int IntKind.i64 (digI b.toNat)] (fun j hj => match j, hj with
        | 0, _ => hd 0 (by decide)
        | 1, _ => hd 1 (by decide)
        | 2, _ => hd 2 (by decide)
        | 3, _ => hd 3 (by decide)
        | 4, _ => hd 4 (by decide)
        | 5, _ => hd 5 (by decide)
        | 6, _ => hd 6 (by decide)
        | 7, _ => hd 7 (by decide)
        | k + 8, h => absurd h (by simp)) (by decide) (by kernel_rfl) rfl
      simp only [List.zip_cons_cons, List.zip_nil_right, List.foldl_cons, List.foldl_nil, Act.put, List.setIfInBounds_toArray, List.set_cons_succ, List.set_cons_zero]
      have HBx := Lib.hid hb
      clear hf hd hb
      generalize digI a.toNat = X at *
      generalize digI b.toNat = Y at *
      by_cases hX : X < 0
      · have hv := HV.out
        rw [if_pos (.inl hX)] at hv
        have HV1 := Lib.hid hv
        clear hv HV
        go_wp2_with fail
        go_ret2
        exact ⟨by rw [HV1.out]; rfl, HBx.out⟩
      by_cases hY : Y < 0
      · have hv := HV.out
        rw [if_pos (.inr hY)] at hv
        have HV1 := Lib.hid hv
        clear hv HV
        go_wp2_with fail
        go_ret2
        exact ⟨by rw [HV1.out]; rfl, HBx.out⟩
      have hv := HV.out
      rw [if_neg (by omega)] at hv
      obtain ⟨x, rfl⟩ : ∃ x : Nat, X = x := ⟨X.toNat, by omega⟩
      obtain ⟨y, rfl⟩ : ∃ y : Nat, Y = y := ⟨Y.toNat, by omega⟩
      have hor := or_fin ⟨x, by omega⟩ ⟨y, by omega⟩
      simp only at hor
      have hval : ((UInt8.ofNat ((x : Int).toNat * 16 + (y : Int).toNat)).toNat : Nat) = x * 16 + y := by
        rw [UInt8.toNat_ofNat']; omega
      rw [hval] at hv
      have hcast : ((x * 16 + y : Nat) : Int) = (x : Int) * 16 + y := by omega
      rw [hcast] at hv
      have HV1 := Lib.hid hv
      clear hv HV hval hcast
      go_wp2_with fail
      go_ret2
      exact ⟨by rw [HV1.out]; rfl, HBx.out⟩
end Go.Proofs.YtgmieceebchmfaaDoor
