/- The document's Unescape. -/
import Derived.Test.YtgmieceebchmfaaDoorTxtQ
set_option linter.unusedVariables false
namespace Go.Proofs.YtgmieceebchmfaaDoor
open Go.RowKit

theorem ent_rdigit : ∀ args w, (callFunc 35 args).run Tryd.prog w = .ok (.enter 35 args) w := run_enters Tryd.func35 (by kernel_rfl) rfl

set_option maxRecDepth 100000 in
set_option maxHeartbeats 8000000 in
theorem refunescape_any (s : List UInt8) (w : World) (hs : s.length ≤ 1000000) :
    Calls Tryd.prog 18 #[.string ⟨s.toArray⟩] w fun e w' => e = .returned (uneV s) ∧ Below w.heap.size w w' := by
  go_enter Tryd.func18, Tryd.ntmps18
  go_wp2_with fail
  go_loopg [4, 5] s.length (fun k out y wr => ∃ (i : Nat) (o : List UInt8), y = .int .i64 (i : Int) ∧ i + k = s.length ∧ Hid (unescL s = (unescL (s.drop i)).map (o ++ ·)) ∧ o.length ≤ i ∧ Hid (Own w.heap.size wr out o) ∧ Hid (Below w.heap.size w wr))
  case atStart => exact ⟨0, [], rfl, by omega, Lib.hid (by rw [List.drop_zero]; cases unescL s <;> simp), by simp, Lib.hid (Own.nil _ _), Lib.hid (Below.refl _ _)⟩
  case round =>
    obtain ⟨i, o, rfl, hi, HU, hol, HW, HB⟩ := hrel
    have hwB : w.heap.size ≤ wr.heap.size := HB.out.size
    obtain ⟨ao, co, hout, hrd⟩ := HW.out.shape
    subst hout
    have HRD := Lib.hid hrd
    clear hrd
    by_cases hlt : i < s.length
    · have hltI : (i : Int) < (s.length : Int) := by omega
      have hix := fun w => str_at s i hlt w
      have hu := HU.out
      rw [List.drop_eq_getElem_cons hlt] at hu
      generalize hcv : s[i] = c at *
      clear hcv
      have hc256 := UInt8.toNat_lt c
      have HU0 := Lib.hid hu
      clear hu HU
      by_cases h43 : c = 43
      · subst h43
        have hu := HU0.out
        rw [unescL_plus] at hu
        have HU1 := Lib.hid hu
        clear hu HU0
        go_wp2_with (at_builtin; go_loud (refine wpList_append_lit rfl (.tmp 16) (.tmp 17) rfl w.heap.size _ o rfl wr HW.out [32] _ rfl 1 1 rfl _ rfl rfl rfl ?c1 ?c2 ?_))
        case c1 => simp; omega
        case c2 => exact hwB
        intro v1 w1 ha1
        have HW1 := Lib.hid ha1.own
        have HB1 := Lib.hid (ha1.below _ HB.out)
        clear ha1 HW HB HRD
        go_wp2_with fail
        go_roundg (gk - 1)
        case measure => omega
        case rel => exact ⟨i + 1, o ++ [32], by first | rfl | (congr 1), by omega, Lib.hid (by rw [HU1.out]; cases unescL (s.drop (i + 1)) <;> simp), by simp; omega, HW1, HB1⟩
      have h43I : ¬ ((c.toNat : Nat) : Int) = 43 := fun e => h43 (UInt8.toNat_inj.1 (by show c.toNat = 43; omega))
      by_cases h37 : c = 37
      · subst h37
        by_cases h2 : i + 2 < s.length
        · have h2I : ¬ (s.length : Int) ≤ (i : Int) + 2 := by omega
          have hix1 := fun w => str_at s (i + 1) (by omega) w
          have hix2 := fun w => str_at s (i + 2) h2 w
          rw [show ((i + 1 : Nat) : Int) = (i : Int) + 1 by omega] at hix1
          rw [show ((i + 2 : Nat) : Int) = (i : Int) + 2 by omega] at hix2
          have hu := HU0.out
          rw [List.drop_eq_getElem_cons (show i + 1 < s.length by omega), List.drop_eq_getElem_cons (show i + 1 + 1 < s.length by omega), unescL_hex] at hu
          rw [show i + 1 + 1 + 1 = i + 3 by omega] at hu
          have e2 : s[i + 1 + 1]'(by omega) = s[i + 2]'h2 := rfl
          rw [e2] at hu
          generalize s[i + 1]'(by omega) = a at *
          generalize s[i + 2]'h2 = b at *
          clear e2
          obtain ⟨ra1, ra2⟩ := digI_range ⟨a.toNat, UInt8.toNat_lt a⟩
          obtain ⟨rb1, rb2⟩ := digI_range ⟨b.toNat, UInt8.toNat_lt b⟩
          simp only at ra1 ra2 rb1 rb2
          have HU1 := Lib.hid hu
          clear hu HU0
          by_cases hX : digI a.toNat < 0
          · have hu := HU1.out
            rw [if_pos (.inl hX)] at hu
            have hr : uneV s = .tuple #[.string ⟨#[]⟩, .int .i64 31] := by unfold uneV uneR; rw [hu]; rfl
            have HR := Lib.hid hr
            clear hu HU1 hr
            go_wp2_with fail
            refine (refdigit_any a wr).mono ?_
            rintro e w1 ⟨rfl, rfl⟩
            go_wp2_with fail
            go_ret2
            exact ⟨by rw [HR.out]; rfl, HB.out⟩
          by_cases hY : digI b.toNat < 0
          · have hu := HU1.out
            rw [if_pos (.inr hY)] at hu
            have hr : uneV s = .tuple #[.string ⟨#[]⟩, .int .i64 31] := by unfold uneV uneR; rw [hu]; rfl
            have HR := Lib.hid hr
            clear hu HU1 hr
            go_wp2_with fail
            refine (refdigit_any a wr).mono ?_
            rintro e w1 ⟨rfl, rfl⟩
            go_wp2_with fail
            refine (refdigit_any b w1).mono ?_
            rintro e w2 ⟨rfl, rfl⟩
            go_wp2_with fail
            go_ret2
            exact ⟨by rw [HR.out]; rfl, HB.out⟩
          have hu := HU1.out
          rw [if_neg (by omega)] at hu
          obtain ⟨x, hx⟩ : ∃ x : Nat, digI a.toNat = x := ⟨(digI a.toNat).toNat, by omega⟩
          obtain ⟨y, hy⟩ : ∃ y : Nat, digI b.toNat = y := ⟨(digI b.toNat).toNat, by omega⟩
          rw [hx, hy] at hu
          have hD : (UInt8.ofNat ((x : Int).toNat * 16 + (y : Int).toNat)).toNat = x * 16 + y := by rw [UInt8.toNat_ofNat']; omega
          generalize UInt8.ofNat ((x : Int).toNat * 16 + (y : Int).toNat) = D at *
          have HU2 := Lib.hid hu
          have HX := Lib.hid hx
          have HY := Lib.hid hy
          have HDV := Lib.hid hD
          have HIX1 := Lib.hid hix1
          have HIX2 := Lib.hid hix2
          have hx16 : x < 16 := by omega
          have hy16 : y < 16 := by omega
          clear hu HU1 hD ra1 ra2 rb1 rb2
          go_wp2_with fail
          refine (refdigit_any a wr).mono ?_
          rintro e w1 ⟨rfl, rfl⟩
          rw [HX.out]
          go_wp2_with fail
          refine (refdigit_any b w1).mono ?_
          rintro e w2 ⟨rfl, rfl⟩
          rw [HY.out]
          go_upto_region 10 with (fail)
          clear hx hy hX hY
          refine wp_region_grow_tail 15 (by kernel_rfl) (by kernel_rfl) (by decide) (by kernel_rfl) [42, 43, 44, 45, 46, 47, 48, 49, 50, 51, 52, 53, 54, 55, 56] rfl (by decide) (by kernel_rfl) (fun iX => [VIs (.slice ao o.length co), VIs (.string ⟨s.toArray⟩), VIs (.int .i64 (i : Int)), VIs (.int .i64 ((i : Int) + 1)), VIs (.int .u8 (a.toNat : Nat)), VIs (.int .i64 (x : Int)), VIs (.int .i64 (16 * (x : Int))), VIs (.string ⟨s.toArray⟩), VIs (.int .i64 (i : Int)), VIs (.int .i64 ((i : Int) + 2)), VIs (.int .u8 (b.toNat : Nat)), VIs (.int .i64 (y : Int)), VIs (.int .i64 (16 * (x : Int) + (y : Int))), VIs (.int .u8 (D.toNat : Nat)), VBytes [D]].getD iX fun _ _ => True) (stab_list _ ?_) ?_ ?_
          · skip
            intro V hV
            simp only [List.mem_cons, List.mem_nil_iff, or_false] at hV
            rcases hV with rfl | rfl | rfl | rfl | rfl | rfl | rfl | rfl | rfl | rfl | rfl | rfl | rfl | rfl | rfl <;> first | exact VIs.stab _ | exact VBytes.stab _ | exact VStr.stab _ | exact VParts.stab _ | exact VRow.stab _ | exact VRow8.stab _ _ | exact VRowIs.stab _ _ _
          · intro iX o ho a' w' hf hb hd
            rcases iX with _ | _ | _ | _ | _ | _ | _ | _ | _ | _ | _ | _ | _ | _ | _ | iX
            · cases ho
              refine grow_op rfl rfl rfl (grow_move rfl ?_)
              exact (hf.same 4 (by decide)).trans rfl
            · cases ho
              refine grow_op rfl rfl rfl (grow_move rfl ?_)
              exact (hf.same 0 (by decide)).trans rfl
            · cases ho
              refine grow_op rfl rfl rfl (grow_move rfl ?_)
              exact (hf.same 5 (by decide)).trans rfl
            · cases ho
              refine grow_op rfl rfl rfl ?_
              have e2 : a'.tmps.getD 44 undef = .int .i64 (i : Int) := hd 2 (by kernel_rfl)
              refine grow_value (v := .int .i64 ((i : Int) + 1)) (w' := w') ?_ rfl (Below.refl _ _)
              simp only [execOp, Act.eval, e2]
              go_simp
              exact IntWalk.i64_in _ (by omega)
            · cases ho
              refine grow_op rfl rfl rfl ?_
              have e1 : a'.tmps.getD 43 undef = .string ⟨s.toArray⟩ := hd 1 (by kernel_rfl)
              have e3 : a'.tmps.getD 45 undef = .int .i64 ((i : Int) + 1) := hd 3 (by kernel_rfl)
              have hx := HIX1.out w'
              refine grow_value (v := .int .u8 (a.toNat : Nat)) (w' := w') ?_ rfl (Below.refl _ _)
              simp only [execOp, Act.eval, e1, e3]
              go_simp
            · cases ho
              refine grow_op rfl rfl rfl ?_
              have e4 : a'.tmps.getD 46 undef = .int .u8 (a.toNat : Nat) := hd 4 (by kernel_rfl)
              refine grow_call ent_rdigit rfl ?_
              simp only [List.map_toArray, List.map_cons, List.map_nil, Act.eval, e4]
              exact by rw [← HX.out]; exact (refdigit_any a w').mono (fun e w'' ⟨h1, h2⟩ => ⟨_, h1, rfl, by rw [h2]; exact Below.refl _ _⟩)
            · cases ho
              refine grow_op rfl rfl rfl ?_
              have e5 : a'.tmps.getD 47 undef = .int .i64 (x : Int) := hd 5 (by kernel_rfl)
              refine grow_value (v := .int .i64 (16 * (x : Int))) (w' := w') ?_ rfl (Below.refl _ _)
              simp only [execOp, Act.eval, e5]
              go_simp
              exact IntWalk.i64_in _ (by omega)
            · cases ho
              refine grow_op rfl rfl rfl (grow_move rfl ?_)
              exact (hf.same 0 (by decide)).trans rfl
            · cases ho
              refine grow_op rfl rfl rfl (grow_move rfl ?_)
              exact (hf.same 5 (by decide)).trans rfl
            · cases ho
              refine grow_op rfl rfl rfl ?_
              have e8 : a'.tmps.getD 50 undef = .int .i64 (i : Int) := hd 8 (by kernel_rfl)
              refine grow_value (v := .int .i64 ((i : Int) + 2)) (w' := w') ?_ rfl (Below.refl _ _)
              simp only [execOp, Act.eval, e8]
              go_simp
              exact IntWalk.i64_in _ (by omega)
            · cases ho
              refine grow_op rfl rfl rfl ?_
              have e7 : a'.tmps.getD 49 undef = .string ⟨s.toArray⟩ := hd 7 (by kernel_rfl)
              have e9 : a'.tmps.getD 51 undef = .int .i64 ((i : Int) + 2) := hd 9 (by kernel_rfl)
              have hx := HIX2.out w'
              refine grow_value (v := .int .u8 (b.toNat : Nat)) (w' := w') ?_ rfl (Below.refl _ _)
              simp only [execOp, Act.eval, e7, e9]
              go_simp
            · cases ho
              refine grow_op rfl rfl rfl ?_
              have e10 : a'.tmps.getD 52 undef = .int .u8 (b.toNat : Nat) := hd 10 (by kernel_rfl)
              refine grow_call ent_rdigit rfl ?_
              simp only [List.map_toArray, List.map_cons, List.map_nil, Act.eval, e10]
              exact by rw [← HY.out]; exact (refdigit_any b w').mono (fun e w'' ⟨h1, h2⟩ => ⟨_, h1, rfl, by rw [h2]; exact Below.refl _ _⟩)
            · cases ho
              refine grow_op rfl rfl rfl ?_
              have e6 : a'.tmps.getD 48 undef = .int .i64 (16 * (x : Int)) := hd 6 (by kernel_rfl)
              have e11 : a'.tmps.getD 53 undef = .int .i64 (y : Int) := hd 11 (by kernel_rfl)
              refine grow_value (v := .int .i64 (16 * (x : Int) + (y : Int))) (w' := w') ?_ rfl (Below.refl _ _)
              simp only [execOp, Act.eval, e6, e11]
              go_simp
              exact IntWalk.i64_in _ (by omega)
            · cases ho
              refine grow_op rfl rfl rfl ?_
              have e12 : a'.tmps.getD 54 undef = .int .i64 (16 * (x : Int) + (y : Int)) := hd 12 (by kernel_rfl)
              have hDD := HDV.out
              refine grow_value (v := .int .u8 (D.toNat : Nat)) (w' := w') ?_ rfl (Below.refl _ _)
              simp only [execOp, Act.eval, e12]
              go_simp
              rw [IntKind.wrap_u8]; omega
            · cases ho
              refine grow_op rfl rfl rfl ?_
              exact grow_byte1 rfl (hd 13 (by kernel_rfl))
            · simp at ho
          · intro a' w' hf hb hd
            obtain ⟨ab, cb, hv56, hrb⟩ := hd 14 (by decide)
            simp only [List.length_cons, List.length_nil] at hv56
            obtain rfl := hf.eq [Value.slice ao o.length co, Value.string ⟨s.toArray⟩, Value.int IntKind.i64 (i : Int), Value.int IntKind.i64 ((i : Int) + 1), Value.int IntKind.u8 (a.toNat : Nat), Value.int IntKind.i64 (x : Int), Value.int IntKind.i64 (16 * (x : Int)), Value.string ⟨s.toArray⟩, Value.int IntKind.i64 (i : Int), Value.int IntKind.i64 ((i : Int) + 2), Value.int IntKind.u8 (b.toNat : Nat), Value.int IntKind.i64 (y : Int), Value.int IntKind.i64 (16 * (x : Int) + (y : Int)), Value.int IntKind.u8 (D.toNat : Nat), Value.slice ab 1 cb] (fun j hj => match j, hj with
              | 0, _ => hd 0 (by decide)
              | 1, _ => hd 1 (by decide)
              | 2, _ => hd 2 (by decide)
              | 3, _ => hd 3 (by decide)
              | 4, _ => hd 4 (by decide)
              | 5, _ => hd 5 (by decide)
              | 6, _ => hd 6 (by decide)
              | 7, _ => hd 7 (by decide)
              | 8, _ => hd 8 (by decide)
              | 9, _ => hd 9 (by decide)
              | 10, _ => hd 10 (by decide)
              | 11, _ => hd 11 (by decide)
              | 12, _ => hd 12 (by decide)
              | 13, _ => hd 13 (by decide)
              | 14, _ => hv56
              | k + 15, h => absurd h (by simp)) (by decide) (by kernel_rfl) rfl
            simp only [List.zip_cons_cons, List.zip_nil_right, List.foldl_cons, List.foldl_nil, Act.put, List.setIfInBounds_toArray, List.set_cons_succ, List.set_cons_zero]
            have HWx := Lib.hid (HW.out.below hb)
            have HBx := Lib.hid (HB.out.trans (hb.mono HB.out.size))
            have HRB := Lib.hid hrb
            clear hd hf hb hrb hv56 HW HB HRD HX HY HDV hix hix1 hix2 HIX1 HIX2
            refine wpList_append_rd rfl (.tmp 42) (.tmp 56) rfl w.heap.size (.slice ao o.length co) o rfl HWx.out ab [D] 1 cb rfl rfl HRB.out ?e1 ?e2 ?_
            case e1 => simp; omega
            case e2 => exact HBx.out.size
            intro v1 w3 hown hgrow
            have HB3 := Lib.hid (below_grow HBx.out HWx.out hgrow HBx.out.size)
            have HW3 := Lib.hid hown
            clear hown hgrow HBx HWx HRB
            go_wp2_with fail
            go_roundg (gk - 3)
            case measure => omega
            case rel => exact ⟨i + 3, o ++ [D], by first | rfl | (congr 1; omega), by omega, Lib.hid (by rw [HU2.out]; cases unescL (s.drop (i + 3)) <;> simp), by simp; omega, HW3, HB3⟩
        · have h2I : (s.length : Int) ≤ (i : Int) + 2 := by omega
          have hu := HU0.out
          rw [unescL_short _ (by rw [List.length_drop]; omega)] at hu
          have hr : uneV s = .tuple #[.string ⟨#[]⟩, .int .i64 31] := by unfold uneV uneR; rw [hu]; rfl
          have HR := Lib.hid hr
          clear hu HU0 hr
          go_wp2_with fail
          go_ret2
          exact ⟨by rw [HR.out]; rfl, HB.out⟩
      have h37I : ¬ ((c.toNat : Nat) : Int) = 37 := fun e => h37 (UInt8.toNat_inj.1 (by show c.toNat = 37; omega))
      by_cases hbad : c.toNat < 33 ∨ 126 < c.toNat ∨ c = 38 ∨ c = 61
      · have hu := HU0.out
        rw [unescL_bad c _ h43 h37 hbad] at hu
        have hr : uneV s = .tuple #[.string ⟨#[]⟩, .int .i64 31] := by unfold uneV uneR; rw [hu]; rfl
        have HR := Lib.hid hr
        clear hu HU0 hr
        rcases hbad with h | h | h | h
        · have hI : ((c.toNat : Nat) : Int) < 33 := by omega
          go_wp2_with fail
          go_ret2
          exact ⟨by rw [HR.out]; rfl, HB.out⟩
        · have hI : ¬ ((c.toNat : Nat) : Int) < 33 := by omega
          have hI2 : 126 < ((c.toNat : Nat) : Int) := by omega
          go_wp2_with fail
          go_ret2
          exact ⟨by rw [HR.out]; rfl, HB.out⟩
        · subst h
          go_wp2_with fail
          go_ret2
          exact ⟨by rw [HR.out]; rfl, HB.out⟩
        · subst h
          go_wp2_with fail
          go_ret2
          exact ⟨by rw [HR.out]; rfl, HB.out⟩
      · have hu := HU0.out
        rw [unescL_plain c _ h43 h37 hbad] at hu
        have HU1 := Lib.hid hu
        have hI1 : ¬ ((c.toNat : Nat) : Int) < 33 := by omega
        have hI2 : ¬ 126 < ((c.toNat : Nat) : Int) := by omega
        have hI3 : ¬ ((c.toNat : Nat) : Int) = 38 := fun e => hbad (.inr (.inr (.inl (UInt8.toNat_inj.1 (by show c.toNat = 38; omega)))))
        have hI4 : ¬ ((c.toNat : Nat) : Int) = 61 := fun e => hbad (.inr (.inr (.inr (UInt8.toNat_inj.1 (by show c.toNat = 61; omega)))))
        have hB3 : (((c.toNat : Nat) : Int) == 38) = false := by simpa using hI3
        have hB4 : (((c.toNat : Nat) : Int) == 61) = false := by simpa using hI4
        clear hu HU0 hbad
        go_wp2_with (at_builtin; go_loud (refine wpList_append_lit rfl (.tmp 74) (.tmp 76) rfl w.heap.size _ o rfl wr HW.out [c] _ rfl 1 1 rfl _ rfl rfl rfl ?d1 ?d2 ?_))
        case d1 => first | omega | (simp; omega)
        intro v1 w1 ha1
        have HW1 := Lib.hid ha1.own
        have HB1 := Lib.hid (ha1.below _ HB.out)
        clear ha1 HW HB HRD
        go_wp2_with fail
        go_roundg (gk - 1)
        case measure => omega
        case rel => exact ⟨i + 1, o ++ [c], by first | rfl | (congr 1), by omega, Lib.hid (by rw [HU1.out]; cases unescL (s.drop (i + 1)) <;> simp), by simp; omega, HW1, HB1⟩
    · have hltI : ¬ (i : Int) < (s.length : Int) := by omega
      have hu := HU.out
      rw [List.drop_of_length_le (by omega), unescL_nil] at hu
      simp only [Option.map_some, List.append_nil] at hu
      have HU1 := Lib.hid hu
      have hcv := str_of_rd HRD.out _ co rfl
      have hwn := wrongI_neg o
      have HWN := Lib.hid hwn
      clear hu HU hwn
      go_wp2_with fail
      refine (refwrong_any o wr (by omega)).mono ?_
      rintro e w1 ⟨rfl, rfl⟩
      cases ht : toldB o with
      | false =>
        have hr : uneV s = .tuple #[.string ⟨#[]⟩, .int .i64 30] := by unfold uneV uneR; rw [HU1.out]; simp only [ht]; rfl
        have HR := Lib.hid hr
        have hge : 0 ≤ wrongI o := by
          have := HWN.out
          rw [ht] at this
          simp only [decide_eq_false_iff_not] at this
          omega
        clear hr HU1 ht HWN
        go_wp2_with fail
        go_ret2
        exact ⟨by rw [HR.out]; rfl, HB.out⟩
      | true =>
        have hr : uneV s = .tuple #[.string ⟨o.toArray⟩, .int .i64 0] := by unfold uneV uneR; rw [HU1.out]; simp only [ht]; rfl
        have HR := Lib.hid hr
        have hge : ¬ 0 ≤ wrongI o := by
          have := HWN.out
          rw [ht] at this
          simp only [decide_eq_true_eq] at this
          omega
        clear hr HU1 ht HWN
        go_wp2_with fail
        go_ret2
        exact ⟨by rw [HR.out]; rfl, HB.out⟩
end Go.Proofs.YtgmieceebchmfaaDoor
