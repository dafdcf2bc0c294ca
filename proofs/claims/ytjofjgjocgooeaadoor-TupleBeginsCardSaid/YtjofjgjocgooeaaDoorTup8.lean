/- The walk of the law TupleBegins. -/
import Derived.Test.YtjofjgjocgooeaaDoorTupF
import Derived.Test.YtjofjgjocgooeaaDoorTupB
import Derived.Test.YtjofjgjocgooeaaDoorTup6
set_option linter.unusedVariables false
namespace Go.Proofs.YtjofjgjocgooeaaDoor
open Go.RowKit

theorem slice_head (a : Option Addr) (n c j : Nat) (J : Int) (hJ : J = j) (hj : j ≤ n) (hc : n ≤ c) (w : World) :
    (Instr.slice 24 (.slice a n c) none (some (.int .i64 J)) none).run Tryd.prog w = .ok (.slice a j c) w := by
  subst hJ
  rw [run_slice_h w 24 a n c Tryd.underlying24 .i64 j (by omega) (by omega)]
  simp [go_sem, sliced]
theorem RdP.take {w : World} {a : Option Addr} {l : List TP} (h : RdP w a l) (j : Nat) : RdP w a (l.take j) := by
  rcases h with rfl | ⟨b, off, rfl, h⟩
  · exact .inl (by simp)
  · refine .inr ⟨b, off, rfl, fun i hi => ?_⟩
    simp only [List.length_take] at hi
    have := h i (by omega)
    simpa using this

set_option maxRecDepth 100000 in
set_option maxHeartbeats 8000000 in
theorem tupleBegins_walk (a : Option Addr) (c : Nat) (l : List TP) (a' : Option Addr) (c' : Nat) (m : List TP) (w : World) (hr : RdP w a l ∧ (∀ p ∈ l, p.ok) ∧ l.length ≤ maxLen) (hr' : RdP w a' m ∧ (∀ p ∈ m, p.ok) ∧ m.length ≤ maxLen) (hm : ∃ m, w.cell? ⟨0, 0, none⟩ = some (.int .i64 m)) :
    Calls Tryd.prog 3 #[.slice a l.length c, .slice a' m.length c'] w fun e w' => e = .returned (.bool true) ∧ Below w.heap.size w w' := by
  obtain ⟨ml, hm⟩ := hm
  obtain ⟨hrd, hok, hlm⟩ := hr
  obtain ⟨hrd', hok', hlm'⟩ := hr'
  have HM := Lib.hid hm
  have HR := Lib.hid hrd
  have HR' := Lib.hid hrd'
  have HO := Lib.hid hok
  have HO' := Lib.hid hok'
  clear hm hrd hrd' hok hok'
  go_enter Tryd.func3, Tryd.ntmps3
  go_wp2_with fail
  refine (anchor10_any ml _ HM.out).mono ?_
  rintro e w1 ⟨rfl, hb1⟩
  have HB1 := Lib.hid hb1
  clear hb1
  go_wp2_with fail
  refine (both_any a c l w1 (HR.out.below HB1.out) hlm).mono ?_
  rintro e w2 ⟨hx, hb2⟩
  have HB2 := Lib.hid (HB1.out.trans (hb2.mono HB1.out.size))
  clear hb2 HB1
  rcases hx with ⟨hy, ax, cx, rfl, hrx⟩ | ⟨hy, rfl⟩
  · have HRX := Lib.hid hrx.1
    have hcx := hrx.2
    have HY := Lib.hid (bothB_iff.1 hy)
    clear hrx hy
    go_wp2_with fail
    refine (both_any a' c' m w2 (HR'.out.below HB2.out) hlm').mono ?_
    rintro e w3 ⟨hx, hb3⟩
    have HRX3 := Lib.hid (HRX.out.below hb3)
    have HB3 := Lib.hid (HB2.out.trans (hb3.mono HB2.out.size))
    clear hb3 HB2 HRX
    rcases hx with ⟨hy, ay, cy, rfl, hry⟩ | ⟨hy, rfl⟩
    · have HRY := Lib.hid hry.1
      have HY' := Lib.hid (bothB_iff.1 hy)
      clear hry hy
      go_wp2_with fail
      refine (key_any a c l ml w3 (HR.out.below HB3.out) (by rw [HB3.out.cell (World.block_lt_of_cell? _ _ HM.out)]; exact HM.out) HO.out (fun p hp => by have := HY.out.2 p hp; omega) (by have := HY.out.1; omega)).mono ?_
      rintro e w4 ⟨rfl, hb4⟩
      have HRX4 := Lib.hid (HRX3.out.below hb4)
      have HRY4 := Lib.hid (HRY.out.below hb4)
      have HB4 := Lib.hid (HB3.out.trans (hb4.mono HB3.out.size))
      clear hb4 HB3 HRX3 HRY
      go_wp2_with fail
      refine (key_any a' c' m ml w4 (HR'.out.below HB4.out) (by rw [HB4.out.cell (World.block_lt_of_cell? _ _ HM.out)]; exact HM.out) HO'.out (fun p hp => by have := HY'.out.2 p hp; omega) (by have := HY'.out.1; omega)).mono ?_
      rintro e w5 ⟨rfl, hb5⟩
      have HRX5 := Lib.hid (HRX4.out.below hb5)
      have HRY5 := Lib.hid (HRY4.out.below hb5)
      have HB5 := Lib.hid (HB4.out.trans (hb5.mono HB4.out.size))
      clear hb5 HB4 HRX4 HRY4
      have hbl := begins_law l m HO.out HO'.out
      have hkl : (keyB m).length ≤ 1000000 := by
        have h1 := keyB_len m (fun p hp => by have := HY'.out.2 p hp; omega)
        have h2 := HY'.out.1
        omega
      by_cases hle : m.length ≤ l.length
      · rw [decide_eq_true hle, Bool.true_and] at hbl
        obtain ⟨T, hT⟩ : ∃ T, l.take m.length = T := ⟨_, rfl⟩
        have hTl : T.length = m.length := by rw [← hT, List.length_take]; omega
        rw [hT] at hbl
        have hrt := (RdP.of_c HRX5.out).take m.length
        rw [hT] at hrt
        have HRT := Lib.hid hrt
        have hleI : (m.length : Int) ≤ (l.length : Int) := by omega
        have hsl : ∀ w, (Instr.slice 24 (.slice ax l.length cx) none (some (.int .i64 (min (l.length : Int) (m.length : Int)))) none).run Tryd.prog w = .ok (.slice ax T.length cx) w :=
          fun w => slice_head ax l.length cx T.length _ (by rw [hTl]; omega) (by omega) hcx w
        have HBL := Lib.hid hbl
        have HTL := Lib.hid hTl
        clear hT hTl hrt hbl HRX5
        go_wp2_with fail
        refine (refcompare_any ax ay cx cy T m w5 HRT.out (RdP.of_c HRY5.out) (by have := HTL.out; have := HY'.out.1; omega) (by have := HY'.out.1; omega)).mono ?_
        rintro e w6 ⟨rfl, hb6⟩
        have HB6 := Lib.hid (HB5.out.trans (hb6.mono HB5.out.size))
        clear hb6 HB5 hsl HRT HRY5 hcx
        by_cases hz : cmpK T m = 0
        · have hpr : (keyB m).isPrefixOf (keyB l) = true := by rw [HBL.out, hz]; rfl
          have HPR := Lib.hid hpr
          rw [hz]
          clear hpr hz HBL
          go_wp2_with fail
          refine (next_any ⟨(keyB m).toArray⟩ _ (by simp only [ByteArray.size, List.size_toArray]; omega)).mono ?_
          rintro e w7 ⟨x, rfl, hn, hb7⟩
          have HB7 := Lib.hid (HB6.out.trans (hb7.mono HB6.out.size))
          have law := next_law hn (keyB l)
          rw [show (x == []) = x.isEmpty by cases x <;> rfl] at law
          have HL := Lib.hid (HPR.out.symm.trans law)
          clear hb7 HB6 law hn
          go_wp2_with fail
          refine (Tryd.strings_HasPrefix ⟨(keyB l).toArray⟩ ⟨(keyB m).toArray⟩ w7).mono ?_
          rintro e w8 ⟨rfl, rfl⟩
          have hpr : Lib.hasPrefix (⟨(keyB l).toArray⟩ : ByteArray).data.toList (⟨(keyB m).toArray⟩ : ByteArray).data.toList = true := HPR.out
          rw [hpr]
          clear hpr HPR
          go_wp2_with fail
          all_goals
            refine bodyPost_ret (results_tmp rfl _ _ _) rfl ?_
            refine ⟨ret_true ?_, HB7.out⟩
            have more := HL.out
            clear HL HB7 HM HR HR' HO HO' hlm hlm' HY HY' hkl
            generalize Op.bytesLess (keyB l) (keyB m) = A at *
            generalize Op.bytesLess (keyB l) x = B at *
            cases x <;> simp only [List.isEmpty_nil, List.isEmpty_cons] at more ⊢ <;> cases A <;> cases B <;> first | rfl | contradiction | (exfalso; revert more; decide)
        · have hpr : (keyB m).isPrefixOf (keyB l) = false := by rw [HBL.out]; simpa using hz
          have HPR := Lib.hid hpr
          have hzb : (cmpK T m == 0) = false := by simpa using hz
          clear hpr HBL
          go_wp2_with fail
          refine (next_any ⟨(keyB m).toArray⟩ _ (by simp only [ByteArray.size, List.size_toArray]; omega)).mono ?_
          rintro e w7 ⟨x, rfl, hn, hb7⟩
          have HB7 := Lib.hid (HB6.out.trans (hb7.mono HB6.out.size))
          have law := next_law hn (keyB l)
          rw [show (x == []) = x.isEmpty by cases x <;> rfl] at law
          have HL := Lib.hid (HPR.out.symm.trans law)
          clear hb7 HB6 law hn
          go_wp2_with fail
          refine (Tryd.strings_HasPrefix ⟨(keyB l).toArray⟩ ⟨(keyB m).toArray⟩ w7).mono ?_
          rintro e w8 ⟨rfl, rfl⟩
          have hpr : Lib.hasPrefix (⟨(keyB l).toArray⟩ : ByteArray).data.toList (⟨(keyB m).toArray⟩ : ByteArray).data.toList = false := HPR.out
          rw [hpr]
          clear hpr HPR
          go_wp2_with fail
          all_goals
            refine bodyPost_ret (results_tmp rfl _ _ _) rfl ?_
            refine ⟨ret_true ?_, HB7.out⟩
            have more := HL.out
            clear HL HB7 HM HR HR' HO HO' hlm hlm' HY HY' hkl
            generalize Op.bytesLess (keyB l) (keyB m) = A at *
            generalize Op.bytesLess (keyB l) x = B at *
            cases x <;> simp only [List.isEmpty_nil, List.isEmpty_cons] at more ⊢ <;> cases A <;> cases B <;> first | rfl | contradiction | (exfalso; revert more; decide)
      · rw [decide_eq_false hle, Bool.false_and] at hbl
        have HPR := Lib.hid hbl
        have HB6 := HB5
        have hleI : ¬ (m.length : Int) ≤ (l.length : Int) := by omega
        clear hbl HB5 HRX5 HRY5 hcx hle
        go_wp2_with fail
        refine (next_any ⟨(keyB m).toArray⟩ _ (by simp only [ByteArray.size, List.size_toArray]; omega)).mono ?_
        rintro e w7 ⟨x, rfl, hn, hb7⟩
        have HB7 := Lib.hid (HB6.out.trans (hb7.mono HB6.out.size))
        have law := next_law hn (keyB l)
        rw [show (x == []) = x.isEmpty by cases x <;> rfl] at law
        have HL := Lib.hid (HPR.out.symm.trans law)
        clear hb7 HB6 law hn
        go_wp2_with fail
        refine (Tryd.strings_HasPrefix ⟨(keyB l).toArray⟩ ⟨(keyB m).toArray⟩ w7).mono ?_
        rintro e w8 ⟨rfl, rfl⟩
        have hpr : Lib.hasPrefix (⟨(keyB l).toArray⟩ : ByteArray).data.toList (⟨(keyB m).toArray⟩ : ByteArray).data.toList = false := HPR.out
        rw [hpr]
        clear hpr HPR
        go_wp2_with fail
        all_goals
          refine bodyPost_ret (results_tmp rfl _ _ _) rfl ?_
          refine ⟨ret_true ?_, HB7.out⟩
          have more := HL.out
          clear HL HB7 HM HR HR' HO HO' hlm hlm' HY HY' hkl
          generalize Op.bytesLess (keyB l) (keyB m) = A at *
          generalize Op.bytesLess (keyB l) x = B at *
          cases x <;> simp only [List.isEmpty_nil, List.isEmpty_cons] at more ⊢ <;> cases A <;> cases B <;> first | rfl | contradiction | (exfalso; revert more; decide)
    · go_wp2_with fail
      refine bodyPost_ret (results_tmp rfl _ _ _) rfl ?_
      exact ⟨rfl, HB3.out⟩
  · go_wp2_with fail
    refine (both_any a' c' m w2 (HR'.out.below HB2.out) hlm').mono ?_
    rintro e w3 ⟨hx, hb3⟩
    have HB3 := Lib.hid (HB2.out.trans (hb3.mono HB2.out.size))
    clear hb3 HB2
    rcases hx with ⟨hy, ay, cy, rfl, hry⟩ | ⟨hy, rfl⟩
    · have HRY := Lib.hid hry.1
      clear hry
      go_wp2_with fail
      refine bodyPost_ret (results_tmp rfl _ _ _) rfl ?_
      exact ⟨rfl, HB3.out⟩
    · go_wp2_with fail
      refine bodyPost_ret (results_tmp rfl _ _ _) rfl ?_
      exact ⟨rfl, HB3.out⟩
end Go.Proofs.YtjofjgjocgooeaaDoor
