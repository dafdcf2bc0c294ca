/- MacSpreads. -/
import Derived.Test.YtofoadpnfeamoaaMac9
import Derived.Test.YtofoadpnfeamoaaMac10
set_option linter.unusedVariables false
namespace Go.Proofs.Ytofoadpnfeamoaa
open Go.RowKit

theorem expF_take (k m : List UInt8) (f z : Nat) (h : f ≤ z) : (expF k m z).take f = expF k m f := by
  obtain ⟨R, hR⟩ := exO_pre k m ((f + 31) / 32) ((z + 31) / 32 - (f + 31) / 32)
  rw [show (f + 31) / 32 + ((z + 31) / 32 - (f + 31) / 32) = (z + 31) / 32 by omega] at hR
  unfold expF
  rw [hR, List.take_take, Nat.min_eq_left h, List.take_append_of_le_length (by rw [exO_len]; omega)]

set_option maxRecDepth 100000 in
set_option maxHeartbeats 4000000 in
theorem macSpreads_walk (a0 : Option Addr) (c0 : Nat) (k : List UInt8) (a1 : Option Addr) (c1 : Nat) (m : List UInt8) (x y : Int) (w : World) (hr0 : Rd w a0 k) (hr1 : Rd w a1 m) (hx : (Lit.int .i64 x).wf = true) (hy : (Lit.int .i64 y).wf = true) :
    Calls Try.prog 17 #[.slice a0 k.length c0, .slice a1 m.length c1, .int .i64 x, .int .i64 y] w fun e w' => e = .returned (.bool true) ∧ Below w.heap.size w w' := by
  clear hx hy
  go_enter Try.func17, Try.ntmps17
  go_wp2_with fail
  refine (anchor02_any w).mono ?_
  rintro e w1 ⟨rfl, hb1⟩
  have HR0 := Lib.hid (hr0.below hb1)
  have HR1 := Lib.hid (hr1.below hb1)
  have HB1 := Lib.hid hb1
  clear hr0 hr1 hb1
  by_cases h1 : k.length ≤ 100
  · have h1I : (k.length : Int) ≤ 100 := by omega
    by_cases h2 : m.length ≤ 100
    · have h2I : (m.length : Int) ≤ 100 := by omega
      by_cases h3 : 200 < x
      · by_cases h4 : x ≤ 8160
        · go_wp2_with fail
          go_ret
          exact ⟨rfl, HB1.out⟩
        · have h5 : 8160 < x := by omega
          have h6 : ¬ x < 0 := by omega
          go_wp2_with fail
          refine (expand_bad a0 a1 k.length c0 m.length c1 x w1 (by omega)).mono ?_
          rintro e w2 ⟨rfl, rfl⟩
          go_wp2_with fail
          go_ret
          exact ⟨rfl, HB1.out⟩
      · by_cases h4 : x < 0
        · go_wp2_with fail
          refine (expand_bad a0 a1 k.length c0 m.length c1 x w1 (by omega)).mono ?_
          rintro e w2 ⟨rfl, rfl⟩
          go_wp2_with fail
          go_ret
          exact ⟨rfl, HB1.out⟩
        · obtain ⟨z, rfl⟩ : ∃ z : Nat, x = (z : Int) := ⟨x.toNat, by omega⟩
          have hz : z ≤ 200 := by omega
          have hz8 : (z : Int) ≤ 8160 := by omega
          have hz0 : 0 ≤ (z : Int) := by omega
          go_wp2_with fail
          refine (expand_any a0 a1 k m _ c0 _ c1 z z w1 HR0.out HR1.out rfl rfl rfl (by omega) (by omega) (by omega)).mono ?_
          rintro e w2 ⟨aa, ca, rfl, ht2, hb2⟩
          obtain ⟨a', c', hsh, hra, hlc, _⟩ := ht2.shape
          simp at hsh
          obtain ⟨rfl, hzz, rfl⟩ := hsh
          clear hzz
          obtain ⟨A, hA⟩ : ∃ A, expF k m z = A := ⟨_, rfl⟩
          have hAl : A.length = z := by rw [← hA, expF_len]
          rw [hA] at hra hlc
          have HR0' := Lib.hid (HR0.out.below hb2)
          have HR1' := Lib.hid (HR1.out.below hb2)
          have HB2 := Lib.hid (HB1.out.trans (hb2.mono HB1.out.size))
          have HRA := Lib.hid hra
          have HLC := Lib.hid hlc
          have HA := Lib.hid hA
          have HAL := Lib.hid hAl
          clear hra hlc ht2 hb2 HR0 HR1 HB1 hA hAl
          go_upto_region 8 with (fail)
          refine wp_region_grow (by kernel_rfl) (by kernel_rfl) [51, 52, 53, 54, 55, 56, 57, 58, 59, 60, 61, 62] rfl (by decide) (by kernel_rfl) (fun i => [VIs (.int .i64 0), VIs (.bool false), VIs (.bool false), VIs (.slice aa z ca), VStr A, VIs (.slice a0 k.length c0), VIs (.slice a1 m.length c1), VIs (.int .i64 (z : Int)), VBytes A, VStr (A), VIs (.bool false), VIs (.bool false)].getD i fun _ _ => True) (stab_list _ ?_) ?_ ?_
          · intro V hV
            simp only [List.mem_cons, List.mem_nil_iff, or_false] at hV
            rcases hV with rfl | rfl | rfl | rfl | rfl | rfl | rfl | rfl | rfl | rfl | rfl | rfl <;> first | exact VIs.stab _ | exact VBytes.stab _ | exact VStr.stab _ | exact VParts.stab _ | exact VRow.stab _ | exact VRow8.stab _ _
          · intro i o ho a' w' hf hb hd
            rcases i with _ | _ | _ | _ | _ | _ | _ | _ | _ | _ | _ | _ | i
            · cases ho
              refine grow_op rfl rfl rfl (grow_move rfl ?_)
              exact (hf.same 10 (by decide)).trans rfl
            · cases ho
              refine grow_op rfl rfl rfl ?_
              have e0 : a'.tmps.getD 51 undef = .int .i64 0 := hd 0 (by kernel_rfl)
              refine grow_value (v := .bool false) (w' := w') ?_ rfl (Below.refl _ _)
              simp only [execOp, Act.eval, e0]
              go_simp
            · cases ho
              refine grow_op rfl rfl rfl (grow_move rfl ?_)
              exact hd 1 (by kernel_rfl)
            · cases ho
              have hg : a'.tmps.getD 53 undef = .bool false := hd 2 (by kernel_rfl)
              refine grow_op rfl (grow_wanted rfl rfl hg) rfl (grow_move rfl ?_)
              exact (hf.same 9 (by decide)).trans rfl
            · cases ho
              have hg : a'.tmps.getD 53 undef = .bool false := hd 2 (by kernel_rfl)
              refine grow_op rfl (grow_wanted rfl rfl hg) rfl ?_
              exact grow_str rfl ⟨aa, ca, by rw [HAL.out]; exact hd 3 (by kernel_rfl), HRA.out.below hb⟩
            · cases ho
              have hg : a'.tmps.getD 53 undef = .bool false := hd 2 (by kernel_rfl)
              refine grow_op rfl (grow_wanted rfl rfl hg) rfl (grow_move rfl ?_)
              exact (hf.same 0 (by decide)).trans rfl
            · cases ho
              have hg : a'.tmps.getD 53 undef = .bool false := hd 2 (by kernel_rfl)
              refine grow_op rfl (grow_wanted rfl rfl hg) rfl (grow_move rfl ?_)
              exact (hf.same 1 (by decide)).trans rfl
            · cases ho
              have hg : a'.tmps.getD 53 undef = .bool false := hd 2 (by kernel_rfl)
              refine grow_op rfl (grow_wanted rfl rfl hg) rfl (grow_move rfl ?_)
              exact (hf.same 2 (by decide)).trans rfl
            · cases ho
              have hg : a'.tmps.getD 53 undef = .bool false := hd 2 (by kernel_rfl)
              refine grow_op rfl (grow_wanted rfl rfl hg) rfl ?_
              have h5 := hd 5 (by kernel_rfl)
              have h6 := hd 6 (by kernel_rfl)
              have h7 := hd 7 (by kernel_rfl)
              rw [← HA.out]
              exact grow_rexpand rfl ⟨_, _, h5, HR0'.out.below hb⟩ ⟨_, _, h6, HR1'.out.below hb⟩ h7 (by omega) (by omega) (by omega)
            · cases ho
              have hg : a'.tmps.getD 53 undef = .bool false := hd 2 (by kernel_rfl)
              refine grow_op rfl (grow_wanted rfl rfl hg) rfl ?_
              exact grow_str rfl (hd 8 (by kernel_rfl))
            · cases ho
              have hg : a'.tmps.getD 53 undef = .bool false := hd 2 (by kernel_rfl)
              refine grow_op rfl (grow_wanted rfl rfl hg) rfl ?_
              exact grow_ne_same rfl (hd 4 (by kernel_rfl)) (hd 9 (by kernel_rfl))
            · cases ho
              refine grow_op rfl rfl rfl (grow_pick (b := false) rfl (hd 2 (by kernel_rfl)) ?_)
              exact hd 10 (by kernel_rfl)
            · simp at ho
          · intro a' w' hf hb hd
            obtain ⟨a59, c59, q8, _⟩ : VBytes A (a'.tmps.getD 59 undef) w' := hd 8 (by decide)
            have q0 : a'.tmps.getD 51 undef = .int .i64 0 := hd 0 (by decide)
            have q1 : a'.tmps.getD 52 undef = .bool false := hd 1 (by decide)
            have q2 : a'.tmps.getD 53 undef = .bool false := hd 2 (by decide)
            have q3 : a'.tmps.getD 54 undef = .slice aa z ca := hd 3 (by decide)
            have q4 : a'.tmps.getD 55 undef = .string ⟨A.toArray⟩ := hd 4 (by decide)
            have q5 : a'.tmps.getD 56 undef = .slice a0 k.length c0 := hd 5 (by decide)
            have q6 : a'.tmps.getD 57 undef = .slice a1 m.length c1 := hd 6 (by decide)
            have q7 : a'.tmps.getD 58 undef = .int .i64 (z : Int) := hd 7 (by decide)
            have q9 : a'.tmps.getD 60 undef = .string ⟨A.toArray⟩ := hd 9 (by decide)
            have q10 : a'.tmps.getD 61 undef = .bool false := hd 10 (by decide)
            have q11 : a'.tmps.getD 62 undef = .bool false := hd 11 (by decide)
            obtain rfl := hf.eq [(.int .i64 0 : Value), (.bool false : Value), (.bool false : Value), (.slice aa z ca : Value), (.string ⟨A.toArray⟩ : Value), (.slice a0 k.length c0 : Value), (.slice a1 m.length c1 : Value), (.int .i64 (z : Int) : Value), (.slice a59 A.length c59 : Value), (.string ⟨A.toArray⟩ : Value), (.bool false : Value), (.bool false : Value)] (fun j hj => match j, hj with
              | 0, _ => q0
              | 1, _ => q1
              | 2, _ => q2
              | 3, _ => q3
              | 4, _ => q4
              | 5, _ => q5
              | 6, _ => q6
              | 7, _ => q7
              | 8, _ => q8
              | 9, _ => q9
              | 10, _ => q10
              | 11, _ => q11
              | k + 12, h => absurd h (by simp)) (by decide) (by kernel_rfl) rfl
            simp only [List.zip_cons_cons, List.zip_nil_right, List.foldl_cons, List.foldl_nil, Act.put, List.setIfInBounds_toArray, List.set_cons_succ, List.set_cons_zero]
            have HB3 := Lib.hid (HB2.out.trans (hb.mono HB2.out.size))
            have HR0'' := Lib.hid (HR0'.out.below hb)
            have HR1'' := Lib.hid (HR1'.out.below hb)
            have HRA' := Lib.hid (HRA.out.below hb)
            obtain ⟨ss, hss⟩ : ∃ x : ByteArray, (⟨A.toArray⟩ : ByteArray) = x := ⟨_, rfl⟩
            obtain ⟨sl, hsl⟩ : ∃ x, A.length = x := ⟨_, rfl⟩
            rw [hss, hsl]
            clear hd hf hb q0 q1 q2 q3 q4 q5 q6 q7 q8 q9 q10 q11 hss hsl HB2 HR0' HR1' HRA
            obtain ⟨w3, hw3⟩ : ∃ x, w' = x := ⟨_, rfl⟩
            rw [hw3] at HB3 HR0'' HR1'' HRA' ⊢
            clear hw3
            by_cases h5 : 0 ≤ y
            · by_cases h6 : y ≤ (z : Int)
              · obtain ⟨f, rfl⟩ : ∃ f : Nat, y = (f : Int) := ⟨y.toNat, by omega⟩
                have hfz : f ≤ z := by omega
                go_wp2_with fail
                refine (expand_any a0 a1 k m _ c0 _ c1 f f w3 HR0''.out HR1''.out rfl rfl rfl (by omega) (by omega) (by omega)).mono ?_
                rintro e w4 ⟨ab, cb, rfl, ht4, hb4⟩
                obtain ⟨a', c', hsh, hrb, hlb, _⟩ := ht4.shape
                simp at hsh
                obtain ⟨rfl, hzz, rfl⟩ := hsh
                clear hzz
                have hbe := expF_take k m f z hfz
                obtain ⟨B, hB⟩ : ∃ B, expF k m f = B := ⟨_, rfl⟩
                have hBl : B.length = f := by rw [← hB, expF_len]
                rw [hB] at hrb hbe
                rw [HA.out] at hbe
                obtain ⟨a6, c6, hs6, hrd6⟩ := slice_h aa A ca f (f : Int) rfl HLC.out (by rw [HAL.out]; exact hfz)
                have hr6 := hrd6 w4 (HRA'.out.below hb4)
                rw [hbe] at hr6
                rw [HAL.out] at hs6
                have HRB := Lib.hid hrb
                have HR6 := Lib.hid hr6
                have HSL := Lib.hid hs6
                have HBL := Lib.hid hBl
                have HB4 := Lib.hid (HB3.out.trans (hb4.mono HB3.out.size))
                clear hrb hr6 hs6 hBl hlb hbe hB hrd6 ht4 hb4 HB3 HR0'' HR1'' HRA' HLC HA HAL
                go_upto_region 13 with (fail)
                refine wp_region_grow (by kernel_rfl) (by kernel_rfl) [77, 78, 79, 80, 81, 82, 83, 84, 85, 86, 87, 8] rfl (by decide) (by kernel_rfl) (fun i => [VIs (.int .i64 0), VIs (.bool true), VIs (.bool true), VIs (.slice ab f cb), VStr B, VIs (.slice aa z ca), VIs (.int .i64 (f : Int)), VIs (.slice a6 f c6), VStr B, VIs (.bool true), VIs (.bool true), VIs (.bool true)].getD i fun _ _ => True) (stab_list _ ?_) ?_ ?_
                · intro V hV
                  simp only [List.mem_cons, List.mem_nil_iff, or_false] at hV
                  rcases hV with rfl | rfl | rfl | rfl | rfl | rfl | rfl | rfl | rfl | rfl | rfl | rfl <;> first | exact VIs.stab _ | exact VBytes.stab _ | exact VStr.stab _ | exact VParts.stab _ | exact VRow.stab _ | exact VRow8.stab _ _
                · intro i o ho a' w' hf hb hd
                  rcases i with _ | _ | _ | _ | _ | _ | _ | _ | _ | _ | _ | _ | i
                  · cases ho
                    refine grow_op rfl rfl rfl (grow_move rfl ?_)
                    exact (hf.same 12 (by decide)).trans rfl
                  · cases ho
                    refine grow_op rfl rfl rfl ?_
                    have e0 : a'.tmps.getD 77 undef = .int .i64 0 := hd 0 (by kernel_rfl)
                    refine grow_value (v := .bool true) (w' := w') ?_ rfl (Below.refl _ _)
                    simp only [execOp, Act.eval, e0]
                    go_simp
                  · cases ho
                    refine grow_op rfl rfl rfl (grow_move rfl ?_)
                    exact hd 1 (by kernel_rfl)
                  · cases ho
                    have hg : a'.tmps.getD 79 undef = .bool true := hd 2 (by kernel_rfl)
                    refine grow_op rfl (grow_wanted rfl rfl hg) rfl (grow_move rfl ?_)
                    exact (hf.same 11 (by decide)).trans rfl
                  · cases ho
                    have hg : a'.tmps.getD 79 undef = .bool true := hd 2 (by kernel_rfl)
                    refine grow_op rfl (grow_wanted rfl rfl hg) rfl ?_
                    exact grow_str rfl ⟨ab, cb, by rw [HBL.out]; exact hd 3 (by kernel_rfl), HRB.out.below hb⟩
                  · cases ho
                    have hg : a'.tmps.getD 79 undef = .bool true := hd 2 (by kernel_rfl)
                    refine grow_op rfl (grow_wanted rfl rfl hg) rfl (grow_move rfl ?_)
                    exact (hf.same 9 (by decide)).trans rfl
                  · cases ho
                    have hg : a'.tmps.getD 79 undef = .bool true := hd 2 (by kernel_rfl)
                    refine grow_op rfl (grow_wanted rfl rfl hg) rfl (grow_move rfl ?_)
                    exact (hf.same 3 (by decide)).trans rfl
                  · cases ho
                    have hg : a'.tmps.getD 79 undef = .bool true := hd 2 (by kernel_rfl)
                    refine grow_op rfl (grow_wanted rfl rfl hg) rfl ?_
                    have e5 : a'.tmps.getD 82 undef = .slice aa z ca := hd 5 (by kernel_rfl)
                    have e6 : a'.tmps.getD 83 undef = .int .i64 (f : Int) := hd 6 (by kernel_rfl)
                    have hs := HSL.out
                    refine grow_value (v := .slice a6 f c6) (w' := w') ?_ rfl (Below.refl _ _)
                    simp only [execOp, Act.eval, e5, e6, Option.map_some, Option.map_none]
                    go_simp
                  · cases ho
                    have hg : a'.tmps.getD 79 undef = .bool true := hd 2 (by kernel_rfl)
                    refine grow_op rfl (grow_wanted rfl rfl hg) rfl ?_
                    exact grow_str rfl ⟨a6, c6, by rw [HBL.out]; exact hd 7 (by kernel_rfl), HR6.out.below hb⟩
                  · cases ho
                    have hg : a'.tmps.getD 79 undef = .bool true := hd 2 (by kernel_rfl)
                    refine grow_op rfl (grow_wanted rfl rfl hg) rfl ?_
                    exact grow_eq_same rfl (hd 4 (by kernel_rfl)) (hd 8 (by kernel_rfl))
                  · cases ho
                    refine grow_op rfl rfl rfl (grow_pick (b := true) rfl (hd 2 (by kernel_rfl)) ?_)
                    exact hd 9 (by kernel_rfl)
                  · cases ho
                    refine grow_op rfl rfl rfl (grow_assign rfl ?_)
                    exact hd 10 (by kernel_rfl)
                  · simp at ho
                · intro a' w' hf hb hd
                  have h4' : a'.tmps.getD 8 undef = .bool true := hd 11 (by decide)
                  have hdf : a'.defers = [] := hf.defers
                  have HBx := Lib.hid (HB4.out.trans (hb.mono HB4.out.size))
                  have H4 := Lib.hid h4'
                  clear h4' hd hf hb HRB HR6 HSL HBL HB4
                  go_wp2_with fail
                  refine bodyPost_ret (results_tmp rfl _ _ _) hdf ?_
                  exact ⟨by rw [H4.out], HBx.out⟩
              · have h6' : (z : Int) < y := by omega
                go_wp2_with fail
                go_ret
                exact ⟨rfl, HB3.out⟩
            · go_wp2_with fail
              go_ret
              exact ⟨rfl, HB3.out⟩
    · have h2I : (100 : Int) < (m.length : Int) := by omega
      go_wp2_with fail
      go_ret
      exact ⟨rfl, HB1.out⟩
  · have h1I : (100 : Int) < (k.length : Int) := by omega
    go_wp2_with fail
    go_ret
    exact ⟨rfl, HB1.out⟩
end Go.Proofs.Ytofoadpnfeamoaa
