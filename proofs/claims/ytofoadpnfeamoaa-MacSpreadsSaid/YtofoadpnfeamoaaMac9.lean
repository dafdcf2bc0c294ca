/- MacBlocks. -/
import Derived.Test.YtofoadpnfeamoaaMac8
import Derived.Test.YtofoadpnfeamoaaGrowT
set_option linter.unusedVariables false
namespace Go.Proofs.Ytofoadpnfeamoaa
open Go.RowKit

theorem exO_pre (k m : List UInt8) (j : Nat) : ∀ n, ∃ R, exO k m (j + n) = exO k m j ++ R
  | 0 => ⟨[], by simp⟩
  | n + 1 => by
    obtain ⟨R, h⟩ := exO_pre k m j n
    refine ⟨R ++ exT k m (j + n + 1), ?_⟩
    show exO k m (j + n) ++ exT k m (j + n + 1) = _
    rw [h, List.append_assoc]
theorem blocks_eq (k m : List UInt8) (z j q : Nat) (h : 32 * j < z) (hq : q = min 32 (z - 32 * j)) : ((expF k m z).drop (32 * j)).take q = (exT k m (j + 1)).take q := by
  obtain ⟨R, hR⟩ := exO_pre k m (j + 1) ((z + 31) / 32 - (j + 1))
  rw [show j + 1 + ((z + 31) / 32 - (j + 1)) = (z + 31) / 32 by omega] at hR
  have h1 : exO k m (j + 1) = exO k m j ++ exT k m (j + 1) := rfl
  unfold expF
  rw [hR, h1, List.append_assoc, List.drop_take, List.drop_left' (exO_len k m j), List.take_take, List.take_append_of_le_length (by rw [exT_len']; omega)]
  congr 1
  omega

set_option maxRecDepth 100000 in
set_option maxHeartbeats 4000000 in
theorem macBlocks_walk (a0 : Option Addr) (c0 : Nat) (k : List UInt8) (a1 : Option Addr) (c1 : Nat) (m : List UInt8) (x : Int) (w : World) (hr0 : Rd w a0 k) (hr1 : Rd w a1 m) (hx : (Lit.int .i64 x).wf = true) :
    Calls Try.prog 18 #[.slice a0 k.length c0, .slice a1 m.length c1, .int .i64 x] w fun e w' => e = .returned (.bool true) ∧ Below w.heap.size w w' := by
  clear hx
  go_enter Try.func18, Try.ntmps18
  go_wp2_with fail
  refine (anchor02_any w).mono ?_
  rintro e w1 ⟨rfl, hb1⟩
  have HR0 := Lib.hid (hr0.below hb1)
  have HR1 := Lib.hid (hr1.below hb1)
  have HB1 := Lib.hid hb1
  clear hr0 hr1 hb1
  by_cases h1 : k.length ≤ 100
  · have h1I : (k.length : Int) ≤ 100 := by omega
    by_cases h2 : m.length ≤ 100
    · have h2I : (m.length : Int) ≤ 100 := by omega
      by_cases h3 : 0 ≤ x
      · by_cases h4 : x ≤ 130
        · obtain ⟨z, rfl⟩ : ∃ z : Nat, x = (z : Int) := ⟨x.toNat, by omega⟩
          have hz : z ≤ 130 := by omega
          go_wp2_with fail
          refine (expand_any a0 a1 k m _ c0 _ c1 z z w1 HR0.out HR1.out rfl rfl rfl (by omega) (by omega) (by omega)).mono ?_
          rintro e w2 ⟨ao, co, rfl, ht2, hb2⟩
          obtain ⟨a', c', hsh, hre, hlc, _⟩ := ht2.shape
          simp at hsh
          obtain ⟨rfl, hzz, rfl⟩ := hsh
          clear hzz
          have HR0' := Lib.hid (HR0.out.below hb2)
          have HR1' := Lib.hid (HR1.out.below hb2)
          have HB2 := Lib.hid (HB1.out.trans (hb2.mono HB1.out.size))
          have HRE := Lib.hid hre
          have HLC := Lib.hid hlc
          clear hre hlc ht2 hb2 HR0 HR1 HB1
          go_wp2_with fail
          go_loopg [10, 9] ((z + 31) / 32) (fun gk y x wr => ∃ j ql cl : Nat, ∃ al : Option Addr, y = .int .i64 (j : Int) ∧ x = .slice al ql cl ∧ j + gk = (z + 31) / 32 ∧ Hid (ql = (exT k m j).length) ∧ Hid (Rd wr al (exT k m j)) ∧ Hid (Below w2.heap.size w2 wr))
          case atStart => exact ⟨0, 0, 0, none, rfl, rfl, by omega, Lib.hid rfl, Lib.hid (.inl rfl), Lib.hid (Below.refl _ _)⟩
          case round =>
            obtain ⟨j, ql, cl, al, rfl, rfl, hj, HL, HR, HB⟩ := hrel
            by_cases hlt : 32 * j < z
            · have hqI : 32 * (j : Int) < (z : Int) := by omega
              have hj7 : j ≤ 4 := by omega
              have hTl := exT_len k m j
              obtain ⟨T, hT⟩ : ∃ T, exT k m j = T := ⟨_, rfl⟩
              have hql := HL.out
              rw [hT] at hql hTl
              subst hql
              have hrl := HR.out
              rw [hT] at hrl
              obtain ⟨bt, hbt⟩ : ∃ x, UInt8.ofNat (j + 1) = x := ⟨_, rfl⟩
              have hbn : ((j : Int) + 1) = ((bt.toNat : Nat) : Int) := by rw [← hbt, UInt8.toNat_ofNat']; omega
              have hbl : bt.toNat < 256 := UInt8.toNat_lt bt
              have hnx : exT k m (j + 1) = mac k (T ++ m ++ [bt]) := by unfold exT; rw [hT, hbt]
              have hnb : Rd (wr.alloc (.cells #[.int .u8 (bt.toNat : Nat)] 5)) (some ⟨wr.heap.size, 0, none⟩) [bt] := Rd.of_lit (T := 5) (fr := (0, 0)) [bt] (by rw [heap_alloc_new]; rfl)
              have hrs := RdS.three (c := cl) (d := c1) (f := 1) (hrl.alloc (.cells #[.int .u8 (bt.toNat : Nat)] 5)) ((HR1'.out.below HB.out).alloc (.cells #[.int .u8 (bt.toNat : Nat)] 5)) hnb 22
              rw [show (wr.alloc (.cells #[.int .u8 (bt.toNat : Nat)] 5)).heap.size = wr.heap.size + 1 by simp] at hrs
              have hka := ((HR0'.out.below HB.out).alloc (.cells #[.int .u8 (bt.toNat : Nat)] 5)).alloc (.cells #[.slice al T.length cl, .slice a1 m.length c1, .slice (some ⟨wr.heap.size, 0, none⟩) [bt].length 1] 22)
              have hb2 := (HB.out.alloc HB.out.size (.cells #[.int .u8 (bt.toNat : Nat)] 5)).alloc (by have := HB.out.size; simp; omega) (.cells #[.slice al T.length cl, .slice a1 m.length c1, .slice (some ⟨wr.heap.size, 0, none⟩) 1 1] 22)
              have hc := code_any a0 c0 k.length k [T, m, [bt]] (some ⟨wr.heap.size + 1, 0, none⟩) 3 3 _ hka rfl hrs rfl (by omega) (by simp) (by simp; omega)
              rw [show ([T, m, [bt]] : List (List UInt8)).flatten = T ++ m ++ [bt] by simp, ← hnx] at hc
              have HC := Lib.hid hc
              have HB2' := Lib.hid hb2
              have HBN := Lib.hid hbn
              clear hnb hrs hka hb2 hc hrl hT hbt hnx HL HR
              go_wp2_with fail
              refine HC.out.mono ?_
              rintro e w3 ⟨v3, rfl, ht, hb3⟩
              have hb4 := HB2'.out.trans (hb3.mono HB2'.out.size)
              obtain ⟨al, cl, rfl, hr2, hlc2, _⟩ := ht.shape
              have hl32 := exT_len' k m j
              have hbe := blocks_eq k m z j _ hlt rfl
              have hfl := expF_len k m z
              obtain ⟨L, hL⟩ : ∃ L, exT k m (j + 1) = L := ⟨_, rfl⟩
              obtain ⟨E, hE⟩ : ∃ E, expF k m z = E := ⟨_, rfl⟩
              have hre := HRE.out
              have hlc := HLC.out
              rw [hL] at hr2 hl32 hbe hlc2 ⊢
              rw [hE] at hbe hfl hre hlc
              obtain ⟨q, hq⟩ : ∃ q, min 32 (z - 32 * j) = q := ⟨_, rfl⟩
              rw [hq] at hbe
              obtain ⟨D, hD⟩ : ∃ D, L.take q = D := ⟨_, rfl⟩
              rw [hD] at hbe
              have hDq : D.length = q := by rw [← hD, List.length_take]; omega
              obtain ⟨hi, hhi⟩ : ∃ hi, 32 * j + q = hi := ⟨_, rfl⟩
              have hm1 : (if (z : Int) < 32 * (j : Int) + 32 then (z : Int) else 32 * (j : Int) + 32) = ((hi : Nat) : Int) := by split <;> omega
              have hm2 : (if (z : Int) - 32 * (j : Int) < 32 then (z : Int) - 32 * (j : Int) else 32) = ((D.length : Nat) : Int) := by split <;> omega
              obtain ⟨a5, c5, hs5, hrd5⟩ := slice_lh ao E co (32 * j) hi D.length (32 * (j : Int)) (hi : Nat) (by omega) rfl hlc (by omega) (by omega) (by omega)
              have hr5 := hrd5 w2 hre
              rw [hDq, hbe] at hr5
              rw [hfl] at hs5
              obtain ⟨a6, c6, hs6, hrd6⟩ := slice_h al L cl D.length (D.length : Nat) rfl hlc2 (by omega)
              have hr6 := hrd6 w3 hr2
              rw [hDq, hD] at hr6
              have HMIN1 := Lib.hid hm1
              have HMIN2 := Lib.hid hm2
              have HSL1 := Lib.hid hs5
              have HSL2 := Lib.hid hs6
              have HR5 := Lib.hid (hr5.below hb4)
              have HR6 := Lib.hid hr6
              have HB4 := Lib.hid hb4
              have HR2 := Lib.hid hr2
              have HLL := Lib.hid hL
              clear ht hb3 hb4 hr2 hlc2 hl32 hbe hfl hL hE hre hlc hq hD hDq hhi hm1 hm2 hs5 hrd5 hr5 hs6 hrd6 hr6 HC HB2' hbn
              go_upto_region 13 with (fail)
              refine wp_region_grow (by kernel_rfl) (by kernel_rfl) [59, 60, 61, 62, 63, 64, 65, 66, 67, 68, 69, 70, 71, 72, 73, 74, 75, 76, 77] rfl (by decide) (by kernel_rfl) (fun i => [VIs (.slice ao z co), VIs (.int .i64 (j : Int)), VIs (.int .i64 (32 * (j : Int))), VIs (.int .i64 (j : Int)), VIs (.int .i64 (32 * (j : Int))), VIs (.int .i64 (32 * (j : Int) + 32)), VIs (.int .i64 (z : Int)), VIs (.int .i64 (hi : Nat)), VIs (.slice a5 D.length c5), VStr D, VIs (.slice al L.length cl), VIs (.int .i64 (z : Int)), VIs (.int .i64 (j : Int)), VIs (.int .i64 (32 * (j : Int))), VIs (.int .i64 ((z : Int) - 32 * (j : Int))), VIs (.int .i64 (D.length : Nat)), VIs (.slice a6 D.length c6), VStr D, VIs (.bool false)].getD i fun _ _ => True) (stab_list _ ?_) ?_ ?_
              · intro V hV
                simp only [List.mem_cons, List.mem_nil_iff, or_false] at hV
                rcases hV with rfl | rfl | rfl | rfl | rfl | rfl | rfl | rfl | rfl | rfl | rfl | rfl | rfl | rfl | rfl | rfl | rfl | rfl | rfl <;> first | exact VIs.stab _ | exact VBytes.stab _ | exact VStr.stab _ | exact VParts.stab _ | exact VRow.stab _ | exact VRow8.stab _ _
              · intro i o ho a' w' hf hb hd
                rcases i with _ | _ | _ | _ | _ | _ | _ | _ | _ | _ | _ | _ | _ | _ | _ | _ | _ | _ | _ | i
                · cases ho
                  refine grow_op rfl rfl rfl (grow_move rfl ?_)
                  exact (hf.same 7 (by decide)).trans rfl
                · cases ho
                  refine grow_op rfl rfl rfl (grow_move rfl ?_)
                  exact (hf.same 10 (by decide)).trans rfl
                · cases ho
                  refine grow_op rfl rfl rfl ?_
                  have e1 : a'.tmps.getD 60 undef = .int .i64 (j : Int) := hd 1 (by kernel_rfl)
                  refine grow_value (v := .int .i64 (32 * (j : Int))) (w' := w') ?_ rfl (Below.refl _ _)
                  simp only [execOp, Act.eval, e1]
                  go_simp
                  exact IntWalk.i64_in _ (by omega)
                · cases ho
                  refine grow_op rfl rfl rfl (grow_move rfl ?_)
                  exact (hf.same 10 (by decide)).trans rfl
                · cases ho
                  refine grow_op rfl rfl rfl ?_
                  have e3 : a'.tmps.getD 62 undef = .int .i64 (j : Int) := hd 3 (by kernel_rfl)
                  refine grow_value (v := .int .i64 (32 * (j : Int))) (w' := w') ?_ rfl (Below.refl _ _)
                  simp only [execOp, Act.eval, e3]
                  go_simp
                  exact IntWalk.i64_in _ (by omega)
                · cases ho
                  refine grow_op rfl rfl rfl ?_
                  have e4 : a'.tmps.getD 63 undef = .int .i64 (32 * (j : Int)) := hd 4 (by kernel_rfl)
                  refine grow_value (v := .int .i64 (32 * (j : Int) + 32)) (w' := w') ?_ rfl (Below.refl _ _)
                  simp only [execOp, Act.eval, e4]
                  go_simp
                  exact IntWalk.i64_in _ (by omega)
                · cases ho
                  refine grow_op rfl rfl rfl (grow_move rfl ?_)
                  exact (hf.same 2 (by decide)).trans rfl
                · cases ho
                  refine grow_op rfl rfl rfl ?_
                  have e5 : a'.tmps.getD 64 undef = .int .i64 (32 * (j : Int) + 32) := hd 5 (by kernel_rfl)
                  have e6 : a'.tmps.getD 65 undef = .int .i64 (z : Int) := hd 6 (by kernel_rfl)
                  have hmin := HMIN1.out
                  refine grow_value (v := .int .i64 (hi : Nat)) (w' := w') ?_ rfl (Below.refl _ _)
                  simp only [execOp]
                  go_simp
                  try rw [hmin]
                · cases ho
                  refine grow_op rfl rfl rfl ?_
                  have e0 : a'.tmps.getD 59 undef = .slice ao z co := hd 0 (by kernel_rfl)
                  have e2 : a'.tmps.getD 61 undef = .int .i64 (32 * (j : Int)) := hd 2 (by kernel_rfl)
                  have e7 : a'.tmps.getD 66 undef = .int .i64 (hi : Nat) := hd 7 (by kernel_rfl)
                  have hs := HSL1.out
                  refine grow_value (v := .slice a5 D.length c5) (w' := w') ?_ rfl (Below.refl _ _)
                  simp only [execOp, Act.eval, e0, e2, e7, Option.map_some, Option.map_none]
                  go_simp
                · cases ho
                  refine grow_op rfl rfl rfl ?_
                  exact grow_str rfl ⟨_, _, hd 8 (by kernel_rfl), HR5.out.below hb⟩
                · cases ho
                  refine grow_op rfl rfl rfl (grow_move rfl ?_)
                  exact (hf.same 9 (by decide)).trans rfl
                · cases ho
                  refine grow_op rfl rfl rfl (grow_move rfl ?_)
                  exact (hf.same 2 (by decide)).trans rfl
                · cases ho
                  refine grow_op rfl rfl rfl (grow_move rfl ?_)
                  exact (hf.same 10 (by decide)).trans rfl
                · cases ho
                  refine grow_op rfl rfl rfl ?_
                  have e12 : a'.tmps.getD 71 undef = .int .i64 (j : Int) := hd 12 (by kernel_rfl)
                  refine grow_value (v := .int .i64 (32 * (j : Int))) (w' := w') ?_ rfl (Below.refl _ _)
                  simp only [execOp, Act.eval, e12]
                  go_simp
                  exact IntWalk.i64_in _ (by omega)
                · cases ho
                  refine grow_op rfl rfl rfl ?_
                  have e11 : a'.tmps.getD 70 undef = .int .i64 (z : Int) := hd 11 (by kernel_rfl)
                  have e13 : a'.tmps.getD 72 undef = .int .i64 (32 * (j : Int)) := hd 13 (by kernel_rfl)
                  refine grow_value (v := .int .i64 ((z : Int) - 32 * (j : Int))) (w' := w') ?_ rfl (Below.refl _ _)
                  simp only [execOp, Act.eval, e11, e13]
                  go_simp
                  exact IntWalk.i64_in _ (by omega)
                · cases ho
                  refine grow_op rfl rfl rfl ?_
                  have e14 : a'.tmps.getD 73 undef = .int .i64 ((z : Int) - 32 * (j : Int)) := hd 14 (by kernel_rfl)
                  have hmin := HMIN2.out
                  refine grow_value (v := .int .i64 (D.length : Nat)) (w' := w') ?_ rfl (Below.refl _ _)
                  simp only [execOp]
                  go_simp
                  try rw [hmin]
                · cases ho
                  refine grow_op rfl rfl rfl ?_
                  have e10 : a'.tmps.getD 69 undef = .slice al L.length cl := hd 10 (by kernel_rfl)
                  have e15 : a'.tmps.getD 74 undef = .int .i64 (D.length : Nat) := hd 15 (by kernel_rfl)
                  have hs := HSL2.out
                  refine grow_value (v := .slice a6 D.length c6) (w' := w') ?_ rfl (Below.refl _ _)
                  simp only [execOp, Act.eval, e10, e15, Option.map_some, Option.map_none]
                  go_simp
                · cases ho
                  refine grow_op rfl rfl rfl ?_
                  exact grow_str rfl ⟨_, _, hd 16 (by kernel_rfl), HR6.out.below hb⟩
                · cases ho
                  refine grow_op rfl rfl rfl ?_
                  exact grow_ne_same rfl (hd 9 (by kernel_rfl)) (hd 17 (by kernel_rfl))
                · simp at ho
              · intro a' w' hf hb hd
                have q0 : a'.tmps.getD 59 undef = .slice ao z co := hd 0 (by decide)
                have q1 : a'.tmps.getD 60 undef = .int .i64 (j : Int) := hd 1 (by decide)
                have q2 : a'.tmps.getD 61 undef = .int .i64 (32 * (j : Int)) := hd 2 (by decide)
                have q3 : a'.tmps.getD 62 undef = .int .i64 (j : Int) := hd 3 (by decide)
                have q4 : a'.tmps.getD 63 undef = .int .i64 (32 * (j : Int)) := hd 4 (by decide)
                have q5 : a'.tmps.getD 64 undef = .int .i64 (32 * (j : Int) + 32) := hd 5 (by decide)
                have q6 : a'.tmps.getD 65 undef = .int .i64 (z : Int) := hd 6 (by decide)
                have q7 : a'.tmps.getD 66 undef = .int .i64 (hi : Nat) := hd 7 (by decide)
                have q8 : a'.tmps.getD 67 undef = .slice a5 D.length c5 := hd 8 (by decide)
                have q9 : a'.tmps.getD 68 undef = .string ⟨D.toArray⟩ := hd 9 (by decide)
                have q10 : a'.tmps.getD 69 undef = .slice al L.length cl := hd 10 (by decide)
                have q11 : a'.tmps.getD 70 undef = .int .i64 (z : Int) := hd 11 (by decide)
                have q12 : a'.tmps.getD 71 undef = .int .i64 (j : Int) := hd 12 (by decide)
                have q13 : a'.tmps.getD 72 undef = .int .i64 (32 * (j : Int)) := hd 13 (by decide)
                have q14 : a'.tmps.getD 73 undef = .int .i64 ((z : Int) - 32 * (j : Int)) := hd 14 (by decide)
                have q15 : a'.tmps.getD 74 undef = .int .i64 (D.length : Nat) := hd 15 (by decide)
                have q16 : a'.tmps.getD 75 undef = .slice a6 D.length c6 := hd 16 (by decide)
                have q17 : a'.tmps.getD 76 undef = .string ⟨D.toArray⟩ := hd 17 (by decide)
                have q18 : a'.tmps.getD 77 undef = .bool false := hd 18 (by decide)
                obtain rfl := hf.eq [(.slice ao z co : Value), (.int .i64 (j : Int) : Value), (.int .i64 (32 * (j : Int)) : Value), (.int .i64 (j : Int) : Value), (.int .i64 (32 * (j : Int)) : Value), (.int .i64 (32 * (j : Int) + 32) : Value), (.int .i64 (z : Int) : Value), (.int .i64 (hi : Nat) : Value), (.slice a5 D.length c5 : Value), (.string ⟨D.toArray⟩ : Value), (.slice al L.length cl : Value), (.int .i64 (z : Int) : Value), (.int .i64 (j : Int) : Value), (.int .i64 (32 * (j : Int)) : Value), (.int .i64 ((z : Int) - 32 * (j : Int)) : Value), (.int .i64 (D.length : Nat) : Value), (.slice a6 D.length c6 : Value), (.string ⟨D.toArray⟩ : Value), (.bool false : Value)] (fun j hj => match j, hj with
                  | 0, _ => q0
                  | 1, _ => q1
                  | 2, _ => q2
                  | 3, _ => q3
                  | 4, _ => q4
                  | 5, _ => q5
                  | 6, _ => q6
                  | 7, _ => q7
                  | 8, _ => q8
                  | 9, _ => q9
                  | 10, _ => q10
                  | 11, _ => q11
                  | 12, _ => q12
                  | 13, _ => q13
                  | 14, _ => q14
                  | 15, _ => q15
                  | 16, _ => q16
                  | 17, _ => q17
                  | 18, _ => q18
                  | k + 19, h => absurd h (by simp)) (by decide) (by kernel_rfl) rfl
                simp only [List.zip_cons_cons, List.zip_nil_right, List.foldl_cons, List.foldl_nil, Act.put, List.setIfInBounds_toArray, List.set_cons_succ, List.set_cons_zero]
                have HB5 := Lib.hid (HB4.out.trans (hb.mono HB4.out.size))
                have HR7 := Lib.hid (HR2.out.below hb)
                obtain ⟨ss, hss⟩ : ∃ x : ByteArray, (⟨D.toArray⟩ : ByteArray) = x := ⟨_, rfl⟩
                rw [hss]
                clear hd hf hb q0 q1 q2 q3 q4 q5 q6 q7 q8 q9 q10 q11 q12 q13 q14 q15 q16 q17 q18 hss HB4 HR2 HR5 HR6 HSL1 HSL2 HMIN1 HMIN2
                go_wp2_with fail
                go_roundg (gk - 1)
                case measure => omega
                case rel => exact ⟨j + 1, L.length, cl, al, by first | rfl | (congr 1), rfl, by omega, Lib.hid (by rw [HLL.out]), Lib.hid (by rw [HLL.out]; exact HR7.out), HB5⟩
            · have hqI : ¬ 32 * (j : Int) < (z : Int) := by omega
              go_wp2_with fail
              refine bodyPost_ret (results_tmp rfl _ _ _) rfl ?_
              exact ⟨rfl, HB2.out.trans (HB.out.mono HB2.out.size)⟩
        · have h4I : (130 : Int) < x := by omega
          go_wp2_with fail
          go_ret
          exact ⟨rfl, HB1.out⟩
      · go_wp2_with fail
        go_ret
        exact ⟨rfl, HB1.out⟩
    · have h2I : (100 : Int) < (m.length : Int) := by omega
      go_wp2_with fail
      go_ret
      exact ⟨rfl, HB1.out⟩
  · have h1I : (100 : Int) < (k.length : Int) := by omega
    go_wp2_with fail
    go_ret
    exact ⟨rfl, HB1.out⟩
end Go.Proofs.Ytofoadpnfeamoaa
