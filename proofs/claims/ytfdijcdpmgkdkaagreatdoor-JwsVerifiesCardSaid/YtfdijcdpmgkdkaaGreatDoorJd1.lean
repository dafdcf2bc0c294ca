/- Merged: JwD. -/
import Derived.Test.YtfdijcdpmgkdkaaGreatDoorJm1
import Derived.Test.YtfdijcdpmgkdkaaGreatDoorJm2
import Derived.Test.YtfdijcdpmgkdkaaGreatDoorJm3
import Derived.Test.YtfdijcdpmgkdkaaGreatDoorJm4
import Derived.Test.YtfdijcdpmgkdkaaGreatDoorJm5
import Derived.Test.YtfdijcdpmgkdkaaGreatDoorJm6
import Derived.Test.YtfdijcdpmgkdkaaGreatDoorJm7
import Derived.Test.YtfdijcdpmgkdkaaGreatDoorJm8
import Derived.Test.YtfdijcdpmgkdkaaGreatDoorJm9
set_option linter.unusedVariables false
namespace Go.Proofs.YtfdijcdpmgkdkaaGreatDoor
open Go.RowKit

theorem ent_jtag : ∀ args w, (callFunc 40 args).run Tryz.prog w = .ok (.enter 40 args) w := run_enters Tryz.func40 (by kernel_rfl) rfl
set_option maxRecDepth 100000 in
set_option maxHeartbeats 32000000 in
theorem jwsVerifies_walk (s : ByteArray) (a1 : Option Addr) (c1 : Nat) (key : List UInt8) (w : World) (hs : s.size ≤ maxLen) (hr1 : Rd w a1 key) (hm : ∃ m, w.cell? ⟨3, 0, none⟩ = some (.int .i64 m)) :
    Calls Tryz.prog 9 #[.string s, .slice a1 key.length c1] w fun e w' => e = .returned (.bool true) ∧ Below w.heap.size w w' := by
  obtain ⟨m, hm⟩ := hm
  obtain ⟨t, rfl⟩ : ∃ t : List UInt8, s = ⟨t.toArray⟩ := ⟨s.data.toList, by simp⟩
  have hml := World.block_lt_of_cell? _ _ hm
  clear hs
  go_enter Tryz.func9, Tryz.ntmps9
  go_wp2_with fail
  refine (anchor11_any m w hm).mono ?_
  rintro e w1 ⟨rfl, hb1⟩
  have HB1 := Lib.hid hb1
  have HK1 := Lib.hid (hr1.below hb1)
  have HM1 := Lib.hid ((hb1.cell hml).trans hm)
  clear hb1 hr1 hm
  by_cases l1 : t.length ≤ 2000
  case neg =>
    have j1 : (2000 : Int) < (t.length : Int) := by omega
    go_wp2_with fail
    refine bodyPost_ret (results_tmp rfl _ _ _) rfl ?_
    exact ⟨rfl, HB1.out⟩
  have j1 : ¬ (2000 : Int) < (t.length : Int) := by omega
  by_cases l2 : key.length ≤ 200
  case neg =>
    have j2 : (200 : Int) < (key.length : Int) := by omega
    go_wp2_with fail
    refine bodyPost_ret (results_tmp rfl _ _ _) rfl ?_
    exact ⟨rfl, HB1.out⟩
  have j2 : ¬ (200 : Int) < (key.length : Int) := by omega
  have HPA := Lib.hid (jwsParse_any t m w1 HM1.out (by omega))
  have HVE := Lib.hid (fun w' hb => jwsVerify_any t key a1 c1 m w' (((hb : Below w1.heap.size w1 w').cell (World.block_lt_of_cell? _ _ HM1.out)).trans HM1.out) (by omega) (HK1.out.below hb) (by omega))
  have HV0 := Lib.hid (@ver_no t key)
  have HV1 := Lib.hid (@ver_short t key)
  have HV2 := Lib.hid (@ver_tag t key)
  have HV3 := Lib.hid (@ver_yes t key)
  obtain ⟨hsl, hgl⟩ := parts_sig_len t
  generalize partsJ t = J at *
  obtain ⟨⟨K, T, P, G, A⟩, E⟩ := J
  change G.length ≤ 100000 at hsl
  change A.length ≤ 32 at hgl
  generalize verifyJ t key = Q at *
  obtain ⟨⟨K', T', P', G', A'⟩, F⟩ := Q
  go_wp2_with fail
  refine HPA.out.mono ?_
  rintro e w2 ⟨hb2, v, rfl, pa, pc, ga, gc, rfl, hr1, hr2⟩
  have HB2 := Lib.hid hb2
  have HP2 : Hid (Rd w2 pa P) := Lib.hid hr1
  have HA2 : Hid (Rd w2 ga A) := Lib.hid hr2
  clear hb2 hr1 hr2 HPA
  go_upto_region 6 with (fail)
  generalize hw3 : w2.alloc _ = w3
  obtain ⟨pb, hpb⟩ : ∃ pb, w2.heap.size = pb := ⟨_, rfl⟩
  have hb3 : Below w2.heap.size w2 w3 := by rw [← hw3]; exact (Below.refl _ _).alloc (Nat.le_refl _) _
  have hx3 : w3.heap[pb]? = some (.cells #[.string ⟨K.toArray⟩, .string ⟨T.toArray⟩, .slice pa P.length pc, .string ⟨G.toArray⟩, .slice ga A.length gc] 66 (0, 0)) := by rw [← hw3, ← hpb]; exact heap_alloc_new _ _
  have HB3 := Lib.hid (HB2.out.trans (hb3.mono HB2.out.size))
  have HP3 := Lib.hid (HP2.out.below hb3)
  have HA3 := Lib.hid (HA2.out.below hb3)
  have HX3 := Lib.hid hx3
  have hpl : pb < w3.heap.size := (Array.getElem?_eq_some_iff.1 hx3).1
  rw [hpb]
  clear hw3 hb3 hx3 HB2 HP2 HA2
  go_wp2_with fail
  refine (HVE.out w3 HB3.out).mono ?_
  rintro e w4 ⟨hb4, v, rfl, pa', pc', ga', gc', rfl, hr1, hr2⟩
  have HB4 := Lib.hid (HB3.out.trans (hb4.mono HB3.out.size))
  have HP4 := Lib.hid (HP3.out.below hb4)
  have HA4 := Lib.hid (HA3.out.below hb4)
  have HX4 := Lib.hid ((hb4.block _ hpl).trans HX3.out)
  have hpl4 : pb < w4.heap.size := Nat.lt_of_lt_of_le hpl hb4.size
  have HQ4 : Hid (Rd w4 pa' P') := Lib.hid hr1
  clear hb4 hr1 hr2 HVE HB3 HP3 HA3 HX3 hpl
  go_upto_region 7 with (fail)
  generalize hw5 : w4.alloc _ = w5
  obtain ⟨qb, hqb⟩ : ∃ qb, w4.heap.size = qb := ⟨_, rfl⟩
  have hb5 : Below w4.heap.size w4 w5 := by rw [← hw5]; exact (Below.refl _ _).alloc (Nat.le_refl _) _
  have hy5 : w5.heap[qb]? = some (.cells #[.string ⟨K'.toArray⟩, .string ⟨T'.toArray⟩, .slice pa' P'.length pc', .string ⟨G'.toArray⟩, .slice ga' A'.length gc'] 66 (0, 0)) := by rw [← hw5, ← hqb]; exact heap_alloc_new _ _
  have HB5 := Lib.hid (HB4.out.trans (hb5.mono HB4.out.size))
  have HP5 := Lib.hid (HP4.out.below hb5)
  have HA5 := Lib.hid (HA4.out.below hb5)
  have HQ5 := Lib.hid (HQ4.out.below hb5)
  have HX5 := Lib.hid ((hb5.block _ hpl4).trans HX4.out)
  have HY5 := Lib.hid hy5
  have HK5 := Lib.hid (HK1.out.below HB5.out)
  have HBW := Lib.hid (HB1.out.trans (HB5.out.mono HB1.out.size))
  have hpl5 : pb < w5.heap.size := Nat.lt_of_lt_of_le hpl4 hb5.size
  have hql : qb < w5.heap.size := (Array.getElem?_eq_some_iff.1 hy5).1
  rw [hqb]
  clear hw5 hb5 hy5 HB4 HP4 HA4 HQ4 HX4 hpl4 HB5 HB1 HK1 HM1
  obtain ⟨x0, x1, x2, x3, x4⟩ := five_at HX5.out (Below.refl w5.heap.size w5) hpl5
  obtain ⟨y0, y1, y2, y3, y4⟩ := five_at HY5.out (Below.refl w5.heap.size w5) hql
  by_cases hE : E = 0
  case neg =>
    have hEB : (E != 0) = true := by simp [hE]
    have h := HV0.out hE
    simp only [Prod.mk.injEq, JP.no, JP.mk.injEq] at h
    obtain ⟨⟨rfl, rfl, rfl, rfl, rfl⟩, rfl⟩ := h
    go_wp2_with fail
    refine bodyPost_ret (results_tmp rfl _ _ _) rfl ?_
    exact ⟨rfl, HBW.out⟩
  subst hE
  by_cases hk16 : key.length < 16
  · have h := HV1.out rfl hk16
    simp only [Prod.mk.injEq, JP.no, JP.mk.injEq] at h
    obtain ⟨⟨rfl, rfl, rfl, rfl, rfl⟩, rfl⟩ := h
    have hI : (key.length : Int) < 16 := by omega
    go_wp2_with fail
    refine bodyPost_ret (results_tmp rfl _ _ _) rfl ?_
    exact ⟨rfl, HBW.out⟩
  have hI : ¬ (key.length : Int) < 16 := by omega
  have HTG := Lib.hid (fun w' hb => jreftag_any G key a1 c1 w' (HK5.out.below hb) (by omega) (by omega))
  have HV2' := Lib.hid (HV2.out rfl hk16)
  have HV3' := Lib.hid (HV3.out rfl hk16)
  clear HV0 HV1 HV2 HV3 hk16 x0 x1 x2 x3 x4 y0 y1 y2 y3 y4
  generalize mac key G = M at *
  by_cases hMA : (A == M) = true
  case neg =>
    have hMA : (A == M) = false := by simpa using hMA
    have h := HV2'.out hMA
    simp only [Prod.mk.injEq, JP.no, JP.mk.injEq] at h
    obtain ⟨⟨rfl, rfl, rfl, rfl, rfl⟩, rfl⟩ := h
    have hMB : (M == A) = false := by
      rw [beq_eq_false_iff_ne] at hMA ⊢
      exact fun e => hMA e.symm
    clear hMA HV2' HV3'
    go_upto_region 11 with (fail)
    refine wp_region_grow (by kernel_rfl) (by kernel_rfl) [53, 54, 55, 56, 57, 58, 59, 60, 61, 52] rfl (by decide) (by kernel_rfl) (fun iX => [VIs (.pointer (some ⟨pb, 3, none⟩)), VIs (.string ⟨G.toArray⟩), VIs (.slice a1 key.length c1), VBytes M, VIs (.string ⟨M.toArray⟩), VIs (.pointer (some ⟨pb, 4, none⟩)), VIs (.slice ga A.length gc), VIs (.string ⟨A.toArray⟩), VIs (.bool true), VIs (.bool true)].getD iX fun _ _ => True) (stab_list _ ?_) ?_ ?_
    · skip
      intro V hV
      simp only [List.mem_cons, List.mem_nil_iff, or_false] at hV
      rcases hV with rfl | rfl | rfl | rfl | rfl | rfl | rfl | rfl | rfl | rfl <;> first | exact VIs.stab _ | exact VBytes.stab _ | exact VStr.stab _ | exact VParts.stab _ | exact VRow.stab _ | exact VRow8.stab _ _ | exact VRowIs.stab _ _ _
    · intro iX o ho a' w' hf hb hd
      rcases iX with _ | _ | _ | _ | _ | _ | _ | _ | _ | _ | iX
      · cases ho
        refine grow_op rfl rfl rfl ?_
        have f5 : a'.tmps.getD 5 undef = .pointer (some ⟨pb, 0, none⟩) := (hf.same 5 (by decide)).trans rfl
        refine grow_value (v := .pointer (some ⟨pb, 3, none⟩)) (w' := w') ?_ rfl (Below.refl _ _)
        simp only [execOp, Act.eval]
        go_simp
      · cases ho
        refine grow_op rfl rfl rfl ?_
        have e0 : a'.tmps.getD 53 undef = .pointer (some ⟨pb, 3, none⟩) := hd 0 (by kernel_rfl)
        obtain ⟨x0, x1, x2, x3, x4⟩ := five_at HX5.out hb hpl5
        refine grow_value (v := .string ⟨G.toArray⟩) (w' := w') ?_ rfl (Below.refl _ _)
        simp only [execOp, Act.eval, e0]
        go_simp
      · cases ho
        refine grow_op rfl rfl rfl (grow_move rfl ?_)
        exact (hf.same 1 (by decide)).trans rfl
      · cases ho
        refine grow_op rfl rfl rfl ?_
        have e1 : a'.tmps.getD 54 undef = .string ⟨G.toArray⟩ := hd 1 (by kernel_rfl)
        have e2 : a'.tmps.getD 55 undef = .slice a1 key.length c1 := hd 2 (by kernel_rfl)
        refine grow_call ent_jtag rfl ?_
        simp only [List.map_toArray, List.map_cons, List.map_nil, Act.eval, e1, e2]
        refine (HTG.out w' hb).mono ?_
        rintro e w'' ⟨⟨a, c, rfl, hr⟩, hb2⟩
        exact ⟨_, rfl, ⟨a, c, rfl, hr⟩, hb2⟩
      · cases ho
        refine grow_op rfl rfl rfl ?_
        have e : VBytes M (a'.tmps.getD 56 undef) w' := hd 3 (by kernel_rfl)
        obtain ⟨ad, cd, e1, hr1⟩ := e
        have hsx := str_of_rd hr1 M.length cd rfl
        refine grow_value (v := .string ⟨M.toArray⟩) (w' := w') ?_ rfl (Below.refl _ _)
        simp only [execOp, Act.eval, e1]
        go_simp
      · cases ho
        refine grow_op rfl rfl rfl ?_
        have f5 : a'.tmps.getD 5 undef = .pointer (some ⟨pb, 0, none⟩) := (hf.same 5 (by decide)).trans rfl
        refine grow_value (v := .pointer (some ⟨pb, 4, none⟩)) (w' := w') ?_ rfl (Below.refl _ _)
        simp only [execOp, Act.eval]
        go_simp
      · cases ho
        refine grow_op rfl rfl rfl ?_
        have e5 : a'.tmps.getD 58 undef = .pointer (some ⟨pb, 4, none⟩) := hd 5 (by kernel_rfl)
        obtain ⟨x0, x1, x2, x3, x4⟩ := five_at HX5.out hb hpl5
        refine grow_value (v := .slice ga A.length gc) (w' := w') ?_ rfl (Below.refl _ _)
        simp only [execOp, Act.eval, e5]
        go_simp
      · cases ho
        refine grow_op rfl rfl rfl ?_
        have e6 : a'.tmps.getD 59 undef = .slice ga A.length gc := hd 6 (by kernel_rfl)
        have x0 := str_of_rd (HA5.out.below hb) A.length gc rfl
        refine grow_value (v := .string ⟨A.toArray⟩) (w' := w') ?_ rfl (Below.refl _ _)
        simp only [execOp, Act.eval, e6]
        go_simp
      · cases ho
        refine grow_op rfl rfl rfl ?_
        have e4 : a'.tmps.getD 57 undef = .string ⟨M.toArray⟩ := hd 4 (by kernel_rfl)
        have e7 : a'.tmps.getD 60 undef = .string ⟨A.toArray⟩ := hd 7 (by kernel_rfl)
        refine grow_value (v := .bool true) (w' := w') ?_ rfl (Below.refl _ _)
        simp only [execOp, Act.eval, e4, e7]
        go_simp
      · cases ho
        refine grow_op rfl rfl rfl (grow_assign rfl ?_)
        exact hd 8 (by kernel_rfl)
      · simp at ho
    · intro a' w' hf hb hd
      obtain ⟨x56, z56, hv56, -⟩ := hd 3 (by decide)
      have hv57 := hd 4 (by decide)
      have hv52 := hd 9 (by decide)
      obtain rfl := hf.eq [Value.pointer (some ⟨pb, 3, none⟩), Value.string ⟨G.toArray⟩, Value.slice a1 key.length c1, Value.slice x56 M.length z56, Value.string ⟨M.toArray⟩, Value.pointer (some ⟨pb, 4, none⟩), Value.slice ga A.length gc, Value.string ⟨A.toArray⟩, Value.bool true, Value.bool true] (fun j hj => match j, hj with
        | 0, _ => hd 0 (by decide)
        | 1, _ => hd 1 (by decide)
        | 2, _ => hd 2 (by decide)
        | 3, _ => hv56
        | 4, _ => hv57
        | 5, _ => hd 5 (by decide)
        | 6, _ => hd 6 (by decide)
        | 7, _ => hd 7 (by decide)
        | 8, _ => hd 8 (by decide)
        | 9, _ => hv52
        | k + 10, h => absurd h (by simp)) (by decide) (by kernel_rfl) rfl
      simp only [List.zip_cons_cons, List.zip_nil_right, List.foldl_cons, List.foldl_nil, Act.put, List.setIfInBounds_toArray, List.set_cons_succ, List.set_cons_zero]
      obtain ⟨w6, rfl⟩ : ∃ x : World, x = w' := ⟨_, rfl⟩
      have HB6 := Lib.hid (HBW.out.trans (hb.mono HBW.out.size))
      obtain ⟨y0, y1, y2, y3, y4⟩ := five_at HY5.out hb hql
      clear hd hf hb hv56 hv57 hv52
      go_wp2_with fail
      refine bodyPost_ret (results_tmp rfl _ _ _) rfl ?_
      exact ⟨rfl, HB6.out⟩
  have h := HV3'.out hMA
  simp only [Prod.mk.injEq, JP.mk.injEq] at h
  obtain ⟨⟨rfl, rfl, rfl, rfl, rfl⟩, rfl⟩ := h
  have hMA : A' = M := by simpa using hMA
  subst hMA
  clear HV2' HV3'
  go_upto_region 11 with (fail)
  refine wp_region_grow (by kernel_rfl) (by kernel_rfl) [53, 54, 55, 56, 57, 58, 59, 60, 61, 52] rfl (by decide) (by kernel_rfl) (fun iX => [VIs (.pointer (some ⟨pb, 3, none⟩)), VIs (.string ⟨G'.toArray⟩), VIs (.slice a1 key.length c1), VBytes A', VIs (.string ⟨A'.toArray⟩), VIs (.pointer (some ⟨pb, 4, none⟩)), VIs (.slice ga A'.length gc), VIs (.string ⟨A'.toArray⟩), VIs (.bool false), VIs (.bool false)].getD iX fun _ _ => True) (stab_list _ ?_) ?_ ?_
  · skip
    intro V hV
    simp only [List.mem_cons, List.mem_nil_iff, or_false] at hV
    rcases hV with rfl | rfl | rfl | rfl | rfl | rfl | rfl | rfl | rfl | rfl <;> first | exact VIs.stab _ | exact VBytes.stab _ | exact VStr.stab _ | exact VParts.stab _ | exact VRow.stab _ | exact VRow8.stab _ _ | exact VRowIs.stab _ _ _
  · intro iX o ho a' w' hf hb hd
    rcases iX with _ | _ | _ | _ | _ | _ | _ | _ | _ | _ | iX
    · cases ho
      refine grow_op rfl rfl rfl ?_
      have f5 : a'.tmps.getD 5 undef = .pointer (some ⟨pb, 0, none⟩) := (hf.same 5 (by decide)).trans rfl
      refine grow_value (v := .pointer (some ⟨pb, 3, none⟩)) (w' := w') ?_ rfl (Below.refl _ _)
      simp only [execOp, Act.eval]
      go_simp
    · cases ho
      refine grow_op rfl rfl rfl ?_
      have e0 : a'.tmps.getD 53 undef = .pointer (some ⟨pb, 3, none⟩) := hd 0 (by kernel_rfl)
      obtain ⟨x0, x1, x2, x3, x4⟩ := five_at HX5.out hb hpl5
      refine grow_value (v := .string ⟨G'.toArray⟩) (w' := w') ?_ rfl (Below.refl _ _)
      simp only [execOp, Act.eval, e0]
      go_simp
    · cases ho
      refine grow_op rfl rfl rfl (grow_move rfl ?_)
      exact (hf.same 1 (by decide)).trans rfl
    · cases ho
      refine grow_op rfl rfl rfl ?_
      have e1 : a'.tmps.getD 54 undef = .string ⟨G'.toArray⟩ := hd 1 (by kernel_rfl)
      have e2 : a'.tmps.getD 55 undef = .slice a1 key.length c1 := hd 2 (by kernel_rfl)
      refine grow_call ent_jtag rfl ?_
      simp only [List.map_toArray, List.map_cons, List.map_nil, Act.eval, e1, e2]
      refine (HTG.out w' hb).mono ?_
      rintro e w'' ⟨⟨a, c, rfl, hr⟩, hb2⟩
      exact ⟨_, rfl, ⟨a, c, rfl, hr⟩, hb2⟩
    · cases ho
      refine grow_op rfl rfl rfl ?_
      have e : VBytes A' (a'.tmps.getD 56 undef) w' := hd 3 (by kernel_rfl)
      obtain ⟨ad, cd, e1, hr1⟩ := e
      have hsx := str_of_rd hr1 A'.length cd rfl
      refine grow_value (v := .string ⟨A'.toArray⟩) (w' := w') ?_ rfl (Below.refl _ _)
      simp only [execOp, Act.eval, e1]
      go_simp
    · cases ho
      refine grow_op rfl rfl rfl ?_
      have f5 : a'.tmps.getD 5 undef = .pointer (some ⟨pb, 0, none⟩) := (hf.same 5 (by decide)).trans rfl
      refine grow_value (v := .pointer (some ⟨pb, 4, none⟩)) (w' := w') ?_ rfl (Below.refl _ _)
      simp only [execOp, Act.eval]
      go_simp
    · cases ho
      refine grow_op rfl rfl rfl ?_
      have e5 : a'.tmps.getD 58 undef = .pointer (some ⟨pb, 4, none⟩) := hd 5 (by kernel_rfl)
      obtain ⟨x0, x1, x2, x3, x4⟩ := five_at HX5.out hb hpl5
      refine grow_value (v := .slice ga A'.length gc) (w' := w') ?_ rfl (Below.refl _ _)
      simp only [execOp, Act.eval, e5]
      go_simp
    · cases ho
      refine grow_op rfl rfl rfl ?_
      have e6 : a'.tmps.getD 59 undef = .slice ga A'.length gc := hd 6 (by kernel_rfl)
      have x0 := str_of_rd (HA5.out.below hb) A'.length gc rfl
      refine grow_value (v := .string ⟨A'.toArray⟩) (w' := w') ?_ rfl (Below.refl _ _)
      simp only [execOp, Act.eval, e6]
      go_simp
    · cases ho
      refine grow_op rfl rfl rfl ?_
      have e4 : a'.tmps.getD 57 undef = .string ⟨A'.toArray⟩ := hd 4 (by kernel_rfl)
      have e7 : a'.tmps.getD 60 undef = .string ⟨A'.toArray⟩ := hd 7 (by kernel_rfl)
      refine grow_value (v := .bool false) (w' := w') ?_ rfl (Below.refl _ _)
      simp only [execOp, Act.eval, e4, e7]
      go_simp
    · cases ho
      refine grow_op rfl rfl rfl (grow_assign rfl ?_)
      exact hd 8 (by kernel_rfl)
    · simp at ho
  · intro a' w' hf hb hd
    obtain ⟨x56, z56, hv56, -⟩ := hd 3 (by decide)
    have hv57 := hd 4 (by decide)
    have hv52 := hd 9 (by decide)
    obtain rfl := hf.eq [Value.pointer (some ⟨pb, 3, none⟩), Value.string ⟨G'.toArray⟩, Value.slice a1 key.length c1, Value.slice x56 A'.length z56, Value.string ⟨A'.toArray⟩, Value.pointer (some ⟨pb, 4, none⟩), Value.slice ga A'.length gc, Value.string ⟨A'.toArray⟩, Value.bool false, Value.bool false] (fun j hj => match j, hj with
      | 0, _ => hd 0 (by decide)
      | 1, _ => hd 1 (by decide)
      | 2, _ => hd 2 (by decide)
      | 3, _ => hv56
      | 4, _ => hv57
      | 5, _ => hd 5 (by decide)
      | 6, _ => hd 6 (by decide)
      | 7, _ => hd 7 (by decide)
      | 8, _ => hd 8 (by decide)
      | 9, _ => hv52
      | k + 10, h => absurd h (by simp)) (by decide) (by kernel_rfl) rfl
    simp only [List.zip_cons_cons, List.zip_nil_right, List.foldl_cons, List.foldl_nil, Act.put, List.setIfInBounds_toArray, List.set_cons_succ, List.set_cons_zero]
    obtain ⟨w6, rfl⟩ : ∃ x : World, x = w' := ⟨_, rfl⟩
    have HB6 := Lib.hid (HBW.out.trans (hb.mono HBW.out.size))
    have HX6 := Lib.hid ((hb.block _ hpl5).trans HX5.out)
    have HY6 := Lib.hid ((hb.block _ hql).trans HY5.out)
    have HP6 := Lib.hid (HP5.out.below hb)
    have HQ6 := Lib.hid (HQ5.out.below hb)
    have hpl6 : pb < w6.heap.size := Nat.lt_of_lt_of_le hpl5 hb.size
    have hql6 : qb < w6.heap.size := Nat.lt_of_lt_of_le hql hb.size
    clear hd hf hb hv56 hv57 hv52 HX5 HY5 HP5 HQ5 HA5 HBW HTG HK5
    obtain ⟨x0, x1, x2, x3, x4⟩ := five_at HX6.out (Below.refl w6.heap.size w6) hpl6
    obtain ⟨y0, y1, y2, y3, y4⟩ := five_at HY6.out (Below.refl w6.heap.size w6) hql6
    have s0 := str_of_rd HP6.out P'.length pc rfl
    have s1 := str_of_rd HQ6.out P'.length pc' rfl
    go_wp2_with fail
    refine bodyPost_ret (results_tmp rfl _ _ _) rfl ?_
    exact ⟨rfl, HB6.out⟩
end Go.Proofs.YtfdijcdpmgkdkaaGreatDoor
