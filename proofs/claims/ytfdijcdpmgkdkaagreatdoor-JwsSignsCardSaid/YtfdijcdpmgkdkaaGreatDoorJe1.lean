/- Merged: JwE. -/
import Derived.Test.YtfdijcdpmgkdkaaGreatDoorJm1
import Derived.Test.YtfdijcdpmgkdkaaGreatDoorJm2
import Derived.Test.YtfdijcdpmgkdkaaGreatDoorJm3
import Derived.Test.YtfdijcdpmgkdkaaGreatDoorJm4
import Derived.Test.YtfdijcdpmgkdkaaGreatDoorJm5
import Derived.Test.YtfdijcdpmgkdkaaGreatDoorJm6
import Derived.Test.YtfdijcdpmgkdkaaGreatDoorJm7
import Derived.Test.YtfdijcdpmgkdkaaGreatDoorJm8
import Derived.Test.YtfdijcdpmgkdkaaGreatDoorJm9
set_option linter.unusedVariables false
namespace Go.Proofs.YtfdijcdpmgkdkaaGreatDoor
open Go.RowKit

theorem sign_zero {kid typ p key : List UInt8} (h : (signL kid typ p key).2 = 0) : wordH kid = true ∧ wordH typ = true ∧ p.length ≤ 16384 ∧ ¬ key.length < 16 ∧ (signL kid typ p key).1 = tokenL kid typ p key := by
  unfold signL at h ⊢
  split at h
  · cases h
  next hw =>
  split at h
  · cases h
  next hp =>
  split at h
  · cases h
  next hk =>
  rw [if_neg hw, if_neg hp, if_neg hk]
  refine ⟨?_, ?_, by omega, hk, rfl⟩
  · cases h1 : wordH kid
    · exact absurd (.inl h1) hw
    · rfl
  · cases h1 : wordH typ
    · exact absurd (.inr h1) hw
    · rfl
set_option maxRecDepth 100000 in
set_option maxHeartbeats 64000000 in
theorem jwsSigns_walk (s0 s1 : ByteArray) (a0 : Option Addr) (c0 : Nat) (p : List UInt8) (a1 : Option Addr) (c1 : Nat) (key : List UInt8) (w : World) (hs0 : s0.size ≤ maxLen) (hs1 : s1.size ≤ maxLen) (hr0 : Rd w a0 p) (hr1 : Rd w a1 key) (hm : ∃ m, w.cell? ⟨3, 0, none⟩ = some (.int .i64 m)) :
    Calls Tryz.prog 7 #[.string s0, .string s1, .slice a0 p.length c0, .slice a1 key.length c1] w fun e w' => e = .returned (.bool true) ∧ Below w.heap.size w w' := by
  obtain ⟨m, hm⟩ := hm
  obtain ⟨kid, rfl⟩ : ∃ t : List UInt8, s0 = ⟨t.toArray⟩ := ⟨s0.data.toList, by simp⟩
  obtain ⟨typ, rfl⟩ : ∃ t : List UInt8, s1 = ⟨t.toArray⟩ := ⟨s1.data.toList, by simp⟩
  have hml := World.block_lt_of_cell? _ _ hm
  clear hs0 hs1
  go_enter Tryz.func7, Tryz.ntmps7
  go_wp2_with fail
  refine (anchor11_any m w hm).mono ?_
  rintro e w1 ⟨rfl, hb1⟩
  have HB1 := Lib.hid hb1
  have HP1 := Lib.hid (hr0.below hb1)
  have HK1 := Lib.hid (hr1.below hb1)
  have HM1 := Lib.hid ((hb1.cell hml).trans hm)
  clear hb1 hr0 hr1 hm
  by_cases l0 : 500 < p.length ∧ p.length < 16384
  · have j1 : (500 : Int) < (p.length : Int) := by omega
    have j2 : (p.length : Int) < 16384 := by omega
    go_wp2_with fail
    refine bodyPost_ret (results_tmp rfl _ _ _) rfl ?_
    exact ⟨rfl, HB1.out⟩
  have hq : (¬ (500 : Int) < (p.length : Int)) ∨ ((500 : Int) < (p.length : Int) ∧ ¬ (p.length : Int) < 16384) := by omega
  clear l0
  rcases hq with j1 | ⟨j1, j1'⟩
  all_goals
    by_cases l1 : p.length ≤ 17000
    case neg =>
      have j2 : (17000 : Int) < (p.length : Int) := by omega
      go_wp2_with fail
      all_goals (refine bodyPost_ret (results_tmp rfl _ _ _) rfl ?_)
      all_goals (exact ⟨rfl, HB1.out⟩)
    have j2 : ¬ (17000 : Int) < (p.length : Int) := by omega
    by_cases l2 : key.length ≤ 200
    case neg =>
      have j3 : (200 : Int) < (key.length : Int) := by omega
      go_wp2_with fail
      refine bodyPost_ret (results_tmp rfl _ _ _) rfl ?_
      exact ⟨rfl, HB1.out⟩
    have j3 : ¬ (200 : Int) < (key.length : Int) := by omega
    by_cases l3 : kid.length ≤ 100
    case neg =>
      have j4 : (100 : Int) < (kid.length : Int) := by omega
      go_wp2_with fail
      refine bodyPost_ret (results_tmp rfl _ _ _) rfl ?_
      exact ⟨rfl, HB1.out⟩
    have j4 : ¬ (100 : Int) < (kid.length : Int) := by omega
    by_cases l4 : typ.length ≤ 100
    case neg =>
      have j5 : (100 : Int) < (typ.length : Int) := by omega
      go_wp2_with fail
      refine bodyPost_ret (results_tmp rfl _ _ _) rfl ?_
      exact ⟨rfl, HB1.out⟩
    have j5 : ¬ (100 : Int) < (typ.length : Int) := by omega
    go_upto_region 6 with (fail)
    generalize hw2 : w1.alloc _ = w2
    obtain ⟨hd0, hhb⟩ : ∃ hd0, w1.heap.size = hd0 := ⟨_, rfl⟩
    have hb2 : Below w1.heap.size w1 w2 := by rw [← hw2]; exact (Below.refl _ _).alloc (Nat.le_refl _) _
    have hx2 : w2.heap[hd0]? = some (.cells #[.string ⟨kid.toArray⟩, .string ⟨typ.toArray⟩] 61 (0, 0)) := by rw [← hw2, ← hhb]; exact heap_alloc_new _ _
    have HB2 := Lib.hid (HB1.out.trans (hb2.mono HB1.out.size))
    have HP2 := Lib.hid (HP1.out.below hb2)
    have HK2 := Lib.hid (HK1.out.below hb2)
    have HM2 := Lib.hid ((hb2.cell (World.block_lt_of_cell? _ _ HM1.out)).trans HM1.out)
    have HX2 := Lib.hid hx2
    have hhl : hd0 < w2.heap.size := (Array.getElem?_eq_some_iff.1 hx2).1
    rw [hhb]
    obtain ⟨x0, x1⟩ := two_at hx2 (Below.refl w2.heap.size w2) hhl
    clear hw2 hb2 hx2 HP1 HK1 HM1
    have HSA := Lib.hid (sign_any kid typ p key a0 a1 c0 c1 w2 HP2.out HK2.out (by omega) (by omega) (by omega) (by omega))
    have HSB := Lib.hid (fun w' (hb : Below w2.heap.size w2 w') => jrefsign_any kid typ p key a0 a1 c0 c1 w' (by omega) (by omega) (HP2.out.below hb) (HK2.out.below hb) (by omega) (by omega))
    have HZ := Lib.hid (@sign_zero kid typ p key)
    have hsv : signV kid typ p key = .tuple #[.string ⟨(signL kid typ p key).1.toArray⟩, .int .i64 (signL kid typ p key).2] := rfl
    rw [hsv] at HSA HSB
    clear hsv
    generalize signL kid typ p key = S at *
    obtain ⟨T, E⟩ := S
    go_wp2_with fail
    refine HSA.out.mono ?_
    rintro e w3 ⟨rfl, hb3⟩
    have HB3 := Lib.hid hb3
    clear hb3 x0 x1 HSA
    go_wp2_with fail
    refine (HSB.out w3 HB3.out).mono ?_
    rintro e w4 ⟨rfl, hb4⟩
    have HB4 := Lib.hid (HB3.out.trans (hb4.mono HB3.out.size))
    clear hb4 HSB HB3
    by_cases hE : E = 0
    case neg =>
      have HE := Lib.hid hE
      have HBF := Lib.hid (HB2.out.trans (HB4.out.mono HB2.out.size))
      have hEB : (E != 0) = true := by simp [hE]
      clear HZ
      go_wp2_with fail
      refine bodyPost_ret (results_tmp rfl _ _ _) rfl ?_
      exact ⟨rfl, HBF.out⟩
    subst hE
    obtain ⟨wk, wt, hp16, hk16, hT⟩ := HZ.out rfl
    change T = tokenL kid typ p key at hT
    obtain ⟨hl1, hl2, hl3⟩ := token_len (key := key) wk wt hp16
    have hver := verify_token (key := key) wk wt hp16 hk16
    have hTK : tokenL kid typ p key = signedL kid typ p ++ 46 :: enc (mac key (signedL kid typ p)) := rfl
    rw [← hT] at hver hl2 hTK
    have HVF := Lib.hid (jwsVerify_any T key a1 c1 m w4 ((HB4.out.cell (World.block_lt_of_cell? _ _ HM2.out)).trans HM2.out) (by omega) (HK2.out.below HB4.out) (by omega))
    rw [hver] at HVF
    have hmlen := mac_len key (signedL kid typ p)
    generalize mac key (signedL kid typ p) = M at *
    generalize signedL kid typ p = G at *
    have HTK := Lib.hid hTK
    have HML := Lib.hid hmlen
    clear hmlen
    have HX4 := Lib.hid ((HB4.out.block _ hhl).trans HX2.out)
    have HP4 := Lib.hid (HP2.out.below HB4.out)
    have hhl4 : hd0 < w4.heap.size := Nat.lt_of_lt_of_le hhl HB4.out.size
    have HB5 := Lib.hid (HB2.out.trans (HB4.out.mono HB2.out.size))
    clear HZ hT hver hTK hl3 wk wt hp16 hk16 hhl HX2 HP2 HK2 HM2 HB2 HB4 HB1
    go_wp2_with fail
    refine HVF.out.mono ?_
    rintro e w5 ⟨hb5, v, rfl, pa, pc, ga, gc, rfl, hr1, hr2⟩
    have HP5 := Lib.hid (HP4.out.below hb5)
    have HB6 := Lib.hid (HB5.out.trans (hb5.mono HB5.out.size))
    have HX5 := Lib.hid ((hb5.block _ hhl4).trans HX4.out)
    have HQ5 : Hid (Rd w5 pa p) := Lib.hid hr1
    have HA5 : Hid (Rd w5 ga M) := Lib.hid hr2
    have hhl5 : hd0 < w5.heap.size := Nat.lt_of_lt_of_le hhl4 hb5.size
    clear hb5 hr1 hr2 HVF HX4 HP4 hhl4 HB5
    go_upto_region 13 with (fail)
    generalize hw6 : w5.alloc _ = w6
    obtain ⟨pb, hpb⟩ : ∃ pb, w5.heap.size = pb := ⟨_, rfl⟩
    have hb6 : Below w5.heap.size w5 w6 := by rw [← hw6]; exact (Below.refl _ _).alloc (Nat.le_refl _) _
    have hx6 : w6.heap[pb]? = some (.cells #[.string ⟨kid.toArray⟩, .string ⟨typ.toArray⟩, .slice pa p.length pc, .string ⟨G.toArray⟩, .slice ga M.length gc] 66 (0, 0)) := by rw [← hw6, ← hpb]; exact heap_alloc_new _ _
    have HB7 := Lib.hid (HB6.out.trans (hb6.mono HB6.out.size))
    have HP6 := Lib.hid (HP5.out.below hb6)
    have HQ6 := Lib.hid (HQ5.out.below hb6)
    have HA6 := Lib.hid (HA5.out.below hb6)
    have HX6 := Lib.hid ((hb6.block _ hhl5).trans HX5.out)
    have HY6 := Lib.hid hx6
    have hpl : pb < w6.heap.size := (Array.getElem?_eq_some_iff.1 hx6).1
    have hhl6 : hd0 < w6.heap.size := Nat.lt_of_lt_of_le hhl5 hb6.size
    rw [hpb]
    clear hw6 hb6 hx6 HB6 HP5 HQ5 HA5 HX5 hhl5
    obtain ⟨G1, hG1⟩ : ∃ G1, G ++ [46] = G1 := ⟨_, rfl⟩
    have hem := enc_len M
    obtain ⟨EM, hEM⟩ : ∃ EM, enc M = EM := ⟨_, rfl⟩
    have hlEM : EM.length ≤ 50 := by rw [← hEM, hem, HML.out]; decide
    have hlG1 : G1.length ≤ 24001 := by rw [← hG1]; simp; omega
    have HC1 : Hid ((⟨G.toArray⟩ : ByteArray) ++ ⟨#[46]⟩ = ⟨G1.toArray⟩) := Lib.hid (by rw [← hG1]; exact st_cat G [46])
    have HC2 : Hid ((⟨G1.toArray⟩ : ByteArray) ++ ⟨EM.toArray⟩ = ⟨T.toArray⟩) := Lib.hid (by
      rw [HTK.out, hEM, ← hG1]
      have := st_cat (G ++ [46]) EM
      simpa using this)
    have HEN := Lib.hid (fun w' (hb : Below w6.heap.size w6 w') => Encode_any ga M gc w' (HA6.out.below hb) (by have := HML.out; omega))
    rw [hEM] at HEN
    have HLN := Lib.hid (show G.length ≤ 24000 ∧ G1.length ≤ 24001 ∧ EM.length ≤ 50 from ⟨hl1, hlG1, hlEM⟩)
    clear hG1 hem hEM hlEM hlG1 HTK HA6
    refine wp_region_grow (by kernel_rfl) (by kernel_rfl) [80, 81, 82, 83, 84, 85, 86, 87, 88, 89, 90, 91, 92, 93, 94, 95, 96, 97, 98, 99, 100, 101, 102, 103, 104, 105, 106, 8] rfl (by decide) (by kernel_rfl) (fun iX => [VIs (.int .i64 0), VIs (.bool true), VIs (.bool true), VIs (.pointer (some ⟨pb, 0, none⟩)), VIs (.agg #[.string ⟨kid.toArray⟩, .string ⟨typ.toArray⟩]), VIs (.agg #[.string ⟨kid.toArray⟩, .string ⟨typ.toArray⟩]), VIs (.bool true), VIs (.bool true), VIs (.bool true), VIs (.pointer (some ⟨pb, 2, none⟩)), VIs (.slice pa p.length pc), VIs (.string ⟨p.toArray⟩), VIs (.slice a0 p.length c0), VIs (.string ⟨p.toArray⟩), VIs (.bool true), VIs (.bool true), VIs (.bool true), VIs (.pointer (some ⟨pb, 3, none⟩)), VIs (.string ⟨G.toArray⟩), VIs (.string ⟨G1.toArray⟩), VIs (.pointer (some ⟨pb, 4, none⟩)), VIs (.slice ga M.length gc), VIs (.string ⟨EM.toArray⟩), VIs (.string ⟨T.toArray⟩), VIs (.string ⟨T.toArray⟩), VIs (.bool true), VIs (.bool true), VIs (.bool true)].getD iX fun _ _ => True) (stab_list _ ?_) ?_ ?_
    · skip
      intro V hV
      simp only [List.mem_cons, List.mem_nil_iff, or_false] at hV
      rcases hV with rfl | rfl | rfl | rfl | rfl | rfl | rfl | rfl | rfl | rfl | rfl | rfl | rfl | rfl | rfl | rfl | rfl | rfl | rfl | rfl | rfl | rfl | rfl | rfl | rfl | rfl | rfl | rfl <;> first | exact VIs.stab _ | exact VBytes.stab _ | exact VStr.stab _ | exact VParts.stab _ | exact VRow.stab _ | exact VRow8.stab _ _ | exact VRowIs.stab _ _ _
    · intro iX o ho a' w' hf hb hd
      rcases iX with _ | _ | _ | _ | _ | _ | _ | _ | _ | _ | _ | _ | _ | _ | _ | _ | _ | _ | _ | _ | _ | _ | _ | _ | _ | _ | _ | _ | iX
      · cases ho
        refine grow_op rfl rfl rfl (grow_move rfl ?_)
        exact (hf.same 15 (by decide)).trans rfl
      · cases ho
        refine grow_op rfl rfl rfl ?_
        have e0 : a'.tmps.getD 80 undef = .int .i64 0 := hd 0 (by kernel_rfl)
        refine grow_value (v := .bool true) (w' := w') ?_ rfl (Below.refl _ _)
        simp only [execOp, Act.eval, e0]
        go_simp
      · cases ho
        refine grow_op rfl rfl rfl (grow_move rfl ?_)
        exact hd 1 (by kernel_rfl)
      · cases ho
        have hg : a'.tmps.getD 82 undef = .bool true := hd 2 (by kernel_rfl)
        refine grow_op rfl (grow_wanted rfl rfl hg) rfl ?_
        have f14 : a'.tmps.getD 14 undef = .pointer (some ⟨pb, 0, none⟩) := (hf.same 14 (by decide)).trans rfl
        refine grow_value (v := .pointer (some ⟨pb, 0, none⟩)) (w' := w') ?_ rfl (Below.refl _ _)
        simp only [execOp, Act.eval]
        go_simp
      · cases ho
        have hg : a'.tmps.getD 82 undef = .bool true := hd 2 (by kernel_rfl)
        refine grow_op rfl (grow_wanted rfl rfl hg) rfl ?_
        have e3 : a'.tmps.getD 83 undef = .pointer (some ⟨pb, 0, none⟩) := hd 3 (by kernel_rfl)
        obtain ⟨x0, x1, x2, x3, x4⟩ := five_at HY6.out hb hpl
        refine grow_value (v := .agg #[.string ⟨kid.toArray⟩, .string ⟨typ.toArray⟩]) (w' := w') ?_ rfl (Below.refl _ _)
        simp only [execOp, Act.eval, e3]
        go_simp
      · cases ho
        have hg : a'.tmps.getD 82 undef = .bool true := hd 2 (by kernel_rfl)
        refine grow_op rfl (grow_wanted rfl rfl hg) rfl ?_
        have f9 : a'.tmps.getD 9 undef = .pointer (some ⟨hd0, 0, none⟩) := (hf.same 9 (by decide)).trans rfl
        obtain ⟨x0, x1⟩ := two_at HX6.out hb hhl6
        refine grow_value (v := .agg #[.string ⟨kid.toArray⟩, .string ⟨typ.toArray⟩]) (w' := w') ?_ rfl (Below.refl _ _)
        simp only [execOp, Act.eval]
        go_simp
      · cases ho
        have hg : a'.tmps.getD 82 undef = .bool true := hd 2 (by kernel_rfl)
        refine grow_op rfl (grow_wanted rfl rfl hg) rfl ?_
        have e4 : a'.tmps.getD 84 undef = .agg #[.string ⟨kid.toArray⟩, .string ⟨typ.toArray⟩] := hd 4 (by kernel_rfl)
        have e5 : a'.tmps.getD 85 undef = .agg #[.string ⟨kid.toArray⟩, .string ⟨typ.toArray⟩] := hd 5 (by kernel_rfl)
        refine grow_value (v := .bool true) (w' := w') ?_ rfl (Below.refl _ _)
        simp only [execOp, Act.eval, e4, e5]
        go_simp
      · cases ho
        refine grow_op rfl rfl rfl ?_
        have e2 : a'.tmps.getD 82 undef = .bool true := hd 2 (by kernel_rfl)
        have e6 : a'.tmps.getD 86 undef = .bool true := hd 6 (by kernel_rfl)
        refine grow_value (v := .bool true) (w' := w') ?_ rfl (Below.refl _ _)
        simp only [execOp, Act.eval, e2, e6]
        go_simp
      · cases ho
        refine grow_op rfl rfl rfl (grow_move rfl ?_)
        exact hd 7 (by kernel_rfl)
      · cases ho
        have hg : a'.tmps.getD 88 undef = .bool true := hd 8 (by kernel_rfl)
        refine grow_op rfl (grow_wanted rfl rfl hg) rfl ?_
        have f14 : a'.tmps.getD 14 undef = .pointer (some ⟨pb, 0, none⟩) := (hf.same 14 (by decide)).trans rfl
        refine grow_value (v := .pointer (some ⟨pb, 2, none⟩)) (w' := w') ?_ rfl (Below.refl _ _)
        simp only [execOp, Act.eval]
        go_simp
      · cases ho
        have hg : a'.tmps.getD 88 undef = .bool true := hd 8 (by kernel_rfl)
        refine grow_op rfl (grow_wanted rfl rfl hg) rfl ?_
        have e9 : a'.tmps.getD 89 undef = .pointer (some ⟨pb, 2, none⟩) := hd 9 (by kernel_rfl)
        obtain ⟨x0, x1, x2, x3, x4⟩ := five_at HY6.out hb hpl
        refine grow_value (v := .slice pa p.length pc) (w' := w') ?_ rfl (Below.refl _ _)
        simp only [execOp, Act.eval, e9]
        go_simp
      · cases ho
        have hg : a'.tmps.getD 88 undef = .bool true := hd 8 (by kernel_rfl)
        refine grow_op rfl (grow_wanted rfl rfl hg) rfl ?_
        have e10 : a'.tmps.getD 90 undef = .slice pa p.length pc := hd 10 (by kernel_rfl)
        have x0 := str_of_rd (HQ6.out.below hb) p.length pc rfl
        refine grow_value (v := .string ⟨p.toArray⟩) (w' := w') ?_ rfl (Below.refl _ _)
        simp only [execOp, Act.eval, e10]
        go_simp
      · cases ho
        have hg : a'.tmps.getD 88 undef = .bool true := hd 8 (by kernel_rfl)
        refine grow_op rfl (grow_wanted rfl rfl hg) rfl (grow_move rfl ?_)
        exact (hf.same 2 (by decide)).trans rfl
      · cases ho
        have hg : a'.tmps.getD 88 undef = .bool true := hd 8 (by kernel_rfl)
        refine grow_op rfl (grow_wanted rfl rfl hg) rfl ?_
        have e12 : a'.tmps.getD 92 undef = .slice a0 p.length c0 := hd 12 (by kernel_rfl)
        have x0 := str_of_rd (HP6.out.below hb) p.length c0 rfl
        refine grow_value (v := .string ⟨p.toArray⟩) (w' := w') ?_ rfl (Below.refl _ _)
        simp only [execOp, Act.eval, e12]
        go_simp
      · cases ho
        have hg : a'.tmps.getD 88 undef = .bool true := hd 8 (by kernel_rfl)
        refine grow_op rfl (grow_wanted rfl rfl hg) rfl ?_
        have e11 : a'.tmps.getD 91 undef = .string ⟨p.toArray⟩ := hd 11 (by kernel_rfl)
        have e13 : a'.tmps.getD 93 undef = .string ⟨p.toArray⟩ := hd 13 (by kernel_rfl)
        refine grow_value (v := .bool true) (w' := w') ?_ rfl (Below.refl _ _)
        simp only [execOp, Act.eval, e11, e13]
        go_simp
      · cases ho
        refine grow_op rfl rfl rfl ?_
        have e8 : a'.tmps.getD 88 undef = .bool true := hd 8 (by kernel_rfl)
        have e14 : a'.tmps.getD 94 undef = .bool true := hd 14 (by kernel_rfl)
        refine grow_value (v := .bool true) (w' := w') ?_ rfl (Below.refl _ _)
        simp only [execOp, Act.eval, e8, e14]
        go_simp
      · cases ho
        refine grow_op rfl rfl rfl (grow_move rfl ?_)
        exact hd 15 (by kernel_rfl)
      · cases ho
        have hg : a'.tmps.getD 96 undef = .bool true := hd 16 (by kernel_rfl)
        refine grow_op rfl (grow_wanted rfl rfl hg) rfl ?_
        have f14 : a'.tmps.getD 14 undef = .pointer (some ⟨pb, 0, none⟩) := (hf.same 14 (by decide)).trans rfl
        refine grow_value (v := .pointer (some ⟨pb, 3, none⟩)) (w' := w') ?_ rfl (Below.refl _ _)
        simp only [execOp, Act.eval]
        go_simp
      · cases ho
        have hg : a'.tmps.getD 96 undef = .bool true := hd 16 (by kernel_rfl)
        refine grow_op rfl (grow_wanted rfl rfl hg) rfl ?_
        have e17 : a'.tmps.getD 97 undef = .pointer (some ⟨pb, 3, none⟩) := hd 17 (by kernel_rfl)
        obtain ⟨x0, x1, x2, x3, x4⟩ := five_at HY6.out hb hpl
        refine grow_value (v := .string ⟨G.toArray⟩) (w' := w') ?_ rfl (Below.refl _ _)
        simp only [execOp, Act.eval, e17]
        go_simp
      · cases ho
        have hg : a'.tmps.getD 96 undef = .bool true := hd 16 (by kernel_rfl)
        refine grow_op rfl (grow_wanted rfl rfl hg) rfl ?_
        have e18 : a'.tmps.getD 98 undef = .string ⟨G.toArray⟩ := hd 18 (by kernel_rfl)
        have x0 := HC1.out
        refine grow_value (v := .string ⟨G1.toArray⟩) (w' := w') ?_ rfl (Below.refl _ _)
        simp only [execOp, Act.eval, e18]
        go_simp
        (have := HLN.out; omega)
      · cases ho
        have hg : a'.tmps.getD 96 undef = .bool true := hd 16 (by kernel_rfl)
        refine grow_op rfl (grow_wanted rfl rfl hg) rfl ?_
        have f14 : a'.tmps.getD 14 undef = .pointer (some ⟨pb, 0, none⟩) := (hf.same 14 (by decide)).trans rfl
        refine grow_value (v := .pointer (some ⟨pb, 4, none⟩)) (w' := w') ?_ rfl (Below.refl _ _)
        simp only [execOp, Act.eval]
        go_simp
      · cases ho
        have hg : a'.tmps.getD 96 undef = .bool true := hd 16 (by kernel_rfl)
        refine grow_op rfl (grow_wanted rfl rfl hg) rfl ?_
        have e20 : a'.tmps.getD 100 undef = .pointer (some ⟨pb, 4, none⟩) := hd 20 (by kernel_rfl)
        obtain ⟨x0, x1, x2, x3, x4⟩ := five_at HY6.out hb hpl
        refine grow_value (v := .slice ga M.length gc) (w' := w') ?_ rfl (Below.refl _ _)
        simp only [execOp, Act.eval, e20]
        go_simp
      · cases ho
        have hg : a'.tmps.getD 96 undef = .bool true := hd 16 (by kernel_rfl)
        refine grow_op rfl (grow_wanted rfl rfl hg) rfl ?_
        have e1 : a'.tmps.getD 101 undef = .slice ga M.length gc := hd 21 (by kernel_rfl)
        refine grow_call ent_enc rfl ?_
        simp only [List.map_toArray, List.map_cons, List.map_nil, Act.eval, e1]
        exact (HEN.out w' hb).mono fun e w'' ⟨h1, h2⟩ => ⟨_, h1, rfl, h2⟩
      · cases ho
        have hg : a'.tmps.getD 96 undef = .bool true := hd 16 (by kernel_rfl)
        refine grow_op rfl (grow_wanted rfl rfl hg) rfl ?_
        have e19 : a'.tmps.getD 99 undef = .string ⟨G1.toArray⟩ := hd 19 (by kernel_rfl)
        have e22 : a'.tmps.getD 102 undef = .string ⟨EM.toArray⟩ := hd 22 (by kernel_rfl)
        have x0 := HC2.out
        refine grow_value (v := .string ⟨T.toArray⟩) (w' := w') ?_ rfl (Below.refl _ _)
        simp only [execOp, Act.eval, e19, e22]
        go_simp
        (have := HLN.out; omega)
      · cases ho
        have hg : a'.tmps.getD 96 undef = .bool true := hd 16 (by kernel_rfl)
        refine grow_op rfl (grow_wanted rfl rfl hg) rfl (grow_move rfl ?_)
        exact (hf.same 10 (by decide)).trans rfl
      · cases ho
        have hg : a'.tmps.getD 96 undef = .bool true := hd 16 (by kernel_rfl)
        refine grow_op rfl (grow_wanted rfl rfl hg) rfl ?_
        have e23 : a'.tmps.getD 103 undef = .string ⟨T.toArray⟩ := hd 23 (by kernel_rfl)
        have e24 : a'.tmps.getD 104 undef = .string ⟨T.toArray⟩ := hd 24 (by kernel_rfl)
        refine grow_value (v := .bool true) (w' := w') ?_ rfl (Below.refl _ _)
        simp only [execOp, Act.eval, e23, e24]
        go_simp
      · cases ho
        refine grow_op rfl rfl rfl ?_
        have e16 : a'.tmps.getD 96 undef = .bool true := hd 16 (by kernel_rfl)
        have e25 : a'.tmps.getD 105 undef = .bool true := hd 25 (by kernel_rfl)
        refine grow_value (v := .bool true) (w' := w') ?_ rfl (Below.refl _ _)
        simp only [execOp, Act.eval, e16, e25]
        go_simp
      · cases ho
        refine grow_op rfl rfl rfl (grow_assign rfl ?_)
        exact hd 26 (by kernel_rfl)
      · simp at ho
    · intro a' w' hf hb hd
      have hv102 := hd 22 (by decide)
      obtain rfl := hf.eq [Value.int IntKind.i64 0, Value.bool true, Value.bool true, Value.pointer (some ⟨pb, 0, none⟩), Value.agg #[.string ⟨kid.toArray⟩, .string ⟨typ.toArray⟩], Value.agg #[.string ⟨kid.toArray⟩, .string ⟨typ.toArray⟩], Value.bool true, Value.bool true, Value.bool true, Value.pointer (some ⟨pb, 2, none⟩), Value.slice pa p.length pc, Value.string ⟨p.toArray⟩, Value.slice a0 p.length c0, Value.string ⟨p.toArray⟩, Value.bool true, Value.bool true, Value.bool true, Value.pointer (some ⟨pb, 3, none⟩), Value.string ⟨G.toArray⟩, Value.string ⟨G1.toArray⟩, Value.pointer (some ⟨pb, 4, none⟩), Value.slice ga M.length gc, Value.string ⟨EM.toArray⟩, Value.string ⟨T.toArray⟩, Value.string ⟨T.toArray⟩, Value.bool true, Value.bool true, Value.bool true] (fun j hj => match j, hj with
        | 0, _ => hd 0 (by decide)
        | 1, _ => hd 1 (by decide)
        | 2, _ => hd 2 (by decide)
        | 3, _ => hd 3 (by decide)
        | 4, _ => hd 4 (by decide)
        | 5, _ => hd 5 (by decide)
        | 6, _ => hd 6 (by decide)
        | 7, _ => hd 7 (by decide)
        | 8, _ => hd 8 (by decide)
        | 9, _ => hd 9 (by decide)
        | 10, _ => hd 10 (by decide)
        | 11, _ => hd 11 (by decide)
        | 12, _ => hd 12 (by decide)
        | 13, _ => hd 13 (by decide)
        | 14, _ => hd 14 (by decide)
        | 15, _ => hd 15 (by decide)
        | 16, _ => hd 16 (by decide)
        | 17, _ => hd 17 (by decide)
        | 18, _ => hd 18 (by decide)
        | 19, _ => hd 19 (by decide)
        | 20, _ => hd 20 (by decide)
        | 21, _ => hd 21 (by decide)
        | 22, _ => hv102
        | 23, _ => hd 23 (by decide)
        | 24, _ => hd 24 (by decide)
        | 25, _ => hd 25 (by decide)
        | 26, _ => hd 26 (by decide)
        | 27, _ => hd 27 (by decide)
        | k + 28, h => absurd h (by simp)) (by decide) (by kernel_rfl) rfl
      simp only [List.zip_cons_cons, List.zip_nil_right, List.foldl_cons, List.foldl_nil, Act.put, List.setIfInBounds_toArray, List.set_cons_succ, List.set_cons_zero]
      have HBF := Lib.hid (HB7.out.trans (hb.mono HB7.out.size))
      clear hd hf hb hv102
      go_wp2_with fail
      refine bodyPost_ret (results_tmp rfl _ _ _) rfl ?_
      exact ⟨rfl, HBF.out⟩
end Go.Proofs.YtfdijcdpmgkdkaaGreatDoor
