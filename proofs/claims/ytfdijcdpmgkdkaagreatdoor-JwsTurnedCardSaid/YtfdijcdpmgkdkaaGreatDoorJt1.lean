/- Merged: JwC. -/
import Derived.Test.YtfdijcdpmgkdkaaGreatDoorJm1
import Derived.Test.YtfdijcdpmgkdkaaGreatDoorJm2
import Derived.Test.YtfdijcdpmgkdkaaGreatDoorJm3
import Derived.Test.YtfdijcdpmgkdkaaGreatDoorJm4
import Derived.Test.YtfdijcdpmgkdkaaGreatDoorJm5
import Derived.Test.YtfdijcdpmgkdkaaGreatDoorJm6
import Derived.Test.YtfdijcdpmgkdkaaGreatDoorJm7
import Derived.Test.YtfdijcdpmgkdkaaGreatDoorJm8
import Derived.Test.YtfdijcdpmgkdkaaGreatDoorJm9
set_option linter.unusedVariables false
namespace Go.Proofs.YtfdijcdpmgkdkaaGreatDoor
open Go.RowKit

theorem kt_word : wordH [107] = true ∧ wordH [116] = true := by decide +kernel
theorem ver_no_parts {t key : List UInt8} (h : (verifyJ t key).2 ≠ 0) : (verifyJ t key).1 = JP.no := by
  revert h
  unfold verifyJ
  split
  · intro _; rfl
  · split
    · intro _; rfl
    · split
      · intro _; rfl
      · intro h; exact absurd rfl h
set_option maxRecDepth 100000 in
set_option maxHeartbeats 16000000 in
theorem jwsTurned_walk (a0 : Option Addr) (c0 : Nat) (p : List UInt8) (a1 : Option Addr) (c1' : Nat) (key : List UInt8) (x y : Int) (w : World) (hr0 : Rd w a0 p) (hr1 : Rd w a1 key) (hx : (Lit.int .i64 x).wf = true) (hy : (Lit.int .u8 y).wf = true) (hm : ∃ m, w.cell? ⟨3, 0, none⟩ = some (.int .i64 m)) :
    Calls Tryz.prog 10 #[.slice a0 p.length c0, .slice a1 key.length c1', .int .i64 x, .int .u8 y] w fun e w' => e = .returned (.bool true) ∧ Below w.heap.size w w' := by
  obtain ⟨m, hm⟩ := hm
  have hxr : x ≤ 9223372036854775807 := by simp [Lit.wf, IntKind.min, IntKind.max, IntKind.signed, IntKind.bits] at hx; omega
  have hyr : 0 ≤ y ∧ y ≤ 255 := by simp [Lit.wf, IntKind.min, IntKind.max, IntKind.signed, IntKind.bits] at hy; omega
  obtain ⟨yb, hyb⟩ : ∃ yb : UInt8, y = ((yb.toNat : Nat) : Int) := ⟨UInt8.ofNat y.toNat, by rw [UInt8.toNat_ofNat']; omega⟩
  subst hyb
  have hml := World.block_lt_of_cell? _ _ hm
  clear hx hy hyr
  go_enter Tryz.func10, Tryz.ntmps10
  go_wp2_with fail
  refine (anchor11_any m w hm).mono ?_
  rintro e w1 ⟨rfl, hb1⟩
  have HB1 := Lib.hid hb1
  have HP1 := Lib.hid (hr0.below hb1)
  have HK1 := Lib.hid (hr1.below hb1)
  have HM1 := Lib.hid ((hb1.cell hml).trans hm)
  clear hb1 hr0 hr1 hm
  by_cases l1 : p.length ≤ 300
  case neg =>
    have j1 : (300 : Int) < (p.length : Int) := by omega
    go_wp2_with fail
    refine bodyPost_ret (results_tmp rfl _ _ _) rfl ?_
    exact ⟨rfl, HB1.out⟩
  have j1 : ¬ (300 : Int) < (p.length : Int) := by omega
  by_cases l2 : key.length ≤ 100
  case neg =>
    have j2 : (100 : Int) < (key.length : Int) := by omega
    go_wp2_with fail
    refine bodyPost_ret (results_tmp rfl _ _ _) rfl ?_
    exact ⟨rfl, HB1.out⟩
  have j2 : ¬ (100 : Int) < (key.length : Int) := by omega
  by_cases l3 : x < 0
  · go_wp2_with fail
    refine bodyPost_ret (results_tmp rfl _ _ _) rfl ?_
    exact ⟨rfl, HB1.out⟩
  have HSG := Lib.hid (sign_any [107] [116] p key a0 a1 c0 c1' w1 HP1.out HK1.out (by decide) (by decide) (by omega) (by omega))
  by_cases l4 : key.length < 16
  · have hsv : signV [107] [116] p key = .tuple #[.string ⟨#[]⟩, .int .i64 41] := by
      unfold signV signL
      rw [if_neg (by rw [kt_word.1, kt_word.2]; simp), if_neg (by omega), if_pos l4]
    have HSV := Lib.hid hsv
    rw [hsv] at HSG
    have j4 : (key.length : Int) < 16 := by omega
    clear hsv
    go_wp2_with fail
    refine HSG.out.mono ?_
    rintro e w2 ⟨rfl, hb2⟩
    have HB2 := Lib.hid (HB1.out.trans (hb2.mono HB1.out.size))
    clear hb2 HSG
    go_wp2_with fail
    refine bodyPost_ret (results_tmp rfl _ _ _) rfl ?_
    exact ⟨rfl, HB2.out⟩
  have hsv : signV [107] [116] p key = .tuple #[.string ⟨(tokenL [107] [116] p key).toArray⟩, .int .i64 0] := by
    unfold signV
    rw [sign_good kt_word.1 kt_word.2 (by omega) l4]
  rw [hsv] at HSG
  have HTU := Lib.hid (fun j hj c hc => turned (kid := [107]) (typ := [116]) (p := p) (key := key) kt_word.1 kt_word.2 (by omega) j hj c hc)
  obtain ⟨hl1, hl2, hl3⟩ := token_len (key := key) kt_word.1 kt_word.2 (p := p) (by omega)
  have HL3 := Lib.hid hl3
  have hl4 : 44 ≤ (tokenL [107] [116] p key).length := by omega
  clear hl3
  generalize tokenL [107] [116] p key = T at *
  generalize signedL [107] [116] p = G at *
  clear hsv l4
  go_wp2_with fail
  refine HSG.out.mono ?_
  rintro e w2 ⟨rfl, hb2⟩
  have HB2 := Lib.hid (HB1.out.trans (hb2.mono HB1.out.size))
  have HK2 := Lib.hid (HK1.out.below hb2)
  have HM2 := Lib.hid ((hb2.cell (World.block_lt_of_cell? _ _ HM1.out)).trans HM1.out)
  obtain ⟨g, cc, w3, hcv, hb3, htf⟩ := tf_of_str T w2 (by omega)
  have HB3 := Lib.hid (HB2.out.trans (hb3.mono HB2.out.size))
  have HK3 := Lib.hid (HK2.out.below hb3)
  have HM3 := Lib.hid ((hb3.cell (World.block_lt_of_cell? _ _ HM2.out)).trans HM2.out)
  have HTF := Lib.hid htf
  have HBX := Lib.hid hb3
  have hg2 : w.heap.size ≤ w2.heap.size := HB2.out.size
  clear hb2 hb3 htf HSG HK1 HM1 HB1 HP1
  go_upto_region 9 with (fail)
  clear hcv
  go_upto_region 10 with (fail)
  obtain ⟨j, hj, hji⟩ : ∃ j : Nat, j < 43 ∧ x % 43 = ((42 - j : Nat) : Int) := ⟨42 - (x % 43).toNat, by omega, by omega⟩
  obtain ⟨idx, hidx, hidxj⟩ : ∃ idx : Nat, (T.length : Int) - 1 - x % 43 = (idx : Int) ∧ idx = G.length + 1 + j := ⟨G.length + 1 + j, by have := HL3.out; omega, rfl⟩
  rw [hidx]
  have hlt : idx < T.length := by have := HL3.out; omega
  have hltI : (idx : Int) < (T.length : Int) := by omega
  obtain ⟨g', cc', hge, hgB, hgl, hrd, hcells, hfrz⟩ := HTF.out.shape
  have hgg : g = g' := by simp at hge; exact hge.1
  subst hgg
  have c1 := hcells idx hlt
  have f1 := hfrz idx hlt
  have HTU2 := Lib.hid (HTU.out j hj yb)
  have HIX := Lib.hid hidxj
  clear hji hidx hidxj hcells hfrz hrd hge hj
  have hgetT : T.getD idx 0 = T[idx] := by rw [List.getD_eq_getElem?_getD, List.getElem?_eq_getElem hlt]; rfl
  have HGT := Lib.hid hgetT
  clear hgetT
  obtain ⟨tb, htb⟩ : ∃ tb, T[idx] = tb := ⟨_, rfl⟩
  rw [htb] at c1 HGT
  clear htb
  by_cases heq : tb = yb
  · subst heq
    go_wp2_with fail
    refine bodyPost_ret (results_tmp rfl _ _ _) rfl ?_
    exact ⟨rfl, HB3.out⟩
  have hne : ¬ ((tb.toNat : Nat) : Int) = ((yb.toNat : Nat) : Int) := fun e => heq (UInt8.toNat_inj.1 (by omega))
  have hneN : ¬ tb.toNat = yb.toNat := fun e => heq (UInt8.toNat_inj.1 e)
  have hneB : (((tb.toNat : Nat) : Int) == ((yb.toNat : Nat) : Int)) = false := beq_false_of_ne hne
  have hver := HTU2.out (by rw [← HIX.out, HGT.out]; exact heq)
  rw [← HIX.out] at hver
  have HVR := Lib.hid hver
  have HNP := Lib.hid (ver_no_parts hver)
  have htf2 := HTF.out.set idx yb hlt
  have hb4 := HB3.out.setCell (p := ⟨g, idx, none⟩) (by show w.heap.size ≤ g; omega) (.int .u8 yb.toNat)
  have hk4 : Rd (w3.setCell ⟨g, idx, none⟩ (.int .u8 yb.toNat)) a1 key := HK2.out.below (Below.setCell (HBX.out) (p := ⟨g, idx, none⟩) hgB (.int .u8 yb.toNat))
  have hm4 := ((Below.setCell (HBX.out) (p := ⟨g, idx, none⟩) hgB (.int .u8 yb.toNat)).cell (World.block_lt_of_cell? _ _ HM2.out)).trans HM2.out
  have HB4 := Lib.hid hb4
  have HK4 := Lib.hid hk4
  have HM4 := Lib.hid hm4
  have HTF4 := Lib.hid htf2
  have hidx0 : idx < cc := by
    obtain ⟨g0, cap, cur, fr, he, -, -, -, hlc, -⟩ := HTF.out
    simp at he
    omega
  clear hver hb4 hk4 hm4 htf2 hne heq HTU HTU2 HIX
  go_upto_region 13 with (fail)
  generalize w3.setCell _ _ = w4 at *
  obtain ⟨T2, hT2⟩ : ∃ T2, T.set idx yb = T2 := ⟨_, rfl⟩
  have hl2' : T2.length = T.length := by rw [← hT2]; simp
  rw [hT2] at HVR HNP HTF4
  obtain ⟨g2, cc2, hge, -, -, hrd, -⟩ := HTF4.out.shape
  have hgg : g = g2 := by simp at hge; exact hge.1
  subst hgg
  have hst := str_of_rd hrd T.length cc (by omega)
  have HVF := Lib.hid (jwsVerify_any T2 key a1 c1' m w4 HM4.out (by omega) HK4.out (by omega))
  rw [HNP.out] at HVF
  obtain ⟨E, hE⟩ : ∃ E, (verifyJ T2 key).2 = E := ⟨_, rfl⟩
  rw [hE] at HVF HVR
  have hEB : (E != 0) = true := by simp [HVR.out]
  have hE0 := HVR.out
  clear hT2 hl2' hrd hge HVR HNP HTF4 c1 f1 hE
  go_wp2_with fail
  refine HVF.out.mono ?_
  rintro e w5 ⟨hb5, v, rfl, pa, pc, ga, gc, rfl, -, -⟩
  have HB5 := Lib.hid (HB4.out.trans (hb5.mono HB4.out.size))
  clear hb5 HVF hst
  unfold JP.no
  go_upto_region 14 with (fail)
  generalize hw6 : w5.alloc _ = w6
  obtain ⟨pb, hpb⟩ : ∃ pb, w5.heap.size = pb := ⟨_, rfl⟩
  have hb6 : Below w5.heap.size w5 w6 := by rw [← hw6]; exact (Below.refl _ _).alloc (Nat.le_refl _) _
  have hx6 : w6.heap[pb]? = some (.cells #[.string ⟨#[]⟩, .string ⟨#[]⟩, .slice pa 0 pc, .string ⟨#[]⟩, .slice ga 0 gc] 66 (0, 0)) := by rw [← hw6, ← hpb]; exact heap_alloc_new _ _
  have HB6 := Lib.hid (HB5.out.trans (hb6.mono HB5.out.size))
  rw [hpb]
  obtain ⟨x0, x1, x2, x3, x4⟩ := five_at hx6 (Below.refl w6.heap.size w6) (Array.getElem?_eq_some_iff.1 hx6).1
  clear hw6 hb6 hx6
  go_wp2_with fail
  refine bodyPost_ret (results_tmp rfl _ _ _) rfl ?_
  exact ⟨rfl, HB6.out⟩
end Go.Proofs.YtfdijcdpmgkdkaaGreatDoor
