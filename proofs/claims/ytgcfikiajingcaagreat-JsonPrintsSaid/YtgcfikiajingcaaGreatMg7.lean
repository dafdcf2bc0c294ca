/- Merged: RfM, MdB, MdR, MdS, JsPl, LfP, LfW. -/
import Derived.Test.YtgcfikiajingcaaGreatMg1
import Derived.Test.YtgcfikiajingcaaGreatMg2
import Derived.Test.YtgcfikiajingcaaGreatMg3
import Derived.Test.YtgcfikiajingcaaGreatMg4
import Derived.Test.YtgcfikiajingcaaGreatMg5
import Derived.Test.YtgcfikiajingcaaGreatMg6
/- The document's reader: a number's text. -/
set_option linter.unusedVariables false
namespace Go.Proofs.YtgcfikiajingcaaGreat
open Go.RowKit

theorem take_no {S : List UInt8} {s : PS} {c : UInt8} (h : isP S s.p s.e c = false) : takeP S s c = s := by unfold takeP; rw [h]; rfl
set_option maxRecDepth 100000 in
set_option maxHeartbeats 64000000 in
theorem pnumber_any (g : Nat) (S : List UInt8) (d o A : Int) (w : World) (h : PP w g S ⟨0, 0⟩ d o A) (hl : S.length ≤ 1000000) :
    Calls Tryz.prog 35 #[.pointer (some ⟨g, 0, none⟩)] w fun x w' => x = .returned (.string ⟨(S.take (numP S ⟨0, 0⟩).p).toArray⟩) ∧ (∃ A', PP w' g S (numP S ⟨0, 0⟩) d o A') ∧ But g w w' := by
  obtain ⟨R, hR⟩ : ∃ R, numP S ⟨0, 0⟩ = R := ⟨_, rfl⟩
  rw [hR]
  have HEQ : Hid (tailP S (fracP S (intP S (takeP S ⟨0, 0⟩ 45))) = R) := Lib.hid hR
  have HP := Lib.hid h
  have HB := Lib.hid (But.refl g w)
  have c1 := h.c1
  have h0 : ((0 : Nat) : Int) = 0 := rfl
  simp only [h0] at c1
  clear h hR
  go_enter Tryz.func35, Tryz.ntmps35
  go_wp2_with fail
  refine (ptake_any g S ⟨0, 0⟩ d o A 45 45 rfl w HP.out hl).mono ?_
  rintro x w1 ⟨rfl, hp, hb⟩
  have HP := Lib.hid hp
  have HB := Lib.hid (HB.out.trans hb)
  obtain ⟨s, hs⟩ : ∃ s, takeP S ⟨0, 0⟩ 45 = s := ⟨_, rfl⟩
  rw [hs] at HEQ HP
  clear hp hb hs c1
  generalize isP S _ _ 45 = b45
  go_wp2_with fail
  refine (ptake_any g S s d o A 48 48 rfl w1 HP.out hl).mono ?_
  rintro x w2 ⟨rfl, hp, hb⟩
  have HP := Lib.hid hp
  have HB := Lib.hid (HB.out.trans hb)
  clear hp hb
  cases hc : isP S s.p s.e 48 with
  | true =>
    have HEQ : Hid (tailP S (fracP S (takeP S s 48)) = R) := Lib.hid (by have := HEQ.out; unfold intP at this; rwa [if_pos hc] at this)
    obtain ⟨s102, hs⟩ : ∃ s2, takeP S s 48 = s2 := ⟨_, rfl⟩
    rw [hs] at HEQ HP
    clear hc hs
    go_wp2_with fail
    refine (ptake_any g S s102 d o A 46 46 rfl w2 HP.out hl).mono ?_
    rintro x w3 ⟨rfl, hp, hb⟩
    have HP := Lib.hid hp
    have HB := Lib.hid (HB.out.trans hb)
    clear hp hb
    cases hc : isP S s102.p s102.e 46 with
    | true =>
      have HEQ : Hid (tailP S (digitsP S (takeP S s102 46)) = R) := Lib.hid (by have := HEQ.out; unfold fracP at this; rwa [if_pos hc] at this)
      obtain ⟨s103, hs⟩ : ∃ s2, takeP S s102 46 = s2 := ⟨_, rfl⟩
      rw [hs] at HEQ HP
      clear hc hs
      go_wp2_with fail
      refine (pdigits_any g S s103 d o A w3 HP.out hl).mono ?_
      rintro x w4 ⟨rfl, ⟨A, hp⟩, hb⟩
      have HP := Lib.hid hp
      have HB := Lib.hid (HB.out.trans hb)
      obtain ⟨s104, hs⟩ : ∃ s2, digitsP S s103 = s2 := ⟨_, rfl⟩
      rw [hs] at HEQ HP
      clear hp hb hs
      go_wp2_with fail
      refine (ptake_any g S s104 d o A 101 101 rfl w4 HP.out hl).mono ?_
      rintro x w5 ⟨rfl, hp, hb⟩
      have HP := Lib.hid hp
      have HB := Lib.hid (HB.out.trans hb)
      clear hp hb
      cases hc : isP S s104.p s104.e 101 with
      | true =>
        have HEQ : Hid (expP S (takeP S s104 101) = R) := Lib.hid (by have := HEQ.out; unfold tailP at this; rwa [if_pos hc] at this)
        obtain ⟨s105, hs⟩ : ∃ s2, takeP S s104 101 = s2 := ⟨_, rfl⟩
        rw [hs] at HEQ HP
        clear hc hs
        go_wp2_with fail
        refine (ptake_any g S s105 d o A 43 43 rfl w5 HP.out hl).mono ?_
        rintro x w6 ⟨rfl, hp, hb⟩
        have HP := Lib.hid hp
        have HB := Lib.hid (HB.out.trans hb)
        clear hp hb
        cases hc : isP S s105.p s105.e 43 with
        | true =>
          have HEQ : Hid (digitsP S (takeP S s105 43) = R) := Lib.hid (by have := HEQ.out; unfold expP at this; rwa [if_pos hc] at this)
          obtain ⟨s106, hs⟩ : ∃ s2, takeP S s105 43 = s2 := ⟨_, rfl⟩
          rw [hs] at HEQ HP
          clear hc hs
          go_wp2_with fail
          refine (pdigits_any g S s106 d o A w6 HP.out hl).mono ?_
          rintro x w7 ⟨rfl, ⟨A, hp⟩, hb⟩
          have HP := Lib.hid hp
          have HB := Lib.hid (HB.out.trans hb)
          obtain ⟨s107, hs⟩ : ∃ s2, digitsP S s106 = s2 := ⟨_, rfl⟩
          rw [hs] at HEQ HP
          clear hp hb hs
          go_upto_region 11 with (fail)
          have e0 := HP.out.c0
          have e1 := HP.out.c1
          have hsl := fun w => st_mid S 0 s107.p (by omega) HP.out.le 0 (s107.p : Int) rfl rfl w
          simp only [List.drop_zero, Nat.sub_zero] at hsl
          have HPN : Hid (∀ n, PP (w7.drewN n) g S s107 d o A) := Lib.hid fun n => HP.out.drewN n
          have HBN : Hid (∀ n, But g w (w7.drewN n)) := Lib.hid fun n => HB.out.drewN n
          go_quiet (fail)
          go_wp2_with fail
          refine bodyPost_ret (results_tmp rfl _ _ _) rfl ?_
          exact ⟨by rw [← HEQ.out]; rfl, ⟨A, by rw [← HEQ.out]; exact HPN.out _⟩, HBN.out _⟩
        | false =>
          have HEQ : Hid (digitsP S (takeP S s105 45) = R) := Lib.hid (by have := HEQ.out; unfold expP at this; rwa [if_neg (by rw [hc]; decide)] at this)
          rw [take_no hc] at HP
          clear hc
          go_wp2_with fail
          refine (ptake_any g S s105 d o A 45 45 rfl w6 HP.out hl).mono ?_
          rintro x w8 ⟨rfl, hp, hb⟩
          have HP := Lib.hid hp
          have HB := Lib.hid (HB.out.trans hb)
          obtain ⟨s108, hs⟩ : ∃ s2, takeP S s105 45 = s2 := ⟨_, rfl⟩
          rw [hs] at HEQ HP
          clear hp hb hs
          generalize isP S s105.p s105.e 45 = b45x
          go_wp2_with fail
          refine (pdigits_any g S s108 d o A w8 HP.out hl).mono ?_
          rintro x w9 ⟨rfl, ⟨A, hp⟩, hb⟩
          have HP := Lib.hid hp
          have HB := Lib.hid (HB.out.trans hb)
          obtain ⟨s109, hs⟩ : ∃ s2, digitsP S s108 = s2 := ⟨_, rfl⟩
          rw [hs] at HEQ HP
          clear hp hb hs
          go_upto_region 11 with (fail)
          have e0 := HP.out.c0
          have e1 := HP.out.c1
          have hsl := fun w => st_mid S 0 s109.p (by omega) HP.out.le 0 (s109.p : Int) rfl rfl w
          simp only [List.drop_zero, Nat.sub_zero] at hsl
          have HPN : Hid (∀ n, PP (w9.drewN n) g S s109 d o A) := Lib.hid fun n => HP.out.drewN n
          have HBN : Hid (∀ n, But g w (w9.drewN n)) := Lib.hid fun n => HB.out.drewN n
          go_quiet (fail)
          go_wp2_with fail
          refine bodyPost_ret (results_tmp rfl _ _ _) rfl ?_
          exact ⟨by rw [← HEQ.out]; rfl, ⟨A, by rw [← HEQ.out]; exact HPN.out _⟩, HBN.out _⟩
      | false =>
        have HEQ : Hid ((if isP S s104.p s104.e 69 then expP S (takeP S s104 69) else s104) = R) := Lib.hid (by have := HEQ.out; unfold tailP at this; rwa [if_neg (by rw [hc]; decide)] at this)
        rw [take_no hc] at HP
        clear hc
        go_wp2_with fail
        refine (ptake_any g S s104 d o A 69 69 rfl w5 HP.out hl).mono ?_
        rintro x w10 ⟨rfl, hp, hb⟩
        have HP := Lib.hid hp
        have HB := Lib.hid (HB.out.trans hb)
        clear hp hb
        cases hc : isP S s104.p s104.e 69 with
        | true =>
          have HEQ : Hid (expP S (takeP S s104 69) = R) := Lib.hid (by have := HEQ.out; rwa [if_pos hc] at this)
          obtain ⟨s110, hs⟩ : ∃ s2, takeP S s104 69 = s2 := ⟨_, rfl⟩
          rw [hs] at HEQ HP
          clear hc hs
          go_wp2_with fail
          refine (ptake_any g S s110 d o A 43 43 rfl w10 HP.out hl).mono ?_
          rintro x w11 ⟨rfl, hp, hb⟩
          have HP := Lib.hid hp
          have HB := Lib.hid (HB.out.trans hb)
          clear hp hb
          cases hc : isP S s110.p s110.e 43 with
          | true =>
            have HEQ : Hid (digitsP S (takeP S s110 43) = R) := Lib.hid (by have := HEQ.out; unfold expP at this; rwa [if_pos hc] at this)
            obtain ⟨s111, hs⟩ : ∃ s2, takeP S s110 43 = s2 := ⟨_, rfl⟩
            rw [hs] at HEQ HP
            clear hc hs
            go_wp2_with fail
            refine (pdigits_any g S s111 d o A w11 HP.out hl).mono ?_
            rintro x w12 ⟨rfl, ⟨A, hp⟩, hb⟩
            have HP := Lib.hid hp
            have HB := Lib.hid (HB.out.trans hb)
            obtain ⟨s112, hs⟩ : ∃ s2, digitsP S s111 = s2 := ⟨_, rfl⟩
            rw [hs] at HEQ HP
            clear hp hb hs
            go_upto_region 11 with (fail)
            have e0 := HP.out.c0
            have e1 := HP.out.c1
            have hsl := fun w => st_mid S 0 s112.p (by omega) HP.out.le 0 (s112.p : Int) rfl rfl w
            simp only [List.drop_zero, Nat.sub_zero] at hsl
            have HPN : Hid (∀ n, PP (w12.drewN n) g S s112 d o A) := Lib.hid fun n => HP.out.drewN n
            have HBN : Hid (∀ n, But g w (w12.drewN n)) := Lib.hid fun n => HB.out.drewN n
            go_quiet (fail)
            go_wp2_with fail
            refine bodyPost_ret (results_tmp rfl _ _ _) rfl ?_
            exact ⟨by rw [← HEQ.out]; rfl, ⟨A, by rw [← HEQ.out]; exact HPN.out _⟩, HBN.out _⟩
          | false =>
            have HEQ : Hid (digitsP S (takeP S s110 45) = R) := Lib.hid (by have := HEQ.out; unfold expP at this; rwa [if_neg (by rw [hc]; decide)] at this)
            rw [take_no hc] at HP
            clear hc
            go_wp2_with fail
            refine (ptake_any g S s110 d o A 45 45 rfl w11 HP.out hl).mono ?_
            rintro x w13 ⟨rfl, hp, hb⟩
            have HP := Lib.hid hp
            have HB := Lib.hid (HB.out.trans hb)
            obtain ⟨s113, hs⟩ : ∃ s2, takeP S s110 45 = s2 := ⟨_, rfl⟩
            rw [hs] at HEQ HP
            clear hp hb hs
            generalize isP S s110.p s110.e 45 = b45x
            go_wp2_with fail
            refine (pdigits_any g S s113 d o A w13 HP.out hl).mono ?_
            rintro x w14 ⟨rfl, ⟨A, hp⟩, hb⟩
            have HP := Lib.hid hp
            have HB := Lib.hid (HB.out.trans hb)
            obtain ⟨s114, hs⟩ : ∃ s2, digitsP S s113 = s2 := ⟨_, rfl⟩
            rw [hs] at HEQ HP
            clear hp hb hs
            go_upto_region 11 with (fail)
            have e0 := HP.out.c0
            have e1 := HP.out.c1
            have hsl := fun w => st_mid S 0 s114.p (by omega) HP.out.le 0 (s114.p : Int) rfl rfl w
            simp only [List.drop_zero, Nat.sub_zero] at hsl
            have HPN : Hid (∀ n, PP (w14.drewN n) g S s114 d o A) := Lib.hid fun n => HP.out.drewN n
            have HBN : Hid (∀ n, But g w (w14.drewN n)) := Lib.hid fun n => HB.out.drewN n
            go_quiet (fail)
            go_wp2_with fail
            refine bodyPost_ret (results_tmp rfl _ _ _) rfl ?_
            exact ⟨by rw [← HEQ.out]; rfl, ⟨A, by rw [← HEQ.out]; exact HPN.out _⟩, HBN.out _⟩
        | false =>
          have HEQ : Hid (s104 = R) := Lib.hid (by have := HEQ.out; rwa [if_neg (by rw [hc]; decide)] at this)
          rw [take_no hc] at HP
          clear hc
          go_upto_region 11 with (fail)
          have e0 := HP.out.c0
          have e1 := HP.out.c1
          have hsl := fun w => st_mid S 0 s104.p (by omega) HP.out.le 0 (s104.p : Int) rfl rfl w
          simp only [List.drop_zero, Nat.sub_zero] at hsl
          have HPN : Hid (∀ n, PP (w10.drewN n) g S s104 d o A) := Lib.hid fun n => HP.out.drewN n
          have HBN : Hid (∀ n, But g w (w10.drewN n)) := Lib.hid fun n => HB.out.drewN n
          go_quiet (fail)
          go_wp2_with fail
          refine bodyPost_ret (results_tmp rfl _ _ _) rfl ?_
          exact ⟨by rw [← HEQ.out]; rfl, ⟨A, by rw [← HEQ.out]; exact HPN.out _⟩, HBN.out _⟩
    | false =>
      have HEQ : Hid (tailP S s102 = R) := Lib.hid (by have := HEQ.out; unfold fracP at this; rwa [if_neg (by rw [hc]; decide)] at this)
      rw [take_no hc] at HP
      clear hc
      go_wp2_with fail
      refine (ptake_any g S s102 d o A 101 101 rfl w3 HP.out hl).mono ?_
      rintro x w15 ⟨rfl, hp, hb⟩
      have HP := Lib.hid hp
      have HB := Lib.hid (HB.out.trans hb)
      clear hp hb
      cases hc : isP S s102.p s102.e 101 with
      | true =>
        have HEQ : Hid (expP S (takeP S s102 101) = R) := Lib.hid (by have := HEQ.out; unfold tailP at this; rwa [if_pos hc] at this)
        obtain ⟨s115, hs⟩ : ∃ s2, takeP S s102 101 = s2 := ⟨_, rfl⟩
        rw [hs] at HEQ HP
        clear hc hs
        go_wp2_with fail
        refine (ptake_any g S s115 d o A 43 43 rfl w15 HP.out hl).mono ?_
        rintro x w16 ⟨rfl, hp, hb⟩
        have HP := Lib.hid hp
        have HB := Lib.hid (HB.out.trans hb)
        clear hp hb
        cases hc : isP S s115.p s115.e 43 with
        | true =>
          have HEQ : Hid (digitsP S (takeP S s115 43) = R) := Lib.hid (by have := HEQ.out; unfold expP at this; rwa [if_pos hc] at this)
          obtain ⟨s116, hs⟩ : ∃ s2, takeP S s115 43 = s2 := ⟨_, rfl⟩
          rw [hs] at HEQ HP
          clear hc hs
          go_wp2_with fail
          refine (pdigits_any g S s116 d o A w16 HP.out hl).mono ?_
          rintro x w17 ⟨rfl, ⟨A, hp⟩, hb⟩
          have HP := Lib.hid hp
          have HB := Lib.hid (HB.out.trans hb)
          obtain ⟨s117, hs⟩ : ∃ s2, digitsP S s116 = s2 := ⟨_, rfl⟩
          rw [hs] at HEQ HP
          clear hp hb hs
          go_upto_region 11 with (fail)
          have e0 := HP.out.c0
          have e1 := HP.out.c1
          have hsl := fun w => st_mid S 0 s117.p (by omega) HP.out.le 0 (s117.p : Int) rfl rfl w
          simp only [List.drop_zero, Nat.sub_zero] at hsl
          have HPN : Hid (∀ n, PP (w17.drewN n) g S s117 d o A) := Lib.hid fun n => HP.out.drewN n
          have HBN : Hid (∀ n, But g w (w17.drewN n)) := Lib.hid fun n => HB.out.drewN n
          go_quiet (fail)
          go_wp2_with fail
          refine bodyPost_ret (results_tmp rfl _ _ _) rfl ?_
          exact ⟨by rw [← HEQ.out]; rfl, ⟨A, by rw [← HEQ.out]; exact HPN.out _⟩, HBN.out _⟩
        | false =>
          have HEQ : Hid (digitsP S (takeP S s115 45) = R) := Lib.hid (by have := HEQ.out; unfold expP at this; rwa [if_neg (by rw [hc]; decide)] at this)
          rw [take_no hc] at HP
          clear hc
          go_wp2_with fail
          refine (ptake_any g S s115 d o A 45 45 rfl w16 HP.out hl).mono ?_
          rintro x w18 ⟨rfl, hp, hb⟩
          have HP := Lib.hid hp
          have HB := Lib.hid (HB.out.trans hb)
          obtain ⟨s118, hs⟩ : ∃ s2, takeP S s115 45 = s2 := ⟨_, rfl⟩
          rw [hs] at HEQ HP
          clear hp hb hs
          generalize isP S s115.p s115.e 45 = b45x
          go_wp2_with fail
          refine (pdigits_any g S s118 d o A w18 HP.out hl).mono ?_
          rintro x w19 ⟨rfl, ⟨A, hp⟩, hb⟩
          have HP := Lib.hid hp
          have HB := Lib.hid (HB.out.trans hb)
          obtain ⟨s119, hs⟩ : ∃ s2, digitsP S s118 = s2 := ⟨_, rfl⟩
          rw [hs] at HEQ HP
          clear hp hb hs
          go_upto_region 11 with (fail)
          have e0 := HP.out.c0
          have e1 := HP.out.c1
          have hsl := fun w => st_mid S 0 s119.p (by omega) HP.out.le 0 (s119.p : Int) rfl rfl w
          simp only [List.drop_zero, Nat.sub_zero] at hsl
          have HPN : Hid (∀ n, PP (w19.drewN n) g S s119 d o A) := Lib.hid fun n => HP.out.drewN n
          have HBN : Hid (∀ n, But g w (w19.drewN n)) := Lib.hid fun n => HB.out.drewN n
          go_quiet (fail)
          go_wp2_with fail
          refine bodyPost_ret (results_tmp rfl _ _ _) rfl ?_
          exact ⟨by rw [← HEQ.out]; rfl, ⟨A, by rw [← HEQ.out]; exact HPN.out _⟩, HBN.out _⟩
      | false =>
        have HEQ : Hid ((if isP S s102.p s102.e 69 then expP S (takeP S s102 69) else s102) = R) := Lib.hid (by have := HEQ.out; unfold tailP at this; rwa [if_neg (by rw [hc]; decide)] at this)
        rw [take_no hc] at HP
        clear hc
        go_wp2_with fail
        refine (ptake_any g S s102 d o A 69 69 rfl w15 HP.out hl).mono ?_
        rintro x w20 ⟨rfl, hp, hb⟩
        have HP := Lib.hid hp
        have HB := Lib.hid (HB.out.trans hb)
        clear hp hb
        cases hc : isP S s102.p s102.e 69 with
        | true =>
          have HEQ : Hid (expP S (takeP S s102 69) = R) := Lib.hid (by have := HEQ.out; rwa [if_pos hc] at this)
          obtain ⟨s120, hs⟩ : ∃ s2, takeP S s102 69 = s2 := ⟨_, rfl⟩
          rw [hs] at HEQ HP
          clear hc hs
          go_wp2_with fail
          refine (ptake_any g S s120 d o A 43 43 rfl w20 HP.out hl).mono ?_
          rintro x w21 ⟨rfl, hp, hb⟩
          have HP := Lib.hid hp
          have HB := Lib.hid (HB.out.trans hb)
          clear hp hb
          cases hc : isP S s120.p s120.e 43 with
          | true =>
            have HEQ : Hid (digitsP S (takeP S s120 43) = R) := Lib.hid (by have := HEQ.out; unfold expP at this; rwa [if_pos hc] at this)
            obtain ⟨s121, hs⟩ : ∃ s2, takeP S s120 43 = s2 := ⟨_, rfl⟩
            rw [hs] at HEQ HP
            clear hc hs
            go_wp2_with fail
            refine (pdigits_any g S s121 d o A w21 HP.out hl).mono ?_
            rintro x w22 ⟨rfl, ⟨A, hp⟩, hb⟩
            have HP := Lib.hid hp
            have HB := Lib.hid (HB.out.trans hb)
            obtain ⟨s122, hs⟩ : ∃ s2, digitsP S s121 = s2 := ⟨_, rfl⟩
            rw [hs] at HEQ HP
            clear hp hb hs
            go_upto_region 11 with (fail)
            have e0 := HP.out.c0
            have e1 := HP.out.c1
            have hsl := fun w => st_mid S 0 s122.p (by omega) HP.out.le 0 (s122.p : Int) rfl rfl w
            simp only [List.drop_zero, Nat.sub_zero] at hsl
            have HPN : Hid (∀ n, PP (w22.drewN n) g S s122 d o A) := Lib.hid fun n => HP.out.drewN n
            have HBN : Hid (∀ n, But g w (w22.drewN n)) := Lib.hid fun n => HB.out.drewN n
            go_quiet (fail)
            go_wp2_with fail
            refine bodyPost_ret (results_tmp rfl _ _ _) rfl ?_
            exact ⟨by rw [← HEQ.out]; rfl, ⟨A, by rw [← HEQ.out]; exact HPN.out _⟩, HBN.out _⟩
          | false =>
            have HEQ : Hid (digitsP S (takeP S s120 45) = R) := Lib.hid (by have := HEQ.out; unfold expP at this; rwa [if_neg (by rw [hc]; decide)] at this)
            rw [take_no hc] at HP
            clear hc
            go_wp2_with fail
            refine (ptake_any g S s120 d o A 45 45 rfl w21 HP.out hl).mono ?_
            rintro x w23 ⟨rfl, hp, hb⟩
            have HP := Lib.hid hp
            have HB := Lib.hid (HB.out.trans hb)
            obtain ⟨s123, hs⟩ : ∃ s2, takeP S s120 45 = s2 := ⟨_, rfl⟩
            rw [hs] at HEQ HP
            clear hp hb hs
            generalize isP S s120.p s120.e 45 = b45x
            go_wp2_with fail
            refine (pdigits_any g S s123 d o A w23 HP.out hl).mono ?_
            rintro x w24 ⟨rfl, ⟨A, hp⟩, hb⟩
            have HP := Lib.hid hp
            have HB := Lib.hid (HB.out.trans hb)
            obtain ⟨s124, hs⟩ : ∃ s2, digitsP S s123 = s2 := ⟨_, rfl⟩
            rw [hs] at HEQ HP
            clear hp hb hs
            go_upto_region 11 with (fail)
            have e0 := HP.out.c0
            have e1 := HP.out.c1
            have hsl := fun w => st_mid S 0 s124.p (by omega) HP.out.le 0 (s124.p : Int) rfl rfl w
            simp only [List.drop_zero, Nat.sub_zero] at hsl
            have HPN : Hid (∀ n, PP (w24.drewN n) g S s124 d o A) := Lib.hid fun n => HP.out.drewN n
            have HBN : Hid (∀ n, But g w (w24.drewN n)) := Lib.hid fun n => HB.out.drewN n
            go_quiet (fail)
            go_wp2_with fail
            refine bodyPost_ret (results_tmp rfl _ _ _) rfl ?_
            exact ⟨by rw [← HEQ.out]; rfl, ⟨A, by rw [← HEQ.out]; exact HPN.out _⟩, HBN.out _⟩
        | false =>
          have HEQ : Hid (s102 = R) := Lib.hid (by have := HEQ.out; rwa [if_neg (by rw [hc]; decide)] at this)
          rw [take_no hc] at HP
          clear hc
          go_upto_region 11 with (fail)
          have e0 := HP.out.c0
          have e1 := HP.out.c1
          have hsl := fun w => st_mid S 0 s102.p (by omega) HP.out.le 0 (s102.p : Int) rfl rfl w
          simp only [List.drop_zero, Nat.sub_zero] at hsl
          have HPN : Hid (∀ n, PP (w20.drewN n) g S s102 d o A) := Lib.hid fun n => HP.out.drewN n
          have HBN : Hid (∀ n, But g w (w20.drewN n)) := Lib.hid fun n => HB.out.drewN n
          go_quiet (fail)
          go_wp2_with fail
          refine bodyPost_ret (results_tmp rfl _ _ _) rfl ?_
          exact ⟨by rw [← HEQ.out]; rfl, ⟨A, by rw [← HEQ.out]; exact HPN.out _⟩, HBN.out _⟩
  | false =>
    have HEQ : Hid (tailP S (fracP S (digitsP S s)) = R) := Lib.hid (by have := HEQ.out; unfold intP at this; rwa [if_neg (by rw [hc]; decide)] at this)
    rw [take_no hc] at HP
    clear hc
    go_wp2_with fail
    refine (pdigits_any g S s d o A w2 HP.out hl).mono ?_
    rintro x w25 ⟨rfl, ⟨A, hp⟩, hb⟩
    have HP := Lib.hid hp
    have HB := Lib.hid (HB.out.trans hb)
    obtain ⟨s125, hs⟩ : ∃ s2, digitsP S s = s2 := ⟨_, rfl⟩
    rw [hs] at HEQ HP
    clear hp hb hs
    go_wp2_with fail
    refine (ptake_any g S s125 d o A 46 46 rfl w25 HP.out hl).mono ?_
    rintro x w26 ⟨rfl, hp, hb⟩
    have HP := Lib.hid hp
    have HB := Lib.hid (HB.out.trans hb)
    clear hp hb
    cases hc : isP S s125.p s125.e 46 with
    | true =>
      have HEQ : Hid (tailP S (digitsP S (takeP S s125 46)) = R) := Lib.hid (by have := HEQ.out; unfold fracP at this; rwa [if_pos hc] at this)
      obtain ⟨s126, hs⟩ : ∃ s2, takeP S s125 46 = s2 := ⟨_, rfl⟩
      rw [hs] at HEQ HP
      clear hc hs
      go_wp2_with fail
      refine (pdigits_any g S s126 d o A w26 HP.out hl).mono ?_
      rintro x w27 ⟨rfl, ⟨A, hp⟩, hb⟩
      have HP := Lib.hid hp
      have HB := Lib.hid (HB.out.trans hb)
      obtain ⟨s127, hs⟩ : ∃ s2, digitsP S s126 = s2 := ⟨_, rfl⟩
      rw [hs] at HEQ HP
      clear hp hb hs
      go_wp2_with fail
      refine (ptake_any g S s127 d o A 101 101 rfl w27 HP.out hl).mono ?_
      rintro x w28 ⟨rfl, hp, hb⟩
      have HP := Lib.hid hp
      have HB := Lib.hid (HB.out.trans hb)
      clear hp hb
      cases hc : isP S s127.p s127.e 101 with
      | true =>
        have HEQ : Hid (expP S (takeP S s127 101) = R) := Lib.hid (by have := HEQ.out; unfold tailP at this; rwa [if_pos hc] at this)
        obtain ⟨s128, hs⟩ : ∃ s2, takeP S s127 101 = s2 := ⟨_, rfl⟩
        rw [hs] at HEQ HP
        clear hc hs
        go_wp2_with fail
        refine (ptake_any g S s128 d o A 43 43 rfl w28 HP.out hl).mono ?_
        rintro x w29 ⟨rfl, hp, hb⟩
        have HP := Lib.hid hp
        have HB := Lib.hid (HB.out.trans hb)
        clear hp hb
        cases hc : isP S s128.p s128.e 43 with
        | true =>
          have HEQ : Hid (digitsP S (takeP S s128 43) = R) := Lib.hid (by have := HEQ.out; unfold expP at this; rwa [if_pos hc] at this)
          obtain ⟨s129, hs⟩ : ∃ s2, takeP S s128 43 = s2 := ⟨_, rfl⟩
          rw [hs] at HEQ HP
          clear hc hs
          go_wp2_with fail
          refine (pdigits_any g S s129 d o A w29 HP.out hl).mono ?_
          rintro x w30 ⟨rfl, ⟨A, hp⟩, hb⟩
          have HP := Lib.hid hp
          have HB := Lib.hid (HB.out.trans hb)
          obtain ⟨s130, hs⟩ : ∃ s2, digitsP S s129 = s2 := ⟨_, rfl⟩
          rw [hs] at HEQ HP
          clear hp hb hs
          go_upto_region 11 with (fail)
          have e0 := HP.out.c0
          have e1 := HP.out.c1
          have hsl := fun w => st_mid S 0 s130.p (by omega) HP.out.le 0 (s130.p : Int) rfl rfl w
          simp only [List.drop_zero, Nat.sub_zero] at hsl
          have HPN : Hid (∀ n, PP (w30.drewN n) g S s130 d o A) := Lib.hid fun n => HP.out.drewN n
          have HBN : Hid (∀ n, But g w (w30.drewN n)) := Lib.hid fun n => HB.out.drewN n
          go_quiet (fail)
          go_wp2_with fail
          refine bodyPost_ret (results_tmp rfl _ _ _) rfl ?_
          exact ⟨by rw [← HEQ.out]; rfl, ⟨A, by rw [← HEQ.out]; exact HPN.out _⟩, HBN.out _⟩
        | false =>
          have HEQ : Hid (digitsP S (takeP S s128 45) = R) := Lib.hid (by have := HEQ.out; unfold expP at this; rwa [if_neg (by rw [hc]; decide)] at this)
          rw [take_no hc] at HP
          clear hc
          go_wp2_with fail
          refine (ptake_any g S s128 d o A 45 45 rfl w29 HP.out hl).mono ?_
          rintro x w31 ⟨rfl, hp, hb⟩
          have HP := Lib.hid hp
          have HB := Lib.hid (HB.out.trans hb)
          obtain ⟨s131, hs⟩ : ∃ s2, takeP S s128 45 = s2 := ⟨_, rfl⟩
          rw [hs] at HEQ HP
          clear hp hb hs
          generalize isP S s128.p s128.e 45 = b45x
          go_wp2_with fail
          refine (pdigits_any g S s131 d o A w31 HP.out hl).mono ?_
          rintro x w32 ⟨rfl, ⟨A, hp⟩, hb⟩
          have HP := Lib.hid hp
          have HB := Lib.hid (HB.out.trans hb)
          obtain ⟨s132, hs⟩ : ∃ s2, digitsP S s131 = s2 := ⟨_, rfl⟩
          rw [hs] at HEQ HP
          clear hp hb hs
          go_upto_region 11 with (fail)
          have e0 := HP.out.c0
          have e1 := HP.out.c1
          have hsl := fun w => st_mid S 0 s132.p (by omega) HP.out.le 0 (s132.p : Int) rfl rfl w
          simp only [List.drop_zero, Nat.sub_zero] at hsl
          have HPN : Hid (∀ n, PP (w32.drewN n) g S s132 d o A) := Lib.hid fun n => HP.out.drewN n
          have HBN : Hid (∀ n, But g w (w32.drewN n)) := Lib.hid fun n => HB.out.drewN n
          go_quiet (fail)
          go_wp2_with fail
          refine bodyPost_ret (results_tmp rfl _ _ _) rfl ?_
          exact ⟨by rw [← HEQ.out]; rfl, ⟨A, by rw [← HEQ.out]; exact HPN.out _⟩, HBN.out _⟩
      | false =>
        have HEQ : Hid ((if isP S s127.p s127.e 69 then expP S (takeP S s127 69) else s127) = R) := Lib.hid (by have := HEQ.out; unfold tailP at this; rwa [if_neg (by rw [hc]; decide)] at this)
        rw [take_no hc] at HP
        clear hc
        go_wp2_with fail
        refine (ptake_any g S s127 d o A 69 69 rfl w28 HP.out hl).mono ?_
        rintro x w33 ⟨rfl, hp, hb⟩
        have HP := Lib.hid hp
        have HB := Lib.hid (HB.out.trans hb)
        clear hp hb
        cases hc : isP S s127.p s127.e 69 with
        | true =>
          have HEQ : Hid (expP S (takeP S s127 69) = R) := Lib.hid (by have := HEQ.out; rwa [if_pos hc] at this)
          obtain ⟨s133, hs⟩ : ∃ s2, takeP S s127 69 = s2 := ⟨_, rfl⟩
          rw [hs] at HEQ HP
          clear hc hs
          go_wp2_with fail
          refine (ptake_any g S s133 d o A 43 43 rfl w33 HP.out hl).mono ?_
          rintro x w34 ⟨rfl, hp, hb⟩
          have HP := Lib.hid hp
          have HB := Lib.hid (HB.out.trans hb)
          clear hp hb
          cases hc : isP S s133.p s133.e 43 with
          | true =>
            have HEQ : Hid (digitsP S (takeP S s133 43) = R) := Lib.hid (by have := HEQ.out; unfold expP at this; rwa [if_pos hc] at this)
            obtain ⟨s134, hs⟩ : ∃ s2, takeP S s133 43 = s2 := ⟨_, rfl⟩
            rw [hs] at HEQ HP
            clear hc hs
            go_wp2_with fail
            refine (pdigits_any g S s134 d o A w34 HP.out hl).mono ?_
            rintro x w35 ⟨rfl, ⟨A, hp⟩, hb⟩
            have HP := Lib.hid hp
            have HB := Lib.hid (HB.out.trans hb)
            obtain ⟨s135, hs⟩ : ∃ s2, digitsP S s134 = s2 := ⟨_, rfl⟩
            rw [hs] at HEQ HP
            clear hp hb hs
            go_upto_region 11 with (fail)
            have e0 := HP.out.c0
            have e1 := HP.out.c1
            have hsl := fun w => st_mid S 0 s135.p (by omega) HP.out.le 0 (s135.p : Int) rfl rfl w
            simp only [List.drop_zero, Nat.sub_zero] at hsl
            have HPN : Hid (∀ n, PP (w35.drewN n) g S s135 d o A) := Lib.hid fun n => HP.out.drewN n
            have HBN : Hid (∀ n, But g w (w35.drewN n)) := Lib.hid fun n => HB.out.drewN n
            go_quiet (fail)
            go_wp2_with fail
            refine bodyPost_ret (results_tmp rfl _ _ _) rfl ?_
            exact ⟨by rw [← HEQ.out]; rfl, ⟨A, by rw [← HEQ.out]; exact HPN.out _⟩, HBN.out _⟩
          | false =>
            have HEQ : Hid (digitsP S (takeP S s133 45) = R) := Lib.hid (by have := HEQ.out; unfold expP at this; rwa [if_neg (by rw [hc]; decide)] at this)
            rw [take_no hc] at HP
            clear hc
            go_wp2_with fail
            refine (ptake_any g S s133 d o A 45 45 rfl w34 HP.out hl).mono ?_
            rintro x w36 ⟨rfl, hp, hb⟩
            have HP := Lib.hid hp
            have HB := Lib.hid (HB.out.trans hb)
            obtain ⟨s136, hs⟩ : ∃ s2, takeP S s133 45 = s2 := ⟨_, rfl⟩
            rw [hs] at HEQ HP
            clear hp hb hs
            generalize isP S s133.p s133.e 45 = b45x
            go_wp2_with fail
            refine (pdigits_any g S s136 d o A w36 HP.out hl).mono ?_
            rintro x w37 ⟨rfl, ⟨A, hp⟩, hb⟩
            have HP := Lib.hid hp
            have HB := Lib.hid (HB.out.trans hb)
            obtain ⟨s137, hs⟩ : ∃ s2, digitsP S s136 = s2 := ⟨_, rfl⟩
            rw [hs] at HEQ HP
            clear hp hb hs
            go_upto_region 11 with (fail)
            have e0 := HP.out.c0
            have e1 := HP.out.c1
            have hsl := fun w => st_mid S 0 s137.p (by omega) HP.out.le 0 (s137.p : Int) rfl rfl w
            simp only [List.drop_zero, Nat.sub_zero] at hsl
            have HPN : Hid (∀ n, PP (w37.drewN n) g S s137 d o A) := Lib.hid fun n => HP.out.drewN n
            have HBN : Hid (∀ n, But g w (w37.drewN n)) := Lib.hid fun n => HB.out.drewN n
            go_quiet (fail)
            go_wp2_with fail
            refine bodyPost_ret (results_tmp rfl _ _ _) rfl ?_
            exact ⟨by rw [← HEQ.out]; rfl, ⟨A, by rw [← HEQ.out]; exact HPN.out _⟩, HBN.out _⟩
        | false =>
          have HEQ : Hid (s127 = R) := Lib.hid (by have := HEQ.out; rwa [if_neg (by rw [hc]; decide)] at this)
          rw [take_no hc] at HP
          clear hc
          go_upto_region 11 with (fail)
          have e0 := HP.out.c0
          have e1 := HP.out.c1
          have hsl := fun w => st_mid S 0 s127.p (by omega) HP.out.le 0 (s127.p : Int) rfl rfl w
          simp only [List.drop_zero, Nat.sub_zero] at hsl
          have HPN : Hid (∀ n, PP (w33.drewN n) g S s127 d o A) := Lib.hid fun n => HP.out.drewN n
          have HBN : Hid (∀ n, But g w (w33.drewN n)) := Lib.hid fun n => HB.out.drewN n
          go_quiet (fail)
          go_wp2_with fail
          refine bodyPost_ret (results_tmp rfl _ _ _) rfl ?_
          exact ⟨by rw [← HEQ.out]; rfl, ⟨A, by rw [← HEQ.out]; exact HPN.out _⟩, HBN.out _⟩
    | false =>
      have HEQ : Hid (tailP S s125 = R) := Lib.hid (by have := HEQ.out; unfold fracP at this; rwa [if_neg (by rw [hc]; decide)] at this)
      rw [take_no hc] at HP
      clear hc
      go_wp2_with fail
      refine (ptake_any g S s125 d o A 101 101 rfl w26 HP.out hl).mono ?_
      rintro x w38 ⟨rfl, hp, hb⟩
      have HP := Lib.hid hp
      have HB := Lib.hid (HB.out.trans hb)
      clear hp hb
      cases hc : isP S s125.p s125.e 101 with
      | true =>
        have HEQ : Hid (expP S (takeP S s125 101) = R) := Lib.hid (by have := HEQ.out; unfold tailP at this; rwa [if_pos hc] at this)
        obtain ⟨s138, hs⟩ : ∃ s2, takeP S s125 101 = s2 := ⟨_, rfl⟩
        rw [hs] at HEQ HP
        clear hc hs
        go_wp2_with fail
        refine (ptake_any g S s138 d o A 43 43 rfl w38 HP.out hl).mono ?_
        rintro x w39 ⟨rfl, hp, hb⟩
        have HP := Lib.hid hp
        have HB := Lib.hid (HB.out.trans hb)
        clear hp hb
        cases hc : isP S s138.p s138.e 43 with
        | true =>
          have HEQ : Hid (digitsP S (takeP S s138 43) = R) := Lib.hid (by have := HEQ.out; unfold expP at this; rwa [if_pos hc] at this)
          obtain ⟨s139, hs⟩ : ∃ s2, takeP S s138 43 = s2 := ⟨_, rfl⟩
          rw [hs] at HEQ HP
          clear hc hs
          go_wp2_with fail
          refine (pdigits_any g S s139 d o A w39 HP.out hl).mono ?_
          rintro x w40 ⟨rfl, ⟨A, hp⟩, hb⟩
          have HP := Lib.hid hp
          have HB := Lib.hid (HB.out.trans hb)
          obtain ⟨s140, hs⟩ : ∃ s2, digitsP S s139 = s2 := ⟨_, rfl⟩
          rw [hs] at HEQ HP
          clear hp hb hs
          go_upto_region 11 with (fail)
          have e0 := HP.out.c0
          have e1 := HP.out.c1
          have hsl := fun w => st_mid S 0 s140.p (by omega) HP.out.le 0 (s140.p : Int) rfl rfl w
          simp only [List.drop_zero, Nat.sub_zero] at hsl
          have HPN : Hid (∀ n, PP (w40.drewN n) g S s140 d o A) := Lib.hid fun n => HP.out.drewN n
          have HBN : Hid (∀ n, But g w (w40.drewN n)) := Lib.hid fun n => HB.out.drewN n
          go_quiet (fail)
          go_wp2_with fail
          refine bodyPost_ret (results_tmp rfl _ _ _) rfl ?_
          exact ⟨by rw [← HEQ.out]; rfl, ⟨A, by rw [← HEQ.out]; exact HPN.out _⟩, HBN.out _⟩
        | false =>
          have HEQ : Hid (digitsP S (takeP S s138 45) = R) := Lib.hid (by have := HEQ.out; unfold expP at this; rwa [if_neg (by rw [hc]; decide)] at this)
          rw [take_no hc] at HP
          clear hc
          go_wp2_with fail
          refine (ptake_any g S s138 d o A 45 45 rfl w39 HP.out hl).mono ?_
          rintro x w41 ⟨rfl, hp, hb⟩
          have HP := Lib.hid hp
          have HB := Lib.hid (HB.out.trans hb)
          obtain ⟨s141, hs⟩ : ∃ s2, takeP S s138 45 = s2 := ⟨_, rfl⟩
          rw [hs] at HEQ HP
          clear hp hb hs
          generalize isP S s138.p s138.e 45 = b45x
          go_wp2_with fail
          refine (pdigits_any g S s141 d o A w41 HP.out hl).mono ?_
          rintro x w42 ⟨rfl, ⟨A, hp⟩, hb⟩
          have HP := Lib.hid hp
          have HB := Lib.hid (HB.out.trans hb)
          obtain ⟨s142, hs⟩ : ∃ s2, digitsP S s141 = s2 := ⟨_, rfl⟩
          rw [hs] at HEQ HP
          clear hp hb hs
          go_upto_region 11 with (fail)
          have e0 := HP.out.c0
          have e1 := HP.out.c1
          have hsl := fun w => st_mid S 0 s142.p (by omega) HP.out.le 0 (s142.p : Int) rfl rfl w
          simp only [List.drop_zero, Nat.sub_zero] at hsl
          have HPN : Hid (∀ n, PP (w42.drewN n) g S s142 d o A) := Lib.hid fun n => HP.out.drewN n
          have HBN : Hid (∀ n, But g w (w42.drewN n)) := Lib.hid fun n => HB.out.drewN n
          go_quiet (fail)
          go_wp2_with fail
          refine bodyPost_ret (results_tmp rfl _ _ _) rfl ?_
          exact ⟨by rw [← HEQ.out]; rfl, ⟨A, by rw [← HEQ.out]; exact HPN.out _⟩, HBN.out _⟩
      | false =>
        have HEQ : Hid ((if isP S s125.p s125.e 69 then expP S (takeP S s125 69) else s125) = R) := Lib.hid (by have := HEQ.out; unfold tailP at this; rwa [if_neg (by rw [hc]; decide)] at this)
        rw [take_no hc] at HP
        clear hc
        go_wp2_with fail
        refine (ptake_any g S s125 d o A 69 69 rfl w38 HP.out hl).mono ?_
        rintro x w43 ⟨rfl, hp, hb⟩
        have HP := Lib.hid hp
        have HB := Lib.hid (HB.out.trans hb)
        clear hp hb
        cases hc : isP S s125.p s125.e 69 with
        | true =>
          have HEQ : Hid (expP S (takeP S s125 69) = R) := Lib.hid (by have := HEQ.out; rwa [if_pos hc] at this)
          obtain ⟨s143, hs⟩ : ∃ s2, takeP S s125 69 = s2 := ⟨_, rfl⟩
          rw [hs] at HEQ HP
          clear hc hs
          go_wp2_with fail
          refine (ptake_any g S s143 d o A 43 43 rfl w43 HP.out hl).mono ?_
          rintro x w44 ⟨rfl, hp, hb⟩
          have HP := Lib.hid hp
          have HB := Lib.hid (HB.out.trans hb)
          clear hp hb
          cases hc : isP S s143.p s143.e 43 with
          | true =>
            have HEQ : Hid (digitsP S (takeP S s143 43) = R) := Lib.hid (by have := HEQ.out; unfold expP at this; rwa [if_pos hc] at this)
            obtain ⟨s144, hs⟩ : ∃ s2, takeP S s143 43 = s2 := ⟨_, rfl⟩
            rw [hs] at HEQ HP
            clear hc hs
            go_wp2_with fail
            refine (pdigits_any g S s144 d o A w44 HP.out hl).mono ?_
            rintro x w45 ⟨rfl, ⟨A, hp⟩, hb⟩
            have HP := Lib.hid hp
            have HB := Lib.hid (HB.out.trans hb)
            obtain ⟨s145, hs⟩ : ∃ s2, digitsP S s144 = s2 := ⟨_, rfl⟩
            rw [hs] at HEQ HP
            clear hp hb hs
            go_upto_region 11 with (fail)
            have e0 := HP.out.c0
            have e1 := HP.out.c1
            have hsl := fun w => st_mid S 0 s145.p (by omega) HP.out.le 0 (s145.p : Int) rfl rfl w
            simp only [List.drop_zero, Nat.sub_zero] at hsl
            have HPN : Hid (∀ n, PP (w45.drewN n) g S s145 d o A) := Lib.hid fun n => HP.out.drewN n
            have HBN : Hid (∀ n, But g w (w45.drewN n)) := Lib.hid fun n => HB.out.drewN n
            go_quiet (fail)
            go_wp2_with fail
            refine bodyPost_ret (results_tmp rfl _ _ _) rfl ?_
            exact ⟨by rw [← HEQ.out]; rfl, ⟨A, by rw [← HEQ.out]; exact HPN.out _⟩, HBN.out _⟩
          | false =>
            have HEQ : Hid (digitsP S (takeP S s143 45) = R) := Lib.hid (by have := HEQ.out; unfold expP at this; rwa [if_neg (by rw [hc]; decide)] at this)
            rw [take_no hc] at HP
            clear hc
            go_wp2_with fail
            refine (ptake_any g S s143 d o A 45 45 rfl w44 HP.out hl).mono ?_
            rintro x w46 ⟨rfl, hp, hb⟩
            have HP := Lib.hid hp
            have HB := Lib.hid (HB.out.trans hb)
            obtain ⟨s146, hs⟩ : ∃ s2, takeP S s143 45 = s2 := ⟨_, rfl⟩
            rw [hs] at HEQ HP
            clear hp hb hs
            generalize isP S s143.p s143.e 45 = b45x
            go_wp2_with fail
            refine (pdigits_any g S s146 d o A w46 HP.out hl).mono ?_
            rintro x w47 ⟨rfl, ⟨A, hp⟩, hb⟩
            have HP := Lib.hid hp
            have HB := Lib.hid (HB.out.trans hb)
            obtain ⟨s147, hs⟩ : ∃ s2, digitsP S s146 = s2 := ⟨_, rfl⟩
            rw [hs] at HEQ HP
            clear hp hb hs
            go_upto_region 11 with (fail)
            have e0 := HP.out.c0
            have e1 := HP.out.c1
            have hsl := fun w => st_mid S 0 s147.p (by omega) HP.out.le 0 (s147.p : Int) rfl rfl w
            simp only [List.drop_zero, Nat.sub_zero] at hsl
            have HPN : Hid (∀ n, PP (w47.drewN n) g S s147 d o A) := Lib.hid fun n => HP.out.drewN n
            have HBN : Hid (∀ n, But g w (w47.drewN n)) := Lib.hid fun n => HB.out.drewN n
            go_quiet (fail)
            go_wp2_with fail
            refine bodyPost_ret (results_tmp rfl _ _ _) rfl ?_
            exact ⟨by rw [← HEQ.out]; rfl, ⟨A, by rw [← HEQ.out]; exact HPN.out _⟩, HBN.out _⟩
        | false =>
          have HEQ : Hid (s125 = R) := Lib.hid (by have := HEQ.out; rwa [if_neg (by rw [hc]; decide)] at this)
          rw [take_no hc] at HP
          clear hc
          go_upto_region 11 with (fail)
          have e0 := HP.out.c0
          have e1 := HP.out.c1
          have hsl := fun w => st_mid S 0 s125.p (by omega) HP.out.le 0 (s125.p : Int) rfl rfl w
          simp only [List.drop_zero, Nat.sub_zero] at hsl
          have HPN : Hid (∀ n, PP (w43.drewN n) g S s125 d o A) := Lib.hid fun n => HP.out.drewN n
          have HBN : Hid (∀ n, But g w (w43.drewN n)) := Lib.hid fun n => HB.out.drewN n
          go_quiet (fail)
          go_wp2_with fail
          refine bodyPost_ret (results_tmp rfl _ _ _) rfl ?_
          exact ⟨by rw [← HEQ.out]; rfl, ⟨A, by rw [← HEQ.out]; exact HPN.out _⟩, HBN.out _⟩
end Go.Proofs.YtgcfikiajingcaaGreat
/- The maker: bare; what Right says. -/
set_option linter.unusedVariables false
namespace Go.Proofs.YtgcfikiajingcaaGreat
open Go.RowKit

set_option maxRecDepth 100000 in
set_option maxHeartbeats 32000000 in
theorem mbare_any (k : Int) (y : Bool) (t : List UInt8) (a a' : Option Addr) (n m c c' : Nat) (w : World) :
    Calls Tryz.prog 33 #[.agg #[.int .i64 k, .bool y, .string ⟨t.toArray⟩, .slice a n c, .slice a' m c']] w fun e w' => e = .returned (.bool (bareB k y t n m)) ∧ Below w.heap.size w w' := by
  have hkk : (k = 2) ∨ (k = 3) ∨ (k = 4) ∨ (k = 5) ∨ (k = 6) ∨ ((k == 2) = false ∧ (k == 3) = false ∧ (k == 4) = false ∧ (k == 5) = false ∧ (k == 6) = false) := by
    simp only [beq_eq_false_iff_ne, ne_eq]
    omega
  have hB : Hid (∀ ob, Below w.heap.size w (w.alloc ob)) := Lib.hid fun ob => (Below.refl _ _).alloc (Nat.le_refl _) _
  go_enter Tryz.func33, Tryz.ntmps33
  go_wp2_with fail
  all_goals (refine bodyPost_ret (results_tmp rfl _ _ _) rfl ?_; refine ⟨?_, hB.out _⟩)
  all_goals clear hB hkk
  all_goals simp_all [bareB]
  all_goals (try rw [zero_nat])
  all_goals (try rw [Bool.or_comm])
/-- What the maker's Right says of a value. -/
def MRightC (v : JV) : Prop := ∀ (ok : Nat → Prop) cs w, Rep ok w cs v → Calls Tryz.prog 11 #[.agg cs.toArray] w fun e w' => e = .returned (.bool (rightJ v)) ∧ Below w.heap.size w w'
end Go.Proofs.YtgcfikiajingcaaGreat
/- The maker: Right, of any value. -/
set_option linter.unusedVariables false
namespace Go.Proofs.YtgcfikiajingcaaGreat
open Go.RowKit

theorem bare_list {y : Bool} {t : List UInt8} {n m : Nat} (h : bareB 5 y t n m = true) : m = 0 := by
  simp [bareB] at h
  exact h.2
theorem bare_mem {y : Bool} {t : List UInt8} {n m : Nat} (h : bareB 6 y t n m = true) : n = 0 := by
  simp [bareB] at h
  exact h.2
theorem bare_leaf {k : Int} {y : Bool} {t : List UInt8} {n m : Nat} (h5 : k ≠ 5) (h6 : k ≠ 6) (h : bareB k y t n m = true) : n = 0 ∧ m = 0 := by
  simp [bareB, h5, h6] at h
  exact ⟨h.1.2, h.2⟩
set_option maxRecDepth 100000 in
set_option maxHeartbeats 16000000 in
theorem mright_arr (y : Bool) (t : List UInt8) (l : List JV) (m : List (List UInt8 × JV)) (hv : ∀ x ∈ l, MRightC x) (hl : l.length ≤ 10000000) : MRightC (.mk 5 y t l m) := by
  intro ok cs w h
  obtain ⟨a, c, a', c', cl, cm, rfl, h1, h2, -⟩ := h.parts
  simp only [JV.kind, JV.yes, JV.text, JV.list, JV.mem, strV] at *
  have H1 := Lib.hid h1.lt
  have H2 := Lib.hid h2.lt
  have HV := Lib.hid hv
  have HRT := Lib.hid (right_eq 5 y t l m)
  clear h h1 h2 hv
  go_enter Tryz.func11, Tryz.ntmps11
  go_upto_region 1 with (fail)
  have hb1 : Below w.heap.size w (w.alloc (.cells #[.int .i64 5, .bool y, .string ⟨t.toArray⟩, .slice a l.length c, .slice a' m.length c'] 28)) := (Below.refl _ _).alloc (Nat.le_refl _) _
  have hx1 := heap_alloc_new w (.cells #[.int .i64 5, .bool y, .string ⟨t.toArray⟩, .slice a l.length c, .slice a' m.length c'] 28)
  generalize w.alloc _ = w1 at *
  have HB1 := Lib.hid hb1
  have hs1 : w.heap.size < w1.heap.size := (Array.getElem?_eq_some_iff.1 hx1).1
  have v0 : w1.cell? ⟨w.heap.size, 0, none⟩ = some (.int .i64 5) := by rw [Lib.cell_of_heap hx1]; rfl
  have v1 : w1.cell? ⟨w.heap.size, 1, none⟩ = some (.bool y) := by rw [Lib.cell_of_heap hx1]; rfl
  have v2 : w1.cell? ⟨w.heap.size, 2, none⟩ = some (.string ⟨t.toArray⟩) := by rw [Lib.cell_of_heap hx1]; rfl
  have v3 : w1.cell? ⟨w.heap.size, 3, none⟩ = some (.slice a l.length c) := by rw [Lib.cell_of_heap hx1]; rfl
  have v4 : w1.cell? ⟨w.heap.size, 4, none⟩ = some (.slice a' m.length c') := by rw [Lib.cell_of_heap hx1]; rfl
  have HX1 := Lib.hid hx1
  clear hb1 hx1
  go_wp2_with fail
  refine (mbare_any 5 y t a a' l.length m.length c c' w1).mono ?_
  rintro e w2 ⟨rfl, hb2⟩
  have HB2 := Lib.hid (HB1.out.trans (hb2.mono HB1.out.size))
  have HX2 := Lib.hid ((hb2.block _ hs1).trans HX1.out)
  have hs2 : w.heap.size < w2.heap.size := Nat.lt_of_lt_of_le hs1 hb2.size
  clear hb2 v0 v1 v2 v3 v4
  have v0 : w2.cell? ⟨w.heap.size, 0, none⟩ = some (.int .i64 5) := by rw [Lib.cell_of_heap HX2.out]; rfl
  have v3 : w2.cell? ⟨w.heap.size, 3, none⟩ = some (.slice a l.length c) := by rw [Lib.cell_of_heap HX2.out]; rfl
  cases hbb : bareB 5 y t l.length m.length with
  | false =>
    rw [hbb] at HRT
    clear hbb
    go_wp2_with fail
    refine bodyPost_ret (results_tmp rfl _ _ _) rfl ?_
    exact ⟨by rw [HRT.out]; rfl, HB2.out⟩
  | true =>
    have HE : Hid (rightJ (.mk 5 y t l m) = rightL l) := Lib.hid (by rw [HRT.out, hbb]; cases rightL l <;> rfl)
    have hm0 : ¬ (0 : Int) < (m.length : Int) := by have := bare_list hbb; omega
    clear HRT hbb
    go_wp2_with fail
    go_loopg [56] l.length (fun k iv wr => ∃ j : Nat, iv = .int .i64 (j : Int) ∧ j + k = l.length ∧ Hid (rightL l = rightL (l.drop j)) ∧ Hid (Below w2.heap.size w2 wr))
    case atStart => exact ⟨0, rfl, by omega, Lib.hid rfl, Lib.hid (Below.refl _ _)⟩
    case round =>
      obtain ⟨j, rfl, hj, HL, HB⟩ := hrel
      have HBW := Lib.hid (HB2.out.trans (HB.out.mono (Nat.le_of_lt hs2)))
      by_cases hlt : j < l.length
      · have hltI : (j : Int) < (l.length : Int) := by omega
        obtain ⟨br, off, k2, y2, t2, a2, l2, c2, a3, l3, c3, ea, hrep, i0, i1, i2, i3, i4⟩ := list_cells (H1.out.keep fun b hb _ => HBW.out.block b hb.2) (H2.out.keep fun b hb _ => HBW.out.block b hb.2) j hlt
        subst ea
        have HREP := Lib.hid hrep
        have HC := Lib.hid (HV.out l[j] (List.getElem_mem hlt))
        have HT := Lib.hid (rightL_drop hlt)
        generalize l[j] = x at *
        clear hrep v0 v3
        go_upto_region 9 with (fail)
        have hb4 : Below wr.heap.size wr (wr.alloc (.cells #[.int .i64 k2, .bool y2, .string ⟨t2⟩, .slice a2 l2 c2, .slice a3 l3 c3] 28)) := (Below.refl _ _).alloc (Nat.le_refl _) _
        have hx4 := heap_alloc_new wr (.cells #[.int .i64 k2, .bool y2, .string ⟨t2⟩, .slice a2 l2 c2, .slice a3 l3 c3] 28)
        generalize wr.alloc (.cells #[.int .i64 k2, .bool y2, .string ⟨t2⟩, .slice a2 l2 c2, .slice a3 l3 c3] 28) = w4 at *
        have HB4 := Lib.hid (HB.out.trans (hb4.mono HB.out.size))
        have HREP4 := Lib.hid (HREP.out.under hb4)
        have v0 : w4.cell? ⟨wr.heap.size, 0, none⟩ = some (.int .i64 k2) := by rw [Lib.cell_of_heap hx4]; rfl
        have v1 : w4.cell? ⟨wr.heap.size, 1, none⟩ = some (.bool y2) := by rw [Lib.cell_of_heap hx4]; rfl
        have v2 : w4.cell? ⟨wr.heap.size, 2, none⟩ = some (.string ⟨t2⟩) := by rw [Lib.cell_of_heap hx4]; rfl
        have v3 : w4.cell? ⟨wr.heap.size, 3, none⟩ = some (.slice a2 l2 c2) := by rw [Lib.cell_of_heap hx4]; rfl
        have v4 : w4.cell? ⟨wr.heap.size, 4, none⟩ = some (.slice a3 l3 c3) := by rw [Lib.cell_of_heap hx4]; rfl
        clear hb4 hx4 i0 i1 i2 i3 i4
        go_wp2_with fail
        refine (HC.out _ _ w4 HREP4.out).mono ?_
        rintro e w5 ⟨rfl, hb5⟩
        have HB5 := Lib.hid (HB4.out.trans (hb5.mono HB4.out.size))
        clear hb5 v0 v1 v2 v3 v4
        cases hx : rightJ x with
        | false =>
          rw [hx] at HT
          clear hx
          go_wp2_with fail
          refine bodyPost_ret (results_tmp rfl _ _ _) rfl ?_
          exact ⟨by rw [HE.out, HL.out, HT.out]; rfl, HB2.out.trans (HB5.out.mono (Nat.le_of_lt hs2))⟩
        | true =>
          rw [hx] at HT
          clear hx
          go_wp2_with fail
          go_roundg (gk - 1)
          case measure => omega
          case rel => exact ⟨j + 1, by first | rfl | (congr 1), by omega, Lib.hid (by rw [HL.out, HT.out]; rfl), HB5⟩
      · have hge : ¬ (j : Int) < (l.length : Int) := by omega
        have HE2 : Hid (rightL l = true) := Lib.hid (by rw [HL.out, List.drop_of_length_le (by omega)]; rfl)
        obtain ⟨wo, rfl⟩ : ∃ x : World, x = wr := ⟨_, rfl⟩
        have c4 : wo.cell? ⟨w.heap.size, 4, none⟩ = some (.slice a' m.length c') := by rw [Lib.cell_of_heap ((HB.out.block _ hs2).trans HX2.out)]; rfl
        clear v0 v3
        go_wp2_with fail
        go_loopg [67] 0 (fun k iv wr => iv = .int .i64 0 ∧ wr = wo)
        case atStart => exact ⟨rfl, rfl⟩
        case round =>
          obtain ⟨rfl, rfl⟩ := hrel
          go_wp2_with fail
          refine bodyPost_ret (results_tmp rfl _ _ _) rfl ?_
          exact ⟨by rw [HE.out, HE2.out]; rfl, HBW.out⟩
theorem memOK_no {m : List (List UInt8 × JV)} {j : Nat} (hj : j < m.length) (h : memOK m[j] = false) : rightM m = false := by
  rw [rightM_eq]
  have : m.all (fun p => toldB p.1 && rightJ p.2) = false := by
    rw [List.all_eq_false]
    exact ⟨m[j], List.getElem_mem hj, by
      have h' : (toldB m[j].1 && rightJ m[j].2) = false := h
      rw [h']; decide⟩
  rw [this]
  rfl
theorem twice_no {m : List (List UInt8 × JV)} {i j : Nat} (hj : j < m.length) (hi : i < j) (h : m[i].1 = m[j].1) : rightM m = false := by
  rw [rightM_eq]
  have : ¬ (m.map Prod.fst).Nodup := by
    intro hn
    have h1 := List.pairwise_iff_getElem.1 hn i j (by simp; omega) (by simpa using hj) hi
    simp only [List.getElem_map] at h1
    exact h1 h
  rw [decide_eq_false this, Bool.and_false]
theorem mem_all {m : List (List UInt8 × JV)} (h1 : ∀ p ∈ m, memOK p = true) (h2 : ∀ i j, (hj : j < m.length) → (hi : i < j) → m[i].1 ≠ m[j].1) : rightM m = true := by
  rw [rightM_eq]
  have a1 : m.all (fun p => toldB p.1 && rightJ p.2) = true := List.all_eq_true.2 h1
  have a2 : (m.map Prod.fst).Nodup := by
    refine List.pairwise_iff_getElem.2 fun i j h1 h3 hi => ?_
    have hj' : j < m.length := by simpa using h3
    simp only [List.getElem_map]
    exact h2 i j hj' hi
  rw [a1, decide_eq_true a2]
  rfl
set_option maxRecDepth 100000 in
set_option maxHeartbeats 32000000 in
theorem mright_obj (y : Bool) (t : List UInt8) (l : List JV) (m : List (List UInt8 × JV)) (hv : ∀ x ∈ m, MRightC x.2) (hn : ∀ x ∈ m, x.1.length ≤ 1000000) (hl : m.length ≤ 10000000) : MRightC (.mk 6 y t l m) := by
  intro ok cs w h
  obtain ⟨a, c, a', c', cl, cm, rfl, -, -, h1, h2, -, hmc⟩ := h.parts
  simp only [JV.kind, JV.yes, JV.text, JV.list, JV.mem, strV] at *
  have H1 := Lib.hid h1.lt
  have H2 := Lib.hid h2.lt
  have HV := Lib.hid hv
  have HN := Lib.hid hn
  have HRT := Lib.hid (right_eq 6 y t l m)
  clear h h1 h2 hv hn
  go_enter Tryz.func11, Tryz.ntmps11
  go_upto_region 1 with (fail)
  have hb1 : Below w.heap.size w (w.alloc (.cells #[.int .i64 6, .bool y, .string ⟨t.toArray⟩, .slice a l.length c, .slice a' m.length c'] 28)) := (Below.refl _ _).alloc (Nat.le_refl _) _
  have hx1 := heap_alloc_new w (.cells #[.int .i64 6, .bool y, .string ⟨t.toArray⟩, .slice a l.length c, .slice a' m.length c'] 28)
  generalize w.alloc _ = w1 at *
  have HB1 := Lib.hid hb1
  have hs1 : w.heap.size < w1.heap.size := (Array.getElem?_eq_some_iff.1 hx1).1
  have v0 : w1.cell? ⟨w.heap.size, 0, none⟩ = some (.int .i64 6) := by rw [Lib.cell_of_heap hx1]; rfl
  have v1 : w1.cell? ⟨w.heap.size, 1, none⟩ = some (.bool y) := by rw [Lib.cell_of_heap hx1]; rfl
  have v2 : w1.cell? ⟨w.heap.size, 2, none⟩ = some (.string ⟨t.toArray⟩) := by rw [Lib.cell_of_heap hx1]; rfl
  have v3 : w1.cell? ⟨w.heap.size, 3, none⟩ = some (.slice a l.length c) := by rw [Lib.cell_of_heap hx1]; rfl
  have v4 : w1.cell? ⟨w.heap.size, 4, none⟩ = some (.slice a' m.length c') := by rw [Lib.cell_of_heap hx1]; rfl
  have HX1 := Lib.hid hx1
  clear hb1 hx1
  go_wp2_with fail
  refine (mbare_any 6 y t a a' l.length m.length c c' w1).mono ?_
  rintro e w2 ⟨rfl, hb2⟩
  have HB2 := Lib.hid (HB1.out.trans (hb2.mono HB1.out.size))
  have HX2 := Lib.hid ((hb2.block _ hs1).trans HX1.out)
  have hs2 : w.heap.size < w2.heap.size := Nat.lt_of_lt_of_le hs1 hb2.size
  clear hb2 v0 v1 v2 v3 v4
  have v0 : w2.cell? ⟨w.heap.size, 0, none⟩ = some (.int .i64 6) := by rw [Lib.cell_of_heap HX2.out]; rfl
  have v3 : w2.cell? ⟨w.heap.size, 3, none⟩ = some (.slice a l.length c) := by rw [Lib.cell_of_heap HX2.out]; rfl
  have v4 : w2.cell? ⟨w.heap.size, 4, none⟩ = some (.slice a' m.length c') := by rw [Lib.cell_of_heap HX2.out]; rfl
  cases hbb : bareB 6 y t l.length m.length with
  | false =>
    rw [hbb] at HRT
    clear hbb
    go_wp2_with fail
    refine bodyPost_ret (results_tmp rfl _ _ _) rfl ?_
    exact ⟨by rw [HRT.out]; rfl, HB2.out⟩
  | true =>
    have HE : Hid (rightJ (.mk 6 y t l m) = rightM m) := Lib.hid (by rw [HRT.out, hbb]; cases rightM m <;> rfl)
    have hl0 := bare_mem hbb
    clear HRT hbb
    generalize l.length = nl at *
    subst hl0
    go_wp2_with fail
    go_loopg [56] 0 (fun k iv wr => iv = .int .i64 0 ∧ wr = w2)
    case atStart => exact ⟨rfl, rfl⟩
    case round =>
    obtain ⟨rfl, rfl⟩ := hrel
    obtain ⟨w3, rfl⟩ : ∃ x : World, x = wr := ⟨_, rfl⟩
    go_wp2_with fail
    go_loopg [67] m.length (fun k iv wo => ∃ j : Nat, iv = .int .i64 (j : Int) ∧ j + k = m.length ∧ Hid (∀ p ∈ m.take j, memOK p = true) ∧ Hid (∀ i2 j2, (hj : j2 < m.length) → j2 < j → (hi : i2 < j2) → m[i2].1 ≠ m[j2].1) ∧ Hid (Below w3.heap.size w3 wo))
    case atStart => exact ⟨0, rfl, by omega, Lib.hid (by simp), Lib.hid (fun _ _ _ h => absurd h (Nat.not_lt_zero _)), Lib.hid (Below.refl _ _)⟩
    case round =>
      obtain ⟨j, rfl, hj, HA, HD, HB⟩ := hrel
      obtain ⟨wo, rfl⟩ : ∃ x : World, x = wr := ⟨_, rfl⟩
      obtain ⟨gO, rfl⟩ : ∃ x : Nat, x = gk := ⟨_, rfl⟩
      have HBW := Lib.hid (HB2.out.trans (HB.out.mono (Nat.le_of_lt hs2)))
      by_cases hlt : j < m.length
      · have hltI : (j : Int) < (m.length : Int) := by omega
        obtain ⟨br, off, k2, y2, t2, a2, l2, c2, a3, l3, c3, ea, hrep, i0, i1, i2, i3, i4, i5⟩ := mem_cells' (H1.out.keep fun b hb _ => HBW.out.block b hb.2) (H2.out.keep fun b hb _ => HBW.out.block b hb.2) j hlt
        subst ea
        have HREP := Lib.hid hrep
        have HC := Lib.hid (HV.out m[j] (List.getElem_mem hlt))
        have HNO := Lib.hid (memOK_no hlt)
        have HTW := Lib.hid (fun (i : Nat) (hi : i < j) => twice_no hlt hi)
        have HNX : Hid (∀ i2, (hi : i2 < j) → m[i2].1 ≠ m[j].1 ∨ m[i2].1 = m[j].1) := Lib.hid (fun i2 hi => (Classical.em _).symm)
        have HTK := Lib.hid (List.take_succ_eq_append_getElem hlt)
        have HJ : Hid (m[j]? = some m[j]) := Lib.hid (List.getElem?_eq_getElem hlt)
        have hnl := HN.out m[j] (List.getElem_mem hlt)
        generalize m[j] = x at *
        obtain ⟨nm, x⟩ := x
        simp only [memOK] at HREP HC HNO HTW hnl i0
        clear hrep v0 v3 v4 HNX
        go_upto_region 15 with (fail)
        have hb4 : Below wo.heap.size wo (wo.alloc (.cells #[.string ⟨nm.toArray⟩, .int .i64 k2, .bool y2, .string ⟨t2⟩, .slice a2 l2 c2, .slice a3 l3 c3] 54)) := (Below.refl _ _).alloc (Nat.le_refl _) _
        have hx4 := heap_alloc_new wo (.cells #[.string ⟨nm.toArray⟩, .int .i64 k2, .bool y2, .string ⟨t2⟩, .slice a2 l2 c2, .slice a3 l3 c3] 54)
        generalize wo.alloc (.cells #[.string ⟨nm.toArray⟩, .int .i64 k2, .bool y2, .string ⟨t2⟩, .slice a2 l2 c2, .slice a3 l3 c3] 54) = w4 at *
        have HB4 := Lib.hid (HB.out.trans (hb4.mono HB.out.size))
        have HREP4 := Lib.hid (HREP.out.under hb4)
        have HX4 := Lib.hid hx4
        have hs4 : wo.heap.size < w4.heap.size := (Array.getElem?_eq_some_iff.1 hx4).1
        have v0 : w4.cell? ⟨wo.heap.size, 0, none⟩ = some (.string ⟨nm.toArray⟩) := by rw [Lib.cell_of_heap hx4]; rfl
        have v1 : w4.cell? ⟨wo.heap.size, 1, none⟩ = some (.int .i64 k2) := by rw [Lib.cell_of_heap hx4]; rfl
        have v2 : w4.cell? ⟨wo.heap.size, 2, none⟩ = some (.bool y2) := by rw [Lib.cell_of_heap hx4]; rfl
        have v3 : w4.cell? ⟨wo.heap.size, 3, none⟩ = some (.string ⟨t2⟩) := by rw [Lib.cell_of_heap hx4]; rfl
        have v4 : w4.cell? ⟨wo.heap.size, 4, none⟩ = some (.slice a2 l2 c2) := by rw [Lib.cell_of_heap hx4]; rfl
        have v5 : w4.cell? ⟨wo.heap.size, 5, none⟩ = some (.slice a3 l3 c3) := by rw [Lib.cell_of_heap hx4]; rfl
        clear hb4 hx4 i0 i1 i2 i3 i4 i5
        go_wp2_with fail
        refine (refwrong_any nm w4 hnl).mono ?_
        rintro e w5 ⟨rfl, hw5⟩
        subst w5
        have hneg := wrongI_neg nm
        generalize wrongI nm = wi at *
        cases ht : toldB nm with
        | false =>
          rw [ht] at hneg HNO
          have hwi : (0 : Int) ≤ wi := by have := of_decide_eq_false hneg; omega
          clear hneg ht
          go_wp2_with fail
          refine bodyPost_ret (results_tmp rfl _ _ _) rfl ?_
          exact ⟨by rw [HE.out, HNO.out rfl]; rfl, HB2.out.trans (HB4.out.mono (Nat.le_of_lt hs2))⟩
        | true =>
          rw [ht] at hneg HNO
          have hwi : ¬ (0 : Int) ≤ wi := by have := of_decide_eq_true hneg; omega
          have HT := Lib.hid ht
          clear hneg ht
          go_wp2_with fail
          refine (HC.out _ _ w4 HREP4.out).mono ?_
          rintro e w5 ⟨rfl, hb5⟩
          have HB5 := Lib.hid (HB4.out.trans (hb5.mono HB4.out.size))
          have HX5 := Lib.hid ((hb5.block _ hs4).trans HX4.out)
          have hs5 : wo.heap.size < w5.heap.size := Nat.lt_of_lt_of_le hs4 hb5.size
          have hs52 : w.heap.size < w5.heap.size := by have := HB.out.size; omega
          have HX5b := Lib.hid ((HB5.out.block _ hs2).trans HX2.out)
          clear hb5 v0 v1 v2 v3 v4 v5
          cases hx : rightJ x with
          | false =>
            rw [hx] at HNO
            clear hx
            go_wp2_with fail
            refine bodyPost_ret (results_tmp rfl _ _ _) rfl ?_
            exact ⟨by rw [HE.out, HNO.out rfl]; rfl, HB2.out.trans (HB5.out.mono (Nat.le_of_lt hs2))⟩
          | true =>
            have HXR := Lib.hid hx
            clear hx HNO
            have c4 : w5.cell? ⟨w.heap.size, 4, none⟩ = some (.slice (some ⟨br, off, none⟩) m.length c') := by rw [Lib.cell_of_heap HX5b.out]; rfl
            have hjc : j ≤ c' := by omega
            go_wp2_with fail
            go_loopg [87] j (fun k iv wi => ∃ j2 : Nat, iv = .int .i64 (j2 : Int) ∧ j2 + k = j ∧ Hid (∀ i2, (hi : i2 < j) → i2 < j2 → m[i2].1 ≠ nm) ∧ Hid (Below w5.heap.size w5 wi))
            case atStart => exact ⟨0, rfl, by omega, Lib.hid (fun _ _ h => absurd h (Nat.not_lt_zero _)), Lib.hid (Below.refl _ _)⟩
            case round =>
              obtain ⟨j2, rfl, hj2, HNE, HBI⟩ := hrel
              obtain ⟨wi, rfl⟩ : ∃ x : World, x = wr := ⟨_, rfl⟩
              have HBJ := Lib.hid (HB5.out.trans (HBI.out.mono HB5.out.size))
              have HBX := Lib.hid (HB2.out.trans (HBJ.out.mono (Nat.le_of_lt hs2)))
              clear c4
              by_cases hlt2 : j2 < j
              · have hltI2 : (j2 : Int) < (j : Int) := by omega
                obtain ⟨br2, off2, k2, y2, t2, a2, l2, c2, a3, l3, c3, ea, hrep, i0, i1, i2, i3, i4, i5⟩ := mem_cells' (H1.out.keep fun b hb _ => HBX.out.block b hb.2) (H2.out.keep fun b hb _ => HBX.out.block b hb.2) j2 (by omega)
                simp only [Option.some.injEq, Addr.mk.injEq, and_true] at ea
                obtain ⟨rfl, rfl⟩ := ea
                have HN2 : Hid (m[j2].1 ≠ nm → ∀ i2, (hi : i2 < j) → i2 < j2 + 1 → m[i2].1 ≠ nm) := Lib.hid (by
                  intro h2 i2 hi h1
                  by_cases he : i2 < j2
                  · exact HNE.out i2 hi he
                  · obtain rfl : i2 = j2 := by omega
                    exact h2)
                have HT2 := Lib.hid (HTW.out j2 hlt2)
                generalize m[j2].1 = nm2 at *
                clear hrep
                go_upto_region 20 with (fail)
                have hb7 : Below wi.heap.size wi (wi.alloc (.cells #[.string ⟨nm2.toArray⟩, .int .i64 k2, .bool y2, .string ⟨t2⟩, .slice a2 l2 c2, .slice a3 l3 c3] 54)) := (Below.refl _ _).alloc (Nat.le_refl _) _
                have hx7 := heap_alloc_new wi (.cells #[.string ⟨nm2.toArray⟩, .int .i64 k2, .bool y2, .string ⟨t2⟩, .slice a2 l2 c2, .slice a3 l3 c3] 54)
                generalize wi.alloc (.cells #[.string ⟨nm2.toArray⟩, .int .i64 k2, .bool y2, .string ⟨t2⟩, .slice a2 l2 c2, .slice a3 l3 c3] 54) = w7 at *
                have HB7 := Lib.hid (HBI.out.trans (hb7.mono HBI.out.size))
                have HB37 := Lib.hid (HB5.out.trans (HB7.out.mono HB5.out.size))
                have u0 : w7.cell? ⟨wi.heap.size, 0, none⟩ = some (.string ⟨nm2.toArray⟩) := by rw [Lib.cell_of_heap hx7]; rfl
                have v0 : w7.cell? ⟨wo.heap.size, 0, none⟩ = some (.string ⟨nm.toArray⟩) := by rw [Lib.cell_of_heap ((HB7.out.block _ hs5).trans HX5.out)]; rfl
                clear hb7 hx7 i0 i1 i2 i3 i4 i5
                by_cases hq : nm2 = nm
                · have HF := Lib.hid (HT2.out hq)
                  subst hq
                  go_wp2_with fail
                  refine bodyPost_ret (results_tmp rfl _ _ _) rfl ?_
                  exact ⟨by rw [HE.out, HF.out]; rfl, HB2.out.trans (HB37.out.mono (Nat.le_of_lt hs2))⟩
                · have HNN := Lib.hid (HN2.out hq)
                  have qn : (nm2 == nm) = false := by simp [hq]
                  clear hq
                  go_wp2_with fail
                  go_roundg (gk - 1)
                  case measure => omega
                  case rel => exact ⟨j2 + 1, by first | rfl | (congr 1), by omega, HNN, HB7⟩
              · have hge2 : ¬ (j2 : Int) < (j : Int) := by omega
                have HA2 : Hid (∀ p ∈ m.take (j + 1), memOK p = true) := Lib.hid (by
                  rw [HTK.out]
                  intro p hp
                  rcases List.mem_append.1 hp with hp | hp
                  · exact HA.out p hp
                  · rw [List.mem_singleton.1 hp]
                    unfold memOK
                    rw [HT.out, HXR.out]
                    rfl)
                have HD2 : Hid (∀ i2 j2, (hj : j2 < m.length) → j2 < j + 1 → (hi : i2 < j2) → m[i2].1 ≠ m[j2].1) := Lib.hid (by
                  intro i2 j3 h1 h2 h3
                  by_cases he : j3 < j
                  · exact HD.out i2 j3 h1 he h3
                  · obtain rfl : j3 = j := by omega
                    have e := HJ.out
                    rw [List.getElem?_eq_getElem h1] at e
                    rw [Option.some.inj e]
                    exact HNE.out i2 h3 (by omega))
                go_wp2_with fail
                go_roundg (gO - 1)
                case measure => omega
                case rel => exact ⟨j + 1, by first | rfl | (congr 1), by omega, HA2, HD2, HBJ⟩
      · have hge : ¬ (j : Int) < (m.length : Int) := by omega
        have HE2 : Hid (rightM m = true) := Lib.hid (mem_all (by have := HA.out; rwa [List.take_of_length_le (by omega)] at this) (fun i2 j2 h3 h4 => HD.out i2 j2 h3 (by omega) h4))
        clear v0 v3 v4
        go_wp2_with fail
        refine bodyPost_ret (results_tmp rfl _ _ _) rfl ?_
        exact ⟨by rw [HE.out, HE2.out]; rfl, HBW.out⟩
end Go.Proofs.YtgcfikiajingcaaGreat
/- The maker: Right, of any value. -/
set_option linter.unusedVariables false
namespace Go.Proofs.YtgcfikiajingcaaGreat
open Go.RowKit

theorem ent_number : ∀ args w, (callFunc 35 args).run Tryz.prog w = .ok (.enter 35 args) w := run_enters Tryz.func35 (by kernel_rfl) rfl
theorem op_no {P : Program} {l : List Oper} {K : Act → World → Prop} {Q : Exit → Act → World → Prop} {i d : Nat} {o : Oper} {a : Act} {w : World} (ho : l[i]? = some o) (hw : Region.wanted o (yielded l.toArray a.tmps) = false) (hd : o.dst = some d)
    (h : K (a.put (some d) undef) w) : wpOp P l.toArray Q i K a w := by
  unfold wpOp
  rw [show l.toArray[i]? = some o by simpa using ho]
  simp only [hw]
  rw [hd]
  exact h
theorem unwanted {l : List Oper} {o : Oper} {a : Act} {j d : Nat} {b : Bool} (hg : o.guard = some (j, b)) (hd : ((l[j]?).bind (·.dst)) = some d) (hv : a.tmps.getD d undef = .bool (!b)) : Region.wanted o (yielded l.toArray a.tmps) = false := by
  have h1 : a.tmps[d]? = some (.bool (!b)) := by
    rw [Array.getD_eq_getD_getElem?] at hv
    cases e : a.tmps[d]? with
    | none => rw [e] at hv; simp [undef] at hv
    | some x => rw [e] at hv; simpa using hv
  simp [Region.wanted, hg, yielded, hd, h1]
set_option maxRecDepth 100000 in
set_option maxHeartbeats 16000000 in
theorem mright_out (k : Int) (y : Bool) (t : List UInt8) (l : List JV) (m : List (List UInt8 × JV)) (hk : (k < 1 ∨ 6 < k)) : MRightC (.mk k y t l m) := by
  intro ok cs w h
  obtain ⟨a, c, a', c', cl, cm, rfl, -⟩ := h.parts
  simp only [JV.kind, JV.yes, JV.text, JV.list, JV.mem, strV] at *
  have HW : Hid (∀ ob, Below w.heap.size w (w.alloc ob)) := Lib.hid fun ob => (Below.refl _ _).alloc (Nat.le_refl _) _
  have HRT : Hid (rightJ (.mk k y t l m) = false) := Lib.hid (by
    rw [right_eq]
    have : (k == 1 || k == 2 || (k == 3 && numericB t) || (k == 4 && toldB t) || (k == 5 && rightL l) || (k == 6 && rightM m)) = false := by
      simp [show k ≠ 1 by omega, show k ≠ 2 by omega, show k ≠ 3 by omega, show k ≠ 4 by omega, show k ≠ 5 by omega, show k ≠ 6 by omega]
    rw [this, Bool.and_false])
  clear h
  go_enter Tryz.func11, Tryz.ntmps11
  rcases hk with hk | hk
  · go_wp2_with fail
    refine bodyPost_ret (results_tmp rfl _ _ _) rfl ?_
    exact ⟨by rw [HRT.out]; rfl, HW.out _⟩
  · have hk0 : ¬ k < 1 := by omega
    go_wp2_with fail
    refine bodyPost_ret (results_tmp rfl _ _ _) rfl ?_
    exact ⟨by rw [HRT.out]; rfl, HW.out _⟩
set_option maxRecDepth 100000 in
set_option maxHeartbeats 16000000 in
theorem mright_in (k : Int) (y : Bool) (t : List UInt8) (l : List JV) (m : List (List UInt8 × JV)) (hk : k = 1 ∨ k = 2 ∨ k = 3 ∨ k = 4) (ht : t.length ≤ 1000000) : MRightC (.mk k y t l m) := by
  intro ok cs w h
  obtain ⟨a, c, a', c', cl, cm, rfl, -⟩ := h.parts
  simp only [JV.kind, JV.yes, JV.text, JV.list, JV.mem, strV] at *
  have hr := right_eq k y t l m
  have hbl : bareB k y t l.length m.length = true → l.length = 0 ∧ m.length = 0 := bare_leaf (by omega) (by omega)
  have HRT := Lib.hid hr
  have HBL := Lib.hid hbl
  generalize l.length = nl at *
  generalize m.length = nm at *
  clear h hr hbl
  go_enter Tryz.func11, Tryz.ntmps11
  go_upto_region 1 with (fail)
  have hb1 : Below w.heap.size w (w.alloc (.cells #[.int .i64 k, .bool y, .string ⟨t.toArray⟩, .slice a nl c, .slice a' nm c'] 28)) := (Below.refl _ _).alloc (Nat.le_refl _) _
  have hx1 := heap_alloc_new w (.cells #[.int .i64 k, .bool y, .string ⟨t.toArray⟩, .slice a nl c, .slice a' nm c'] 28)
  generalize w.alloc _ = w1 at *
  have HB1 := Lib.hid hb1
  have hs1 : w.heap.size < w1.heap.size := (Array.getElem?_eq_some_iff.1 hx1).1
  have v0 : w1.cell? ⟨w.heap.size, 0, none⟩ = some (.int .i64 k) := by rw [Lib.cell_of_heap hx1]; rfl
  have v1 : w1.cell? ⟨w.heap.size, 1, none⟩ = some (.bool y) := by rw [Lib.cell_of_heap hx1]; rfl
  have v2 : w1.cell? ⟨w.heap.size, 2, none⟩ = some (.string ⟨t.toArray⟩) := by rw [Lib.cell_of_heap hx1]; rfl
  have v3 : w1.cell? ⟨w.heap.size, 3, none⟩ = some (.slice a nl c) := by rw [Lib.cell_of_heap hx1]; rfl
  have v4 : w1.cell? ⟨w.heap.size, 4, none⟩ = some (.slice a' nm c') := by rw [Lib.cell_of_heap hx1]; rfl
  have HX1 := Lib.hid hx1
  have HMB : Hid (Calls Tryz.prog 33 #[.agg #[.int .i64 k, .bool y, .string ⟨t.toArray⟩, .slice a nl c, .slice a' nm c']] w1 fun e w' => e = .returned (.bool (bareB k y t nl nm)) ∧ Below w1.heap.size w1 w') := Lib.hid (mbare_any k y t a a' nl nm c c' w1)
  generalize bareB k y t nl nm = bb at *
  clear hb1 hx1
  rcases hk with rfl | rfl | rfl | rfl
  all_goals (
    go_wp2_with fail
    refine HMB.out.mono ?_
    rintro e w2 ⟨rfl, hb2⟩
    have HB2 := Lib.hid (HB1.out.trans (hb2.mono HB1.out.size))
    have HX2 := Lib.hid ((hb2.block _ hs1).trans HX1.out)
    have hs2 : w.heap.size < w2.heap.size := Nat.lt_of_lt_of_le hs1 hb2.size
    clear hb2 v0 v1 v2 v3 v4
    have v0 := Lib.cell_of_heap HX2.out 0
    have v2 : w2.cell? ⟨w.heap.size, 2, none⟩ = some (.string ⟨t.toArray⟩) := by rw [Lib.cell_of_heap HX2.out]; rfl
    have v3 : w2.cell? ⟨w.heap.size, 3, none⟩ = some (.slice a nl c) := by rw [Lib.cell_of_heap HX2.out]; rfl
    have v4 : w2.cell? ⟨w.heap.size, 4, none⟩ = some (.slice a' nm c') := by rw [Lib.cell_of_heap HX2.out]; rfl
    simp only [List.getElem?_toArray, List.getElem?_cons_zero] at v0
    clear HMB
    rcases bb with _ | _
    · go_wp2_with fail
      refine bodyPost_ret (results_tmp rfl _ _ _) rfl ?_
      exact ⟨by rw [HRT.out]; rfl, HB2.out⟩
    obtain ⟨rfl, rfl⟩ := HBL.out rfl
    clear HBL)
  · have HE := Lib.hid (HRT.out.trans (show _ = true by rfl))
    clear HRT
    go_wp2_with fail
    go_loopg [56] 0 (fun k iv wr => iv = .int .i64 0 ∧ wr = w2)
    case atStart => exact ⟨rfl, rfl⟩
    case round =>
    obtain ⟨rfl, rfl⟩ := hrel
    obtain ⟨w3, rfl⟩ : ∃ x : World, x = wr := ⟨_, rfl⟩
    go_wp2_with fail
    go_loopg [67] 0 (fun k iv wr => iv = .int .i64 0 ∧ wr = w3)
    case atStart => exact ⟨rfl, rfl⟩
    case round =>
    obtain ⟨rfl, rfl⟩ := hrel
    go_wp2_with fail
    refine bodyPost_ret (results_tmp rfl _ _ _) rfl ?_
    exact ⟨by rw [HE.out]; rfl, HB2.out⟩
  · have HE := Lib.hid (HRT.out.trans (show _ = true by rfl))
    clear HRT
    go_wp2_with fail
    go_loopg [56] 0 (fun k iv wr => iv = .int .i64 0 ∧ wr = w2)
    case atStart => exact ⟨rfl, rfl⟩
    case round =>
    obtain ⟨rfl, rfl⟩ := hrel
    obtain ⟨w3, rfl⟩ : ∃ x : World, x = wr := ⟨_, rfl⟩
    go_wp2_with fail
    go_loopg [67] 0 (fun k iv wr => iv = .int .i64 0 ∧ wr = w3)
    case atStart => exact ⟨rfl, rfl⟩
    case round =>
    obtain ⟨rfl, rfl⟩ := hrel
    go_wp2_with fail
    refine bodyPost_ret (results_tmp rfl _ _ _) rfl ?_
    exact ⟨by rw [HE.out]; rfl, HB2.out⟩
  · have HE : Hid (rightJ (.mk 3 y t l m) = numericB t) := Lib.hid (by rw [HRT.out]; cases numericB t <;> rfl)
    clear HRT
    go_upto_region 5 with (fail)
    generalize hw5 : w2.alloc _ = w5
    have hb5 : Below w2.heap.size w2 w5 := by rw [← hw5]; exact (Below.refl _ _).alloc (Nat.le_refl _) _
    have hp5 : PP w5 w2.heap.size t ⟨0, 0⟩ 0 0 0 := ⟨by rw [← hw5]; exact heap_alloc_new _ _, Nat.zero_le _⟩
    have HB5 := Lib.hid (HB2.out.trans (hb5.mono HB2.out.size))
    have HX5 := Lib.hid ((hb5.block _ hs2).trans HX2.out)
    have HP5 := Lib.hid hp5
    have hs5 : w.heap.size < w5.heap.size := Nat.lt_of_lt_of_le hs2 hb5.size
    clear hw5 hb5 hp5
    have hg5 : w.heap.size ≤ w2.heap.size := HB2.out.size
    have HNB : Hid (∀ wx, wx.heap = w5.heap → Calls Tryz.prog 35 #[.pointer (some ⟨w2.heap.size, 0, none⟩)] wx fun x w' => x = .returned (.string ⟨(t.take (numP t ⟨0, 0⟩).p).toArray⟩) ∧ (∃ A', PP w' w2.heap.size t (numP t ⟨0, 0⟩) 0 0 A') ∧ But w2.heap.size wx w') := Lib.hid fun wx hx => pnumber_any w2.heap.size t 0 0 0 wx ⟨by rw [hx]; exact HP5.out.heap, HP5.out.le⟩ ht
    have HNR := Lib.hid (numP_right t)
    generalize numP t ⟨0, 0⟩ = st at *
    obtain ⟨sp, se⟩ := st
    simp only at HNR HNB
    obtain ⟨T, hT⟩ : ∃ T, t.take sp = T := ⟨_, rfl⟩
    rw [hT] at HNR HNB
    obtain ⟨be, hbe⟩ : ∃ be, (T == t) = be := ⟨_, rfl⟩
    have HBE := Lib.hid hbe
    have HNQ : Hid ((be && decide (se = 0)) = numericB t) := Lib.hid (by rw [← HNR.out, ← hbe, Bool.and_comm])
    have hgw : w2.heap.size ≠ w.heap.size := by omega
    generalize w2.heap.size = g at *
    clear hT v0 v2 v3 v4 hbe HNR
    refine wp_region_val (by kernel_rfl) (by kernel_rfl) [41, 42, 43, 44, 45, 46, 47, 48, 49, 50, 51, 52, 2] rfl (by decide) (by kernel_rfl)
      (fun i => [fun v => v = .pointer (some ⟨g, 0, none⟩), fun v => v = .string ⟨T.toArray⟩, fun v => v = .pointer (some ⟨w.heap.size, 2, none⟩), fun v => v = .string ⟨t.toArray⟩, fun v => v = .bool be, fun v => v = .bool be, fun v => be = true → v = .pointer (some ⟨g, 0, none⟩), fun v => be = true → v = .pointer (some ⟨g, 0, none⟩), fun v => be = true → v = .pointer (some ⟨g, 4, none⟩), fun v => be = true → v = .int .i64 se, fun v => be = true → v = .bool (se == 0), fun v => v = .bool (numericB t), fun v => v = .bool (numericB t)].getD i fun _ => True)
      (fun b w' => But g w5 w' ∧ (b 1 = false → w'.heap = w5.heap) ∧ (b 1 = true → w'.cell? ⟨g, 4, none⟩ = some (.int .i64 se)) ∧ (b 4 = true → b 1 = true) ∧ (b 5 = true → b 1 = true)) ?_ ?_ ?_
    · refine ⟨⟨rfl, rfl, rfl, Nat.le_refl _, fun _ _ _ => rfl⟩, fun _ => rfl, ?_, ?_, ?_⟩ <;> (intro e; simp at e)
    · intro i o ho b ax w' hf ⟨hb, hh, hc4, h41, h51⟩ hbi hd
      have keep : i ≠ 1 → (i = 4 → b 1 = true) → (i = 5 → b 1 = true) → But g w5 w' ∧ ((if 1 = i then true else b 1) = false → w'.heap = w5.heap) ∧ ((if 1 = i then true else b 1) = true → w'.cell? ⟨g, 4, none⟩ = some (.int .i64 se)) ∧ ((if 4 = i then true else b 4) = true → (if 1 = i then true else b 1) = true) ∧ ((if 5 = i then true else b 5) = true → (if 1 = i then true else b 1) = true) := by
        intro hne h4 h5
        rw [if_neg (Ne.symm hne)]
        refine ⟨hb, hh, hc4, fun e => ?_, fun e => ?_⟩
        · by_cases q : 4 = i
          · exact h4 q.symm
          · rw [if_neg q] at e; exact h41 e
        · by_cases q : 5 = i
          · exact h5 q.symm
          · rw [if_neg q] at e; exact h51 e
      rcases i with _ | _ | _ | _ | _ | _ | _ | _ | _ | _ | _ | _ | _ | i
      · cases ho
        have t3 : ax.tmps.getD 3 undef = .pointer (some ⟨g, 0, none⟩) := (hf.same 3 (by decide)).trans rfl
        refine op_step rfl rfl (op_value (v := .pointer (some ⟨g, 0, none⟩)) (w' := w') ?_ ⟨_, rfl, rfl, keep (by decide) (fun e => absurd e (by decide)) (fun e => absurd e (by decide))⟩)
        simp only [execOp, Act.eval, t3]
        go_simp
      · cases ho
        obtain ⟨_, e0⟩ := hd 0 (by kernel_rfl)
        have e0' : ax.tmps.getD 41 undef = .pointer (some ⟨g, 0, none⟩) := e0
        refine op_step rfl rfl (op_call ent_number rfl (by simp only [List.map_toArray, List.map_cons, List.map_nil, Act.eval, e0']) ((HNB.out w' (hh hbi)).mono ?_))
        rintro e w'' ⟨rfl, ⟨A', hp⟩, hb'⟩
        exact .inl ⟨_, rfl, _, rfl, rfl, hb.trans hb', fun e => by simp at e, fun _ => hp.c4, fun _ => rfl, fun _ => rfl⟩
      · cases ho
        have t1 : ax.tmps.getD 1 undef = .pointer (some ⟨w.heap.size, 0, none⟩) := (hf.same 1 (by decide)).trans rfl
        refine op_step rfl rfl (op_value (v := .pointer (some ⟨w.heap.size, 2, none⟩)) (w' := w') ?_ ⟨_, rfl, rfl, keep (by decide) (fun e => absurd e (by decide)) (fun e => absurd e (by decide))⟩)
        simp only [execOp, Act.eval, t1]
        go_simp
      · cases ho
        obtain ⟨_, e2⟩ := hd 2 (by kernel_rfl)
        have e2' : ax.tmps.getD 43 undef = .pointer (some ⟨w.heap.size, 2, none⟩) := e2
        have c2 : w'.cell? ⟨w.heap.size, 2, none⟩ = some (.string ⟨t.toArray⟩) := by rw [Lib.cell_of_heap ((hb.block w.heap.size hs5 (fun e => hgw e.symm)).trans HX5.out)]; rfl
        refine op_step rfl rfl (op_value (v := .string ⟨t.toArray⟩) (w' := w') ?_ ⟨_, rfl, rfl, keep (by decide) (fun e => absurd e (by decide)) (fun e => absurd e (by decide))⟩)
        simp only [execOp, Act.eval, e2']
        go_simp
      · cases ho
        obtain ⟨hb1', e1⟩ := hd 1 (by kernel_rfl)
        obtain ⟨_, e3⟩ := hd 3 (by kernel_rfl)
        have e1' : ax.tmps.getD 42 undef = .string ⟨T.toArray⟩ := e1
        have e3' : ax.tmps.getD 44 undef = .string ⟨t.toArray⟩ := e3
        refine op_step rfl rfl (op_value (v := .bool be) (w' := w') ?_ ⟨_, rfl, rfl, keep (by decide) (fun _ => hb1') (fun e => absurd e (by decide))⟩)
        have hq := HBE.out
        simp only [execOp, Act.eval, e1', e3']
        go_simp
        all_goals exact hq
      · cases ho
        obtain ⟨hb4', e4⟩ := hd 4 (by kernel_rfl)
        have e4' : ax.tmps.getD 45 undef = .bool be := e4
        refine op_step rfl rfl (op_value (v := .bool be) (w' := w') ?_ ⟨_, rfl, rfl, keep (by decide) (fun e => absurd e (by decide)) (fun _ => h41 hb4')⟩)
        simp only [execOp, Act.eval, e4']
        go_simp
      · cases ho
        obtain ⟨hb5', e5⟩ := hd 5 (by kernel_rfl)
        have e5' : ax.tmps.getD 46 undef = .bool be := e5
        have t3 : ax.tmps.getD 3 undef = .pointer (some ⟨g, 0, none⟩) := (hf.same 3 (by decide)).trans rfl
        cases be
        · exact op_no rfl (unwanted rfl rfl e5') rfl ⟨_, rfl, (id (fun e => by cases e) : false = true → (undef : Value) = .pointer (some ⟨g, 0, none⟩)), keep (by decide) (fun e => absurd e (by decide)) (fun e => absurd e (by decide))⟩
        refine op_step rfl (grow_wanted rfl rfl e5') (op_value (v := .pointer (some ⟨g, 0, none⟩)) (w' := w') ?_ ⟨_, rfl, (id (fun _ => rfl) : true = true → (.pointer (some ⟨g, 0, none⟩) : Value) = .pointer (some ⟨g, 0, none⟩)), keep (by decide) (fun e => absurd e (by decide)) (fun e => absurd e (by decide))⟩)
        simp only [execOp, Act.eval, t3]
        go_simp
      · cases ho
        obtain ⟨hb5', e5⟩ := hd 5 (by kernel_rfl)
        have e5' : ax.tmps.getD 46 undef = .bool be := e5
        obtain ⟨_, e6⟩ := hd 6 (by kernel_rfl)
        cases be
        · exact op_no rfl (unwanted rfl rfl e5') rfl ⟨_, rfl, (id (fun e => by cases e) : false = true → (undef : Value) = .pointer (some ⟨g, 0, none⟩)), keep (by decide) (fun e => absurd e (by decide)) (fun e => absurd e (by decide))⟩
        have e6' : ax.tmps.getD 47 undef = .pointer (some ⟨g, 0, none⟩) := e6 rfl
        refine op_step rfl (grow_wanted rfl rfl e5') (op_value (v := .pointer (some ⟨g, 0, none⟩)) (w' := w') ?_ ⟨_, rfl, (id (fun _ => rfl) : true = true → (.pointer (some ⟨g, 0, none⟩) : Value) = .pointer (some ⟨g, 0, none⟩)), keep (by decide) (fun e => absurd e (by decide)) (fun e => absurd e (by decide))⟩)
        simp only [execOp, Act.eval, e6']
        go_simp
      · cases ho
        obtain ⟨hb5', e5⟩ := hd 5 (by kernel_rfl)
        have e5' : ax.tmps.getD 46 undef = .bool be := e5
        obtain ⟨_, e6⟩ := hd 7 (by kernel_rfl)
        cases be
        · exact op_no rfl (unwanted rfl rfl e5') rfl ⟨_, rfl, (id (fun e => by cases e) : false = true → (undef : Value) = .pointer (some ⟨g, 4, none⟩)), keep (by decide) (fun e => absurd e (by decide)) (fun e => absurd e (by decide))⟩
        have e6' : ax.tmps.getD 48 undef = .pointer (some ⟨g, 0, none⟩) := e6 rfl
        refine op_step rfl (grow_wanted rfl rfl e5') (op_value (v := .pointer (some ⟨g, 4, none⟩)) (w' := w') ?_ ⟨_, rfl, (id (fun _ => rfl) : true = true → (.pointer (some ⟨g, 4, none⟩) : Value) = .pointer (some ⟨g, 4, none⟩)), keep (by decide) (fun e => absurd e (by decide)) (fun e => absurd e (by decide))⟩)
        simp only [execOp, Act.eval, e6']
        go_simp
      · cases ho
        obtain ⟨hb5', e5⟩ := hd 5 (by kernel_rfl)
        have e5' : ax.tmps.getD 46 undef = .bool be := e5
        obtain ⟨_, e6⟩ := hd 8 (by kernel_rfl)
        cases be
        · exact op_no rfl (unwanted rfl rfl e5') rfl ⟨_, rfl, (id (fun e => by cases e) : false = true → (undef : Value) = .int .i64 se), keep (by decide) (fun e => absurd e (by decide)) (fun e => absurd e (by decide))⟩
        have e6' : ax.tmps.getD 49 undef = .pointer (some ⟨g, 4, none⟩) := e6 rfl
        have c4 := hc4 (h51 hb5')
        refine op_step rfl (grow_wanted rfl rfl e5') (op_value (v := .int .i64 se) (w' := w') ?_ ⟨_, rfl, (id (fun _ => rfl) : true = true → (.int .i64 se : Value) = .int .i64 se), keep (by decide) (fun e => absurd e (by decide)) (fun e => absurd e (by decide))⟩)
        simp only [execOp, Act.eval, e6']
        go_simp
      · cases ho
        obtain ⟨hb5', e5⟩ := hd 5 (by kernel_rfl)
        have e5' : ax.tmps.getD 46 undef = .bool be := e5
        obtain ⟨_, e6⟩ := hd 9 (by kernel_rfl)
        cases be
        · exact op_no rfl (unwanted rfl rfl e5') rfl ⟨_, rfl, (id (fun e => by cases e) : false = true → (undef : Value) = .bool (se == 0)), keep (by decide) (fun e => absurd e (by decide)) (fun e => absurd e (by decide))⟩
        have e6' : ax.tmps.getD 50 undef = .int .i64 se := e6 rfl
        refine op_step rfl (grow_wanted rfl rfl e5') (op_value (v := .bool (se == 0)) (w' := w') ?_ ⟨_, rfl, (id (fun _ => rfl) : true = true → (.bool (se == 0) : Value) = .bool (se == 0)), keep (by decide) (fun e => absurd e (by decide)) (fun e => absurd e (by decide))⟩)
        simp only [execOp, Act.eval, e6']
        go_simp
      · cases ho
        obtain ⟨hb5', e5⟩ := hd 5 (by kernel_rfl)
        have e5' : ax.tmps.getD 46 undef = .bool be := e5
        obtain ⟨_, e6⟩ := hd 10 (by kernel_rfl)
        have hq := HNQ.out
        refine op_step rfl rfl (op_value (v := .bool (numericB t)) (w' := w') ?_ ⟨_, rfl, rfl, keep (by decide) (fun e => absurd e (by decide)) (fun e => absurd e (by decide))⟩)
        cases be
        · simp only [execOp, Act.eval, e5']
          go_simp
          all_goals exact hq.symm
        · have e6' : ax.tmps.getD 51 undef = .bool (se == 0) := e6 rfl
          have hq2 : numericB t = (se == 0) := hq.symm
          rw [hq2]
          simp only [execOp, Act.eval, e5', e6']
          go_simp
      · cases ho
        obtain ⟨_, e5⟩ := hd 11 (by kernel_rfl)
        have e5' : ax.tmps.getD 52 undef = .bool (numericB t) := e5
        refine op_step rfl rfl (op_value (v := .bool (numericB t)) (w' := w') ?_ ⟨_, rfl, rfl, keep (by decide) (fun e => absurd e (by decide)) (fun e => absurd e (by decide))⟩)
        simp only [execOp, Act.eval, e5']
        go_simp
      · simp at ho
    · intro b ax w' hf hall ⟨hb, _⟩ hd
      have t2 : ax.tmps.getD 2 undef = .bool (numericB t) := hd 12 (by decide)
      have hdf : ax.defers = [] := hf.defers
      have HBL := Lib.hid (But.to_below HB5.out hb hg5 HB5.out.size)
      clear hf hall hb hd
      go_wp2_with fail
      refine bodyPost_ret (results_tmp rfl _ _ _) hdf ?_
      exact ⟨by rw [t2, HE.out], HBL.out⟩
  · have HE : Hid (rightJ (.mk 4 y t l m) = toldB t) := Lib.hid (by rw [HRT.out]; cases toldB t <;> rfl)
    clear HRT
    go_wp2_with fail
    refine (refwrong_any t w2 ht).mono ?_
    rintro e w5 ⟨rfl, hw5⟩
    subst w5
    have hneg := wrongI_neg t
    generalize wrongI t = wi at *
    cases ht : toldB t with
    | false =>
      rw [ht] at hneg HE
      have hwi : (0 : Int) ≤ wi := by have := of_decide_eq_false hneg; omega
      clear hneg ht
      go_wp2_with fail
      refine bodyPost_ret (results_tmp rfl _ _ _) rfl ?_
      exact ⟨by rw [HE.out]; rfl, HB2.out⟩
    | true =>
      rw [ht] at hneg HE
      have hwi : ¬ (0 : Int) ≤ wi := by have := of_decide_eq_true hneg; omega
      clear hneg ht
      go_wp2_with fail
      go_loopg [56] 0 (fun k iv wr => iv = .int .i64 0 ∧ wr = w2)
      case atStart => exact ⟨rfl, rfl⟩
      case round =>
      obtain ⟨rfl, rfl⟩ := hrel
      obtain ⟨w3, rfl⟩ : ∃ x : World, x = wr := ⟨_, rfl⟩
      go_wp2_with fail
      go_loopg [67] 0 (fun k iv wr => iv = .int .i64 0 ∧ wr = w3)
      case atStart => exact ⟨rfl, rfl⟩
      case round =>
      obtain ⟨rfl, rfl⟩ := hrel
      go_wp2_with fail
      refine bodyPost_ret (results_tmp rfl _ _ _) rfl ?_
      exact ⟨by rw [HE.out]; rfl, HB2.out⟩
theorem mright_size : ∀ (N : Nat) (v : JV), sizeJ v ≤ N → sizeJ v ≤ 1000000 → MRightC v := by
  intro N
  induction N with
  | zero => intro v h; have := size_pos v; omega
  | succ N ih =>
    intro v h hb
    obtain ⟨k, y, t, l, m⟩ := v
    have hs : sizeJ (.mk k y t l m) = 1 + t.length + sizeL l + sizeM m := by rw [sizeJ]
    by_cases h5 : k = 5
    · subst h5
      refine mright_arr y t l m (fun x hx => ?_) (by have := len_size l; omega)
      have := size_list hx
      exact ih x (by omega) (by omega)
    by_cases h6 : k = 6
    · subst h6
      refine mright_obj y t l m (fun x hx => ?_) (fun x hx => ?_) (by have := lenM_size m; omega)
      · have := size_mem hx
        exact ih x.2 (by omega) (by omega)
      · have := size_mem hx; omega
    by_cases h0 : k < 1 ∨ 6 < k
    · exact mright_out k y t l m h0
    · exact mright_in k y t l m (by omega) (by omega)
/-- The maker's Right, of any value that isn't too great. -/
theorem mright (v : JV) (h : sizeJ v ≤ 1000000) : MRightC v := mright_size _ v (Nat.le_refl _) h
end Go.Proofs.YtgcfikiajingcaaGreat
/- json: a right value's text is parsed as it. Plain. -/
set_option linter.unusedVariables false
namespace Go.Proofs.YtgcfikiajingcaaGreat

mutual
theorem plain_sty : ∀ (v : JV) (n : Nat), styJ plainS n v = plainJ v
  | .mk k y t l m, n => by
    have h1 := plainL_sty l n
    have h2 := plainM_sty m n
    rw [styJ, plainJ]
    have e1 : plainS.opn n = [] := rfl
    have e2 : plainS.cls n = [] := rfl
    rw [e1, e2, h1.1, h2.1]
theorem plainL_sty : ∀ (l : List JV) (n : Nat), styL plainS n [] [] l = plainL true l ∧ styL plainS n [44] [] l = plainL false l
  | [], n => ⟨rfl, rfl⟩
  | v :: l, n => by
    have h1 := plain_sty v (n + 1)
    have h2 := (plainL_sty l n).2
    have e3 : plainS.com n = [] := rfl
    have e4 : (if l.isEmpty then ([] : List UInt8) else styL plainS n (44 :: plainS.com n) [] l) = plainL false l := by
      cases l with
      | nil => rfl
      | cons x r => rw [e3]; exact h2
    constructor
    · rw [styL, plainL, h1, e4]; rfl
    · rw [styL, plainL, h1, e4]; rfl
theorem plainM_sty : ∀ (l : List (List UInt8 × JV)) (n : Nat), styM plainS n [] [] l = plainM true l ∧ styM plainS n [44] [] l = plainM false l
  | [], n => ⟨rfl, rfl⟩
  | (x, v) :: l, n => by
    have h1 := plain_sty v (n + 1)
    have h2 := (plainM_sty l n).2
    have e3 : plainS.com n = [] := rfl
    have e5 : plainS.col = [] := rfl
    have e4 : (if l.isEmpty then ([] : List UInt8) else styM plainS n (44 :: plainS.com n) [] l) = plainM false l := by
      cases l with
      | nil => rfl
      | cons x r => rw [e3]; exact h2
    constructor
    · rw [styM, plainM, h1, e4, e5]; rfl
    · rw [styM, plainM, h1, e4, e5]; rfl
end
theorem parse_sty (S : Sty) (hS : S.blank) (v : JV) (h : rightJ v = true) (e : List UInt8) (he : ∀ c ∈ e, blankB c = true) (hl : (styJ S 0 v ++ e).length ≤ 16384) (d : Int) (h1 : 1 ≤ d) (h2 : d ≤ 32) :
    parseL (styJ S 0 v ++ e) d = if openJ v ≤ d.toNat then (v, 0) else (.zero, 32) := by
  unfold parseL
  have ht : toldB (styJ S 0 v ++ e) = true := told_cat (told_sty S hS v 0 h) (told_blank he)
  rw [if_neg (by omega), if_neg (by omega), if_neg (by rw [ht]; decide), whole_sty S hS v h 0 d.toNat e he]
  by_cases ho : openJ v ≤ d.toNat
  · rw [if_pos ho, if_pos ho]
  · rw [if_neg ho, if_neg ho]
theorem parse_plain (v : JV) (h : rightJ v = true) (hl : (plainJ v).length ≤ 16384) (d : Int) (h1 : 1 ≤ d) (h2 : d ≤ 32) :
    parseL (plainJ v) d = if openJ v ≤ d.toNat then (v, 0) else (.zero, 32) := by
  have := parse_sty plainS plainS_blank v h [] (by simp) (by rw [plain_sty]; simpa using hl) d h1 h2
  rw [plain_sty] at this
  simpa using this
mutual
theorem open_depth : ∀ v : JV, openJ v ≤ depthJ v
  | .mk k y t l m => by
    have h1 := openL_depth l
    have h2 := openM_depth m
    rw [openJ, depthJ]
    split
    · omega
    split
    · omega
    · omega
theorem openL_depth : ∀ l : List JV, openL l ≤ depthL l
  | [] => by simp [openL]
  | v :: l => by
    have h1 := open_depth v
    have h2 := openL_depth l
    rw [openL, depthL]; omega
theorem openM_depth : ∀ l : List (List UInt8 × JV), openM l ≤ depthM l
  | [] => by simp [openM]
  | (n, v) :: l => by
    have h1 := open_depth v
    have h2 := openM_depth l
    rw [openM, depthM]
    show max (openJ v) (openM l) ≤ _
    omega
end
end Go.Proofs.YtgcfikiajingcaaGreat
/- Leaf, plain: how far the deepest way stands open. -/
set_option linter.unusedVariables false
namespace Go.Proofs.YtgcfikiajingcaaGreat

mutual
theorem depth_open : ∀ v : JV, depthJ v ≤ openJ v + 1
  | .mk k y t l m => by
    have h1 := depth_openL l
    have h2 := depth_openM m
    rw [depthJ, openJ]
    by_cases h5 : k = 5
    · rw [if_pos h5, if_pos h5]; omega
    · rw [if_neg h5, if_neg h5]
      by_cases h6 : k = 6
      · rw [if_pos h6, if_pos h6]; omega
      · rw [if_neg h6, if_neg h6]; omega
theorem depth_openL : ∀ l : List JV, depthL l ≤ openL l + 1
  | [] => by simp [depthL]
  | v :: l => by
    have h1 := depth_open v
    have h2 := depth_openL l
    rw [depthL, openL]
    omega
theorem depth_openM : ∀ l : List (List UInt8 × JV), depthM l ≤ openM l + 1
  | [] => by simp [depthM]
  | (n, v) :: l => by
    have h1 := depth_open v
    have h2 := depth_openM l
    rw [depthM, openM]
    show max (depthJ v) (depthM l) ≤ max (openJ v) (openM l) + 1
    omega
end
theorem depth_pos : ∀ v : JV, 1 ≤ depthJ v
  | .mk k y t l m => by
    rw [depthJ]
    by_cases h5 : k = 5
    · rw [if_pos h5]; omega
    · rw [if_neg h5]
      by_cases h6 : k = 6
      · rw [if_pos h6]; omega
      · rw [if_neg h6]; omega
def lfJ (v : JV) : Nat := depthJ v - openJ v
theorem lf_le (v : JV) : lfJ v ≤ 1 := by have := depth_open v; unfold lfJ; omega
def leastF (D a : Nat) (x : JV) : Nat := if depthJ x = D then min a (lfJ x) else a
def leastL (D : Nat) (l : List JV) : Nat := l.foldl (leastF D) 1
theorem leastL_take {D : Nat} {l : List JV} {j : Nat} (h : j < l.length) : leastL D (l.take (j + 1)) = leastF D (leastL D (l.take j)) l[j] := by
  unfold leastL
  rw [List.take_succ_eq_append_getElem h, List.foldl_append]
  rfl
theorem least_le (D : Nat) : ∀ (l : List JV) (a : Nat), l.foldl (leastF D) a ≤ a
  | [], a => Nat.le_refl _
  | x :: l, a => by
    have := least_le D l (leastF D a x)
    rw [List.foldl_cons]
    refine Nat.le_trans this ?_
    unfold leastF
    split <;> omega
theorem leastL_le (D : Nat) (l : List JV) : leastL D l ≤ 1 := least_le D l 1
theorem least_of (D : Nat) : ∀ (l : List JV) (a : Nat) (x : JV), x ∈ l → depthJ x = D → l.foldl (leastF D) a ≤ lfJ x
  | y :: l, a, x, hx, hd => by
    rw [List.foldl_cons]
    rcases List.mem_cons.1 hx with rfl | hx
    · refine Nat.le_trans (least_le D l _) ?_
      unfold leastF
      rw [if_pos hd]
      omega
    · exact least_of D l _ x hx hd
theorem least_one (D : Nat) : ∀ (l : List JV) (a : Nat), 1 ≤ a → (∀ x ∈ l, depthJ x = D → 1 ≤ lfJ x) → 1 ≤ l.foldl (leastF D) a
  | [], a, h, _ => h
  | y :: l, a, h, hx => by
    rw [List.foldl_cons]
    refine least_one D l _ ?_ (fun x hm => hx x (List.mem_cons_of_mem _ hm))
    unfold leastF
    split
    · rename_i hd
      have := hx y (List.mem_cons_self ..) hd
      omega
    · exact h
theorem openL_mem : ∀ (l : List JV), 0 < openL l → ∃ x ∈ l, openJ x = openL l
  | [], h => by simp [openL] at h
  | v :: l, h => by
    rw [openL] at h ⊢
    by_cases hc : openL l ≤ openJ v
    · exact ⟨v, List.mem_cons_self .., by omega⟩
    · obtain ⟨x, hx, e⟩ := openL_mem l (by omega)
      exact ⟨x, List.mem_cons_of_mem _ hx, by omega⟩
theorem depthL_mem : ∀ (l : List JV), 0 < depthL l → ∃ x ∈ l, depthJ x = depthL l
  | [], h => by simp [depthL] at h
  | v :: l, h => by
    rw [depthL] at h ⊢
    by_cases hc : depthL l ≤ depthJ v
    · exact ⟨v, List.mem_cons_self .., by omega⟩
    · obtain ⟨x, hx, e⟩ := depthL_mem l (by omega)
      exact ⟨x, List.mem_cons_of_mem _ hx, by omega⟩
theorem openL_ge : ∀ (l : List JV) (x : JV), x ∈ l → openJ x ≤ openL l
  | v :: l, x, h => by
    rw [openL]
    rcases List.mem_cons.1 h with rfl | h
    · omega
    · have := openL_ge l x h; omega
theorem depthL_ge : ∀ (l : List JV) (x : JV), x ∈ l → depthJ x ≤ depthL l
  | v :: l, x, h => by
    rw [depthL]
    rcases List.mem_cons.1 h with rfl | h
    · omega
    · have := depthL_ge l x h; omega
theorem least_eq (l : List JV) (h : 0 < depthL l) : leastL (depthL l) l = depthL l - openL l := by
  have hod := openL_depth l
  have hdo := depth_openL l
  by_cases hc : openL l = depthL l
  · obtain ⟨x, hx, e⟩ := openL_mem l (by omega)
    have h1 := depthL_ge l x hx
    have h2 := open_depth x
    have := least_of (depthL l) l 1 x hx (by omega)
    unfold lfJ at this
    unfold leastL
    omega
  · have h1 : 1 ≤ leastL (depthL l) l := least_one _ _ _ (Nat.le_refl _) fun x hx hd => by
      have := openL_ge l x hx
      unfold lfJ
      omega
    have h2 := leastL_le (depthL l) l
    omega
theorem depthM_map : ∀ m : List (List UInt8 × JV), depthM m = depthL (m.map Prod.snd)
  | [] => by simp [depthM, depthL]
  | (n, v) :: m => by rw [depthM, List.map_cons, depthL, depthM_map m]
theorem openM_map : ∀ m : List (List UInt8 × JV), openM m = openL (m.map Prod.snd)
  | [] => by simp [openM, openL]
  | (n, v) :: m => by rw [openM, List.map_cons, openL, openM_map m]
theorem depthL_zero {l : List JV} (h : depthL l = 0) : l = [] := by
  cases l with
  | nil => rfl
  | cons v l => rw [depthL] at h; have := depth_pos v; omega
theorem lf_arr (y : Bool) (t : List UInt8) (l : List JV) (m : List (List UInt8 × JV)) : lfJ (.mk 5 y t l m) = depthL l - openL l := by
  unfold lfJ
  rw [depthJ, openJ, if_pos rfl, if_pos rfl]
  omega
theorem lf_obj (y : Bool) (t : List UInt8) (l : List JV) (m : List (List UInt8 × JV)) : lfJ (.mk 6 y t l m) = depthL (m.map Prod.snd) - openL (m.map Prod.snd) := by
  unfold lfJ
  rw [depthJ, openJ, if_neg (show ¬ (6 : Int) = 5 by decide), if_neg (show ¬ (6 : Int) = 5 by decide), if_pos rfl, if_pos rfl, depthM_map, openM_map]
  omega
theorem lf_leaf (k : Int) (y : Bool) (t : List UInt8) (l : List JV) (m : List (List UInt8 × JV)) (h5 : k ≠ 5) (h6 : k ≠ 6) : lfJ (.mk k y t l m) = 1 := by
  unfold lfJ
  rw [depthJ, openJ, if_neg h5, if_neg h5, if_neg h6, if_neg h6]
end Go.Proofs.YtgcfikiajingcaaGreat
/- The maker: Leaf. -/
set_option linter.unusedVariables false
namespace Go.Proofs.YtgcfikiajingcaaGreat
open Go.RowKit

/-- What Leaf says of a right value. -/
def LeafC (v : JV) : Prop := rightJ v = true → ∀ (ok : Nat → Prop) cs w, Rep ok w cs v → Calls Tryz.prog 13 #[.agg cs.toArray] w fun e w' => e = .returned (.int .i64 (lfJ v : Nat)) ∧ Below w.heap.size w w'
theorem right_bare {k : Int} {y : Bool} {t : List UInt8} {l : List JV} {m : List (List UInt8 × JV)} (h : rightJ (.mk k y t l m) = true) : bareB k y t l.length m.length = true ∧ (k = 5 → rightL l = true) ∧ (k = 6 → rightM m = true) ∧ 1 ≤ k ∧ k ≤ 6 := by
  rw [right_eq, Bool.and_eq_true] at h
  refine ⟨h.1, ?_, ?_, ?_⟩
  · rintro rfl
    simpa using h.2
  · rintro rfl
    simpa using h.2
  · have := h.2
    simp only [Bool.or_eq_true, Bool.and_eq_true, beq_iff_eq] at this
    omega
theorem rightL_mem : ∀ {l : List JV}, rightL l = true → ∀ x ∈ l, rightJ x = true
  | v :: l, h, x, hx => by
    rw [rightL, Bool.and_eq_true] at h
    rcases List.mem_cons.1 hx with rfl | hx
    · exact h.1
    · exact rightL_mem h.2 x hx
theorem rightM_mem : ∀ {l : List (List UInt8 × JV)}, rightM l = true → ∀ x ∈ l, rightJ x.2 = true
  | (n, v) :: l, h, x, hx => by
    rw [rightM, Bool.and_eq_true, Bool.and_eq_true, Bool.and_eq_true] at h
    rcases List.mem_cons.1 hx with rfl | hx
    · exact h.1.1.2
    · exact rightM_mem h.2 x hx
set_option maxRecDepth 100000 in
set_option maxHeartbeats 16000000 in
theorem mleaf_leaf (k : Int) (y : Bool) (t : List UInt8) (l : List JV) (m : List (List UInt8 × JV)) (h5 : k ≠ 5) (h6 : k ≠ 6) : LeafC (.mk k y t l m) := by
  intro hr ok cs w h
  obtain ⟨a, c, a', c', cl, cm, rfl, -⟩ := h.parts
  simp only [JV.kind, JV.yes, JV.text, JV.list, JV.mem, strV] at *
  have HW : Hid (∀ ob, Below w.heap.size w (w.alloc ob)) := Lib.hid fun ob => (Below.refl _ _).alloc (Nat.le_refl _) _
  have hk : k < 5 := by have := (right_bare hr).2.2.2; omega
  have HL := Lib.hid (lf_leaf k y t l m h5 h6)
  clear h h5 h6 hr
  go_enter Tryz.func13, Tryz.ntmps13
  go_wp2_with fail
  refine bodyPost_ret (results_tmp rfl _ _ _) rfl ?_
  exact ⟨by rw [HL.out]; rfl, HW.out _⟩
set_option maxRecDepth 100000 in
set_option maxHeartbeats 16000000 in
theorem mleaf_arr (y : Bool) (t : List UInt8) (l : List JV) (m : List (List UInt8 × JV)) (hv : ∀ x ∈ l, LeafC x) (hl : sizeJ (.mk 5 y t l m) ≤ 1000000) : LeafC (.mk 5 y t l m) := by
  intro hr ok cs w h
  have HR0 := Lib.hid h.lt
  obtain ⟨a, c, a', c', cl, cm, rfl, h1, h2, -⟩ := h.parts
  simp only [JV.kind, JV.yes, JV.text, JV.list, JV.mem, strV] at *
  have H1 := Lib.hid h1.lt
  have H2 := Lib.hid h2.lt
  have HV := Lib.hid hv
  have hsz : sizeL l ≤ 1000000 := by rw [sizeJ] at hl; omega
  have HXD : Hid (∀ x ∈ l, DepthC x) := Lib.hid (fun x hx => jdepth x (by have := size_list hx; omega))
  have HRL := Lib.hid (rightL_mem ((right_bare hr).2.1 rfl))
  have hm0 : m.length = 0 := by have := (right_bare hr).1; simp [bareB] at this; simp [this.2]
  have hD : depthJ (.mk 5 y t l m) = depthL l + 1 := by rw [depthJ, if_pos rfl]
  have hDl : depthL l ≤ 1000000 := by have := depth_size (.mk 5 y t l m); omega
  have HLF := Lib.hid (lf_arr y t l m)
  have HLE := Lib.hid (least_eq l)
  have HZ : Hid (depthL l = 0 → openL l = 0) := Lib.hid fun h => by rw [depthL_zero h]; rfl
  have hll : l.length ≤ 1000000 := by have := len_size l; omega
  have HDG := Lib.hid (depthL_ge l)
  obtain ⟨D, hDD⟩ : ∃ D, depthL l = D := ⟨_, rfl⟩
  obtain ⟨DI, hDI⟩ : ∃ DI : Int, ((D + 1 : Nat) : Int) = DI := ⟨_, rfl⟩
  have HJD : Hid (∀ (ok : Nat → Prop) cs w, Rep ok w cs (.mk 5 y t l m) → Calls Tryz.prog 12 #[.agg cs.toArray] w fun e w' => e = .returned (.int .i64 DI) ∧ Below w.heap.size w w') := Lib.hid (fun ok cs w h => by
    have := jdepth _ hl ok cs w h
    rw [hD, hDD, hDI] at this
    exact this)
  rw [hDD] at HLF HLE HZ hDl HDG
  have hD1 : 1 ≤ DI := by omega
  have hD2 : DI ≤ 1000001 := by omega
  have HDI : Hid (DI - 1 = (D : Int)) := Lib.hid (by omega)
  generalize m.length = nm at *
  subst hm0
  clear h h1 h2 hv hl hr hsz hD hDD hDI
  go_enter Tryz.func13, Tryz.ntmps13
  go_upto_region 1 with (fail)
  have hb1 : Below w.heap.size w (w.alloc (.cells #[.int .i64 5, .bool y, .string ⟨t.toArray⟩, .slice a l.length c, .slice a' 0 c'] 28)) := (Below.refl _ _).alloc (Nat.le_refl _) _
  have hx1 := heap_alloc_new w (.cells #[.int .i64 5, .bool y, .string ⟨t.toArray⟩, .slice a l.length c, .slice a' 0 c'] 28)
  generalize w.alloc _ = w1 at *
  have HB1 := Lib.hid hb1
  have hs1 : w.heap.size < w1.heap.size := (Array.getElem?_eq_some_iff.1 hx1).1
  have v0 : w1.cell? ⟨w.heap.size, 0, none⟩ = some (.int .i64 5) := by rw [Lib.cell_of_heap hx1]; rfl
  have v1 : w1.cell? ⟨w.heap.size, 1, none⟩ = some (.bool y) := by rw [Lib.cell_of_heap hx1]; rfl
  have v2 : w1.cell? ⟨w.heap.size, 2, none⟩ = some (.string ⟨t.toArray⟩) := by rw [Lib.cell_of_heap hx1]; rfl
  have v3 : w1.cell? ⟨w.heap.size, 3, none⟩ = some (.slice a l.length c) := by rw [Lib.cell_of_heap hx1]; rfl
  have v4 : w1.cell? ⟨w.heap.size, 4, none⟩ = some (.slice a' 0 c') := by rw [Lib.cell_of_heap hx1]; rfl
  have HX1 := Lib.hid hx1
  clear hb1 hx1
  go_wp2_with fail
  refine (HJD.out _ [.int .i64 5, .bool y, .string ⟨t.toArray⟩, .slice a l.length c, .slice a' 0 c'] w1 (HR0.out.keep fun b hb _ => HB1.out.block b hb.2)).mono ?_
  rintro e w2 ⟨rfl, hb2⟩
  have HB2 := Lib.hid (HB1.out.trans (hb2.mono HB1.out.size))
  have HX2 := Lib.hid ((hb2.block _ hs1).trans HX1.out)
  have hs2 : w.heap.size < w2.heap.size := Nat.lt_of_lt_of_le hs1 hb2.size
  clear hb2 v0 v1 v2 v3 v4 HJD
  by_cases hD0 : D = 0
  · have q1 : (DI == 1) = true := by have := HDI.out; simp; omega
    have HL0 : Hid (lfJ (.mk 5 y t l m) = 0) := Lib.hid (by rw [HLF.out, hD0, Nat.zero_sub])
    go_wp2_with fail
    refine bodyPost_ret (results_tmp rfl _ _ _) rfl ?_
    exact ⟨by rw [HL0.out]; rfl, HB2.out⟩
  have q1 : (DI == 1) = false := by have := HDI.out; simp; omega
  have HL0 : Hid (lfJ (.mk 5 y t l m) = leastL D l) := Lib.hid (by rw [HLF.out, HLE.out (by omega)])
  have v3 : w2.cell? ⟨w.heap.size, 3, none⟩ = some (.slice a l.length c) := by rw [Lib.cell_of_heap HX2.out]; rfl
  clear hD0
  go_wp2_with fail
  go_loopg [4, 19] l.length (fun k acc iv wr => ∃ j d : Nat, acc = .int .i64 (d : Int) ∧ iv = .int .i64 (j : Int) ∧ j + k = l.length ∧ d ≤ 1 ∧ Hid (d = leastL D (l.take j)) ∧ Hid (Below w2.heap.size w2 wr))
  case atStart => exact ⟨0, 1, rfl, rfl, by omega, by omega, Lib.hid rfl, Lib.hid (Below.refl _ _)⟩
  case round =>
    obtain ⟨j, d, rfl, rfl, hj, hd, HDD, HB⟩ := hrel
    have HBW := Lib.hid (HB2.out.trans (HB.out.mono (Nat.le_of_lt hs2)))
    by_cases hlt : j < l.length
    · have hltI : (j : Int) < (l.length : Int) := by omega
      obtain ⟨br, off, k2, y2, t2, a2, l2, c2, a3, l3, c3, ea, hrep, i0, i1, i2, i3, i4⟩ := list_cells (H1.out.keep fun b hb _ => HBW.out.block b hb.2) (H2.out.keep fun b hb _ => HBW.out.block b hb.2) j hlt
      subst ea
      have HREP := Lib.hid hrep
      have HC := Lib.hid (HXD.out l[j] (List.getElem_mem hlt))
      have HLC := Lib.hid (HV.out l[j] (List.getElem_mem hlt) (HRL.out l[j] (List.getElem_mem hlt)))
      have HT := Lib.hid (leastL_take (D := D) hlt)
      have hdx : depthJ l[j] ≤ D := HDG.out l[j] (List.getElem_mem hlt)
      have hlx := lf_le l[j]
      generalize l[j] = x at *
      clear hrep v3
      go_upto_region 10 with (fail)
      have hb4 : Below wr.heap.size wr (wr.alloc (.cells #[.int .i64 k2, .bool y2, .string ⟨t2⟩, .slice a2 l2 c2, .slice a3 l3 c3] 28)) := (Below.refl _ _).alloc (Nat.le_refl _) _
      have hx4 := heap_alloc_new wr (.cells #[.int .i64 k2, .bool y2, .string ⟨t2⟩, .slice a2 l2 c2, .slice a3 l3 c3] 28)
      generalize wr.alloc (.cells #[.int .i64 k2, .bool y2, .string ⟨t2⟩, .slice a2 l2 c2, .slice a3 l3 c3] 28) = w4 at *
      have HB4 := Lib.hid (HB.out.trans (hb4.mono HB.out.size))
      have HREP4 := Lib.hid (HREP.out.under hb4)
      have HX4 := Lib.hid hx4
      have hs4 : wr.heap.size < w4.heap.size := (Array.getElem?_eq_some_iff.1 hx4).1
      have v0 : w4.cell? ⟨wr.heap.size, 0, none⟩ = some (.int .i64 k2) := by rw [Lib.cell_of_heap hx4]; rfl
      have v1 : w4.cell? ⟨wr.heap.size, 1, none⟩ = some (.bool y2) := by rw [Lib.cell_of_heap hx4]; rfl
      have v2 : w4.cell? ⟨wr.heap.size, 2, none⟩ = some (.string ⟨t2⟩) := by rw [Lib.cell_of_heap hx4]; rfl
      have v3 : w4.cell? ⟨wr.heap.size, 3, none⟩ = some (.slice a2 l2 c2) := by rw [Lib.cell_of_heap hx4]; rfl
      have v4 : w4.cell? ⟨wr.heap.size, 4, none⟩ = some (.slice a3 l3 c3) := by rw [Lib.cell_of_heap hx4]; rfl
      clear hb4 hx4 i0 i1 i2 i3 i4
      go_wp2_with fail
      refine (HC.out _ _ w4 HREP4.out).mono ?_
      rintro e w5 ⟨rfl, hb5⟩
      have HB5 := Lib.hid (HB4.out.trans (hb5.mono HB4.out.size))
      have HREP5 := Lib.hid (HREP4.out.under hb5)
      have HX5 := Lib.hid ((hb5.block _ hs4).trans HX4.out)
      obtain ⟨dx, hdx2⟩ : ∃ dx, depthJ x = dx := ⟨_, rfl⟩
      unfold leastF at HT
      rw [hdx2] at HT hdx ⊢
      clear hb5 hdx2 v0 v1 v2 v3 v4
      by_cases hq : dx = D
      · rw [if_pos hq] at HT
        have hqI : ((dx : Int) == DI - 1) = true := by have := HDI.out; simp; omega
        have v0 : w5.cell? ⟨wr.heap.size, 0, none⟩ = some (.int .i64 k2) := by rw [Lib.cell_of_heap HX5.out]; rfl
        have v1 : w5.cell? ⟨wr.heap.size, 1, none⟩ = some (.bool y2) := by rw [Lib.cell_of_heap HX5.out]; rfl
        have v2 : w5.cell? ⟨wr.heap.size, 2, none⟩ = some (.string ⟨t2⟩) := by rw [Lib.cell_of_heap HX5.out]; rfl
        have v3 : w5.cell? ⟨wr.heap.size, 3, none⟩ = some (.slice a2 l2 c2) := by rw [Lib.cell_of_heap HX5.out]; rfl
        have v4 : w5.cell? ⟨wr.heap.size, 4, none⟩ = some (.slice a3 l3 c3) := by rw [Lib.cell_of_heap HX5.out]; rfl
        clear hq
        go_wp2_with fail
        refine (HLC.out _ _ w5 HREP5.out).mono ?_
        rintro e w6 ⟨rfl, hb6⟩
        have HB6 := Lib.hid (HB5.out.trans (hb6.mono HB5.out.size))
        obtain ⟨lx, hlx2⟩ : ∃ lx, lfJ x = lx := ⟨_, rfl⟩
        rw [hlx2] at HT hlx ⊢
        clear hb6 hlx2 v0 v1 v2 v3 v4
        go_wp2_with fail
        go_roundg (gk - 1)
        case measure => omega
        case rel => exact ⟨j + 1, min d lx, by first | rfl | (congr 1; omega), by first | rfl | (congr 1), by omega, by omega, Lib.hid (by rw [HT.out, ← HDD.out]), HB6⟩
      · rw [if_neg hq] at HT
        have hqI : ((dx : Int) == DI - 1) = false := by have := HDI.out; simp; omega
        clear hq
        go_wp2_with fail
        go_roundg (gk - 1)
        case measure => omega
        case rel => exact ⟨j + 1, d, by first | rfl | (congr 1; omega), by first | rfl | (congr 1), by omega, by omega, Lib.hid (by rw [HT.out, ← HDD.out]), HB5⟩
    · have hge : ¬ (j : Int) < (l.length : Int) := by omega
      have HE : Hid (leastL D l = d) := Lib.hid (by rw [HDD.out, List.take_of_length_le (by omega)])
      obtain ⟨wo, rfl⟩ : ∃ x : World, x = wr := ⟨_, rfl⟩
      have c4 : wo.cell? ⟨w.heap.size, 4, none⟩ = some (.slice a' 0 c') := by rw [Lib.cell_of_heap ((HB.out.block _ hs2).trans HX2.out)]; rfl
      clear v3
      go_wp2_with fail
      go_loopg [4, 36] 0 (fun k acc iv wr => acc = .int .i64 (d : Int) ∧ iv = .int .i64 0 ∧ wr = wo)
      case atStart => exact ⟨rfl, rfl, rfl⟩
      case round =>
        obtain ⟨rfl, rfl, rfl⟩ := hrel
        go_wp2_with fail
        refine bodyPost_ret (results_tmp rfl _ _ _) rfl ?_
        exact ⟨by rw [HL0.out, HE.out]; first | rfl | (congr 1), HBW.out⟩
set_option maxRecDepth 100000 in
set_option maxHeartbeats 16000000 in
theorem mleaf_obj (y : Bool) (t : List UInt8) (l : List JV) (m : List (List UInt8 × JV)) (hv : ∀ x ∈ m, LeafC x.2) (hl : sizeJ (.mk 6 y t l m) ≤ 1000000) : LeafC (.mk 6 y t l m) := by
  intro hr ok cs w h
  have HR0 := Lib.hid h.lt
  obtain ⟨a, c, a', c', cl, cm, rfl, -, -, h1, h2, -⟩ := h.parts
  simp only [JV.kind, JV.yes, JV.text, JV.list, JV.mem, strV] at *
  have H1 := Lib.hid h1.lt
  have H2 := Lib.hid h2.lt
  have HV := Lib.hid hv
  have hsz : sizeM m ≤ 1000000 := by rw [sizeJ] at hl; omega
  have HXD : Hid (∀ x ∈ m, DepthC x.2) := Lib.hid (fun x hx => jdepth x.2 (by have := size_mem hx; omega))
  have HRL := Lib.hid (rightM_mem ((right_bare hr).2.2.1 rfl))
  have hm0 : l.length = 0 := by have := (right_bare hr).1; simp [bareB] at this; simp [this.2]
  have hD : depthJ (.mk 6 y t l m) = depthL (m.map Prod.snd) + 1 := by rw [depthJ, if_neg (show ¬ (6 : Int) = 5 by decide), if_pos rfl, depthM_map]
  have hDl : depthL (m.map Prod.snd) ≤ 1000000 := by have := depth_size (.mk 6 y t l m); omega
  have HLF := Lib.hid (lf_obj y t l m)
  have HLE := Lib.hid (least_eq (m.map Prod.snd))
  have HZ : Hid (depthL (m.map Prod.snd) = 0 → openL (m.map Prod.snd) = 0) := Lib.hid fun h => by rw [depthL_zero h]; rfl
  have hll : m.length ≤ 1000000 := by have := lenM_size m; omega
  have HDG := Lib.hid (depthL_ge (m.map Prod.snd))
  obtain ⟨D, hDD⟩ : ∃ D, depthL (m.map Prod.snd) = D := ⟨_, rfl⟩
  obtain ⟨DI, hDI⟩ : ∃ DI : Int, ((D + 1 : Nat) : Int) = DI := ⟨_, rfl⟩
  have HJD : Hid (∀ (ok : Nat → Prop) cs w, Rep ok w cs (.mk 6 y t l m) → Calls Tryz.prog 12 #[.agg cs.toArray] w fun e w' => e = .returned (.int .i64 DI) ∧ Below w.heap.size w w') := Lib.hid (fun ok cs w h => by
    have := jdepth _ hl ok cs w h
    rw [hD, hDD, hDI] at this
    exact this)
  rw [hDD] at HLF HLE HZ hDl HDG
  have hD1 : 1 ≤ DI := by omega
  have hD2 : DI ≤ 1000001 := by omega
  have HDI : Hid (DI - 1 = (D : Int)) := Lib.hid (by omega)
  generalize l.length = nl at *
  subst hm0
  clear h h1 h2 hv hl hr hsz hD hDD hDI
  go_enter Tryz.func13, Tryz.ntmps13
  go_upto_region 1 with (fail)
  have hb1 : Below w.heap.size w (w.alloc (.cells #[.int .i64 6, .bool y, .string ⟨t.toArray⟩, .slice a 0 c, .slice a' m.length c'] 28)) := (Below.refl _ _).alloc (Nat.le_refl _) _
  have hx1 := heap_alloc_new w (.cells #[.int .i64 6, .bool y, .string ⟨t.toArray⟩, .slice a 0 c, .slice a' m.length c'] 28)
  generalize w.alloc _ = w1 at *
  have HB1 := Lib.hid hb1
  have hs1 : w.heap.size < w1.heap.size := (Array.getElem?_eq_some_iff.1 hx1).1
  have v0 : w1.cell? ⟨w.heap.size, 0, none⟩ = some (.int .i64 6) := by rw [Lib.cell_of_heap hx1]; rfl
  have v1 : w1.cell? ⟨w.heap.size, 1, none⟩ = some (.bool y) := by rw [Lib.cell_of_heap hx1]; rfl
  have v2 : w1.cell? ⟨w.heap.size, 2, none⟩ = some (.string ⟨t.toArray⟩) := by rw [Lib.cell_of_heap hx1]; rfl
  have v3 : w1.cell? ⟨w.heap.size, 3, none⟩ = some (.slice a 0 c) := by rw [Lib.cell_of_heap hx1]; rfl
  have v4 : w1.cell? ⟨w.heap.size, 4, none⟩ = some (.slice a' m.length c') := by rw [Lib.cell_of_heap hx1]; rfl
  have HX1 := Lib.hid hx1
  clear hb1 hx1
  go_wp2_with fail
  refine (HJD.out _ [.int .i64 6, .bool y, .string ⟨t.toArray⟩, .slice a 0 c, .slice a' m.length c'] w1 (HR0.out.keep fun b hb _ => HB1.out.block b hb.2)).mono ?_
  rintro e w2 ⟨rfl, hb2⟩
  have HB2 := Lib.hid (HB1.out.trans (hb2.mono HB1.out.size))
  have HX2 := Lib.hid ((hb2.block _ hs1).trans HX1.out)
  have hs2 : w.heap.size < w2.heap.size := Nat.lt_of_lt_of_le hs1 hb2.size
  clear hb2 v0 v1 v2 v3 v4 HJD
  by_cases hD0 : D = 0
  · have q1 : (DI == 1) = true := by have := HDI.out; simp; omega
    have HL0 : Hid (lfJ (.mk 6 y t l m) = 0) := Lib.hid (by rw [HLF.out, hD0, Nat.zero_sub])
    go_wp2_with fail
    refine bodyPost_ret (results_tmp rfl _ _ _) rfl ?_
    exact ⟨by rw [HL0.out]; rfl, HB2.out⟩
  have q1 : (DI == 1) = false := by have := HDI.out; simp; omega
  have HL0 : Hid (lfJ (.mk 6 y t l m) = leastL D (m.map Prod.snd)) := Lib.hid (by rw [HLF.out, HLE.out (by omega)])
  have v3 : w2.cell? ⟨w.heap.size, 3, none⟩ = some (.slice a 0 c) := by rw [Lib.cell_of_heap HX2.out]; rfl
  have v4 : w2.cell? ⟨w.heap.size, 4, none⟩ = some (.slice a' m.length c') := by rw [Lib.cell_of_heap HX2.out]; rfl
  clear hD0
  go_wp2_with fail
  go_loopg [4, 19] 0 (fun k acc iv wr => acc = .int .i64 1 ∧ iv = .int .i64 0 ∧ wr = w2)
  case atStart => exact ⟨rfl, rfl, rfl⟩
  case round =>
  obtain ⟨rfl, rfl, rfl⟩ := hrel
  obtain ⟨w3, rfl⟩ : ∃ x : World, x = wr := ⟨_, rfl⟩
  go_wp2_with fail
  go_loopg [4, 36] m.length (fun k acc iv wr => ∃ j d : Nat, acc = .int .i64 (d : Int) ∧ iv = .int .i64 (j : Int) ∧ j + k = m.length ∧ d ≤ 1 ∧ Hid (d = leastL D ((m.map Prod.snd).take j)) ∧ Hid (Below w3.heap.size w3 wr))
  case atStart => exact ⟨0, 1, rfl, rfl, by omega, by omega, Lib.hid rfl, Lib.hid (Below.refl _ _)⟩
  case round =>
    obtain ⟨j, d, rfl, rfl, hj, hd, HDD, HB⟩ := hrel
    have HBW := Lib.hid (HB2.out.trans (HB.out.mono (Nat.le_of_lt hs2)))
    by_cases hlt : j < m.length
    · have hltI : (j : Int) < (m.length : Int) := by omega
      obtain ⟨br, off, k2, y2, t2, a2, l2, c2, a3, l3, c3, ea, hrep, i0, i1, i2, i3, i4, i5⟩ := mem_cells' (H1.out.keep fun b hb _ => HBW.out.block b hb.2) (H2.out.keep fun b hb _ => HBW.out.block b hb.2) j hlt
      subst ea
      have HREP := Lib.hid hrep
      have HC := Lib.hid (HXD.out m[j] (List.getElem_mem hlt))
      have HLC := Lib.hid (HV.out m[j] (List.getElem_mem hlt) (HRL.out m[j] (List.getElem_mem hlt)))
      have HT := Lib.hid (leastL_take (D := D) (l := m.map Prod.snd) (j := j) (by simpa using hlt))
      simp only [List.getElem_map] at HT
      have hdx : depthJ m[j].2 ≤ D := HDG.out m[j].2 (List.mem_map_of_mem (List.getElem_mem hlt))
      have hlx := lf_le m[j].2
      generalize m[j] = x at *
      obtain ⟨nm, x⟩ := x
      simp only at HREP HC HLC HT hdx hlx i0
      clear hrep v3 v4
      go_upto_region 16 with (fail)
      have hb4 : Below wr.heap.size wr (wr.alloc (.cells #[.string ⟨nm.toArray⟩, .int .i64 k2, .bool y2, .string ⟨t2⟩, .slice a2 l2 c2, .slice a3 l3 c3] 54)) := (Below.refl _ _).alloc (Nat.le_refl _) _
      have hx4 := heap_alloc_new wr (.cells #[.string ⟨nm.toArray⟩, .int .i64 k2, .bool y2, .string ⟨t2⟩, .slice a2 l2 c2, .slice a3 l3 c3] 54)
      generalize wr.alloc (.cells #[.string ⟨nm.toArray⟩, .int .i64 k2, .bool y2, .string ⟨t2⟩, .slice a2 l2 c2, .slice a3 l3 c3] 54) = w4 at *
      have HB4 := Lib.hid (HB.out.trans (hb4.mono HB.out.size))
      have HREP4 := Lib.hid (HREP.out.under hb4)
      have HX4 := Lib.hid hx4
      have hs4 : wr.heap.size < w4.heap.size := (Array.getElem?_eq_some_iff.1 hx4).1
      have v0 : w4.cell? ⟨wr.heap.size, 1, none⟩ = some (.int .i64 k2) := by rw [Lib.cell_of_heap hx4]; rfl
      have v1 : w4.cell? ⟨wr.heap.size, 2, none⟩ = some (.bool y2) := by rw [Lib.cell_of_heap hx4]; rfl
      have v2 : w4.cell? ⟨wr.heap.size, 3, none⟩ = some (.string ⟨t2⟩) := by rw [Lib.cell_of_heap hx4]; rfl
      have v3 : w4.cell? ⟨wr.heap.size, 4, none⟩ = some (.slice a2 l2 c2) := by rw [Lib.cell_of_heap hx4]; rfl
      have v4 : w4.cell? ⟨wr.heap.size, 5, none⟩ = some (.slice a3 l3 c3) := by rw [Lib.cell_of_heap hx4]; rfl
      clear hb4 hx4 i0 i1 i2 i3 i4 i5
      go_wp2_with fail
      refine (HC.out _ _ w4 HREP4.out).mono ?_
      rintro e w5 ⟨rfl, hb5⟩
      have HB5 := Lib.hid (HB4.out.trans (hb5.mono HB4.out.size))
      have HREP5 := Lib.hid (HREP4.out.under hb5)
      have HX5 := Lib.hid ((hb5.block _ hs4).trans HX4.out)
      obtain ⟨dx, hdx2⟩ : ∃ dx, depthJ x = dx := ⟨_, rfl⟩
      unfold leastF at HT
      rw [hdx2] at HT hdx ⊢
      clear hb5 hdx2 v0 v1 v2 v3 v4
      by_cases hq : dx = D
      · rw [if_pos hq] at HT
        have hqI : ((dx : Int) == DI - 1) = true := by have := HDI.out; simp; omega
        have v0 : w5.cell? ⟨wr.heap.size, 1, none⟩ = some (.int .i64 k2) := by rw [Lib.cell_of_heap HX5.out]; rfl
        have v1 : w5.cell? ⟨wr.heap.size, 2, none⟩ = some (.bool y2) := by rw [Lib.cell_of_heap HX5.out]; rfl
        have v2 : w5.cell? ⟨wr.heap.size, 3, none⟩ = some (.string ⟨t2⟩) := by rw [Lib.cell_of_heap HX5.out]; rfl
        have v3 : w5.cell? ⟨wr.heap.size, 4, none⟩ = some (.slice a2 l2 c2) := by rw [Lib.cell_of_heap HX5.out]; rfl
        have v4 : w5.cell? ⟨wr.heap.size, 5, none⟩ = some (.slice a3 l3 c3) := by rw [Lib.cell_of_heap HX5.out]; rfl
        clear hq
        go_wp2_with fail
        refine (HLC.out _ _ w5 HREP5.out).mono ?_
        rintro e w6 ⟨rfl, hb6⟩
        have HB6 := Lib.hid (HB5.out.trans (hb6.mono HB5.out.size))
        obtain ⟨lx, hlx2⟩ : ∃ lx, lfJ x = lx := ⟨_, rfl⟩
        rw [hlx2] at HT hlx ⊢
        clear hb6 hlx2 v0 v1 v2 v3 v4
        go_wp2_with fail
        go_roundg (gk - 1)
        case measure => omega
        case rel => exact ⟨j + 1, min d lx, by first | rfl | (congr 1; omega), by first | rfl | (congr 1), by omega, by omega, Lib.hid (by rw [HT.out, ← HDD.out]), HB6⟩
      · rw [if_neg hq] at HT
        have hqI : ((dx : Int) == DI - 1) = false := by have := HDI.out; simp; omega
        clear hq
        go_wp2_with fail
        go_roundg (gk - 1)
        case measure => omega
        case rel => exact ⟨j + 1, d, by first | rfl | (congr 1; omega), by first | rfl | (congr 1), by omega, by omega, Lib.hid (by rw [HT.out, ← HDD.out]), HB5⟩
    · have hge : ¬ (j : Int) < (m.length : Int) := by omega
      have HE : Hid (leastL D (m.map Prod.snd) = d) := Lib.hid (by rw [HDD.out, List.take_of_length_le (by simp; omega)])
      clear v3 v4
      go_wp2_with fail
      refine bodyPost_ret (results_tmp rfl _ _ _) rfl ?_
      exact ⟨by rw [HL0.out, HE.out]; first | rfl | (congr 1), HBW.out⟩
theorem mleaf_size : ∀ (N : Nat) (v : JV), sizeJ v ≤ N → sizeJ v ≤ 1000000 → LeafC v := by
  intro N
  induction N with
  | zero => intro v h; have := size_pos v; omega
  | succ N ih =>
    intro v h hb
    obtain ⟨k, y, t, l, m⟩ := v
    have hs : sizeJ (.mk k y t l m) = 1 + t.length + sizeL l + sizeM m := by rw [sizeJ]
    by_cases h5 : k = 5
    · subst h5
      refine mleaf_arr y t l m (fun x hx => ?_) hb
      have := size_list hx
      exact ih x (by omega) (by omega)
    by_cases h6 : k = 6
    · subst h6
      refine mleaf_obj y t l m (fun x hx => ?_) hb
      have := size_mem hx
      exact ih x.2 (by omega) (by omega)
    exact mleaf_leaf k y t l m h5 h6
theorem mleaf (v : JV) (h : sizeJ v ≤ 1000000) : LeafC v := mleaf_size _ v (Nat.le_refl _) h
end Go.Proofs.YtgcfikiajingcaaGreat
