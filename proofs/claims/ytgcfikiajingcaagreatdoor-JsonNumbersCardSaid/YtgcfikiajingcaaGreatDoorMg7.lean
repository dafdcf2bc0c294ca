/- Merged: RfM, Fld, Lad, OpnI. -/
import Derived.Stop.LaidErr
import Derived.Lib.LaidTab
import Derived.MakeChecks
import Derived.Test.YtgcfikiajingcaaGreatDoorMg1
import Derived.Test.YtgcfikiajingcaaGreatDoorMg2
import Derived.Test.YtgcfikiajingcaaGreatDoorMg3
import Derived.Test.YtgcfikiajingcaaGreatDoorMg4
import Derived.Test.YtgcfikiajingcaaGreatDoorMg5
import Derived.Test.YtgcfikiajingcaaGreatDoorMg6
/- The document's reader: a number's text. -/
set_option linter.unusedVariables false
namespace Go.Proofs.YtgcfikiajingcaaGreatDoor
open Go.RowKit

theorem take_no {S : List UInt8} {s : PS} {c : UInt8} (h : isP S s.p s.e c = false) : takeP S s c = s := by unfold takeP; rw [h]; rfl
set_option maxRecDepth 100000 in
set_option maxHeartbeats 64000000 in
theorem pnumber_any (g : Nat) (S : List UInt8) (d o A : Int) (w : World) (h : PP w g S ⟨0, 0⟩ d o A) (hl : S.length ≤ 1000000) :
    Calls Tryz.prog 23 #[.pointer (some ⟨g, 0, none⟩)] w fun x w' => x = .returned (.string ⟨(S.take (numP S ⟨0, 0⟩).p).toArray⟩) ∧ (∃ A', PP w' g S (numP S ⟨0, 0⟩) d o A') ∧ But g w w' := by
  obtain ⟨R, hR⟩ : ∃ R, numP S ⟨0, 0⟩ = R := ⟨_, rfl⟩
  rw [hR]
  have HEQ : Hid (tailP S (fracP S (intP S (takeP S ⟨0, 0⟩ 45))) = R) := Lib.hid hR
  have HP := Lib.hid h
  have HB := Lib.hid (But.refl g w)
  have c1 := h.c1
  have h0 : ((0 : Nat) : Int) = 0 := rfl
  simp only [h0] at c1
  clear h hR
  go_enter Tryz.func23, Tryz.ntmps23
  go_wp2_with fail
  refine (ptake_any g S ⟨0, 0⟩ d o A 45 45 rfl w HP.out hl).mono ?_
  rintro x w1 ⟨rfl, hp, hb⟩
  have HP := Lib.hid hp
  have HB := Lib.hid (HB.out.trans hb)
  obtain ⟨s, hs⟩ : ∃ s, takeP S ⟨0, 0⟩ 45 = s := ⟨_, rfl⟩
  rw [hs] at HEQ HP
  clear hp hb hs c1
  generalize isP S _ _ 45 = b45
  go_wp2_with fail
  refine (ptake_any g S s d o A 48 48 rfl w1 HP.out hl).mono ?_
  rintro x w2 ⟨rfl, hp, hb⟩
  have HP := Lib.hid hp
  have HB := Lib.hid (HB.out.trans hb)
  clear hp hb
  cases hc : isP S s.p s.e 48 with
  | true =>
    have HEQ : Hid (tailP S (fracP S (takeP S s 48)) = R) := Lib.hid (by have := HEQ.out; unfold intP at this; rwa [if_pos hc] at this)
    obtain ⟨s102, hs⟩ : ∃ s2, takeP S s 48 = s2 := ⟨_, rfl⟩
    rw [hs] at HEQ HP
    clear hc hs
    go_wp2_with fail
    refine (ptake_any g S s102 d o A 46 46 rfl w2 HP.out hl).mono ?_
    rintro x w3 ⟨rfl, hp, hb⟩
    have HP := Lib.hid hp
    have HB := Lib.hid (HB.out.trans hb)
    clear hp hb
    cases hc : isP S s102.p s102.e 46 with
    | true =>
      have HEQ : Hid (tailP S (digitsP S (takeP S s102 46)) = R) := Lib.hid (by have := HEQ.out; unfold fracP at this; rwa [if_pos hc] at this)
      obtain ⟨s103, hs⟩ : ∃ s2, takeP S s102 46 = s2 := ⟨_, rfl⟩
      rw [hs] at HEQ HP
      clear hc hs
      go_wp2_with fail
      refine (pdigits_any g S s103 d o A w3 HP.out hl).mono ?_
      rintro x w4 ⟨rfl, ⟨A, hp⟩, hb⟩
      have HP := Lib.hid hp
      have HB := Lib.hid (HB.out.trans hb)
      obtain ⟨s104, hs⟩ : ∃ s2, digitsP S s103 = s2 := ⟨_, rfl⟩
      rw [hs] at HEQ HP
      clear hp hb hs
      go_wp2_with fail
      refine (ptake_any g S s104 d o A 101 101 rfl w4 HP.out hl).mono ?_
      rintro x w5 ⟨rfl, hp, hb⟩
      have HP := Lib.hid hp
      have HB := Lib.hid (HB.out.trans hb)
      clear hp hb
      cases hc : isP S s104.p s104.e 101 with
      | true =>
        have HEQ : Hid (expP S (takeP S s104 101) = R) := Lib.hid (by have := HEQ.out; unfold tailP at this; rwa [if_pos hc] at this)
        obtain ⟨s105, hs⟩ : ∃ s2, takeP S s104 101 = s2 := ⟨_, rfl⟩
        rw [hs] at HEQ HP
        clear hc hs
        go_wp2_with fail
        refine (ptake_any g S s105 d o A 43 43 rfl w5 HP.out hl).mono ?_
        rintro x w6 ⟨rfl, hp, hb⟩
        have HP := Lib.hid hp
        have HB := Lib.hid (HB.out.trans hb)
        clear hp hb
        cases hc : isP S s105.p s105.e 43 with
        | true =>
          have HEQ : Hid (digitsP S (takeP S s105 43) = R) := Lib.hid (by have := HEQ.out; unfold expP at this; rwa [if_pos hc] at this)
          obtain ⟨s106, hs⟩ : ∃ s2, takeP S s105 43 = s2 := ⟨_, rfl⟩
          rw [hs] at HEQ HP
          clear hc hs
          go_wp2_with fail
          refine (pdigits_any g S s106 d o A w6 HP.out hl).mono ?_
          rintro x w7 ⟨rfl, ⟨A, hp⟩, hb⟩
          have HP := Lib.hid hp
          have HB := Lib.hid (HB.out.trans hb)
          obtain ⟨s107, hs⟩ : ∃ s2, digitsP S s106 = s2 := ⟨_, rfl⟩
          rw [hs] at HEQ HP
          clear hp hb hs
          go_upto_region 11 with (fail)
          have e0 := HP.out.c0
          have e1 := HP.out.c1
          have hsl := fun w => st_mid S 0 s107.p (by omega) HP.out.le 0 (s107.p : Int) rfl rfl w
          simp only [List.drop_zero, Nat.sub_zero] at hsl
          have HPN : Hid (∀ n, PP (w7.drewN n) g S s107 d o A) := Lib.hid fun n => HP.out.drewN n
          have HBN : Hid (∀ n, But g w (w7.drewN n)) := Lib.hid fun n => HB.out.drewN n
          go_quiet (fail)
          go_wp2_with fail
          refine bodyPost_ret (results_tmp rfl _ _ _) rfl ?_
          exact ⟨by rw [← HEQ.out]; rfl, ⟨A, by rw [← HEQ.out]; exact HPN.out _⟩, HBN.out _⟩
        | false =>
          have HEQ : Hid (digitsP S (takeP S s105 45) = R) := Lib.hid (by have := HEQ.out; unfold expP at this; rwa [if_neg (by rw [hc]; decide)] at this)
          rw [take_no hc] at HP
          clear hc
          go_wp2_with fail
          refine (ptake_any g S s105 d o A 45 45 rfl w6 HP.out hl).mono ?_
          rintro x w8 ⟨rfl, hp, hb⟩
          have HP := Lib.hid hp
          have HB := Lib.hid (HB.out.trans hb)
          obtain ⟨s108, hs⟩ : ∃ s2, takeP S s105 45 = s2 := ⟨_, rfl⟩
          rw [hs] at HEQ HP
          clear hp hb hs
          generalize isP S s105.p s105.e 45 = b45x
          go_wp2_with fail
          refine (pdigits_any g S s108 d o A w8 HP.out hl).mono ?_
          rintro x w9 ⟨rfl, ⟨A, hp⟩, hb⟩
          have HP := Lib.hid hp
          have HB := Lib.hid (HB.out.trans hb)
          obtain ⟨s109, hs⟩ : ∃ s2, digitsP S s108 = s2 := ⟨_, rfl⟩
          rw [hs] at HEQ HP
          clear hp hb hs
          go_upto_region 11 with (fail)
          have e0 := HP.out.c0
          have e1 := HP.out.c1
          have hsl := fun w => st_mid S 0 s109.p (by omega) HP.out.le 0 (s109.p : Int) rfl rfl w
          simp only [List.drop_zero, Nat.sub_zero] at hsl
          have HPN : Hid (∀ n, PP (w9.drewN n) g S s109 d o A) := Lib.hid fun n => HP.out.drewN n
          have HBN : Hid (∀ n, But g w (w9.drewN n)) := Lib.hid fun n => HB.out.drewN n
          go_quiet (fail)
          go_wp2_with fail
          refine bodyPost_ret (results_tmp rfl _ _ _) rfl ?_
          exact ⟨by rw [← HEQ.out]; rfl, ⟨A, by rw [← HEQ.out]; exact HPN.out _⟩, HBN.out _⟩
      | false =>
        have HEQ : Hid ((if isP S s104.p s104.e 69 then expP S (takeP S s104 69) else s104) = R) := Lib.hid (by have := HEQ.out; unfold tailP at this; rwa [if_neg (by rw [hc]; decide)] at this)
        rw [take_no hc] at HP
        clear hc
        go_wp2_with fail
        refine (ptake_any g S s104 d o A 69 69 rfl w5 HP.out hl).mono ?_
        rintro x w10 ⟨rfl, hp, hb⟩
        have HP := Lib.hid hp
        have HB := Lib.hid (HB.out.trans hb)
        clear hp hb
        cases hc : isP S s104.p s104.e 69 with
        | true =>
          have HEQ : Hid (expP S (takeP S s104 69) = R) := Lib.hid (by have := HEQ.out; rwa [if_pos hc] at this)
          obtain ⟨s110, hs⟩ : ∃ s2, takeP S s104 69 = s2 := ⟨_, rfl⟩
          rw [hs] at HEQ HP
          clear hc hs
          go_wp2_with fail
          refine (ptake_any g S s110 d o A 43 43 rfl w10 HP.out hl).mono ?_
          rintro x w11 ⟨rfl, hp, hb⟩
          have HP := Lib.hid hp
          have HB := Lib.hid (HB.out.trans hb)
          clear hp hb
          cases hc : isP S s110.p s110.e 43 with
          | true =>
            have HEQ : Hid (digitsP S (takeP S s110 43) = R) := Lib.hid (by have := HEQ.out; unfold expP at this; rwa [if_pos hc] at this)
            obtain ⟨s111, hs⟩ : ∃ s2, takeP S s110 43 = s2 := ⟨_, rfl⟩
            rw [hs] at HEQ HP
            clear hc hs
            go_wp2_with fail
            refine (pdigits_any g S s111 d o A w11 HP.out hl).mono ?_
            rintro x w12 ⟨rfl, ⟨A, hp⟩, hb⟩
            have HP := Lib.hid hp
            have HB := Lib.hid (HB.out.trans hb)
            obtain ⟨s112, hs⟩ : ∃ s2, digitsP S s111 = s2 := ⟨_, rfl⟩
            rw [hs] at HEQ HP
            clear hp hb hs
            go_upto_region 11 with (fail)
            have e0 := HP.out.c0
            have e1 := HP.out.c1
            have hsl := fun w => st_mid S 0 s112.p (by omega) HP.out.le 0 (s112.p : Int) rfl rfl w
            simp only [List.drop_zero, Nat.sub_zero] at hsl
            have HPN : Hid (∀ n, PP (w12.drewN n) g S s112 d o A) := Lib.hid fun n => HP.out.drewN n
            have HBN : Hid (∀ n, But g w (w12.drewN n)) := Lib.hid fun n => HB.out.drewN n
            go_quiet (fail)
            go_wp2_with fail
            refine bodyPost_ret (results_tmp rfl _ _ _) rfl ?_
            exact ⟨by rw [← HEQ.out]; rfl, ⟨A, by rw [← HEQ.out]; exact HPN.out _⟩, HBN.out _⟩
          | false =>
            have HEQ : Hid (digitsP S (takeP S s110 45) = R) := Lib.hid (by have := HEQ.out; unfold expP at this; rwa [if_neg (by rw [hc]; decide)] at this)
            rw [take_no hc] at HP
            clear hc
            go_wp2_with fail
            refine (ptake_any g S s110 d o A 45 45 rfl w11 HP.out hl).mono ?_
            rintro x w13 ⟨rfl, hp, hb⟩
            have HP := Lib.hid hp
            have HB := Lib.hid (HB.out.trans hb)
            obtain ⟨s113, hs⟩ : ∃ s2, takeP S s110 45 = s2 := ⟨_, rfl⟩
            rw [hs] at HEQ HP
            clear hp hb hs
            generalize isP S s110.p s110.e 45 = b45x
            go_wp2_with fail
            refine (pdigits_any g S s113 d o A w13 HP.out hl).mono ?_
            rintro x w14 ⟨rfl, ⟨A, hp⟩, hb⟩
            have HP := Lib.hid hp
            have HB := Lib.hid (HB.out.trans hb)
            obtain ⟨s114, hs⟩ : ∃ s2, digitsP S s113 = s2 := ⟨_, rfl⟩
            rw [hs] at HEQ HP
            clear hp hb hs
            go_upto_region 11 with (fail)
            have e0 := HP.out.c0
            have e1 := HP.out.c1
            have hsl := fun w => st_mid S 0 s114.p (by omega) HP.out.le 0 (s114.p : Int) rfl rfl w
            simp only [List.drop_zero, Nat.sub_zero] at hsl
            have HPN : Hid (∀ n, PP (w14.drewN n) g S s114 d o A) := Lib.hid fun n => HP.out.drewN n
            have HBN : Hid (∀ n, But g w (w14.drewN n)) := Lib.hid fun n => HB.out.drewN n
            go_quiet (fail)
            go_wp2_with fail
            refine bodyPost_ret (results_tmp rfl _ _ _) rfl ?_
            exact ⟨by rw [← HEQ.out]; rfl, ⟨A, by rw [← HEQ.out]; exact HPN.out _⟩, HBN.out _⟩
        | false =>
          have HEQ : Hid (s104 = R) := Lib.hid (by have := HEQ.out; rwa [if_neg (by rw [hc]; decide)] at this)
          rw [take_no hc] at HP
          clear hc
          go_upto_region 11 with (fail)
          have e0 := HP.out.c0
          have e1 := HP.out.c1
          have hsl := fun w => st_mid S 0 s104.p (by omega) HP.out.le 0 (s104.p : Int) rfl rfl w
          simp only [List.drop_zero, Nat.sub_zero] at hsl
          have HPN : Hid (∀ n, PP (w10.drewN n) g S s104 d o A) := Lib.hid fun n => HP.out.drewN n
          have HBN : Hid (∀ n, But g w (w10.drewN n)) := Lib.hid fun n => HB.out.drewN n
          go_quiet (fail)
          go_wp2_with fail
          refine bodyPost_ret (results_tmp rfl _ _ _) rfl ?_
          exact ⟨by rw [← HEQ.out]; rfl, ⟨A, by rw [← HEQ.out]; exact HPN.out _⟩, HBN.out _⟩
    | false =>
      have HEQ : Hid (tailP S s102 = R) := Lib.hid (by have := HEQ.out; unfold fracP at this; rwa [if_neg (by rw [hc]; decide)] at this)
      rw [take_no hc] at HP
      clear hc
      go_wp2_with fail
      refine (ptake_any g S s102 d o A 101 101 rfl w3 HP.out hl).mono ?_
      rintro x w15 ⟨rfl, hp, hb⟩
      have HP := Lib.hid hp
      have HB := Lib.hid (HB.out.trans hb)
      clear hp hb
      cases hc : isP S s102.p s102.e 101 with
      | true =>
        have HEQ : Hid (expP S (takeP S s102 101) = R) := Lib.hid (by have := HEQ.out; unfold tailP at this; rwa [if_pos hc] at this)
        obtain ⟨s115, hs⟩ : ∃ s2, takeP S s102 101 = s2 := ⟨_, rfl⟩
        rw [hs] at HEQ HP
        clear hc hs
        go_wp2_with fail
        refine (ptake_any g S s115 d o A 43 43 rfl w15 HP.out hl).mono ?_
        rintro x w16 ⟨rfl, hp, hb⟩
        have HP := Lib.hid hp
        have HB := Lib.hid (HB.out.trans hb)
        clear hp hb
        cases hc : isP S s115.p s115.e 43 with
        | true =>
          have HEQ : Hid (digitsP S (takeP S s115 43) = R) := Lib.hid (by have := HEQ.out; unfold expP at this; rwa [if_pos hc] at this)
          obtain ⟨s116, hs⟩ : ∃ s2, takeP S s115 43 = s2 := ⟨_, rfl⟩
          rw [hs] at HEQ HP
          clear hc hs
          go_wp2_with fail
          refine (pdigits_any g S s116 d o A w16 HP.out hl).mono ?_
          rintro x w17 ⟨rfl, ⟨A, hp⟩, hb⟩
          have HP := Lib.hid hp
          have HB := Lib.hid (HB.out.trans hb)
          obtain ⟨s117, hs⟩ : ∃ s2, digitsP S s116 = s2 := ⟨_, rfl⟩
          rw [hs] at HEQ HP
          clear hp hb hs
          go_upto_region 11 with (fail)
          have e0 := HP.out.c0
          have e1 := HP.out.c1
          have hsl := fun w => st_mid S 0 s117.p (by omega) HP.out.le 0 (s117.p : Int) rfl rfl w
          simp only [List.drop_zero, Nat.sub_zero] at hsl
          have HPN : Hid (∀ n, PP (w17.drewN n) g S s117 d o A) := Lib.hid fun n => HP.out.drewN n
          have HBN : Hid (∀ n, But g w (w17.drewN n)) := Lib.hid fun n => HB.out.drewN n
          go_quiet (fail)
          go_wp2_with fail
          refine bodyPost_ret (results_tmp rfl _ _ _) rfl ?_
          exact ⟨by rw [← HEQ.out]; rfl, ⟨A, by rw [← HEQ.out]; exact HPN.out _⟩, HBN.out _⟩
        | false =>
          have HEQ : Hid (digitsP S (takeP S s115 45) = R) := Lib.hid (by have := HEQ.out; unfold expP at this; rwa [if_neg (by rw [hc]; decide)] at this)
          rw [take_no hc] at HP
          clear hc
          go_wp2_with fail
          refine (ptake_any g S s115 d o A 45 45 rfl w16 HP.out hl).mono ?_
          rintro x w18 ⟨rfl, hp, hb⟩
          have HP := Lib.hid hp
          have HB := Lib.hid (HB.out.trans hb)
          obtain ⟨s118, hs⟩ : ∃ s2, takeP S s115 45 = s2 := ⟨_, rfl⟩
          rw [hs] at HEQ HP
          clear hp hb hs
          generalize isP S s115.p s115.e 45 = b45x
          go_wp2_with fail
          refine (pdigits_any g S s118 d o A w18 HP.out hl).mono ?_
          rintro x w19 ⟨rfl, ⟨A, hp⟩, hb⟩
          have HP := Lib.hid hp
          have HB := Lib.hid (HB.out.trans hb)
          obtain ⟨s119, hs⟩ : ∃ s2, digitsP S s118 = s2 := ⟨_, rfl⟩
          rw [hs] at HEQ HP
          clear hp hb hs
          go_upto_region 11 with (fail)
          have e0 := HP.out.c0
          have e1 := HP.out.c1
          have hsl := fun w => st_mid S 0 s119.p (by omega) HP.out.le 0 (s119.p : Int) rfl rfl w
          simp only [List.drop_zero, Nat.sub_zero] at hsl
          have HPN : Hid (∀ n, PP (w19.drewN n) g S s119 d o A) := Lib.hid fun n => HP.out.drewN n
          have HBN : Hid (∀ n, But g w (w19.drewN n)) := Lib.hid fun n => HB.out.drewN n
          go_quiet (fail)
          go_wp2_with fail
          refine bodyPost_ret (results_tmp rfl _ _ _) rfl ?_
          exact ⟨by rw [← HEQ.out]; rfl, ⟨A, by rw [← HEQ.out]; exact HPN.out _⟩, HBN.out _⟩
      | false =>
        have HEQ : Hid ((if isP S s102.p s102.e 69 then expP S (takeP S s102 69) else s102) = R) := Lib.hid (by have := HEQ.out; unfold tailP at this; rwa [if_neg (by rw [hc]; decide)] at this)
        rw [take_no hc] at HP
        clear hc
        go_wp2_with fail
        refine (ptake_any g S s102 d o A 69 69 rfl w15 HP.out hl).mono ?_
        rintro x w20 ⟨rfl, hp, hb⟩
        have HP := Lib.hid hp
        have HB := Lib.hid (HB.out.trans hb)
        clear hp hb
        cases hc : isP S s102.p s102.e 69 with
        | true =>
          have HEQ : Hid (expP S (takeP S s102 69) = R) := Lib.hid (by have := HEQ.out; rwa [if_pos hc] at this)
          obtain ⟨s120, hs⟩ : ∃ s2, takeP S s102 69 = s2 := ⟨_, rfl⟩
          rw [hs] at HEQ HP
          clear hc hs
          go_wp2_with fail
          refine (ptake_any g S s120 d o A 43 43 rfl w20 HP.out hl).mono ?_
          rintro x w21 ⟨rfl, hp, hb⟩
          have HP := Lib.hid hp
          have HB := Lib.hid (HB.out.trans hb)
          clear hp hb
          cases hc : isP S s120.p s120.e 43 with
          | true =>
            have HEQ : Hid (digitsP S (takeP S s120 43) = R) := Lib.hid (by have := HEQ.out; unfold expP at this; rwa [if_pos hc] at this)
            obtain ⟨s121, hs⟩ : ∃ s2, takeP S s120 43 = s2 := ⟨_, rfl⟩
            rw [hs] at HEQ HP
            clear hc hs
            go_wp2_with fail
            refine (pdigits_any g S s121 d o A w21 HP.out hl).mono ?_
            rintro x w22 ⟨rfl, ⟨A, hp⟩, hb⟩
            have HP := Lib.hid hp
            have HB := Lib.hid (HB.out.trans hb)
            obtain ⟨s122, hs⟩ : ∃ s2, digitsP S s121 = s2 := ⟨_, rfl⟩
            rw [hs] at HEQ HP
            clear hp hb hs
            go_upto_region 11 with (fail)
            have e0 := HP.out.c0
            have e1 := HP.out.c1
            have hsl := fun w => st_mid S 0 s122.p (by omega) HP.out.le 0 (s122.p : Int) rfl rfl w
            simp only [List.drop_zero, Nat.sub_zero] at hsl
            have HPN : Hid (∀ n, PP (w22.drewN n) g S s122 d o A) := Lib.hid fun n => HP.out.drewN n
            have HBN : Hid (∀ n, But g w (w22.drewN n)) := Lib.hid fun n => HB.out.drewN n
            go_quiet (fail)
            go_wp2_with fail
            refine bodyPost_ret (results_tmp rfl _ _ _) rfl ?_
            exact ⟨by rw [← HEQ.out]; rfl, ⟨A, by rw [← HEQ.out]; exact HPN.out _⟩, HBN.out _⟩
          | false =>
            have HEQ : Hid (digitsP S (takeP S s120 45) = R) := Lib.hid (by have := HEQ.out; unfold expP at this; rwa [if_neg (by rw [hc]; decide)] at this)
            rw [take_no hc] at HP
            clear hc
            go_wp2_with fail
            refine (ptake_any g S s120 d o A 45 45 rfl w21 HP.out hl).mono ?_
            rintro x w23 ⟨rfl, hp, hb⟩
            have HP := Lib.hid hp
            have HB := Lib.hid (HB.out.trans hb)
            obtain ⟨s123, hs⟩ : ∃ s2, takeP S s120 45 = s2 := ⟨_, rfl⟩
            rw [hs] at HEQ HP
            clear hp hb hs
            generalize isP S s120.p s120.e 45 = b45x
            go_wp2_with fail
            refine (pdigits_any g S s123 d o A w23 HP.out hl).mono ?_
            rintro x w24 ⟨rfl, ⟨A, hp⟩, hb⟩
            have HP := Lib.hid hp
            have HB := Lib.hid (HB.out.trans hb)
            obtain ⟨s124, hs⟩ : ∃ s2, digitsP S s123 = s2 := ⟨_, rfl⟩
            rw [hs] at HEQ HP
            clear hp hb hs
            go_upto_region 11 with (fail)
            have e0 := HP.out.c0
            have e1 := HP.out.c1
            have hsl := fun w => st_mid S 0 s124.p (by omega) HP.out.le 0 (s124.p : Int) rfl rfl w
            simp only [List.drop_zero, Nat.sub_zero] at hsl
            have HPN : Hid (∀ n, PP (w24.drewN n) g S s124 d o A) := Lib.hid fun n => HP.out.drewN n
            have HBN : Hid (∀ n, But g w (w24.drewN n)) := Lib.hid fun n => HB.out.drewN n
            go_quiet (fail)
            go_wp2_with fail
            refine bodyPost_ret (results_tmp rfl _ _ _) rfl ?_
            exact ⟨by rw [← HEQ.out]; rfl, ⟨A, by rw [← HEQ.out]; exact HPN.out _⟩, HBN.out _⟩
        | false =>
          have HEQ : Hid (s102 = R) := Lib.hid (by have := HEQ.out; rwa [if_neg (by rw [hc]; decide)] at this)
          rw [take_no hc] at HP
          clear hc
          go_upto_region 11 with (fail)
          have e0 := HP.out.c0
          have e1 := HP.out.c1
          have hsl := fun w => st_mid S 0 s102.p (by omega) HP.out.le 0 (s102.p : Int) rfl rfl w
          simp only [List.drop_zero, Nat.sub_zero] at hsl
          have HPN : Hid (∀ n, PP (w20.drewN n) g S s102 d o A) := Lib.hid fun n => HP.out.drewN n
          have HBN : Hid (∀ n, But g w (w20.drewN n)) := Lib.hid fun n => HB.out.drewN n
          go_quiet (fail)
          go_wp2_with fail
          refine bodyPost_ret (results_tmp rfl _ _ _) rfl ?_
          exact ⟨by rw [← HEQ.out]; rfl, ⟨A, by rw [← HEQ.out]; exact HPN.out _⟩, HBN.out _⟩
  | false =>
    have HEQ : Hid (tailP S (fracP S (digitsP S s)) = R) := Lib.hid (by have := HEQ.out; unfold intP at this; rwa [if_neg (by rw [hc]; decide)] at this)
    rw [take_no hc] at HP
    clear hc
    go_wp2_with fail
    refine (pdigits_any g S s d o A w2 HP.out hl).mono ?_
    rintro x w25 ⟨rfl, ⟨A, hp⟩, hb⟩
    have HP := Lib.hid hp
    have HB := Lib.hid (HB.out.trans hb)
    obtain ⟨s125, hs⟩ : ∃ s2, digitsP S s = s2 := ⟨_, rfl⟩
    rw [hs] at HEQ HP
    clear hp hb hs
    go_wp2_with fail
    refine (ptake_any g S s125 d o A 46 46 rfl w25 HP.out hl).mono ?_
    rintro x w26 ⟨rfl, hp, hb⟩
    have HP := Lib.hid hp
    have HB := Lib.hid (HB.out.trans hb)
    clear hp hb
    cases hc : isP S s125.p s125.e 46 with
    | true =>
      have HEQ : Hid (tailP S (digitsP S (takeP S s125 46)) = R) := Lib.hid (by have := HEQ.out; unfold fracP at this; rwa [if_pos hc] at this)
      obtain ⟨s126, hs⟩ : ∃ s2, takeP S s125 46 = s2 := ⟨_, rfl⟩
      rw [hs] at HEQ HP
      clear hc hs
      go_wp2_with fail
      refine (pdigits_any g S s126 d o A w26 HP.out hl).mono ?_
      rintro x w27 ⟨rfl, ⟨A, hp⟩, hb⟩
      have HP := Lib.hid hp
      have HB := Lib.hid (HB.out.trans hb)
      obtain ⟨s127, hs⟩ : ∃ s2, digitsP S s126 = s2 := ⟨_, rfl⟩
      rw [hs] at HEQ HP
      clear hp hb hs
      go_wp2_with fail
      refine (ptake_any g S s127 d o A 101 101 rfl w27 HP.out hl).mono ?_
      rintro x w28 ⟨rfl, hp, hb⟩
      have HP := Lib.hid hp
      have HB := Lib.hid (HB.out.trans hb)
      clear hp hb
      cases hc : isP S s127.p s127.e 101 with
      | true =>
        have HEQ : Hid (expP S (takeP S s127 101) = R) := Lib.hid (by have := HEQ.out; unfold tailP at this; rwa [if_pos hc] at this)
        obtain ⟨s128, hs⟩ : ∃ s2, takeP S s127 101 = s2 := ⟨_, rfl⟩
        rw [hs] at HEQ HP
        clear hc hs
        go_wp2_with fail
        refine (ptake_any g S s128 d o A 43 43 rfl w28 HP.out hl).mono ?_
        rintro x w29 ⟨rfl, hp, hb⟩
        have HP := Lib.hid hp
        have HB := Lib.hid (HB.out.trans hb)
        clear hp hb
        cases hc : isP S s128.p s128.e 43 with
        | true =>
          have HEQ : Hid (digitsP S (takeP S s128 43) = R) := Lib.hid (by have := HEQ.out; unfold expP at this; rwa [if_pos hc] at this)
          obtain ⟨s129, hs⟩ : ∃ s2, takeP S s128 43 = s2 := ⟨_, rfl⟩
          rw [hs] at HEQ HP
          clear hc hs
          go_wp2_with fail
          refine (pdigits_any g S s129 d o A w29 HP.out hl).mono ?_
          rintro x w30 ⟨rfl, ⟨A, hp⟩, hb⟩
          have HP := Lib.hid hp
          have HB := Lib.hid (HB.out.trans hb)
          obtain ⟨s130, hs⟩ : ∃ s2, digitsP S s129 = s2 := ⟨_, rfl⟩
          rw [hs] at HEQ HP
          clear hp hb hs
          go_upto_region 11 with (fail)
          have e0 := HP.out.c0
          have e1 := HP.out.c1
          have hsl := fun w => st_mid S 0 s130.p (by omega) HP.out.le 0 (s130.p : Int) rfl rfl w
          simp only [List.drop_zero, Nat.sub_zero] at hsl
          have HPN : Hid (∀ n, PP (w30.drewN n) g S s130 d o A) := Lib.hid fun n => HP.out.drewN n
          have HBN : Hid (∀ n, But g w (w30.drewN n)) := Lib.hid fun n => HB.out.drewN n
          go_quiet (fail)
          go_wp2_with fail
          refine bodyPost_ret (results_tmp rfl _ _ _) rfl ?_
          exact ⟨by rw [← HEQ.out]; rfl, ⟨A, by rw [← HEQ.out]; exact HPN.out _⟩, HBN.out _⟩
        | false =>
          have HEQ : Hid (digitsP S (takeP S s128 45) = R) := Lib.hid (by have := HEQ.out; unfold expP at this; rwa [if_neg (by rw [hc]; decide)] at this)
          rw [take_no hc] at HP
          clear hc
          go_wp2_with fail
          refine (ptake_any g S s128 d o A 45 45 rfl w29 HP.out hl).mono ?_
          rintro x w31 ⟨rfl, hp, hb⟩
          have HP := Lib.hid hp
          have HB := Lib.hid (HB.out.trans hb)
          obtain ⟨s131, hs⟩ : ∃ s2, takeP S s128 45 = s2 := ⟨_, rfl⟩
          rw [hs] at HEQ HP
          clear hp hb hs
          generalize isP S s128.p s128.e 45 = b45x
          go_wp2_with fail
          refine (pdigits_any g S s131 d o A w31 HP.out hl).mono ?_
          rintro x w32 ⟨rfl, ⟨A, hp⟩, hb⟩
          have HP := Lib.hid hp
          have HB := Lib.hid (HB.out.trans hb)
          obtain ⟨s132, hs⟩ : ∃ s2, digitsP S s131 = s2 := ⟨_, rfl⟩
          rw [hs] at HEQ HP
          clear hp hb hs
          go_upto_region 11 with (fail)
          have e0 := HP.out.c0
          have e1 := HP.out.c1
          have hsl := fun w => st_mid S 0 s132.p (by omega) HP.out.le 0 (s132.p : Int) rfl rfl w
          simp only [List.drop_zero, Nat.sub_zero] at hsl
          have HPN : Hid (∀ n, PP (w32.drewN n) g S s132 d o A) := Lib.hid fun n => HP.out.drewN n
          have HBN : Hid (∀ n, But g w (w32.drewN n)) := Lib.hid fun n => HB.out.drewN n
          go_quiet (fail)
          go_wp2_with fail
          refine bodyPost_ret (results_tmp rfl _ _ _) rfl ?_
          exact ⟨by rw [← HEQ.out]; rfl, ⟨A, by rw [← HEQ.out]; exact HPN.out _⟩, HBN.out _⟩
      | false =>
        have HEQ : Hid ((if isP S s127.p s127.e 69 then expP S (takeP S s127 69) else s127) = R) := Lib.hid (by have := HEQ.out; unfold tailP at this; rwa [if_neg (by rw [hc]; decide)] at this)
        rw [take_no hc] at HP
        clear hc
        go_wp2_with fail
        refine (ptake_any g S s127 d o A 69 69 rfl w28 HP.out hl).mono ?_
        rintro x w33 ⟨rfl, hp, hb⟩
        have HP := Lib.hid hp
        have HB := Lib.hid (HB.out.trans hb)
        clear hp hb
        cases hc : isP S s127.p s127.e 69 with
        | true =>
          have HEQ : Hid (expP S (takeP S s127 69) = R) := Lib.hid (by have := HEQ.out; rwa [if_pos hc] at this)
          obtain ⟨s133, hs⟩ : ∃ s2, takeP S s127 69 = s2 := ⟨_, rfl⟩
          rw [hs] at HEQ HP
          clear hc hs
          go_wp2_with fail
          refine (ptake_any g S s133 d o A 43 43 rfl w33 HP.out hl).mono ?_
          rintro x w34 ⟨rfl, hp, hb⟩
          have HP := Lib.hid hp
          have HB := Lib.hid (HB.out.trans hb)
          clear hp hb
          cases hc : isP S s133.p s133.e 43 with
          | true =>
            have HEQ : Hid (digitsP S (takeP S s133 43) = R) := Lib.hid (by have := HEQ.out; unfold expP at this; rwa [if_pos hc] at this)
            obtain ⟨s134, hs⟩ : ∃ s2, takeP S s133 43 = s2 := ⟨_, rfl⟩
            rw [hs] at HEQ HP
            clear hc hs
            go_wp2_with fail
            refine (pdigits_any g S s134 d o A w34 HP.out hl).mono ?_
            rintro x w35 ⟨rfl, ⟨A, hp⟩, hb⟩
            have HP := Lib.hid hp
            have HB := Lib.hid (HB.out.trans hb)
            obtain ⟨s135, hs⟩ : ∃ s2, digitsP S s134 = s2 := ⟨_, rfl⟩
            rw [hs] at HEQ HP
            clear hp hb hs
            go_upto_region 11 with (fail)
            have e0 := HP.out.c0
            have e1 := HP.out.c1
            have hsl := fun w => st_mid S 0 s135.p (by omega) HP.out.le 0 (s135.p : Int) rfl rfl w
            simp only [List.drop_zero, Nat.sub_zero] at hsl
            have HPN : Hid (∀ n, PP (w35.drewN n) g S s135 d o A) := Lib.hid fun n => HP.out.drewN n
            have HBN : Hid (∀ n, But g w (w35.drewN n)) := Lib.hid fun n => HB.out.drewN n
            go_quiet (fail)
            go_wp2_with fail
            refine bodyPost_ret (results_tmp rfl _ _ _) rfl ?_
            exact ⟨by rw [← HEQ.out]; rfl, ⟨A, by rw [← HEQ.out]; exact HPN.out _⟩, HBN.out _⟩
          | false =>
            have HEQ : Hid (digitsP S (takeP S s133 45) = R) := Lib.hid (by have := HEQ.out; unfold expP at this; rwa [if_neg (by rw [hc]; decide)] at this)
            rw [take_no hc] at HP
            clear hc
            go_wp2_with fail
            refine (ptake_any g S s133 d o A 45 45 rfl w34 HP.out hl).mono ?_
            rintro x w36 ⟨rfl, hp, hb⟩
            have HP := Lib.hid hp
            have HB := Lib.hid (HB.out.trans hb)
            obtain ⟨s136, hs⟩ : ∃ s2, takeP S s133 45 = s2 := ⟨_, rfl⟩
            rw [hs] at HEQ HP
            clear hp hb hs
            generalize isP S s133.p s133.e 45 = b45x
            go_wp2_with fail
            refine (pdigits_any g S s136 d o A w36 HP.out hl).mono ?_
            rintro x w37 ⟨rfl, ⟨A, hp⟩, hb⟩
            have HP := Lib.hid hp
            have HB := Lib.hid (HB.out.trans hb)
            obtain ⟨s137, hs⟩ : ∃ s2, digitsP S s136 = s2 := ⟨_, rfl⟩
            rw [hs] at HEQ HP
            clear hp hb hs
            go_upto_region 11 with (fail)
            have e0 := HP.out.c0
            have e1 := HP.out.c1
            have hsl := fun w => st_mid S 0 s137.p (by omega) HP.out.le 0 (s137.p : Int) rfl rfl w
            simp only [List.drop_zero, Nat.sub_zero] at hsl
            have HPN : Hid (∀ n, PP (w37.drewN n) g S s137 d o A) := Lib.hid fun n => HP.out.drewN n
            have HBN : Hid (∀ n, But g w (w37.drewN n)) := Lib.hid fun n => HB.out.drewN n
            go_quiet (fail)
            go_wp2_with fail
            refine bodyPost_ret (results_tmp rfl _ _ _) rfl ?_
            exact ⟨by rw [← HEQ.out]; rfl, ⟨A, by rw [← HEQ.out]; exact HPN.out _⟩, HBN.out _⟩
        | false =>
          have HEQ : Hid (s127 = R) := Lib.hid (by have := HEQ.out; rwa [if_neg (by rw [hc]; decide)] at this)
          rw [take_no hc] at HP
          clear hc
          go_upto_region 11 with (fail)
          have e0 := HP.out.c0
          have e1 := HP.out.c1
          have hsl := fun w => st_mid S 0 s127.p (by omega) HP.out.le 0 (s127.p : Int) rfl rfl w
          simp only [List.drop_zero, Nat.sub_zero] at hsl
          have HPN : Hid (∀ n, PP (w33.drewN n) g S s127 d o A) := Lib.hid fun n => HP.out.drewN n
          have HBN : Hid (∀ n, But g w (w33.drewN n)) := Lib.hid fun n => HB.out.drewN n
          go_quiet (fail)
          go_wp2_with fail
          refine bodyPost_ret (results_tmp rfl _ _ _) rfl ?_
          exact ⟨by rw [← HEQ.out]; rfl, ⟨A, by rw [← HEQ.out]; exact HPN.out _⟩, HBN.out _⟩
    | false =>
      have HEQ : Hid (tailP S s125 = R) := Lib.hid (by have := HEQ.out; unfold fracP at this; rwa [if_neg (by rw [hc]; decide)] at this)
      rw [take_no hc] at HP
      clear hc
      go_wp2_with fail
      refine (ptake_any g S s125 d o A 101 101 rfl w26 HP.out hl).mono ?_
      rintro x w38 ⟨rfl, hp, hb⟩
      have HP := Lib.hid hp
      have HB := Lib.hid (HB.out.trans hb)
      clear hp hb
      cases hc : isP S s125.p s125.e 101 with
      | true =>
        have HEQ : Hid (expP S (takeP S s125 101) = R) := Lib.hid (by have := HEQ.out; unfold tailP at this; rwa [if_pos hc] at this)
        obtain ⟨s138, hs⟩ : ∃ s2, takeP S s125 101 = s2 := ⟨_, rfl⟩
        rw [hs] at HEQ HP
        clear hc hs
        go_wp2_with fail
        refine (ptake_any g S s138 d o A 43 43 rfl w38 HP.out hl).mono ?_
        rintro x w39 ⟨rfl, hp, hb⟩
        have HP := Lib.hid hp
        have HB := Lib.hid (HB.out.trans hb)
        clear hp hb
        cases hc : isP S s138.p s138.e 43 with
        | true =>
          have HEQ : Hid (digitsP S (takeP S s138 43) = R) := Lib.hid (by have := HEQ.out; unfold expP at this; rwa [if_pos hc] at this)
          obtain ⟨s139, hs⟩ : ∃ s2, takeP S s138 43 = s2 := ⟨_, rfl⟩
          rw [hs] at HEQ HP
          clear hc hs
          go_wp2_with fail
          refine (pdigits_any g S s139 d o A w39 HP.out hl).mono ?_
          rintro x w40 ⟨rfl, ⟨A, hp⟩, hb⟩
          have HP := Lib.hid hp
          have HB := Lib.hid (HB.out.trans hb)
          obtain ⟨s140, hs⟩ : ∃ s2, digitsP S s139 = s2 := ⟨_, rfl⟩
          rw [hs] at HEQ HP
          clear hp hb hs
          go_upto_region 11 with (fail)
          have e0 := HP.out.c0
          have e1 := HP.out.c1
          have hsl := fun w => st_mid S 0 s140.p (by omega) HP.out.le 0 (s140.p : Int) rfl rfl w
          simp only [List.drop_zero, Nat.sub_zero] at hsl
          have HPN : Hid (∀ n, PP (w40.drewN n) g S s140 d o A) := Lib.hid fun n => HP.out.drewN n
          have HBN : Hid (∀ n, But g w (w40.drewN n)) := Lib.hid fun n => HB.out.drewN n
          go_quiet (fail)
          go_wp2_with fail
          refine bodyPost_ret (results_tmp rfl _ _ _) rfl ?_
          exact ⟨by rw [← HEQ.out]; rfl, ⟨A, by rw [← HEQ.out]; exact HPN.out _⟩, HBN.out _⟩
        | false =>
          have HEQ : Hid (digitsP S (takeP S s138 45) = R) := Lib.hid (by have := HEQ.out; unfold expP at this; rwa [if_neg (by rw [hc]; decide)] at this)
          rw [take_no hc] at HP
          clear hc
          go_wp2_with fail
          refine (ptake_any g S s138 d o A 45 45 rfl w39 HP.out hl).mono ?_
          rintro x w41 ⟨rfl, hp, hb⟩
          have HP := Lib.hid hp
          have HB := Lib.hid (HB.out.trans hb)
          obtain ⟨s141, hs⟩ : ∃ s2, takeP S s138 45 = s2 := ⟨_, rfl⟩
          rw [hs] at HEQ HP
          clear hp hb hs
          generalize isP S s138.p s138.e 45 = b45x
          go_wp2_with fail
          refine (pdigits_any g S s141 d o A w41 HP.out hl).mono ?_
          rintro x w42 ⟨rfl, ⟨A, hp⟩, hb⟩
          have HP := Lib.hid hp
          have HB := Lib.hid (HB.out.trans hb)
          obtain ⟨s142, hs⟩ : ∃ s2, digitsP S s141 = s2 := ⟨_, rfl⟩
          rw [hs] at HEQ HP
          clear hp hb hs
          go_upto_region 11 with (fail)
          have e0 := HP.out.c0
          have e1 := HP.out.c1
          have hsl := fun w => st_mid S 0 s142.p (by omega) HP.out.le 0 (s142.p : Int) rfl rfl w
          simp only [List.drop_zero, Nat.sub_zero] at hsl
          have HPN : Hid (∀ n, PP (w42.drewN n) g S s142 d o A) := Lib.hid fun n => HP.out.drewN n
          have HBN : Hid (∀ n, But g w (w42.drewN n)) := Lib.hid fun n => HB.out.drewN n
          go_quiet (fail)
          go_wp2_with fail
          refine bodyPost_ret (results_tmp rfl _ _ _) rfl ?_
          exact ⟨by rw [← HEQ.out]; rfl, ⟨A, by rw [← HEQ.out]; exact HPN.out _⟩, HBN.out _⟩
      | false =>
        have HEQ : Hid ((if isP S s125.p s125.e 69 then expP S (takeP S s125 69) else s125) = R) := Lib.hid (by have := HEQ.out; unfold tailP at this; rwa [if_neg (by rw [hc]; decide)] at this)
        rw [take_no hc] at HP
        clear hc
        go_wp2_with fail
        refine (ptake_any g S s125 d o A 69 69 rfl w38 HP.out hl).mono ?_
        rintro x w43 ⟨rfl, hp, hb⟩
        have HP := Lib.hid hp
        have HB := Lib.hid (HB.out.trans hb)
        clear hp hb
        cases hc : isP S s125.p s125.e 69 with
        | true =>
          have HEQ : Hid (expP S (takeP S s125 69) = R) := Lib.hid (by have := HEQ.out; rwa [if_pos hc] at this)
          obtain ⟨s143, hs⟩ : ∃ s2, takeP S s125 69 = s2 := ⟨_, rfl⟩
          rw [hs] at HEQ HP
          clear hc hs
          go_wp2_with fail
          refine (ptake_any g S s143 d o A 43 43 rfl w43 HP.out hl).mono ?_
          rintro x w44 ⟨rfl, hp, hb⟩
          have HP := Lib.hid hp
          have HB := Lib.hid (HB.out.trans hb)
          clear hp hb
          cases hc : isP S s143.p s143.e 43 with
          | true =>
            have HEQ : Hid (digitsP S (takeP S s143 43) = R) := Lib.hid (by have := HEQ.out; unfold expP at this; rwa [if_pos hc] at this)
            obtain ⟨s144, hs⟩ : ∃ s2, takeP S s143 43 = s2 := ⟨_, rfl⟩
            rw [hs] at HEQ HP
            clear hc hs
            go_wp2_with fail
            refine (pdigits_any g S s144 d o A w44 HP.out hl).mono ?_
            rintro x w45 ⟨rfl, ⟨A, hp⟩, hb⟩
            have HP := Lib.hid hp
            have HB := Lib.hid (HB.out.trans hb)
            obtain ⟨s145, hs⟩ : ∃ s2, digitsP S s144 = s2 := ⟨_, rfl⟩
            rw [hs] at HEQ HP
            clear hp hb hs
            go_upto_region 11 with (fail)
            have e0 := HP.out.c0
            have e1 := HP.out.c1
            have hsl := fun w => st_mid S 0 s145.p (by omega) HP.out.le 0 (s145.p : Int) rfl rfl w
            simp only [List.drop_zero, Nat.sub_zero] at hsl
            have HPN : Hid (∀ n, PP (w45.drewN n) g S s145 d o A) := Lib.hid fun n => HP.out.drewN n
            have HBN : Hid (∀ n, But g w (w45.drewN n)) := Lib.hid fun n => HB.out.drewN n
            go_quiet (fail)
            go_wp2_with fail
            refine bodyPost_ret (results_tmp rfl _ _ _) rfl ?_
            exact ⟨by rw [← HEQ.out]; rfl, ⟨A, by rw [← HEQ.out]; exact HPN.out _⟩, HBN.out _⟩
          | false =>
            have HEQ : Hid (digitsP S (takeP S s143 45) = R) := Lib.hid (by have := HEQ.out; unfold expP at this; rwa [if_neg (by rw [hc]; decide)] at this)
            rw [take_no hc] at HP
            clear hc
            go_wp2_with fail
            refine (ptake_any g S s143 d o A 45 45 rfl w44 HP.out hl).mono ?_
            rintro x w46 ⟨rfl, hp, hb⟩
            have HP := Lib.hid hp
            have HB := Lib.hid (HB.out.trans hb)
            obtain ⟨s146, hs⟩ : ∃ s2, takeP S s143 45 = s2 := ⟨_, rfl⟩
            rw [hs] at HEQ HP
            clear hp hb hs
            generalize isP S s143.p s143.e 45 = b45x
            go_wp2_with fail
            refine (pdigits_any g S s146 d o A w46 HP.out hl).mono ?_
            rintro x w47 ⟨rfl, ⟨A, hp⟩, hb⟩
            have HP := Lib.hid hp
            have HB := Lib.hid (HB.out.trans hb)
            obtain ⟨s147, hs⟩ : ∃ s2, digitsP S s146 = s2 := ⟨_, rfl⟩
            rw [hs] at HEQ HP
            clear hp hb hs
            go_upto_region 11 with (fail)
            have e0 := HP.out.c0
            have e1 := HP.out.c1
            have hsl := fun w => st_mid S 0 s147.p (by omega) HP.out.le 0 (s147.p : Int) rfl rfl w
            simp only [List.drop_zero, Nat.sub_zero] at hsl
            have HPN : Hid (∀ n, PP (w47.drewN n) g S s147 d o A) := Lib.hid fun n => HP.out.drewN n
            have HBN : Hid (∀ n, But g w (w47.drewN n)) := Lib.hid fun n => HB.out.drewN n
            go_quiet (fail)
            go_wp2_with fail
            refine bodyPost_ret (results_tmp rfl _ _ _) rfl ?_
            exact ⟨by rw [← HEQ.out]; rfl, ⟨A, by rw [← HEQ.out]; exact HPN.out _⟩, HBN.out _⟩
        | false =>
          have HEQ : Hid (s125 = R) := Lib.hid (by have := HEQ.out; rwa [if_neg (by rw [hc]; decide)] at this)
          rw [take_no hc] at HP
          clear hc
          go_upto_region 11 with (fail)
          have e0 := HP.out.c0
          have e1 := HP.out.c1
          have hsl := fun w => st_mid S 0 s125.p (by omega) HP.out.le 0 (s125.p : Int) rfl rfl w
          simp only [List.drop_zero, Nat.sub_zero] at hsl
          have HPN : Hid (∀ n, PP (w43.drewN n) g S s125 d o A) := Lib.hid fun n => HP.out.drewN n
          have HBN : Hid (∀ n, But g w (w43.drewN n)) := Lib.hid fun n => HB.out.drewN n
          go_quiet (fail)
          go_wp2_with fail
          refine bodyPost_ret (results_tmp rfl _ _ _) rfl ?_
          exact ⟨by rw [← HEQ.out]; rfl, ⟨A, by rw [← HEQ.out]; exact HPN.out _⟩, HBN.out _⟩
end Go.Proofs.YtgcfikiajingcaaGreatDoor
/- A field of a value that lies in no cell. -/
set_option linter.unusedVariables false
namespace Go.Proofs.YtgcfikiajingcaaGreatDoor
open Go.RowKit

theorem field_text (a b c d e : Value) (hc : c.cells = #[c]) (w : World) : (Instr.field 26 (.agg #[a, b, c, d, e]) 2).run Tryz.prog w = .ok c w := by
  kernel_rfl
end Go.Proofs.YtgcfikiajingcaaGreatDoor
/- What a card's listed variables give a walk. -/
set_option linter.unusedVariables false
namespace Go.Proofs.YtgcfikiajingcaaGreatDoor
open Go.RowKit Go.ChangeShapes

theorem laid_drop {P : Program} {w : World} : ∀ (l : List (String × DataW Unit)) (i : Nat), laidMet P l w → laidMet P (l.drop i) w
  | l, 0, h => h
  | [], i + 1, h => h
  | x :: l, i + 1, h => laid_drop l i h.tail
theorem sent_of_head {n nm : String} {d : DataW Unit} {r : List (String × DataW Unit)} {W : World} {g : Nat} {ti : TypeId} {ms : Array (String × TypeId)}
    (h : laidMet Tryz.prog ((n, .iface nm d) :: r) W) (hg : Tryz.prog.globalNamed n = some g) (ht : (Tryz.prog.globals[g]?).map (·.type) = some ti) (hi : Tryz.prog.underlying ti = some (.interface ms)) : Sent W n := by
  obtain ⟨ps, ⟨g0, t0, cs0, f0, p0, q0, hg0, ht0, hv0, hd0, _, e0⟩, _, hrows⟩ := h
  obtain rfl := Option.some.inj (hg.symm.trans hg0)
  obtain rfl := Option.some.inj (ht.symm.trans ht0)
  obtain ⟨l0⟩ := cs0
  obtain ⟨f1, u, v, hcs, _, _⟩ := iface_of_trod hi hd0
  refine ⟨u, v, ?_⟩
  rw [hv0]
  simp only at hcs
  rw [hcs]
theorem pow_of {W : World} {laid : List (String × DataW Unit)} (hL : laidMetH Tryz.prog laid W) (hp : (laid.all fun x => x.2.handleName?.isNone) = true)
    {i : Nat} {r1 : List (String × DataW Unit)} (h1 : laid.drop i = ("internal/strconv.uint64pow10", Lib.tabData .u64 Lib.pow10Tab) :: r1) : Pow W := by
  rw [MakeChecks.laidMetH_plain _ _ _ hp] at hL
  have a1 := laid_drop _ i hL
  rw [h1] at a1
  exact Lib.tabIs_of_head (g := 2) (t := 174) (e := 130) (n := 20) (by kernel_rfl) (by kernel_rfl) (by kernel_rfl) (by kernel_rfl) (by kernel_rfl) (by kernel_rfl) a1
theorem std_of {W : World} {laid : List (String × DataW Unit)} (hL : laidMetH Tryz.prog laid W) (hp : (laid.all fun x => x.2.handleName?.isNone) = true)
    {i j k : Nat} {r1 r2 r3 : List (String × DataW Unit)} {n1 n2 : String} {d1 d2 : DataW Unit}
    (h1 : laid.drop i = ("internal/strconv.uint64pow10", Lib.tabData .u64 Lib.pow10Tab) :: r1) (h2 : laid.drop j = ("strconv.ErrRange", .iface n1 d1) :: r2) (h3 : laid.drop k = ("strconv.ErrSyntax", .iface n2 d2) :: r3) :
    Std3 W := by
  have hP := pow_of hL hp h1
  rw [MakeChecks.laidMetH_plain _ _ _ hp] at hL
  have a2 := laid_drop _ j hL
  have a3 := laid_drop _ k hL
  rw [h2] at a2
  rw [h3] at a3
  refine ⟨hP, ?_, ?_⟩
  · exact sent_of_head (g := 1) (ti := 84) (ms := #[("Error", 50)]) a2 (by kernel_rfl) (by kernel_rfl) (by kernel_rfl)
  · exact sent_of_head (g := 0) (ti := 84) (ms := #[("Error", 50)]) a3 (by kernel_rfl) (by kernel_rfl) (by kernel_rfl)
end Go.Proofs.YtgcfikiajingcaaGreatDoor
/- Rows of whole numbers that come in. -/
set_option linter.unusedVariables false
namespace Go.Proofs.YtgcfikiajingcaaGreatDoor
open Go.RowKit

/-- The numbers l lie at the address a. -/
def RdI (w : World) (a : Option Addr) (l : List Int) : Prop :=
  l = [] ∨ ∃ b off, a = some ⟨b, off, none⟩ ∧ ∀ i (h : i < l.length), w.cell? ⟨b, off + i, none⟩ = some (.int .i64 l[i])
theorem RdI.below {w w' : World} {a : Option Addr} {l : List Int} (h : RdI w a l) (hb : Below w.heap.size w w') : RdI w' a l := by
  rcases h with rfl | ⟨b, off, rfl, hc⟩
  · exact .inl rfl
  · refine .inr ⟨b, off, rfl, fun i hi => ?_⟩
    rw [hb.cell (World.block_lt_of_cell? w _ (hc i hi))]
    exact hc i hi
theorem rdi_of_row {w : World} {a : Option Addr} {len cap : Nat} {zs : List Int}
    (h : (a = none ∧ len = 0 ∧ cap = 0 ∧ zs = []) ∨ ∃ x, a = some x ∧ len ≤ cap ∧ cap ≤ maxLen ∧ zs.length = cap ∧ (∀ i, i < zs.length → w.cell? (x.add i) = some (.int .i64 (zs.getD i 0))) ∧ ∀ n ∈ zs, (Lit.int .i64 n).wf = true) :
    ∃ l : List Int, len = l.length ∧ RdI w a l ∧ l.length ≤ maxLen := by
  rcases h with ⟨rfl, rfl, rfl, rfl⟩ | ⟨x, rfl, hl, hm, hz, hc, hwf⟩
  · exact ⟨[], rfl, .inl rfl, by simp⟩
  · cases len with
    | zero => exact ⟨[], rfl, .inl rfl, by simp⟩
    | succ len =>
      obtain ⟨b, off, spot⟩ := x
      have h0 := hc 0 (by omega)
      have hsp : spot = none := by
        cases spot with
        | none => rfl
        | some k =>
          have e0 : (⟨b, off, some k⟩ : Addr).add 0 = ⟨b, off, some k⟩ := by simp [Addr.add]
          rw [e0] at h0
          unfold World.cell? at h0
          split at h0 <;> simp at h0
      subst hsp
      refine ⟨zs.take (len + 1), by simp; omega, .inr ⟨b, off, rfl, fun i hi => ?_⟩, by simp; omega⟩
      simp only [List.length_take] at hi
      have hi' : i < zs.length := by omega
      have h1 := hc i hi'
      rw [Addr.add_lit] at h1
      rw [h1]
      simp [List.getD_eq_getElem?_getD, hi']
end Go.Proofs.YtgcfikiajingcaaGreatDoor
