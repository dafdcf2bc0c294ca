/- The document's Wrong. -/
import Derived.Test.YtgmieceebchmfaaDoorTxtP
import Derived.Test.YtgmieceebchmfaaDoorApp
import Derived.Deep.LoopGhost
set_option linter.unusedVariables false
namespace Go.Proofs.YtgmieceebchmfaaDoor
open Go.RowKit

set_option maxRecDepth 100000 in
set_option maxHeartbeats 4000000 in
theorem in_any (s : List UInt8) (i lo hi : Nat) (I LO HI : Int) (hI : I = i) (hLO : LO = lo) (hHI : HI = hi) (w : World) (hs : s.length ≤ 1000000) :
    Calls Tryd.prog 47 #[.string ⟨s.toArray⟩, .int .i64 I, .int .i64 LO, .int .i64 HI] w fun e w' => e = .returned (.bool (inB s i lo hi)) ∧ w' = w := by
  subst hI hLO hHI
  by_cases h : i < s.length
  · have hix := fun w => str_at s i h w
    have hg : s.getD i 0 = s[i] := by simp [List.getD_eq_getElem?_getD, h]
    have hv : inB s i lo hi = (decide ((lo : Int) ≤ ((s[i].toNat : Nat) : Int)) && decide (((s[i].toNat : Nat) : Int) ≤ (hi : Int))) := by
      unfold inB
      rw [hg, decide_eq_true h, Bool.true_and]
      congr 1 <;> (rw [Bool.eq_iff_iff]; simp)
    have hlt := UInt8.toNat_lt s[i]
    generalize s[i].toNat = b at *
    have hI : (i : Int) < (s.length : Int) := by omega
    have HV := Lib.hid hv
    clear hv hg
    by_cases h1 : (lo : Int) ≤ (b : Int) <;> by_cases h2 : (b : Int) ≤ (hi : Int)
    all_goals
      go_enter Tryd.func47, Tryd.ntmps47
      go_wp2_with fail
      all_goals
        refine bodyPost_ret (results_tmp rfl _ _ _) rfl ?_
        exact ⟨by rw [HV.out]; first | rfl | (simp [h1, h2, Array.getD]; done) | (simp [h1, h2, Array.getD]; omega), rfl⟩
  · have hI : ¬ (i : Int) < (s.length : Int) := by omega
    have hv : inB s i lo hi = false := by unfold inB; rw [decide_eq_false h]; rfl
    have HV := Lib.hid hv
    clear hv
    go_enter Tryd.func47, Tryd.ntmps47
    go_wp2_with fail
    refine bodyPost_ret (results_tmp rfl _ _ _) rfl ?_
    exact ⟨by rw [HV.out]; rfl, rfl⟩

set_option maxRecDepth 100000 in
set_option maxHeartbeats 8000000 in
theorem refchar_any (s : List UInt8) (i : Nat) (h : i < s.length) (w : World) (hs : s.length ≤ 1000000) :
    Calls Tryd.prog 27 #[.string ⟨s.toArray⟩, .int .i64 (i : Int)] w fun e w' => e = .returned (.int .i64 (chr (s.drop i) : Nat)) ∧ w' = w := by
  have hix := fun w => str_at s i h w
  have hi1 : (i : Int) < (s.length : Int) := by omega
  have hv : chr (s.drop i) = chrC s[i].toNat (s.drop i) := by
    unfold chr
    rw [getD_drop]
    simp [List.getD_eq_getElem?_getD, h]
  have hd : ∀ k lo hi, inB (s.drop i) k lo hi = inB s (i + k) lo hi := fun k lo hi => inB_drop s i k lo hi
  unfold chrC at hv
  simp only [hd] at hv
  have hlt := UInt8.toNat_lt s[i]
  generalize s[i].toNat = c at *
  clear hd
  have HV := Lib.hid hv
  clear hv
  by_cases h1 : c < 128
  · have hv := HV.out
    rw [if_pos h1] at hv
    have HV1 := Lib.hid hv
    clear hv HV
    go_enter Tryd.func27, Tryd.ntmps27
    go_wp2_with fail
    refine bodyPost_ret (results_tmp rfl _ _ _) rfl ?_
    exact ⟨by rw [HV1.out]; rfl, rfl⟩
  by_cases h2 : c < 194
  · have hv := HV.out
    rw [if_neg h1, if_pos h2] at hv
    have HV1 := Lib.hid hv
    clear hv HV
    have e1 : ¬ (c : Int) = 224 := by omega
    have e2 : ¬ (c : Int) = 237 := by omega
    have e3 : ¬ (c : Int) = 240 := by omega
    have e4 : ¬ (c : Int) = 244 := by omega
    go_enter Tryd.func27, Tryd.ntmps27
    go_wp2_with fail
    refine bodyPost_ret (results_tmp rfl _ _ _) rfl ?_
    exact ⟨by rw [HV1.out]; rfl, rfl⟩
  by_cases h3 : c < 224
  · have hv := HV.out
    rw [if_neg h1, if_neg h2, if_pos h3] at hv
    have HV1 := Lib.hid hv
    clear hv HV
    have e1 : ¬ (c : Int) = 224 := by omega
    have e2 : ¬ (c : Int) = 237 := by omega
    have e3 : ¬ (c : Int) = 240 := by omega
    have e4 : ¬ (c : Int) = 244 := by omega
    go_enter Tryd.func27, Tryd.ntmps27
    go_wp2_with fail
    refine (in_any s (i + 1) 128 191 _ _ _ (by omega) rfl rfl _ hs).mono ?_
    rintro e w1 ⟨rfl, rfl⟩
    cases hb : inB s (i + 1) 128 191 with
    | true =>
      rw [hb] at HV1
      clear hb
      go_wp2_with fail
      refine bodyPost_ret (results_tmp rfl _ _ _) rfl ?_
      exact ⟨by rw [HV1.out]; rfl, rfl⟩
    | false =>
      rw [hb] at HV1
      clear hb
      go_wp2_with fail
      refine bodyPost_ret (results_tmp rfl _ _ _) rfl ?_
      exact ⟨by rw [HV1.out]; rfl, rfl⟩
  by_cases h4 : c = 224
  · subst h4
    have hv := HV.out
    rw [if_neg h1, if_neg h2, if_neg h3, if_pos (show (224 : Nat) < 240 by decide), show lo3 224 = 160 from rfl, show hi3 224 = 191 from rfl] at hv
    have HV1 := Lib.hid hv
    clear hv HV
    go_enter Tryd.func27, Tryd.ntmps27
    go_wp2_with fail
    refine (in_any s (i + 1) 160 191 _ _ _ (by omega) rfl rfl _ hs).mono ?_
    rintro e w1 ⟨rfl, rfl⟩
    cases hb1 : inB s (i + 1) 160 191 with
    | false =>
      rw [hb1] at HV1
      clear hb1
      go_wp2_with fail
      refine bodyPost_ret (results_tmp rfl _ _ _) rfl ?_
      exact ⟨by rw [HV1.out]; rfl, rfl⟩
    | true =>
      rw [hb1] at HV1
      clear hb1
      go_wp2_with fail
      refine (in_any s (i + 2) 128 191 _ _ _ (by omega) rfl rfl _ hs).mono ?_
      rintro e w2 ⟨rfl, rfl⟩
      cases hb2 : inB s (i + 2) 128 191 with
      | false =>
        rw [hb2] at HV1
        clear hb2
        go_wp2_with fail
        refine bodyPost_ret (results_tmp rfl _ _ _) rfl ?_
        exact ⟨by rw [HV1.out]; rfl, rfl⟩
      | true =>
        rw [hb2] at HV1
        clear hb2
        go_wp2_with fail
        refine bodyPost_ret (results_tmp rfl _ _ _) rfl ?_
        exact ⟨by rw [HV1.out]; rfl, rfl⟩
  by_cases h5 : c = 237
  · subst h5
    have hv := HV.out
    rw [if_neg h1, if_neg h2, if_neg h3, if_pos (show (237 : Nat) < 240 by decide), show lo3 237 = 128 from rfl, show hi3 237 = 159 from rfl] at hv
    have HV1 := Lib.hid hv
    clear hv HV
    go_enter Tryd.func27, Tryd.ntmps27
    go_wp2_with fail
    refine (in_any s (i + 1) 128 159 _ _ _ (by omega) rfl rfl _ hs).mono ?_
    rintro e w1 ⟨rfl, rfl⟩
    cases hb1 : inB s (i + 1) 128 159 with
    | false =>
      rw [hb1] at HV1
      clear hb1
      go_wp2_with fail
      refine bodyPost_ret (results_tmp rfl _ _ _) rfl ?_
      exact ⟨by rw [HV1.out]; rfl, rfl⟩
    | true =>
      rw [hb1] at HV1
      clear hb1
      go_wp2_with fail
      refine (in_any s (i + 2) 128 191 _ _ _ (by omega) rfl rfl _ hs).mono ?_
      rintro e w2 ⟨rfl, rfl⟩
      cases hb2 : inB s (i + 2) 128 191 with
      | false =>
        rw [hb2] at HV1
        clear hb2
        go_wp2_with fail
        refine bodyPost_ret (results_tmp rfl _ _ _) rfl ?_
        exact ⟨by rw [HV1.out]; rfl, rfl⟩
      | true =>
        rw [hb2] at HV1
        clear hb2
        go_wp2_with fail
        refine bodyPost_ret (results_tmp rfl _ _ _) rfl ?_
        exact ⟨by rw [HV1.out]; rfl, rfl⟩
  by_cases h6 : c < 240
  · have el : lo3 c = 128 := by unfold lo3; rw [if_neg h4]
    have eh : hi3 c = 191 := by unfold hi3; rw [if_neg h5]
    have hv := HV.out
    rw [if_neg h1, if_neg h2, if_neg h3, if_pos h6, el, eh] at hv
    have HV1 := Lib.hid hv
    clear hv HV
    clear el eh
    have e224 : ¬ (c : Int) = 224 := by omega
    have e237 : ¬ (c : Int) = 237 := by omega
    have e240 : ¬ (c : Int) = 240 := by omega
    have e244 : ¬ (c : Int) = 244 := by omega
    go_enter Tryd.func27, Tryd.ntmps27
    go_wp2_with fail
    refine (in_any s (i + 1) 128 191 _ _ _ (by omega) rfl rfl _ hs).mono ?_
    rintro e w1 ⟨rfl, rfl⟩
    cases hb1 : inB s (i + 1) 128 191 with
    | false =>
      rw [hb1] at HV1
      clear hb1
      go_wp2_with fail
      refine bodyPost_ret (results_tmp rfl _ _ _) rfl ?_
      exact ⟨by rw [HV1.out]; rfl, rfl⟩
    | true =>
      rw [hb1] at HV1
      clear hb1
      go_wp2_with fail
      refine (in_any s (i + 2) 128 191 _ _ _ (by omega) rfl rfl _ hs).mono ?_
      rintro e w2 ⟨rfl, rfl⟩
      cases hb2 : inB s (i + 2) 128 191 with
      | false =>
        rw [hb2] at HV1
        clear hb2
        go_wp2_with fail
        refine bodyPost_ret (results_tmp rfl _ _ _) rfl ?_
        exact ⟨by rw [HV1.out]; rfl, rfl⟩
      | true =>
        rw [hb2] at HV1
        clear hb2
        go_wp2_with fail
        refine bodyPost_ret (results_tmp rfl _ _ _) rfl ?_
        exact ⟨by rw [HV1.out]; rfl, rfl⟩
  by_cases h7 : c = 240
  · subst h7
    have hv := HV.out
    rw [if_neg h1, if_neg h2, if_neg h3, if_neg h6, if_pos (show (240 : Nat) < 245 by decide), show lo4 240 = 144 from rfl, show hi4 240 = 191 from rfl] at hv
    have HV1 := Lib.hid hv
    clear hv HV
    go_enter Tryd.func27, Tryd.ntmps27
    go_wp2_with fail
    refine (in_any s (i + 1) 144 191 _ _ _ (by omega) rfl rfl _ hs).mono ?_
    rintro e w1 ⟨rfl, rfl⟩
    cases hb1 : inB s (i + 1) 144 191 with
    | false =>
      rw [hb1] at HV1
      clear hb1
      go_wp2_with fail
      refine bodyPost_ret (results_tmp rfl _ _ _) rfl ?_
      exact ⟨by rw [HV1.out]; rfl, rfl⟩
    | true =>
      rw [hb1] at HV1
      clear hb1
      go_wp2_with fail
      refine (in_any s (i + 2) 128 191 _ _ _ (by omega) rfl rfl _ hs).mono ?_
      rintro e w2 ⟨rfl, rfl⟩
      cases hb2 : inB s (i + 2) 128 191 with
      | false =>
        rw [hb2] at HV1
        clear hb2
        go_wp2_with fail
        refine bodyPost_ret (results_tmp rfl _ _ _) rfl ?_
        exact ⟨by rw [HV1.out]; rfl, rfl⟩
      | true =>
        rw [hb2] at HV1
        clear hb2
        go_wp2_with fail
        refine (in_any s (i + 3) 128 191 _ _ _ (by omega) rfl rfl _ hs).mono ?_
        rintro e w3 ⟨rfl, rfl⟩
        cases hb3 : inB s (i + 3) 128 191 with
        | false =>
          rw [hb3] at HV1
          clear hb3
          go_wp2_with fail
          refine bodyPost_ret (results_tmp rfl _ _ _) rfl ?_
          exact ⟨by rw [HV1.out]; rfl, rfl⟩
        | true =>
          rw [hb3] at HV1
          clear hb3
          go_wp2_with fail
          refine bodyPost_ret (results_tmp rfl _ _ _) rfl ?_
          exact ⟨by rw [HV1.out]; rfl, rfl⟩
  by_cases h8 : c = 244
  · subst h8
    have hv := HV.out
    rw [if_neg h1, if_neg h2, if_neg h3, if_neg h6, if_pos (show (244 : Nat) < 245 by decide), show lo4 244 = 128 from rfl, show hi4 244 = 143 from rfl] at hv
    have HV1 := Lib.hid hv
    clear hv HV
    go_enter Tryd.func27, Tryd.ntmps27
    go_wp2_with fail
    refine (in_any s (i + 1) 128 143 _ _ _ (by omega) rfl rfl _ hs).mono ?_
    rintro e w1 ⟨rfl, rfl⟩
    cases hb1 : inB s (i + 1) 128 143 with
    | false =>
      rw [hb1] at HV1
      clear hb1
      go_wp2_with fail
      refine bodyPost_ret (results_tmp rfl _ _ _) rfl ?_
      exact ⟨by rw [HV1.out]; rfl, rfl⟩
    | true =>
      rw [hb1] at HV1
      clear hb1
      go_wp2_with fail
      refine (in_any s (i + 2) 128 191 _ _ _ (by omega) rfl rfl _ hs).mono ?_
      rintro e w2 ⟨rfl, rfl⟩
      cases hb2 : inB s (i + 2) 128 191 with
      | false =>
        rw [hb2] at HV1
        clear hb2
        go_wp2_with fail
        refine bodyPost_ret (results_tmp rfl _ _ _) rfl ?_
        exact ⟨by rw [HV1.out]; rfl, rfl⟩
      | true =>
        rw [hb2] at HV1
        clear hb2
        go_wp2_with fail
        refine (in_any s (i + 3) 128 191 _ _ _ (by omega) rfl rfl _ hs).mono ?_
        rintro e w3 ⟨rfl, rfl⟩
        cases hb3 : inB s (i + 3) 128 191 with
        | false =>
          rw [hb3] at HV1
          clear hb3
          go_wp2_with fail
          refine bodyPost_ret (results_tmp rfl _ _ _) rfl ?_
          exact ⟨by rw [HV1.out]; rfl, rfl⟩
        | true =>
          rw [hb3] at HV1
          clear hb3
          go_wp2_with fail
          refine bodyPost_ret (results_tmp rfl _ _ _) rfl ?_
          exact ⟨by rw [HV1.out]; rfl, rfl⟩
  by_cases h9 : c < 245
  · have el : lo4 c = 128 := by unfold lo4; rw [if_neg h7]
    have eh : hi4 c = 191 := by unfold hi4; rw [if_neg h8]
    have hv := HV.out
    rw [if_neg h1, if_neg h2, if_neg h3, if_neg h6, if_pos h9, el, eh] at hv
    have HV1 := Lib.hid hv
    clear hv HV
    clear el eh
    have e224 : ¬ (c : Int) = 224 := by omega
    have e237 : ¬ (c : Int) = 237 := by omega
    have e240 : ¬ (c : Int) = 240 := by omega
    have e244 : ¬ (c : Int) = 244 := by omega
    go_enter Tryd.func27, Tryd.ntmps27
    go_wp2_with fail
    refine (in_any s (i + 1) 128 191 _ _ _ (by omega) rfl rfl _ hs).mono ?_
    rintro e w1 ⟨rfl, rfl⟩
    cases hb1 : inB s (i + 1) 128 191 with
    | false =>
      rw [hb1] at HV1
      clear hb1
      go_wp2_with fail
      refine bodyPost_ret (results_tmp rfl _ _ _) rfl ?_
      exact ⟨by rw [HV1.out]; rfl, rfl⟩
    | true =>
      rw [hb1] at HV1
      clear hb1
      go_wp2_with fail
      refine (in_any s (i + 2) 128 191 _ _ _ (by omega) rfl rfl _ hs).mono ?_
      rintro e w2 ⟨rfl, rfl⟩
      cases hb2 : inB s (i + 2) 128 191 with
      | false =>
        rw [hb2] at HV1
        clear hb2
        go_wp2_with fail
        refine bodyPost_ret (results_tmp rfl _ _ _) rfl ?_
        exact ⟨by rw [HV1.out]; rfl, rfl⟩
      | true =>
        rw [hb2] at HV1
        clear hb2
        go_wp2_with fail
        refine (in_any s (i + 3) 128 191 _ _ _ (by omega) rfl rfl _ hs).mono ?_
        rintro e w3 ⟨rfl, rfl⟩
        cases hb3 : inB s (i + 3) 128 191 with
        | false =>
          rw [hb3] at HV1
          clear hb3
          go_wp2_with fail
          refine bodyPost_ret (results_tmp rfl _ _ _) rfl ?_
          exact ⟨by rw [HV1.out]; rfl, rfl⟩
        | true =>
          rw [hb3] at HV1
          clear hb3
          go_wp2_with fail
          refine bodyPost_ret (results_tmp rfl _ _ _) rfl ?_
          exact ⟨by rw [HV1.out]; rfl, rfl⟩
  have hv := HV.out
  rw [if_neg h1, if_neg h2, if_neg h3, if_neg h6, if_neg h9] at hv
  have HV1 := Lib.hid hv
  clear hv HV
  have e224 : ¬ (c : Int) = 224 := by omega
  have e237 : ¬ (c : Int) = 237 := by omega
  have e240 : ¬ (c : Int) = 240 := by omega
  have e244 : ¬ (c : Int) = 244 := by omega
  go_enter Tryd.func27, Tryd.ntmps27
  go_wp2_with fail
  refine bodyPost_ret (results_tmp rfl _ _ _) rfl ?_
  exact ⟨by rw [HV1.out]; rfl, rfl⟩

set_option maxRecDepth 100000 in
set_option maxHeartbeats 4000000 in
theorem refwrong_any (s : List UInt8) (w : World) (hs : s.length ≤ 1000000) :
    Calls Tryd.prog 12 #[.string ⟨s.toArray⟩] w fun e w' => e = .returned (.int .i64 (wrongI s)) ∧ w' = w := by
  go_enter Tryd.func12, Tryd.ntmps12
  go_wp2_with fail
  go_loopg [3] s.length (fun k y wr => ∃ i : Nat, y = .int .i64 (i : Int) ∧ i + k = s.length ∧ wr = w ∧ Hid (wrongL s = (wrongL (s.drop i)).map (· + i)))
  case atStart => exact ⟨0, rfl, by omega, rfl, Lib.hid (by rw [List.drop_zero]; cases wrongL s <;> simp)⟩
  case round =>
    obtain ⟨i, rfl, hi, rfl, HW⟩ := hrel
    by_cases hlt : i < s.length
    · have hltI : (i : Int) < (s.length : Int) := by omega
      go_wp2_with fail
      refine (refchar_any s i hlt _ hs).mono ?_
      rintro e w1 ⟨rfl, rfl⟩
      have hne : s.drop i ≠ [] := by intro h; have := congrArg List.length h; rw [List.length_drop, List.length_nil] at this; omega
      have hw := HW.out
      have hcl := chr_len _ hne
      have hc4 := chr_le (s.drop i)
      rw [wrongL_ne _ hne] at hw
      rw [List.length_drop] at hcl
      rw [List.drop_drop] at hw
      generalize chr (s.drop i) = n at *
      by_cases hz : n = 0
      · subst hz
        rw [if_pos rfl] at hw
        have HW1 := Lib.hid hw
        clear hw HW
        go_wp2_with fail
        refine bodyPost_ret (results_tmp rfl _ _ _) rfl ?_
        exact ⟨by unfold wrongI; rw [HW1.out]; simp [Array.getD], rfl⟩
      · rw [if_neg hz] at hw
        have HW1 := Lib.hid hw
        clear hw HW
        have hzI : ¬ (n : Int) = 0 := by omega
        go_wp2_with fail
        go_roundg (gk - n)
        case measure => omega
        case rel => exact ⟨i + n, by first | rfl | (congr 1), by omega, rfl, Lib.hid (by rw [HW1.out]; cases wrongL (s.drop (i + n)) <;> simp; omega)⟩
    · have hltI : ¬ (i : Int) < (s.length : Int) := by omega
      have hw := HW.out
      rw [List.drop_of_length_le (by omega), wrongL_nil] at hw
      have HW1 := Lib.hid hw
      clear hw HW
      go_wp2_with fail
      refine bodyPost_ret (results_tmp rfl _ _ _) rfl ?_
      exact ⟨by unfold wrongI; rw [HW1.out]; rfl, rfl⟩
end Go.Proofs.YtgmieceebchmfaaDoor
