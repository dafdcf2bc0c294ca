/- The walk of the law TextEscapes. -/
import Derived.Test.YtgmieceebchmfaaDoorTxtQ
import Derived.Test.YtgmieceebchmfaaDoorTxtN
set_option linter.unusedVariables false
namespace Go.Proofs.YtgmieceebchmfaaDoor
open Go.RowKit

set_option maxRecDepth 100000 in
set_option maxHeartbeats 8000000 in
theorem textEscapes_walk (s : ByteArray) (w : World) (hs : s.size ≤ maxLen) (hm : ∃ m, w.cell? ⟨0, 0, none⟩ = some (.int .i64 m)) :
    Calls Tryd.prog 5 #[.string s] w fun e w' => e = .returned (.bool true) ∧ Below w.heap.size w w' := by
  obtain ⟨m, hm⟩ := hm
  unfold maxLen at hs
  obtain ⟨S, rfl⟩ := bytes_list s
  simp only [ByteArray.size, List.size_toArray] at hs
  have HM := Lib.hid hm
  clear hm
  go_enter Tryd.func5, Tryd.ntmps5
  go_wp2_with fail
  refine (anchor05_any m _ HM.out).mono ?_
  rintro e w1 ⟨rfl, hb1⟩
  have HB1 := Lib.hid hb1
  clear hb1
  by_cases h1 : S.length ≤ 1000
  · have h1I : ¬ (1000 : Int) < (S.length : Int) := by omega
    have hel := escT_len S
    have hur : uneR (escT S) = if toldB S then (S, 0) else ([], 30) := by unfold uneR; rw [unesc_escT]
    have hwn := wrongI_neg S
    have hok := escT_ok S
    have HUR := Lib.hid hur
    have HWN := Lib.hid hwn
    have HOK := Lib.hid hok
    clear hur hwn hok
    go_wp2_with fail
    refine (escape_any S w1 (by omega)).mono ?_
    rintro e w2 ⟨rfl, hb2⟩
    have HB2 := Lib.hid (HB1.out.trans (hb2.mono HB1.out.size))
    clear hb2 HB1
    go_wp2_with fail
    refine (unescape_any (escT S) w2 (by omega)).mono ?_
    rintro e w3 ⟨rfl, hb3⟩
    have HB3 := Lib.hid (HB2.out.trans (hb3.mono HB2.out.size))
    clear hb3 HB2
    unfold uneV
    go_wp2_with fail
    refine (refescape_any S w3 (by omega)).mono ?_
    rintro e w4 ⟨rfl, hb4⟩
    have HB4 := Lib.hid (HB3.out.trans (hb4.mono HB3.out.size))
    clear hb4 HB3
    generalize escT S = T at *
    generalize uneR T = R at *
    obtain ⟨ru, re⟩ := R
    go_wp2_with fail
    go_loopg [25] T.length (fun k y wr => ∃ j : Nat, y = .int .i64 (j : Int) ∧ j + k = T.length ∧ wr = w4)
    case atStart => exact ⟨0, rfl, by omega, rfl⟩
    case round =>
      obtain ⟨j, rfl, hj, rfl⟩ := hrel
      by_cases hlt : j < T.length
      · have hltI : (j : Int) < (T.length : Int) := by omega
        have hix := fun w => str_at T j hlt w
        obtain ⟨o1, o2, o3, o4⟩ := HOK.out T[j] (List.getElem_mem _)
        generalize T[j] = c at *
        have i1 : ¬ ((c.toNat : Nat) : Int) ≤ 32 := by omega
        have i2 : ¬ 127 ≤ ((c.toNat : Nat) : Int) := by omega
        have i3 : (((c.toNat : Nat) : Int) == 38) = false := by
          simp only [beq_eq_false_iff_ne, ne_eq]
          exact fun e => o3 (UInt8.toNat_inj.1 (by show c.toNat = 38; omega))
        have i4 : (((c.toNat : Nat) : Int) == 61) = false := by
          simp only [beq_eq_false_iff_ne, ne_eq]
          exact fun e => o4 (UInt8.toNat_inj.1 (by show c.toNat = 61; omega))
        clear o1 o2 o3 o4
        go_wp2_with fail
        go_roundg (gk - 1)
        case measure => omega
        case rel => exact ⟨j + 1, by first | rfl | (congr 1), by omega, rfl⟩
      · have hltI : ¬ (j : Int) < (T.length : Int) := by omega
        go_wp2_with fail
        refine (refwrong_any S _ (by omega)).mono ?_
        rintro e w5 ⟨rfl, rfl⟩
        have hur := HUR.out
        cases ht : toldB S with
        | false =>
          rw [ht, if_neg (by simp)] at hur
          simp only [Prod.mk.injEq] at hur
          obtain ⟨rfl, rfl⟩ := hur
          have hge : 0 ≤ wrongI S := by
            have := HWN.out
            rw [ht] at this
            simp only [decide_eq_false_iff_not] at this
            omega
          clear HUR HWN HOK ht
          go_wp2_with fail
          refine bodyPost_ret (results_tmp rfl _ _ _) rfl ?_
          exact ⟨rfl, HB4.out⟩
        | true =>
          rw [ht, if_pos rfl] at hur
          simp only [Prod.mk.injEq] at hur
          obtain ⟨rfl, rfl⟩ := hur
          have hge : ¬ 0 ≤ wrongI ru := by
            have := HWN.out
            rw [ht] at this
            simp only [decide_eq_true_eq] at this
            omega
          clear HUR HWN HOK ht
          go_wp2_with fail
          refine bodyPost_ret (results_tmp rfl _ _ _) rfl ?_
          exact ⟨rfl, HB4.out⟩
  · have h1I : (1000 : Int) < (S.length : Int) := by omega
    go_wp2_with fail
    refine bodyPost_ret (results_tmp rfl _ _ _) rfl ?_
    exact ⟨rfl, HB1.out⟩
end Go.Proofs.YtgmieceebchmfaaDoor
