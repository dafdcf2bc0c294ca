/- The walks of the laws B64Standard, B64Commons. -/
import Derived.Test.YtgmieceebchmfaaDoorB64w
import Derived.Test.YtgmieceebchmfaaDoorTxtN
set_option linter.unusedVariables false
namespace Go.Proofs.YtgmieceebchmfaaDoor
open Go.RowKit

theorem padded_four (x : List UInt8) : (padded x).length % 4 = 0 := by
  unfold padded padN
  simp
  omega
theorem stdL_len (l : List UInt8) (hl : l.length ≤ 2000) : (stdL l).length ≤ 10000 := by
  unfold stdL padded padN
  simp only [List.length_append, List.length_map, List.length_replicate, enc_len]
  omega

set_option maxRecDepth 100000 in
set_option maxHeartbeats 8000000 in
theorem b64Standard_walk (a : Option Addr) (c : Nat) (l : List UInt8) (w : World) (hr : Rd w a l) (hm : ∃ m, w.cell? ⟨0, 0, none⟩ = some (.int .i64 m)) :
    Calls Tryd.prog 9 #[.slice a l.length c] w fun e w' => e = .returned (.bool true) ∧ Below w.heap.size w w' := by
  have HR := Lib.hid hr
  clear hr hm
  go_enter Tryd.func9, Tryd.ntmps9
  go_wp2_with fail
  refine (anchor04 w).mono ?_
  rintro e w1 ⟨rfl, hb1⟩
  have HR1 := Lib.hid (HR.out.below hb1)
  have HB1 := Lib.hid hb1
  clear hb1 HR
  by_cases h1 : l.length ≤ 2000
  · have h1I : ¬ (2000 : Int) < (l.length : Int) := by omega
    go_wp2_with fail
    refine (Standard_any a l c w1 HR1.out (by omega)).mono ?_
    rintro e w2 ⟨rfl, hb2⟩
    have HR2 := Lib.hid (HR1.out.below hb2)
    have HB2 := Lib.hid (HB1.out.trans (hb2.mono HB1.out.size))
    clear hb2 HR1 HB1
    have hfs := fromL_std l
    have h4 : (stdL l).length % 4 = 0 := padded_four _
    have hsl := stdL_len l h1
    have hcm := fun w (h : Rd w a l) => common_any a l l.length c w h rfl (by omega)
    generalize stdL l = S at *
    have HCM := Lib.hid hcm
    have HFS := Lib.hid hfs
    clear hcm hfs
    go_wp2_with fail
    refine (FromStandard_any S w2 (by omega)).mono ?_
    rintro e w3 ⟨hb3, hres⟩
    have HR3 := Lib.hid (HR2.out.below hb3)
    have HB3 := Lib.hid (HB2.out.trans (hb3.mono HB2.out.size))
    clear HR2 hb3
    rw [HFS.out] at hres
    rcases hres with ⟨h, _⟩ | ⟨b, v, hb, hbl, rfl, hown⟩
    · cases h
    simp only [Option.some.injEq] at hb
    subst hb
    obtain ⟨ao, co, rfl, hro⟩ := hown.shape
    have HRO := Lib.hid hro
    clear hro hown HFS HB2
    go_wp2_with fail
    refine (HCM.out w3 HR3.out).mono ?_
    rintro e w4 ⟨rfl, hb4⟩
    have hs1 := str_of_rd (HRO.out.below hb4) l.length co rfl
    have hs2 := str_of_rd (HR3.out.below hb4) l.length c rfl
    have HB4 := Lib.hid (HB3.out.trans (hb4.mono HB3.out.size))
    have h4I : (S.length : Int) % 4 = 0 := by omega
    clear hb4 HR3 HRO HB3 HCM
    go_wp2_with fail
    refine bodyPost_ret (results_tmp rfl _ _ _) rfl ?_
    exact ⟨rfl, HB4.out⟩
  · have h1I : (2000 : Int) < (l.length : Int) := by omega
    go_wp2_with fail
    refine bodyPost_ret (results_tmp rfl _ _ _) rfl ?_
    exact ⟨rfl, HB1.out⟩

def flagF (S : List UInt8) (j : Nat) : Bool := decide (S.length % 4 = 0) && (S.take j).all fun c => plainC c.toNat
theorem flagF_next (S : List UInt8) (j : Nat) (h : j < S.length) : flagF S (j + 1) = (flagF S j && plainC S[j].toNat) := by
  unfold flagF
  rw [List.take_succ_eq_append_getElem h, List.all_append]
  simp [Bool.and_assoc]
theorem flagF_end (S : List UInt8) (h : fromL S = none) : flagF S S.length = false := by
  cases e : flagF S S.length with
  | false => rfl
  | true =>
    unfold flagF at e
    rw [List.take_length] at e
    simp only [Bool.and_eq_true, decide_eq_true_eq, List.all_eq_true] at e
    obtain ⟨b, hb⟩ := from_plain S e.1 e.2
    rw [h] at hb
    cases hb

set_option maxRecDepth 100000 in
set_option maxHeartbeats 16000000 in
theorem b64Commons_walk (s : ByteArray) (w : World) (hs : s.size ≤ maxLen) (hm : ∃ m, w.cell? ⟨0, 0, none⟩ = some (.int .i64 m)) :
    Calls Tryd.prog 8 #[.string s] w fun e w' => e = .returned (.bool true) ∧ Below w.heap.size w w' := by
  clear hm
  unfold maxLen at hs
  obtain ⟨S, rfl⟩ := bytes_list s
  simp only [ByteArray.size, List.size_toArray] at hs
  go_enter Tryd.func8, Tryd.ntmps8
  go_wp2_with fail
  refine (anchor04 w).mono ?_
  rintro e w1 ⟨rfl, hb1⟩
  have HB1 := Lib.hid hb1
  clear hb1
  by_cases h1 : S.length ≤ 2000
  · have h1I : ¬ (2000 : Int) < (S.length : Int) := by omega
    go_wp2_with fail
    refine (FromStandard_any S w1 (by omega)).mono ?_
    rintro e w2 ⟨hb2, hres⟩
    have HB2 := Lib.hid (HB1.out.trans (hb2.mono HB1.out.size))
    clear hb2
    rcases hres with ⟨hn, rfl⟩ | ⟨b, v, hb, hbl, rfl, hown⟩
    · have hfe := flagF_end S hn
      have hfn := flagF_next S
      have HFE := Lib.hid hfe
      have HFN := Lib.hid hfn
      have hf0 : flagF S 0 = decide (S.length % 4 = 0) := by simp [flagF]
      have HF0 := Lib.hid hf0
      clear hfe hfn hn hf0
      by_cases h4 : S.length % 4 = 0
      · have h4I : (S.length : Int) % 4 = 0 := by omega
        have H4 := Lib.hid h4
        go_wp2_with fail
        clear h4I h4
        go_loopg [5, 30] S.length (fun k x y wr => ∃ j : Nat, x = .bool (flagF S j) ∧ y = .int .i64 (j : Int) ∧ j + k = S.length ∧ wr = w2)
        case atStart => exact ⟨0, by rw [HF0.out]; simp [H4.out], rfl, by omega, rfl⟩
        case round =>
          obtain ⟨j, rfl, rfl, hj, rfl⟩ := hrel
          by_cases hlt : j < S.length
          · have hltI : (j : Int) < (S.length : Int) := by omega
            have hix := fun w => str_at S j hlt w
            have hfn := HFN.out j hlt
            have hc256 := UInt8.toNat_lt S[j]
            generalize S[j] = c at *
            have HN := Lib.hid hfn
            clear hfn
            cases hfj : flagF S j with
            | false =>
              have hnx : flagF S (j + 1) = false := by rw [HN.out, hfj]; rfl
              have HNX := Lib.hid hnx
              clear hnx hfj HN
              go_wp2_with fail
              go_roundg (gk - 1)
              case measure => omega
              case rel => exact ⟨j + 1, by rw [HNX.out], by first | rfl | (congr 1), by omega, rfl⟩
            | true =>
              have hnx : flagF S (j + 1) = plainC c.toNat := by rw [HN.out, hfj]; rfl
              have HNX := Lib.hid hnx
              clear hnx hfj HN
              by_cases hc42 : c.toNat ≤ 42
              · have hlo : 0 ≤ c.toNat := by omega
                have hloI : (0 : Int) ≤ (c.toNat : Int) := by omega
                have hhiI : (c.toNat : Int) ≤ 42 := by omega
                have je43 : (((c.toNat : Nat) : Int) == 43) = false := by rw [beq_eq_false_iff_ne]; omega
                have je47 : (((c.toNat : Nat) : Int) == 47) = false := by rw [beq_eq_false_iff_ne]; omega
                have g97 : ¬ (97 : Int) ≤ (c.toNat : Int) := by omega
                have g65 : ¬ (65 : Int) ≤ (c.toNat : Int) := by omega
                have g48 : ¬ (48 : Int) ≤ (c.toNat : Int) := by omega
                have l122 : (c.toNat : Int) ≤ 122 := by omega
                have l90 : (c.toNat : Int) ≤ 90 := by omega
                have l57 : (c.toNat : Int) ≤ 57 := by omega
                have hp : plainC c.toNat = false := by unfold plainC; simp; omega
                have HP := Lib.hid hp
                clear hp
                go_wp2_with fail
                go_roundg (gk - 1)
                case measure => omega
                case rel => exact ⟨j + 1, by rw [HNX.out, HP.out], by first | rfl | (congr 1), by omega, rfl⟩
              by_cases hc43 : c.toNat ≤ 43
              · have hlo : 43 ≤ c.toNat := by omega
                have hloI : (43 : Int) ≤ (c.toNat : Int) := by omega
                have hhiI : (c.toNat : Int) ≤ 43 := by omega
                have je43 : (((c.toNat : Nat) : Int) == 43) = true := by rw [beq_iff_eq]; omega
                have je47 : (((c.toNat : Nat) : Int) == 47) = false := by rw [beq_eq_false_iff_ne]; omega
                have g97 : ¬ (97 : Int) ≤ (c.toNat : Int) := by omega
                have g65 : ¬ (65 : Int) ≤ (c.toNat : Int) := by omega
                have g48 : ¬ (48 : Int) ≤ (c.toNat : Int) := by omega
                have l122 : (c.toNat : Int) ≤ 122 := by omega
                have l90 : (c.toNat : Int) ≤ 90 := by omega
                have l57 : (c.toNat : Int) ≤ 57 := by omega
                have hp : plainC c.toNat = true := by unfold plainC; simp; omega
                have HP := Lib.hid hp
                clear hp
                go_wp2_with fail
                go_roundg (gk - 1)
                case measure => omega
                case rel => exact ⟨j + 1, by rw [HNX.out, HP.out], by first | rfl | (congr 1), by omega, rfl⟩
              by_cases hc46 : c.toNat ≤ 46
              · have hlo : 44 ≤ c.toNat := by omega
                have hloI : (44 : Int) ≤ (c.toNat : Int) := by omega
                have hhiI : (c.toNat : Int) ≤ 46 := by omega
                have je43 : (((c.toNat : Nat) : Int) == 43) = false := by rw [beq_eq_false_iff_ne]; omega
                have je47 : (((c.toNat : Nat) : Int) == 47) = false := by rw [beq_eq_false_iff_ne]; omega
                have g97 : ¬ (97 : Int) ≤ (c.toNat : Int) := by omega
                have g65 : ¬ (65 : Int) ≤ (c.toNat : Int) := by omega
                have g48 : ¬ (48 : Int) ≤ (c.toNat : Int) := by omega
                have l122 : (c.toNat : Int) ≤ 122 := by omega
                have l90 : (c.toNat : Int) ≤ 90 := by omega
                have l57 : (c.toNat : Int) ≤ 57 := by omega
                have hp : plainC c.toNat = false := by unfold plainC; simp; omega
                have HP := Lib.hid hp
                clear hp
                go_wp2_with fail
                go_roundg (gk - 1)
                case measure => omega
                case rel => exact ⟨j + 1, by rw [HNX.out, HP.out], by first | rfl | (congr 1), by omega, rfl⟩
              by_cases hc47 : c.toNat ≤ 47
              · have hlo : 47 ≤ c.toNat := by omega
                have hloI : (47 : Int) ≤ (c.toNat : Int) := by omega
                have hhiI : (c.toNat : Int) ≤ 47 := by omega
                have je43 : (((c.toNat : Nat) : Int) == 43) = false := by rw [beq_eq_false_iff_ne]; omega
                have je47 : (((c.toNat : Nat) : Int) == 47) = true := by rw [beq_iff_eq]; omega
                have g97 : ¬ (97 : Int) ≤ (c.toNat : Int) := by omega
                have g65 : ¬ (65 : Int) ≤ (c.toNat : Int) := by omega
                have g48 : ¬ (48 : Int) ≤ (c.toNat : Int) := by omega
                have l122 : (c.toNat : Int) ≤ 122 := by omega
                have l90 : (c.toNat : Int) ≤ 90 := by omega
                have l57 : (c.toNat : Int) ≤ 57 := by omega
                have hp : plainC c.toNat = true := by unfold plainC; simp; omega
                have HP := Lib.hid hp
                clear hp
                go_wp2_with fail
                go_roundg (gk - 1)
                case measure => omega
                case rel => exact ⟨j + 1, by rw [HNX.out, HP.out], by first | rfl | (congr 1), by omega, rfl⟩
              by_cases hc57 : c.toNat ≤ 57
              · have hlo : 48 ≤ c.toNat := by omega
                have hloI : (48 : Int) ≤ (c.toNat : Int) := by omega
                have hhiI : (c.toNat : Int) ≤ 57 := by omega
                have je43 : (((c.toNat : Nat) : Int) == 43) = false := by rw [beq_eq_false_iff_ne]; omega
                have je47 : (((c.toNat : Nat) : Int) == 47) = false := by rw [beq_eq_false_iff_ne]; omega
                have g97 : ¬ (97 : Int) ≤ (c.toNat : Int) := by omega
                have g65 : ¬ (65 : Int) ≤ (c.toNat : Int) := by omega
                have g48 : (48 : Int) ≤ (c.toNat : Int) := by omega
                have l122 : (c.toNat : Int) ≤ 122 := by omega
                have l90 : (c.toNat : Int) ≤ 90 := by omega
                have l57 : (c.toNat : Int) ≤ 57 := by omega
                have hp : plainC c.toNat = true := by unfold plainC; simp; omega
                have HP := Lib.hid hp
                clear hp
                go_wp2_with fail
                go_roundg (gk - 1)
                case measure => omega
                case rel => exact ⟨j + 1, by rw [HNX.out, HP.out], by first | rfl | (congr 1), by omega, rfl⟩
              by_cases hc64 : c.toNat ≤ 64
              · have hlo : 58 ≤ c.toNat := by omega
                have hloI : (58 : Int) ≤ (c.toNat : Int) := by omega
                have hhiI : (c.toNat : Int) ≤ 64 := by omega
                have je43 : (((c.toNat : Nat) : Int) == 43) = false := by rw [beq_eq_false_iff_ne]; omega
                have je47 : (((c.toNat : Nat) : Int) == 47) = false := by rw [beq_eq_false_iff_ne]; omega
                have g97 : ¬ (97 : Int) ≤ (c.toNat : Int) := by omega
                have g65 : ¬ (65 : Int) ≤ (c.toNat : Int) := by omega
                have g48 : (48 : Int) ≤ (c.toNat : Int) := by omega
                have l122 : (c.toNat : Int) ≤ 122 := by omega
                have l90 : (c.toNat : Int) ≤ 90 := by omega
                have l57 : ¬ (c.toNat : Int) ≤ 57 := by omega
                have hp : plainC c.toNat = false := by unfold plainC; simp; omega
                have HP := Lib.hid hp
                clear hp
                go_wp2_with fail
                go_roundg (gk - 1)
                case measure => omega
                case rel => exact ⟨j + 1, by rw [HNX.out, HP.out], by first | rfl | (congr 1), by omega, rfl⟩
              by_cases hc90 : c.toNat ≤ 90
              · have hlo : 65 ≤ c.toNat := by omega
                have hloI : (65 : Int) ≤ (c.toNat : Int) := by omega
                have hhiI : (c.toNat : Int) ≤ 90 := by omega
                have je43 : (((c.toNat : Nat) : Int) == 43) = false := by rw [beq_eq_false_iff_ne]; omega
                have je47 : (((c.toNat : Nat) : Int) == 47) = false := by rw [beq_eq_false_iff_ne]; omega
                have g97 : ¬ (97 : Int) ≤ (c.toNat : Int) := by omega
                have g65 : (65 : Int) ≤ (c.toNat : Int) := by omega
                have g48 : (48 : Int) ≤ (c.toNat : Int) := by omega
                have l122 : (c.toNat : Int) ≤ 122 := by omega
                have l90 : (c.toNat : Int) ≤ 90 := by omega
                have l57 : ¬ (c.toNat : Int) ≤ 57 := by omega
                have hp : plainC c.toNat = true := by unfold plainC; simp; omega
                have HP := Lib.hid hp
                clear hp
                go_wp2_with fail
                go_roundg (gk - 1)
                case measure => omega
                case rel => exact ⟨j + 1, by rw [HNX.out, HP.out], by first | rfl | (congr 1), by omega, rfl⟩
              by_cases hc96 : c.toNat ≤ 96
              · have hlo : 91 ≤ c.toNat := by omega
                have hloI : (91 : Int) ≤ (c.toNat : Int) := by omega
                have hhiI : (c.toNat : Int) ≤ 96 := by omega
                have je43 : (((c.toNat : Nat) : Int) == 43) = false := by rw [beq_eq_false_iff_ne]; omega
                have je47 : (((c.toNat : Nat) : Int) == 47) = false := by rw [beq_eq_false_iff_ne]; omega
                have g97 : ¬ (97 : Int) ≤ (c.toNat : Int) := by omega
                have g65 : (65 : Int) ≤ (c.toNat : Int) := by omega
                have g48 : (48 : Int) ≤ (c.toNat : Int) := by omega
                have l122 : (c.toNat : Int) ≤ 122 := by omega
                have l90 : ¬ (c.toNat : Int) ≤ 90 := by omega
                have l57 : ¬ (c.toNat : Int) ≤ 57 := by omega
                have hp : plainC c.toNat = false := by unfold plainC; simp; omega
                have HP := Lib.hid hp
                clear hp
                go_wp2_with fail
                go_roundg (gk - 1)
                case measure => omega
                case rel => exact ⟨j + 1, by rw [HNX.out, HP.out], by first | rfl | (congr 1), by omega, rfl⟩
              by_cases hc122 : c.toNat ≤ 122
              · have hlo : 97 ≤ c.toNat := by omega
                have hloI : (97 : Int) ≤ (c.toNat : Int) := by omega
                have hhiI : (c.toNat : Int) ≤ 122 := by omega
                have je43 : (((c.toNat : Nat) : Int) == 43) = false := by rw [beq_eq_false_iff_ne]; omega
                have je47 : (((c.toNat : Nat) : Int) == 47) = false := by rw [beq_eq_false_iff_ne]; omega
                have g97 : (97 : Int) ≤ (c.toNat : Int) := by omega
                have g65 : (65 : Int) ≤ (c.toNat : Int) := by omega
                have g48 : (48 : Int) ≤ (c.toNat : Int) := by omega
                have l122 : (c.toNat : Int) ≤ 122 := by omega
                have l90 : ¬ (c.toNat : Int) ≤ 90 := by omega
                have l57 : ¬ (c.toNat : Int) ≤ 57 := by omega
                have hp : plainC c.toNat = true := by unfold plainC; simp; omega
                have HP := Lib.hid hp
                clear hp
                go_wp2_with fail
                go_roundg (gk - 1)
                case measure => omega
                case rel => exact ⟨j + 1, by rw [HNX.out, HP.out], by first | rfl | (congr 1), by omega, rfl⟩
              · have hlo : 123 ≤ c.toNat := by omega
                have hloI : (123 : Int) ≤ (c.toNat : Int) := by omega
                have hhiI : (c.toNat : Int) ≤ 255 := by omega
                have je43 : (((c.toNat : Nat) : Int) == 43) = false := by rw [beq_eq_false_iff_ne]; omega
                have je47 : (((c.toNat : Nat) : Int) == 47) = false := by rw [beq_eq_false_iff_ne]; omega
                have g97 : (97 : Int) ≤ (c.toNat : Int) := by omega
                have g65 : (65 : Int) ≤ (c.toNat : Int) := by omega
                have g48 : (48 : Int) ≤ (c.toNat : Int) := by omega
                have l122 : ¬ (c.toNat : Int) ≤ 122 := by omega
                have l90 : ¬ (c.toNat : Int) ≤ 90 := by omega
                have l57 : ¬ (c.toNat : Int) ≤ 57 := by omega
                have hp : plainC c.toNat = false := by unfold plainC; simp; omega
                have HP := Lib.hid hp
                clear hp
                go_wp2_with fail
                go_roundg (gk - 1)
                case measure => omega
                case rel => exact ⟨j + 1, by rw [HNX.out, HP.out], by first | rfl | (congr 1), by omega, rfl⟩
          · have hltI : ¬ (j : Int) < (S.length : Int) := by omega
            obtain rfl : j = S.length := by omega
            rw [HFE.out]
            go_wp2_with fail
            refine bodyPost_ret (results_tmp rfl _ _ _) rfl ?_
            exact ⟨rfl, HB2.out⟩
      · have h4I : ¬ (S.length : Int) % 4 = 0 := by omega
        have h4B : ((S.length : Int) % 4 == 0) = false := by rw [beq_eq_false_iff_ne]; exact h4I
        have H4 := Lib.hid h4
        go_wp2_with fail
        clear h4I h4B h4
        go_loopg [5, 30] S.length (fun k x y wr => ∃ j : Nat, x = .bool (flagF S j) ∧ y = .int .i64 (j : Int) ∧ j + k = S.length ∧ wr = w2)
        case atStart => exact ⟨0, by rw [HF0.out]; simp [H4.out], rfl, by omega, rfl⟩
        case round =>
          obtain ⟨j, rfl, rfl, hj, rfl⟩ := hrel
          by_cases hlt : j < S.length
          · have hltI : (j : Int) < (S.length : Int) := by omega
            have hix := fun w => str_at S j hlt w
            have hfn := HFN.out j hlt
            have hc256 := UInt8.toNat_lt S[j]
            generalize S[j] = c at *
            have HN := Lib.hid hfn
            clear hfn
            cases hfj : flagF S j with
            | false =>
              have hnx : flagF S (j + 1) = false := by rw [HN.out, hfj]; rfl
              have HNX := Lib.hid hnx
              clear hnx hfj HN
              go_wp2_with fail
              go_roundg (gk - 1)
              case measure => omega
              case rel => exact ⟨j + 1, by rw [HNX.out], by first | rfl | (congr 1), by omega, rfl⟩
            | true =>
              have hnx : flagF S (j + 1) = plainC c.toNat := by rw [HN.out, hfj]; rfl
              have HNX := Lib.hid hnx
              clear hnx hfj HN
              by_cases hc42 : c.toNat ≤ 42
              · have hlo : 0 ≤ c.toNat := by omega
                have hloI : (0 : Int) ≤ (c.toNat : Int) := by omega
                have hhiI : (c.toNat : Int) ≤ 42 := by omega
                have je43 : (((c.toNat : Nat) : Int) == 43) = false := by rw [beq_eq_false_iff_ne]; omega
                have je47 : (((c.toNat : Nat) : Int) == 47) = false := by rw [beq_eq_false_iff_ne]; omega
                have g97 : ¬ (97 : Int) ≤ (c.toNat : Int) := by omega
                have g65 : ¬ (65 : Int) ≤ (c.toNat : Int) := by omega
                have g48 : ¬ (48 : Int) ≤ (c.toNat : Int) := by omega
                have l122 : (c.toNat : Int) ≤ 122 := by omega
                have l90 : (c.toNat : Int) ≤ 90 := by omega
                have l57 : (c.toNat : Int) ≤ 57 := by omega
                have hp : plainC c.toNat = false := by unfold plainC; simp; omega
                have HP := Lib.hid hp
                clear hp
                go_wp2_with fail
                go_roundg (gk - 1)
                case measure => omega
                case rel => exact ⟨j + 1, by rw [HNX.out, HP.out], by first | rfl | (congr 1), by omega, rfl⟩
              by_cases hc43 : c.toNat ≤ 43
              · have hlo : 43 ≤ c.toNat := by omega
                have hloI : (43 : Int) ≤ (c.toNat : Int) := by omega
                have hhiI : (c.toNat : Int) ≤ 43 := by omega
                have je43 : (((c.toNat : Nat) : Int) == 43) = true := by rw [beq_iff_eq]; omega
                have je47 : (((c.toNat : Nat) : Int) == 47) = false := by rw [beq_eq_false_iff_ne]; omega
                have g97 : ¬ (97 : Int) ≤ (c.toNat : Int) := by omega
                have g65 : ¬ (65 : Int) ≤ (c.toNat : Int) := by omega
                have g48 : ¬ (48 : Int) ≤ (c.toNat : Int) := by omega
                have l122 : (c.toNat : Int) ≤ 122 := by omega
                have l90 : (c.toNat : Int) ≤ 90 := by omega
                have l57 : (c.toNat : Int) ≤ 57 := by omega
                have hp : plainC c.toNat = true := by unfold plainC; simp; omega
                have HP := Lib.hid hp
                clear hp
                go_wp2_with fail
                go_roundg (gk - 1)
                case measure => omega
                case rel => exact ⟨j + 1, by rw [HNX.out, HP.out], by first | rfl | (congr 1), by omega, rfl⟩
              by_cases hc46 : c.toNat ≤ 46
              · have hlo : 44 ≤ c.toNat := by omega
                have hloI : (44 : Int) ≤ (c.toNat : Int) := by omega
                have hhiI : (c.toNat : Int) ≤ 46 := by omega
                have je43 : (((c.toNat : Nat) : Int) == 43) = false := by rw [beq_eq_false_iff_ne]; omega
                have je47 : (((c.toNat : Nat) : Int) == 47) = false := by rw [beq_eq_false_iff_ne]; omega
                have g97 : ¬ (97 : Int) ≤ (c.toNat : Int) := by omega
                have g65 : ¬ (65 : Int) ≤ (c.toNat : Int) := by omega
                have g48 : ¬ (48 : Int) ≤ (c.toNat : Int) := by omega
                have l122 : (c.toNat : Int) ≤ 122 := by omega
                have l90 : (c.toNat : Int) ≤ 90 := by omega
                have l57 : (c.toNat : Int) ≤ 57 := by omega
                have hp : plainC c.toNat = false := by unfold plainC; simp; omega
                have HP := Lib.hid hp
                clear hp
                go_wp2_with fail
                go_roundg (gk - 1)
                case measure => omega
                case rel => exact ⟨j + 1, by rw [HNX.out, HP.out], by first | rfl | (congr 1), by omega, rfl⟩
              by_cases hc47 : c.toNat ≤ 47
              · have hlo : 47 ≤ c.toNat := by omega
                have hloI : (47 : Int) ≤ (c.toNat : Int) := by omega
                have hhiI : (c.toNat : Int) ≤ 47 := by omega
                have je43 : (((c.toNat : Nat) : Int) == 43) = false := by rw [beq_eq_false_iff_ne]; omega
                have je47 : (((c.toNat : Nat) : Int) == 47) = true := by rw [beq_iff_eq]; omega
                have g97 : ¬ (97 : Int) ≤ (c.toNat : Int) := by omega
                have g65 : ¬ (65 : Int) ≤ (c.toNat : Int) := by omega
                have g48 : ¬ (48 : Int) ≤ (c.toNat : Int) := by omega
                have l122 : (c.toNat : Int) ≤ 122 := by omega
                have l90 : (c.toNat : Int) ≤ 90 := by omega
                have l57 : (c.toNat : Int) ≤ 57 := by omega
                have hp : plainC c.toNat = true := by unfold plainC; simp; omega
                have HP := Lib.hid hp
                clear hp
                go_wp2_with fail
                go_roundg (gk - 1)
                case measure => omega
                case rel => exact ⟨j + 1, by rw [HNX.out, HP.out], by first | rfl | (congr 1), by omega, rfl⟩
              by_cases hc57 : c.toNat ≤ 57
              · have hlo : 48 ≤ c.toNat := by omega
                have hloI : (48 : Int) ≤ (c.toNat : Int) := by omega
                have hhiI : (c.toNat : Int) ≤ 57 := by omega
                have je43 : (((c.toNat : Nat) : Int) == 43) = false := by rw [beq_eq_false_iff_ne]; omega
                have je47 : (((c.toNat : Nat) : Int) == 47) = false := by rw [beq_eq_false_iff_ne]; omega
                have g97 : ¬ (97 : Int) ≤ (c.toNat : Int) := by omega
                have g65 : ¬ (65 : Int) ≤ (c.toNat : Int) := by omega
                have g48 : (48 : Int) ≤ (c.toNat : Int) := by omega
                have l122 : (c.toNat : Int) ≤ 122 := by omega
                have l90 : (c.toNat : Int) ≤ 90 := by omega
                have l57 : (c.toNat : Int) ≤ 57 := by omega
                have hp : plainC c.toNat = true := by unfold plainC; simp; omega
                have HP := Lib.hid hp
                clear hp
                go_wp2_with fail
                go_roundg (gk - 1)
                case measure => omega
                case rel => exact ⟨j + 1, by rw [HNX.out, HP.out], by first | rfl | (congr 1), by omega, rfl⟩
              by_cases hc64 : c.toNat ≤ 64
              · have hlo : 58 ≤ c.toNat := by omega
                have hloI : (58 : Int) ≤ (c.toNat : Int) := by omega
                have hhiI : (c.toNat : Int) ≤ 64 := by omega
                have je43 : (((c.toNat : Nat) : Int) == 43) = false := by rw [beq_eq_false_iff_ne]; omega
                have je47 : (((c.toNat : Nat) : Int) == 47) = false := by rw [beq_eq_false_iff_ne]; omega
                have g97 : ¬ (97 : Int) ≤ (c.toNat : Int) := by omega
                have g65 : ¬ (65 : Int) ≤ (c.toNat : Int) := by omega
                have g48 : (48 : Int) ≤ (c.toNat : Int) := by omega
                have l122 : (c.toNat : Int) ≤ 122 := by omega
                have l90 : (c.toNat : Int) ≤ 90 := by omega
                have l57 : ¬ (c.toNat : Int) ≤ 57 := by omega
                have hp : plainC c.toNat = false := by unfold plainC; simp; omega
                have HP := Lib.hid hp
                clear hp
                go_wp2_with fail
                go_roundg (gk - 1)
                case measure => omega
                case rel => exact ⟨j + 1, by rw [HNX.out, HP.out], by first | rfl | (congr 1), by omega, rfl⟩
              by_cases hc90 : c.toNat ≤ 90
              · have hlo : 65 ≤ c.toNat := by omega
                have hloI : (65 : Int) ≤ (c.toNat : Int) := by omega
                have hhiI : (c.toNat : Int) ≤ 90 := by omega
                have je43 : (((c.toNat : Nat) : Int) == 43) = false := by rw [beq_eq_false_iff_ne]; omega
                have je47 : (((c.toNat : Nat) : Int) == 47) = false := by rw [beq_eq_false_iff_ne]; omega
                have g97 : ¬ (97 : Int) ≤ (c.toNat : Int) := by omega
                have g65 : (65 : Int) ≤ (c.toNat : Int) := by omega
                have g48 : (48 : Int) ≤ (c.toNat : Int) := by omega
                have l122 : (c.toNat : Int) ≤ 122 := by omega
                have l90 : (c.toNat : Int) ≤ 90 := by omega
                have l57 : ¬ (c.toNat : Int) ≤ 57 := by omega
                have hp : plainC c.toNat = true := by unfold plainC; simp; omega
                have HP := Lib.hid hp
                clear hp
                go_wp2_with fail
                go_roundg (gk - 1)
                case measure => omega
                case rel => exact ⟨j + 1, by rw [HNX.out, HP.out], by first | rfl | (congr 1), by omega, rfl⟩
              by_cases hc96 : c.toNat ≤ 96
              · have hlo : 91 ≤ c.toNat := by omega
                have hloI : (91 : Int) ≤ (c.toNat : Int) := by omega
                have hhiI : (c.toNat : Int) ≤ 96 := by omega
                have je43 : (((c.toNat : Nat) : Int) == 43) = false := by rw [beq_eq_false_iff_ne]; omega
                have je47 : (((c.toNat : Nat) : Int) == 47) = false := by rw [beq_eq_false_iff_ne]; omega
                have g97 : ¬ (97 : Int) ≤ (c.toNat : Int) := by omega
                have g65 : (65 : Int) ≤ (c.toNat : Int) := by omega
                have g48 : (48 : Int) ≤ (c.toNat : Int) := by omega
                have l122 : (c.toNat : Int) ≤ 122 := by omega
                have l90 : ¬ (c.toNat : Int) ≤ 90 := by omega
                have l57 : ¬ (c.toNat : Int) ≤ 57 := by omega
                have hp : plainC c.toNat = false := by unfold plainC; simp; omega
                have HP := Lib.hid hp
                clear hp
                go_wp2_with fail
                go_roundg (gk - 1)
                case measure => omega
                case rel => exact ⟨j + 1, by rw [HNX.out, HP.out], by first | rfl | (congr 1), by omega, rfl⟩
              by_cases hc122 : c.toNat ≤ 122
              · have hlo : 97 ≤ c.toNat := by omega
                have hloI : (97 : Int) ≤ (c.toNat : Int) := by omega
                have hhiI : (c.toNat : Int) ≤ 122 := by omega
                have je43 : (((c.toNat : Nat) : Int) == 43) = false := by rw [beq_eq_false_iff_ne]; omega
                have je47 : (((c.toNat : Nat) : Int) == 47) = false := by rw [beq_eq_false_iff_ne]; omega
                have g97 : (97 : Int) ≤ (c.toNat : Int) := by omega
                have g65 : (65 : Int) ≤ (c.toNat : Int) := by omega
                have g48 : (48 : Int) ≤ (c.toNat : Int) := by omega
                have l122 : (c.toNat : Int) ≤ 122 := by omega
                have l90 : ¬ (c.toNat : Int) ≤ 90 := by omega
                have l57 : ¬ (c.toNat : Int) ≤ 57 := by omega
                have hp : plainC c.toNat = true := by unfold plainC; simp; omega
                have HP := Lib.hid hp
                clear hp
                go_wp2_with fail
                go_roundg (gk - 1)
                case measure => omega
                case rel => exact ⟨j + 1, by rw [HNX.out, HP.out], by first | rfl | (congr 1), by omega, rfl⟩
              · have hlo : 123 ≤ c.toNat := by omega
                have hloI : (123 : Int) ≤ (c.toNat : Int) := by omega
                have hhiI : (c.toNat : Int) ≤ 255 := by omega
                have je43 : (((c.toNat : Nat) : Int) == 43) = false := by rw [beq_eq_false_iff_ne]; omega
                have je47 : (((c.toNat : Nat) : Int) == 47) = false := by rw [beq_eq_false_iff_ne]; omega
                have g97 : (97 : Int) ≤ (c.toNat : Int) := by omega
                have g65 : (65 : Int) ≤ (c.toNat : Int) := by omega
                have g48 : (48 : Int) ≤ (c.toNat : Int) := by omega
                have l122 : ¬ (c.toNat : Int) ≤ 122 := by omega
                have l90 : ¬ (c.toNat : Int) ≤ 90 := by omega
                have l57 : ¬ (c.toNat : Int) ≤ 57 := by omega
                have hp : plainC c.toNat = false := by unfold plainC; simp; omega
                have HP := Lib.hid hp
                clear hp
                go_wp2_with fail
                go_roundg (gk - 1)
                case measure => omega
                case rel => exact ⟨j + 1, by rw [HNX.out, HP.out], by first | rfl | (congr 1), by omega, rfl⟩
          · have hltI : ¬ (j : Int) < (S.length : Int) := by omega
            obtain rfl : j = S.length := by omega
            rw [HFE.out]
            go_wp2_with fail
            refine bodyPost_ret (results_tmp rfl _ _ _) rfl ?_
            exact ⟨rfl, HB2.out⟩
    · have hsd := std_from S b hb
      obtain ⟨ao, co, rfl, hro⟩ := hown.shape
      have HRO := Lib.hid hro
      have HSD := Lib.hid hsd
      clear hro hown hb hsd
      go_wp2_with fail
      refine (common_any ao b b.length co w2 HRO.out rfl (by omega)).mono ?_
      rintro e w3 ⟨rfl, hb3⟩
      rw [HSD.out]
      have HB3 := Lib.hid (HB2.out.trans (hb3.mono HB2.out.size))
      clear hb3
      go_wp2_with fail
      refine bodyPost_ret (results_tmp rfl _ _ _) rfl ?_
      exact ⟨by simp, HB3.out⟩
  · have h1I : (2000 : Int) < (S.length : Int) := by omega
    go_wp2_with fail
    refine bodyPost_ret (results_tmp rfl _ _ _) rfl ?_
    exact ⟨rfl, HB1.out⟩
end Go.Proofs.YtgmieceebchmfaaDoor
