/- The walk of the law CauseReads. -/
import Derived.Test.YtbblnlddiafkhaaDoorCau3
set_option linter.unusedVariables false
namespace Go.Proofs.YtbblnlddiafkhaaDoor
open Go.RowKit

theorem bytes_list (s : ByteArray) : ∃ l : List UInt8, s = ⟨l.toArray⟩ := ⟨s.data.toList, by cases s; rfl⟩
def dotFig (c : UInt8) : Prop := c = 46 ∨ (49 ≤ c.toNat ∧ c.toNat ≤ 57)
/-- What has been seen of a text. -/
structure Seen (S : List UInt8) (j d : Nat) : Prop where
  all : ∀ c ∈ (S.drop 1).take (j - 1), dotFig c
  cnt : ((S.drop 1).take (j - 1)).count 46 = d
theorem Seen.more {S : List UInt8} {j d : Nat} (h : Seen S j d) (hj : 1 ≤ j) (hlt : j < S.length) (hc : dotFig S[j]) : Seen S (j + 1) (d + if S[j] = 46 then 1 else 0) := by
  obtain ⟨i, rfl⟩ : ∃ i, j = i + 1 := ⟨j - 1, by omega⟩
  have e : (S.drop 1).take (i + 1) = (S.drop 1).take i ++ [S[i + 1]] := by
    rw [List.take_succ_eq_append_getElem (by rw [List.length_drop]; omega)]
    simp
  obtain ⟨h1, h2⟩ := h
  simp only [Nat.add_sub_cancel] at h1 h2
  refine ⟨?_, ?_⟩
  · simp only [Nat.add_sub_cancel]
    rw [e]
    intro c hc'
    rcases List.mem_append.1 hc' with hc' | hc'
    · exact h1 c hc'
    · simp only [List.mem_singleton] at hc'
      rw [hc']; exact hc
  · simp only [Nat.add_sub_cancel]
    rw [e, List.count_append, h2]
    congr 1
    by_cases e2 : S[i + 1] = 46
    · rw [if_pos e2, e2]; rfl
    · rw [if_neg e2, List.count_singleton, if_neg (by simpa using e2)]
theorem seen_end (S : List UInt8) (d : Nat) (h : Seen S S.length d) (h4 : 4 ≤ S.length) (h0 : S.getD 0 0 = 101) (hno : ∀ n m : Nat, OwnN n → OwnN m → S ≠ jtiL n m)
    (hd : d = 1) (h1 : S.getD 1 0 ≠ 46) (hl : S.getD (S.length - 1) 0 ≠ 46) : 14 < S.length := by
  rcases Nat.lt_or_ge 14 S.length with h | hle
  · exact h
  exfalso
  obtain ⟨ha, hc⟩ := h
  cases S with
  | nil => simp at h4
  | cons c t =>
    simp only [List.getD_cons_zero] at h0
    subst h0
    simp only [List.drop_succ_cons, List.drop_zero, List.length_cons, Nat.add_sub_cancel, List.take_length] at ha hc hle h4 hl
    obtain ⟨a, b, rfl, fa, fb⟩ := dot_split t ha (by rw [hc, hd])
    have ha0 : a ≠ [] := by
      rintro rfl
      simp at h1
    have hb0 : b ≠ [] := by
      rintro rfl
      simp at hl
    simp only [List.length_append, List.length_cons] at hle
    obtain ⟨n, m, e, hn, hm⟩ := jti_of a b fa fb ha0 hb0 (by omega)
    exact hno n m hn hm e
set_option maxRecDepth 100000 in
set_option maxHeartbeats 16000000 in
theorem causeReads_walk (s : ByteArray) (w : World) (hs : s.size ≤ maxLen) (hm : ∃ m, w.cell? ⟨0, 0, none⟩ = some (.int .i64 m)) (hst : Pow w ∧ Sent w "strconv.ErrRange" ∧ Sent w "strconv.ErrSyntax") :
    Calls Tryd.prog 3 #[.string s] w fun e w' => e = .returned (.bool true) ∧ Below w.heap.size w w' := by
  have hstd : Std w := ⟨hst.1, hst.2.2, hst.2.1, hm⟩
  unfold maxLen at hs
  obtain ⟨S, rfl⟩ := bytes_list s
  rw [strv_len] at hs
  have HS := Lib.hid hstd
  clear hm hst hstd
  go_enter Tryd.func3, Tryd.ntmps3
  go_wp2_with fail
  refine (anchor21_any w HS.out).mono ?_
  rintro e w1 ⟨rfl, hb1⟩
  have HB1 := Lib.hid hb1
  have HS1 := Lib.hid (HS.out.below hb1)
  clear hb1
  by_cases h100 : S.length ≤ 100
  · have h100I : ¬ (100 : Int) < (S.length : Int) := by omega
    go_wp2_with fail
    by_cases hname : ∃ n m : Nat, OwnN n ∧ OwnN m ∧ S = jtiL n m
    · obtain ⟨n, m, hn, hm, rfl⟩ := hname
      have n1 := hn.1
      have n2 := hn.2
      have m1 := hm.1
      have m2 := hm.2
      have HR := Lib.hid (fun w => refjti_ok n m w (by omega) (by omega) (by omega) (by omega))
      refine (readjti_yes n m w1 HS1.out (by omega) (by omega) (by omega) (by omega)).mono ?_
      rintro e w2 ⟨rfl, hb2⟩
      have HB2 := Lib.hid (HB1.out.trans (hb2.mono HB1.out.size))
      clear hb2 hn hm
      generalize jtiL n m = S at *
      go_wp2_with fail
      refine (HR.out w2).mono ?_
      rintro e w3 ⟨rfl, hb3⟩
      have HB3 := Lib.hid (HB2.out.trans (hb3.mono HB2.out.size))
      clear hb3
      go_wp2_with fail
      go_ret
      exact ⟨rfl, HB3.out⟩
    · have hno : ∀ n m : Nat, OwnN n → OwnN m → S ≠ jtiL n m := fun n m h1 h2 e => hname ⟨n, m, h1, h2, e⟩
      clear hname
      refine (readjti_no S w1 HS1.out (by omega) hno).mono ?_
      rintro e w2 ⟨rfl, hb2⟩
      have HB2 := Lib.hid (HB1.out.trans (hb2.mono HB1.out.size))
      have HNO := Lib.hid hno
      clear hb2 hno
      by_cases h4 : S.length < 4
      · have h4I : (S.length : Int) < 4 := by omega
        have h4d : decide ((S.length : Int) < 4) = true := decide_eq_true h4I
        go_wp2_with fail
        go_ret
        exact ⟨rfl, HB2.out⟩
      · have h4I : ¬ (S.length : Int) < 4 := by omega
        have h4d : decide ((S.length : Int) < 4) = false := decide_eq_false h4I
        obtain ⟨c0, hc0⟩ : ∃ c, S[0]'(by omega) = c := ⟨_, rfl⟩
        have hix : ∀ w, (Instr.index 9 (.string ⟨S.toArray⟩) (.int .i64 0)).run Tryd.prog w = .ok (.int .u8 (c0.toNat : Nat)) w := by rw [← hc0]; exact str_at S 0 (by omega)
        have HG0 := Lib.hid (show S.getD 0 0 = c0 by rw [List.getD_eq_getElem?_getD, List.getElem?_eq_getElem (by omega), Option.getD_some, hc0])
        clear hc0
        by_cases h0 : c0.toNat = 101
        · have h0b : (((c0.toNat : Nat) : Int) != 101) = false := by rw [h0]; rfl
          have H0 : Hid (S.getD 0 0 = 101) := Lib.hid (by rw [HG0.out]; exact UInt8.toNat_inj.1 (by rw [h0]; rfl))
          clear h0 HG0
          go_wp2_with fail
          clear hix h0b
          go_loopg [8, 9] (S.length) (fun k dv iv wr => ∃ (j d : Nat), j + k = S.length + 1 ∧ 1 ≤ j ∧ j ≤ S.length ∧ d ≤ j ∧ iv = .int .i64 (j : Int) ∧ dv = .int .i64 (d : Int) ∧ Hid (Seen S j d) ∧ wr = w2)
          case atStart => exact ⟨1, 0, by omega, by omega, by omega, by omega, rfl, rfl, Lib.hid ⟨by simp, by simp⟩, rfl⟩
          case round =>
            obtain ⟨j, d, hj, hj1, hjl, hd, rfl, rfl, hse, rfl⟩ := hrel
            by_cases hlt : j < S.length
            · obtain ⟨c, hc⟩ : ∃ c, S[j]'hlt = c := ⟨_, rfl⟩
              have hix : ∀ w, (Instr.index 9 (.string ⟨S.toArray⟩) (.int .i64 (j : Int))).run Tryd.prog w = .ok (.int .u8 (c.toNat : Nat)) w := by rw [← hc]; exact str_at S j hlt
              have HSM := Lib.hid (fun hf => hse.out.more hj1 hlt hf)
              rw [hc] at HSM
              have hcl := UInt8.toNat_lt c
              clear hc hse
              by_cases h46 : c.toNat = 46
              · have hb : (((c.toNat : Nat) : Int) == 46) = true := by rw [h46]; rfl
                have hc46 : c = 46 := UInt8.toNat_inj.1 (by rw [h46]; rfl)
                have HN := Lib.hid (HSM.out (.inl hc46))
                have HC := Lib.hid hc46
                clear HSM h46 hc46
                go_wp2_with fail
                go_roundg (gk - 1)
                case measure => omega
                case rel =>
                  refine ⟨j + 1, d + 1, by omega, by omega, by omega, by omega, by go_num, by go_num, Lib.hid ?_, rfl⟩
                  have := HN.out
                  rwa [if_pos HC.out] at this
              · have hb : (((c.toNat : Nat) : Int) == 46) = false := by
                  simp only [beq_eq_false_iff_ne, ne_eq]
                  omega
                by_cases hf : 49 ≤ c.toNat ∧ c.toNat ≤ 57
                · have h1 : ¬ ((c.toNat : Nat) : Int) < 49 := by omega
                  have h2 : ¬ (57 : Int) < ((c.toNat : Nat) : Int) := by omega
                  have HN := Lib.hid (HSM.out (.inr hf))
                  have HC : Hid (¬ c = 46) := Lib.hid (fun e => h46 (by rw [e]; rfl))
                  clear HSM h46 hf
                  go_wp2_with fail
                  go_roundg (gk - 1)
                  case measure => omega
                  case rel =>
                    refine ⟨j + 1, d, by omega, by omega, by omega, by omega, by go_num, rfl, Lib.hid ?_, rfl⟩
                    have := HN.out
                    rwa [if_neg HC.out] at this
                · by_cases h1 : ((c.toNat : Nat) : Int) < 49
                  · clear HSM hf
                    go_wp2_with fail
                    go_ret
                    exact ⟨rfl, HB2.out⟩
                  · have h2 : (57 : Int) < ((c.toNat : Nat) : Int) := by omega
                    clear HSM hf
                    go_wp2_with fail
                    go_ret
                    exact ⟨rfl, HB2.out⟩
            · obtain rfl : j = S.length := by omega
              have HE := Lib.hid (fun hd h1 hl => seen_end S d hse.out (by omega) H0.out HNO.out hd h1 hl)
              clear hse hlt HNO H0
              obtain ⟨c1, hc1⟩ : ∃ c, S[1]'(by omega) = c := ⟨_, rfl⟩
              obtain ⟨c2, hc2⟩ : ∃ c, S[S.length - 1]'(by omega) = c := ⟨_, rfl⟩
              have hx1 : ∀ w, (Instr.index 9 (.string ⟨S.toArray⟩) (.int .i64 1)).run Tryd.prog w = .ok (.int .u8 (c1.toNat : Nat)) w := by rw [← hc1]; exact str_at S 1 (by omega)
              have hx2 : ∀ w, (Instr.index 9 (.string ⟨S.toArray⟩) (.int .i64 ((S.length : Int) - 1))).run Tryd.prog w = .ok (.int .u8 (c2.toNat : Nat)) w := by
                rw [← hc2, show (S.length : Int) - 1 = ((S.length - 1 : Nat) : Int) by omega]
                exact str_at S (S.length - 1) (by omega)
              have g1 : S.getD 1 0 = c1 := by rw [List.getD_eq_getElem?_getD, List.getElem?_eq_getElem (by omega), Option.getD_some, hc1]
              have g2 : S.getD (S.length - 1) 0 = c2 := by rw [List.getD_eq_getElem?_getD, List.getElem?_eq_getElem (by omega), Option.getD_some, hc2]
              rw [g1, g2] at HE
              clear g1 g2 hc1 hc2
              by_cases hd1 : d = 1
              · subst hd1
                by_cases h1 : c1.toNat = 46
                · have hb1 : (((c1.toNat : Nat) : Int) == 46) = true := by rw [h1]; rfl
                  clear h1 HE
                  go_wp2_with fail
                  go_ret
                  exact ⟨rfl, HB2.out⟩
                · have hb1 : (((c1.toNat : Nat) : Int) == 46) = false := by
                    simp only [beq_eq_false_iff_ne, ne_eq]
                    omega
                  by_cases h2 : c2.toNat = 46
                  · have hb2 : (((c2.toNat : Nat) : Int) == 46) = true := by rw [h2]; rfl
                    clear h2 h1 HE
                    go_wp2_with fail
                    go_ret
                    exact ⟨rfl, HB2.out⟩
                  · have hb2 : (((c2.toNat : Nat) : Int) == 46) = false := by
                      simp only [beq_eq_false_iff_ne, ne_eq]
                      omega
                    have h14 := HE.out rfl (fun e => h1 (by rw [e]; rfl)) (fun e => h2 (by rw [e]; rfl))
                    have h14I : (14 : Int) < (S.length : Int) := by omega
                    clear h1 h2 HE
                    go_wp2_with fail
                    go_ret
                    exact ⟨rfl, HB2.out⟩
              · have hb1 : (((d : Nat) : Int) != 1) = true := by
                  simp only [bne_iff_ne, ne_eq]
                  omega
                clear hd1 HE
                go_wp2_with fail
                go_ret
                exact ⟨rfl, HB2.out⟩
        · have h0b : (((c0.toNat : Nat) : Int) != 101) = true := by
            simp only [bne_iff_ne, ne_eq]
            omega
          go_wp2_with fail
          go_ret
          exact ⟨rfl, HB2.out⟩
  · have h100I : (100 : Int) < (S.length : Int) := by omega
    go_wp2_with fail
    go_ret
    exact ⟨rfl, HB1.out⟩
end Go.Proofs.YtbblnlddiafkhaaDoor
