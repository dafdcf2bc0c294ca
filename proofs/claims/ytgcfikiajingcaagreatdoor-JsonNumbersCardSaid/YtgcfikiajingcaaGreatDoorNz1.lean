/- Merged: JsNz. -/
import Derived.Test.YtgcfikiajingcaaGreatDoorMg1
import Derived.Test.YtgcfikiajingcaaGreatDoorMg2
import Derived.Test.YtgcfikiajingcaaGreatDoorMg3
import Derived.Test.YtgcfikiajingcaaGreatDoorMg4
import Derived.Test.YtgcfikiajingcaaGreatDoorMg5
import Derived.Test.YtgcfikiajingcaaGreatDoorMg6
import Derived.Test.YtgcfikiajingcaaGreatDoorMg7
/- The walk of the law JsonNumbers. -/
set_option linter.unusedVariables false
namespace Go.Proofs.YtgcfikiajingcaaGreatDoor
open Go.RowKit

set_option maxRecDepth 100000 in
set_option maxHeartbeats 64000000 in
theorem jsonNumbers_walk (n : Int) (s : ByteArray) (w : World) (hn : (Lit.int .i64 n).wf = true) (hs : s.size ≤ maxLen) (hm : ∃ m, w.cell? ⟨3, 0, none⟩ = some (.int .i64 m)) (hst : Std3 w) :
    Calls Tryz.prog 4 #[.int .i64 n, .string s] w fun e w' => e = .returned (.bool true) ∧ Below w.heap.size w w' := by
  clear hm
  unfold maxLen at hs
  obtain ⟨S, rfl⟩ := bytes_list s
  simp only [ByteArray.size, List.size_toArray] at hs
  have HN := Lib.hid (i64_wf hn)
  have HS := Lib.hid hst
  clear hn hst
  go_enter Tryz.func4, Tryz.ntmps4
  go_wp2_with fail
  refine (anchor06_any w).mono ?_
  rintro e w1 ⟨rfl, hb1⟩
  have HB1 := Lib.hid hb1
  have HS1 := Lib.hid (HS.out.below hb1)
  clear hb1
  by_cases h1 : S.length ≤ 60
  case neg =>
    have h1I : (60 : Int) < (S.length : Int) := by omega
    go_wp2_with fail
    refine bodyPost_ret (results_tmp rfl _ _ _) rfl ?_
    exact ⟨rfl, HB1.out⟩
  have h1I : ¬ (60 : Int) < (S.length : Int) := by omega
  go_wp2_with fail
  refine (jnum_fn n HN.out.1 HN.out.2 w1 HS1.out.1).mono ?_
  rintro e w2 ⟨rfl, hb2⟩
  have HB2 := Lib.hid (HB1.out.trans (hb2.mono HB1.out.size))
  have HS2 := Lib.hid (HS1.out.below hb2)
  clear hb2
  go_wp2_with fail
  refine (jint_any (jnum (Lib.itoa n)) (fun _ => True) [.int .i64 3, .bool false, .string ⟨(Lib.itoa n).toArray⟩, .slice none 0 0, .slice none 0 0] w2 (Rep.leaf _ w2 3 false _) HS2.out (by have := itoa_len n HN.out.1 HN.out.2; show (Lib.itoa n).length ≤ _; omega)).mono ?_
  rw [intV_num, int_itoa n HN.out.1 HN.out.2]
  rintro e w3 ⟨rfl, hb3⟩
  have HB3 := Lib.hid (HB2.out.trans (hb3.mono HB2.out.size))
  have HS3 := Lib.hid (HS2.out.below hb3)
  clear hb3
  generalize Lib.itoa n = TN
  obtain ⟨R, hR⟩ : ∃ R, (if -9007199254740992 ≤ n ∧ n ≤ 9007199254740992 then (n, true) else (0, false)) = R := ⟨_, rfl⟩
  rw [hR]
  have hcs : (decide (-9007199254740992 ≤ n) = true ∧ decide (n ≤ 9007199254740992) = true ∧ R = (n, true)) ∨ (decide (-9007199254740992 ≤ n) = true ∧ decide (n ≤ 9007199254740992) = false ∧ R = (0, false)) ∨ (decide (-9007199254740992 ≤ n) = false ∧ R = (0, false)) := by
    rw [← hR]
    by_cases a1 : -9007199254740992 ≤ n
    · by_cases a2 : n ≤ 9007199254740992
      · exact .inl ⟨decide_eq_true a1, decide_eq_true a2, if_pos ⟨a1, a2⟩⟩
      · exact .inr (.inl ⟨decide_eq_true a1, decide_eq_false a2, if_neg (by omega)⟩)
    · exact .inr (.inr ⟨decide_eq_false a1, if_neg (by omega)⟩)
  clear hR
  rcases hcs with ⟨b1, b2, rfl⟩ | ⟨b1, b2, rfl⟩ | ⟨b1, rfl⟩
  all_goals (
    simp only
    go_upto_region 9 with (fail)
    generalize hw4 : w3.alloc _ = w4
    have hb4 : Below w3.heap.size w3 w4 := by rw [← hw4]; exact (Below.refl _ _).alloc (Nat.le_refl _) _
    have hx4 : w4.heap[w3.heap.size]? = some (.cells #[.int .i64 3, .bool false, .string ⟨S.toArray⟩, .slice none 0 0, .slice none 0 0] 26 (0, 0)) := by rw [← hw4]; exact heap_alloc_new _ _
    have HB4 := Lib.hid (HB3.out.trans (hb4.mono HB3.out.size))
    have HS4 := Lib.hid (HS3.out.below hb4)
    have HX4 := Lib.hid hx4
    have hs4 : w3.heap.size < w4.heap.size := (Array.getElem?_eq_some_iff.1 hx4).1
    clear hw4 hb4 hx4
    go_upto_region 10 with (fail)
    generalize hw5 : w4.alloc _ = w5
    have hb5 : Below w4.heap.size w4 w5 := by rw [← hw5]; exact (Below.refl _ _).alloc (Nat.le_refl _) _
    have hp5 : PP w5 w4.heap.size S ⟨0, 0⟩ 0 0 0 := ⟨by rw [← hw5]; exact heap_alloc_new _ _, Nat.zero_le _⟩
    have HB5 := Lib.hid (HB4.out.trans (hb5.mono HB4.out.size))
    have HS5 := Lib.hid (HS4.out.below hb5)
    have HX5 := Lib.hid ((hb5.block _ hs4).trans HX4.out)
    have HP5 := Lib.hid hp5
    have hs5 : w3.heap.size < w5.heap.size := Nat.lt_of_lt_of_le hs4 hb5.size
    clear hw5 hb5 hp5
    go_wp2_with fail
    refine (pnumber_any w4.heap.size S 0 0 0 w5 HP5.out (by omega)).mono ?_
    have HNR := Lib.hid (numP_right S)
    generalize numP S ⟨0, 0⟩ = st at *
    obtain ⟨sp, se⟩ := st
    simp only at HNR
    rintro e w6 ⟨rfl, ⟨A6, hp6⟩, hb6⟩
    have hg5 : w.heap.size ≤ w4.heap.size := HB4.out.size
    have HB6 := Lib.hid (But.to_below HB5.out hb6 hg5 HB5.out.size)
    have HX6 := Lib.hid ((hb6.block _ hs5 (by omega)).trans HX5.out)
    have hs6 : w3.heap.size < w6.heap.size := Nat.lt_of_lt_of_le hs5 hb6.size
    have HS6 := Lib.hid (HS.out.below HB6.out)
    have e4 := hp6.c4
    simp only at e4
    clear hp6 hb6
    obtain ⟨T, hT⟩ : ∃ T, S.take sp = T := ⟨_, rfl⟩
    rw [hT] at HNR
    simp only [hT]
    clear hT
    have hcs : ((se == 0) = true ∧ (T == S) = numericB S) ∨ ((se == 0) = false ∧ numericB S = false) := by
      have hq := HNR.out
      by_cases h0 : se = 0
      · left
        refine ⟨by rw [h0]; rfl, ?_⟩
        rw [decide_eq_true h0, Bool.true_and] at hq
        exact hq
      · right
        refine ⟨by simpa using h0, ?_⟩
        rw [decide_eq_false h0, Bool.false_and] at hq
        exact hq.symm
    have HC := Lib.hid hcs
    clear hcs
    obtain ⟨r, hr⟩ : ∃ r, numericB S = r := ⟨_, rfl⟩
    have HRR := Lib.hid hr
    rw [hr] at HC
    clear hr
    have v0 : w6.cell? ⟨w3.heap.size, 0, none⟩ = some (.int .i64 3) := by rw [Lib.cell_of_heap HX6.out]; rfl
    have v1 : w6.cell? ⟨w3.heap.size, 1, none⟩ = some (.bool false) := by rw [Lib.cell_of_heap HX6.out]; rfl
    have v2 : w6.cell? ⟨w3.heap.size, 2, none⟩ = some (.string ⟨S.toArray⟩) := by rw [Lib.cell_of_heap HX6.out]; rfl
    have v3 : w6.cell? ⟨w3.heap.size, 3, none⟩ = some (.slice none 0 0) := by rw [Lib.cell_of_heap HX6.out]; rfl
    have v4 : w6.cell? ⟨w3.heap.size, 4, none⟩ = some (.slice none 0 0) := by rw [Lib.cell_of_heap HX6.out]; rfl
    cases r with
    | false =>
      have HI : Hid (intJ S = (0, false)) := Lib.hid (int_not HRR.out)
      rcases HC.out with ⟨q1, q2⟩ | ⟨q1, _⟩
      all_goals (
        go_wp2_with fail
        refine (jint_any (jnum S) (fun _ => True) [.int .i64 3, .bool false, .string ⟨S.toArray⟩, .slice none 0 0, .slice none 0 0] w6 (Rep.leaf _ w6 3 false S) HS6.out (show S.length ≤ 1000000 by omega)).mono ?_
        rw [intV_num, HI.out]
        rintro e w7 ⟨rfl, hb7⟩
        have HB7 := Lib.hid (HB6.out.trans (hb7.mono HB6.out.size))
        have HX7 := Lib.hid ((hb7.block _ hs6).trans HX6.out)
        clear hb7 v0 v1 v2 v3 v4 e4
        have v0 : w7.cell? ⟨w3.heap.size, 0, none⟩ = some (.int .i64 3) := by rw [Lib.cell_of_heap HX7.out]; rfl
        have v1 : w7.cell? ⟨w3.heap.size, 1, none⟩ = some (.bool false) := by rw [Lib.cell_of_heap HX7.out]; rfl
        have v2 : w7.cell? ⟨w3.heap.size, 2, none⟩ = some (.string ⟨S.toArray⟩) := by rw [Lib.cell_of_heap HX7.out]; rfl
        have v3 : w7.cell? ⟨w3.heap.size, 3, none⟩ = some (.slice none 0 0) := by rw [Lib.cell_of_heap HX7.out]; rfl
        have v4 : w7.cell? ⟨w3.heap.size, 4, none⟩ = some (.slice none 0 0) := by rw [Lib.cell_of_heap HX7.out]; rfl
        go_wp2_with fail
        refine (jright (jnum S) (by rw [size_num]; omega) (fun _ => True) [.int .i64 3, .bool false, .string ⟨S.toArray⟩, .slice none 0 0, .slice none 0 0] w7 (Rep.leaf _ w7 3 false S)).mono ?_
        rw [right_num, HRR.out]
        rintro e w8 ⟨rfl, hb8⟩
        have HB8 := Lib.hid (HB7.out.trans (hb8.mono HB7.out.size))
        clear hb8 v0 v1 v2 v3 v4
        go_wp2_with fail
        refine bodyPost_ret (results_tmp rfl _ _ _) rfl ?_
        exact ⟨rfl, HB8.out⟩)
    | true =>
      obtain ⟨q1, q2⟩ : (se == 0) = true ∧ (T == S) = true := by
        rcases HC.out with h | h
        · exact h
        · cases h.2
      have hrng := intJ_range S
      obtain ⟨K, hK⟩ : ∃ K, (intJ S).1 = K := ⟨_, rfl⟩
      obtain ⟨IS, hIS⟩ : ∃ IS, (intJ S).2 = IS := ⟨_, rfl⟩
      have HI : Hid (intJ S = (K, IS)) := Lib.hid (by rw [← hK, ← hIS])
      have HKR : Hid (-9007199254740992 ≤ K ∧ K ≤ 9007199254740992) := Lib.hid (by rw [← hK]; exact hrng)
      clear hrng hK hIS
      go_wp2_with fail
      refine (jint_any (jnum S) (fun _ => True) [.int .i64 3, .bool false, .string ⟨S.toArray⟩, .slice none 0 0, .slice none 0 0] w6 (Rep.leaf _ w6 3 false S) HS6.out (show S.length ≤ 1000000 by omega)).mono ?_
      rw [intV_num, HI.out]
      rintro e w7 ⟨rfl, hb7⟩
      have HB7 := Lib.hid (HB6.out.trans (hb7.mono HB6.out.size))
      have HX7 := Lib.hid ((hb7.block _ hs6).trans HX6.out)
      have hs7 : w3.heap.size < w7.heap.size := Nat.lt_of_lt_of_le hs6 hb7.size
      have HS7 := Lib.hid (HS6.out.below hb7)
      clear hb7 v0 v1 v2 v3 v4 e4
      simp only
      have v0 : w7.cell? ⟨w3.heap.size, 0, none⟩ = some (.int .i64 3) := by rw [Lib.cell_of_heap HX7.out]; rfl
      have v1 : w7.cell? ⟨w3.heap.size, 1, none⟩ = some (.bool false) := by rw [Lib.cell_of_heap HX7.out]; rfl
      have v2 : w7.cell? ⟨w3.heap.size, 2, none⟩ = some (.string ⟨S.toArray⟩) := by rw [Lib.cell_of_heap HX7.out]; rfl
      have v3 : w7.cell? ⟨w3.heap.size, 3, none⟩ = some (.slice none 0 0) := by rw [Lib.cell_of_heap HX7.out]; rfl
      have v4 : w7.cell? ⟨w3.heap.size, 4, none⟩ = some (.slice none 0 0) := by rw [Lib.cell_of_heap HX7.out]; rfl
      go_wp2_with fail
      go_loopg [88] S.length (fun k iv wr => ∃ j : Nat, iv = .int .i64 (j : Int) ∧ j + k = S.length ∧ Hid (∀ c ∈ S.take j, dotE c = false) ∧ wr = w7)
      case atStart => exact ⟨0, rfl, by omega, Lib.hid (by simp), rfl⟩
      case round =>
        obtain ⟨j, rfl, hj, HD, rfl⟩ := hrel
        by_cases hlt : j < S.length
        · have hltI : (j : Int) < (S.length : Int) := by omega
          have hix := fun w => str_at S j hlt w
          have HMEM := Lib.hid (List.getElem_mem hlt)
          have HTK := Lib.hid (List.take_succ_eq_append_getElem hlt)
          generalize S[j] = c at *
          have hb46 : (((c.toNat : Nat) : Int) == 46) = (c == 46) := by rw [Bool.eq_iff_iff]; simp only [beq_iff_eq]; exact ⟨fun e => UInt8.toNat_inj.1 (by show c.toNat = 46; omega), fun e => by rw [e]; rfl⟩
          have hb101 : (((c.toNat : Nat) : Int) == 101) = (c == 101) := by rw [Bool.eq_iff_iff]; simp only [beq_iff_eq]; exact ⟨fun e => UInt8.toNat_inj.1 (by show c.toNat = 101; omega), fun e => by rw [e]; rfl⟩
          have hb69 : (((c.toNat : Nat) : Int) == 69) = (c == 69) := by rw [Bool.eq_iff_iff]; simp only [beq_iff_eq]; exact ⟨fun e => UInt8.toNat_inj.1 (by show c.toNat = 69; omega), fun e => by rw [e]; rfl⟩
          have HDE : Hid (dotE c = (c == 46 || c == 101 || c == 69)) := Lib.hid rfl
          generalize (c == 46) = d1 at *
          generalize (c == 101) = d2 at *
          generalize (c == 69) = d3 at *
          cases hde : dotE c with
          | false =>
            have HND : Hid (∀ x ∈ S.take (j + 1), dotE x = false) := Lib.hid (by
              rw [HTK.out]
              intro x hx
              rcases List.mem_append.1 hx with hx | hx
              · exact HD.out x hx
              · rw [List.mem_singleton.1 hx]; exact hde)
            have hq := HDE.out
            rw [hde] at hq
            simp only [Bool.false_eq, Bool.or_eq_false_iff] at hq
            obtain ⟨⟨rfl, rfl⟩, rfl⟩ := hq
            clear hde HDE HTK
            go_wp2_with fail
            go_roundg (gk - 1)
            case measure => omega
            case rel => exact ⟨j + 1, by first | rfl | (congr 1), by omega, HND, rfl⟩
          | true =>
            have hi := int_dot HMEM.out hde
            rw [HI.out] at hi
            simp only [Prod.mk.injEq] at hi
            obtain ⟨rfl, rfl⟩ := hi
            have hq := HDE.out
            rw [hde] at hq
            have hd : d1 = true ∨ (d1 = false ∧ d2 = true) ∨ (d1 = false ∧ d2 = false ∧ d3 = true) := by
              revert hq
              cases d1 <;> cases d2 <;> cases d3 <;> simp
            clear hde HDE HTK hq
            rcases hd with rfl | ⟨rfl, rfl⟩ | ⟨rfl, rfl, rfl⟩
            all_goals (
              go_wp2_with fail
              refine (jright (jnum S) (by rw [size_num]; omega) (fun _ => True) [.int .i64 3, .bool false, .string ⟨S.toArray⟩, .slice none 0 0, .slice none 0 0] wr (Rep.leaf _ wr 3 false S)).mono ?_
              rw [right_num, HRR.out]
              rintro e w8 ⟨rfl, hb8⟩
              have HB8 := Lib.hid (HB7.out.trans (hb8.mono HB7.out.size))
              clear hb8 v0 v1 v2 v3 v4
              go_wp2_with fail
              refine bodyPost_ret (results_tmp rfl _ _ _) rfl ?_
              exact ⟨rfl, HB8.out⟩)
        · have hge : ¬ (j : Int) < (S.length : Int) := by omega
          have HND : Hid (∀ x ∈ S, dotE x = false) := Lib.hid (by
            have := HD.out
            rwa [List.take_of_length_le (by omega)] at this)
          go_wp2_with fail
          refine (jnum_fn K (by have := HKR.out; omega) (by have := HKR.out; omega) wr HS7.out.1).mono ?_
          rintro e w8 ⟨rfl, hb8⟩
          have HB8 := Lib.hid (HB7.out.trans (hb8.mono HB7.out.size))
          have HS8 := Lib.hid (HS7.out.below hb8)
          have HX8 := Lib.hid ((hb8.block _ hs7).trans HX7.out)
          have hs8 : w3.heap.size < w8.heap.size := Nat.lt_of_lt_of_le hs7 hb8.size
          clear hb8 v0 v1 v2 v3 v4
          go_wp2_with fail
          refine (jint_any (jnum (Lib.itoa K)) (fun _ => True) [.int .i64 3, .bool false, .string ⟨(Lib.itoa K).toArray⟩, .slice none 0 0, .slice none 0 0] w8 (Rep.leaf _ w8 3 false _) HS8.out (by have := itoa_len K (by have := HKR.out; omega) (by have := HKR.out; omega); show (Lib.itoa K).length ≤ _; omega)).mono ?_
          rw [intV_num, int_itoa K (by have := HKR.out; omega) (by have := HKR.out; omega), if_pos HKR.out]
          rintro e w9 ⟨rfl, hb9⟩
          have HB9 := Lib.hid (HB8.out.trans (hb9.mono HB8.out.size))
          have HS9 := Lib.hid (HS8.out.below hb9)
          have HX9 := Lib.hid ((hb9.block _ hs8).trans HX8.out)
          have hs9 : w3.heap.size < w9.heap.size := Nat.lt_of_lt_of_le hs8 hb9.size
          clear hb9
          simp only
          have v0 : w9.cell? ⟨w3.heap.size, 0, none⟩ = some (.int .i64 3) := by rw [Lib.cell_of_heap HX9.out]; rfl
          have v1 : w9.cell? ⟨w3.heap.size, 1, none⟩ = some (.bool false) := by rw [Lib.cell_of_heap HX9.out]; rfl
          have v2 : w9.cell? ⟨w3.heap.size, 2, none⟩ = some (.string ⟨S.toArray⟩) := by rw [Lib.cell_of_heap HX9.out]; rfl
          have v3 : w9.cell? ⟨w3.heap.size, 3, none⟩ = some (.slice none 0 0) := by rw [Lib.cell_of_heap HX9.out]; rfl
          have v4 : w9.cell? ⟨w3.heap.size, 4, none⟩ = some (.slice none 0 0) := by rw [Lib.cell_of_heap HX9.out]; rfl
          go_wp2_with fail
          refine (jright (jnum S) (by rw [size_num]; omega) (fun _ => True) [.int .i64 3, .bool false, .string ⟨S.toArray⟩, .slice none 0 0, .slice none 0 0] w9 (Rep.leaf _ w9 3 false S)).mono ?_
          rw [right_num, HRR.out]
          rintro e wA ⟨rfl, hbA⟩
          have HBA := Lib.hid (HB9.out.trans (hbA.mono HB9.out.size))
          have HSA := Lib.hid (HS9.out.below hbA)
          clear hbA v0 v1 v2 v3 v4
          cases IS with
          | false =>
            go_wp2_with fail
            refine bodyPost_ret (results_tmp rfl _ _ _) rfl ?_
            exact ⟨rfl, HBA.out⟩
          | true =>
            have hKK : (K == K) = true := by simp
            have hback := int_back HRR.out HND.out HI.out
            by_cases hS : S = [45, 48]
            · have hK0 : K = 0 := by
                rcases hback with h | h
                · exact h.2
                · have := HI.out
                  rw [hS] at this
                  have e0 : intJ [45, 48] = (0, true) := by decide +kernel
                  rw [e0] at this
                  simp only [Prod.mk.injEq, and_true] at this
                  exact this.symm
              subst hK0
              have hqS : (S == [45, 48]) = true := by simpa using hS
              clear hback hS
              go_wp2_with fail
              refine bodyPost_ret (results_tmp rfl _ _ _) rfl ?_
              exact ⟨rfl, HBA.out⟩
            · have hit : Lib.itoa K = S := by
                rcases hback with h | h
                · exact absurd h.1 hS
                · exact h
              have hqS : (S == [45, 48]) = false := by simpa using hS
              have HIT := Lib.hid hit
              have hSS : (S == S) = true := by simp
              have hfd := fun w => field_text (.int .i64 3) (.bool false) (.string ⟨S.toArray⟩) (.slice none 0 0) (.slice none 0 0) rfl w
              clear hback hS hit
              go_wp2_with fail
              refine (jnum_fn K (by have := HKR.out; omega) (by have := HKR.out; omega) wA HSA.out.1).mono ?_
              rw [HIT.out]
              rintro e wB ⟨rfl, hbB⟩
              have HBB := Lib.hid (HBA.out.trans (hbB.mono HBA.out.size))
              clear hbB
              go_wp2_with fail
              refine bodyPost_ret (results_tmp rfl _ _ _) rfl ?_
              exact ⟨rfl, HBB.out⟩)
end Go.Proofs.YtgcfikiajingcaaGreatDoor
