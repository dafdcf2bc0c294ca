/- Merged: SuTw. -/
import Derived.Test.YtfcokdkbjajohaaGreatDoorMg1
import Derived.Test.YtfcokdkbjajohaaGreatDoorMg2
import Derived.Test.YtfcokdkbjajohaaGreatDoorMg3
import Derived.Test.YtfcokdkbjajohaaGreatDoorMg4
import Derived.Test.YtfcokdkbjajohaaGreatDoorMg5
import Derived.Test.YtfcokdkbjajohaaGreatDoorMg6
import Derived.Test.YtfcokdkbjajohaaGreatDoorMg7
import Derived.Test.YtfcokdkbjajohaaGreatDoorSt1
/- The walk of SubjectTexts. -/
set_option linter.unusedVariables false
namespace Go.Proofs.YtfcokdkbjajohaaGreatDoor
open Go.RowKit

theorem q_size : ∀ (q : List (List UInt8 × List UInt8)) (B : Nat), (∀ x ∈ q, x.1.length ≤ B ∧ x.2.length ≤ B) → sizeM (mq q) ≤ q.length * (2 * B + 2)
  | [], _, _ => by simp [mq, sizeM]
  | x :: q, B, h => by
    have h1 := q_size q B (fun y hy => h y (by simp [hy]))
    have h2 := h x (by simp)
    show sizeM ((x.1, jstr x.2) :: mq q) ≤ _
    rw [sizeM, List.length_cons, Nat.succ_mul]
    simp only [jstr, sizeJ, sizeL, sizeM]
    omega
set_option maxRecDepth 100000 in
set_option maxHeartbeats 64000000 in
theorem subjectTexts_walk (fb ib sb : ByteArray) (turn : Bool) (mb : ByteArray) (w : World) (hf : fb.size ≤ maxLen) (hi : ib.size ≤ maxLen) (hs : sb.size ≤ maxLen) (hmo : mb.size ≤ maxLen) (hm : ∃ m, w.cell? ⟨3, 0, none⟩ = some (.int .i64 m)) (hp : Pow w) :
    Calls Tryz.prog 4 #[.string fb, .string ib, .string sb, .bool turn, .string mb] w fun e w' => e = .returned (.bool true) ∧ Below w.heap.size w w' := by
  clear hf hi hs hmo hm
  obtain ⟨f, rfl⟩ : ∃ t : List UInt8, fb = ⟨t.toArray⟩ := ⟨fb.data.toList, by simp⟩
  obtain ⟨i, rfl⟩ : ∃ t : List UInt8, ib = ⟨t.toArray⟩ := ⟨ib.data.toList, by simp⟩
  obtain ⟨s, rfl⟩ : ∃ t : List UInt8, sb = ⟨t.toArray⟩ := ⟨sb.data.toList, by simp⟩
  obtain ⟨more, rfl⟩ : ∃ t : List UInt8, mb = ⟨t.toArray⟩ := ⟨mb.data.toList, by simp⟩
  have HP := Lib.hid hp
  clear hp
  go_enter Tryz.func4, Tryz.ntmps4
  go_wp2_with fail
  refine (anchor12_any w).mono ?_
  rintro e w1 ⟨rfl, hb1⟩
  have HB1 := Lib.hid hb1
  have HP1 := Lib.hid (HP.out.below hb1)
  clear hb1 HP
  by_cases l1 : i.length ≤ 300
  case neg =>
    have j1 : (300 : Int) < (i.length : Int) := by omega
    go_wp2_with fail
    refine bodyPost_ret (results_tmp rfl _ _ _) rfl ?_
    exact ⟨rfl, HB1.out⟩
  have j1 : ¬ (300 : Int) < (i.length : Int) := by omega
  by_cases l2 : s.length ≤ 300
  case neg =>
    have j2 : (300 : Int) < (s.length : Int) := by omega
    go_wp2_with fail
    refine bodyPost_ret (results_tmp rfl _ _ _) rfl ?_
    exact ⟨rfl, HB1.out⟩
  have j2 : ¬ (300 : Int) < (s.length : Int) := by omega
  by_cases l3 : more.length ≤ 60
  case neg =>
    have j3 : (60 : Int) < (more.length : Int) := by omega
    go_wp2_with fail
    refine bodyPost_ret (results_tmp rfl _ _ _) rfl ?_
    exact ⟨rfl, HB1.out⟩
  have j3 : ¬ (60 : Int) < (more.length : Int) := by omega
  go_wp2_with fail
  refine (jstr_fn f w1).mono ?_
  rintro e w2 ⟨rfl, hb2⟩
  have HB2 := Lib.hid (HB1.out.trans (hb2.mono HB1.out.size))
  have HP2 := Lib.hid (HP1.out.below hb2)
  clear hb2 HB1 HP1
  go_upto_region 6 with (fail)
  generalize hw3 : w2.alloc _ = w3
  have hb3 : Below w2.heap.size w2 w3 := by rw [← hw3]; exact (Below.refl _ _).alloc (Nat.le_refl _) _
  have how3 : w3.ownsRow w2.heap.size 35 6 (.slice (some ⟨w2.heap.size, 0, none⟩) 1 1) 1 (row6 (fmtB, f)) := by
    rw [← hw3]
    exact own_one rfl rfl
  have HB3 := Lib.hid (HB2.out.trans (hb3.mono HB2.out.size))
  have HP3 := Lib.hid (HP2.out.below hb3)
  have HB23 := Lib.hid hb3
  have HOW3 := Lib.hid how3
  obtain ⟨g1, hg1⟩ : ∃ b, w2.heap.size = b := ⟨_, rfl⟩
  rw [hg1] at HOW3 HB23 ⊢
  clear hw3 hb3 how3
  have hs3 : g1 ≤ w3.heap.size := by rw [← hg1]; exact HB23.out.size
  have hwg : w.heap.size ≤ g1 := by rw [← hg1]; exact HB2.out.size
  have HG1W := Lib.hid hg1
  clear hg1
  go_cut [35] (fun x wc => x = .string ⟨f.toArray⟩ ∧ w3 = wc)
  case first =>
    go_wp2_with fail
    go_meet
    exact ⟨rfl, rfl⟩
  case rest =>
  obtain ⟨rfl, rfl⟩ := hcut
  go_step
  go_cut [11, 2] (fun x11 x2 wc => ∃ (s' : List UInt8) (v : Value), (f = opaB ∨ f = emaB ∨ f = issB) ∧ (f ≠ issB → s' = []) ∧ s'.length ≤ 300 ∧ x2 = .string ⟨s'.toArray⟩ ∧ x11 = v ∧ Hid (wc.ownsRow g1 35 6 v ((midQ f s').length + 2) (((fmtB, f) :: (midQ f s' ++ [lastQ f i])).flatMap row6)) ∧ Hid (Below g1 w2 wc))
  case first =>
    by_cases e1 : f = opaB
    · skip
      have hb0 : (f == [111, 112, 97, 113, 117, 101]) = true := by rw [e1]; rfl
      have E := Lib.hid e1
      clear e1
      go_wp2_with fail
      refine (jstr_fn i w3).mono ?_
      rintro e w4 ⟨rfl, hb4⟩
      have HB4 := Lib.hid (HB23.out.trans (hb4.mono hs3))
      have HOW4 := Lib.hid (own_below HOW3.out hb4)
      have hs4 : g1 ≤ w4.heap.size := Nat.le_trans hs3 hb4.size
      clear hb4
      go_wp2_with (at_builtin; refine wpList_append_rows rfl (.tmp 38) (.tmp 42) 24 rfl g1 35 6 96 Tryz.underlying24 (by kernel_rfl) (by decide) _ 1 (row6 (fmtB, f)) rfl (HOW4.out.alloc _) ⟨w4.heap.size, 0, none⟩ 1 1 (row6 (idB, i)) rfl rfl ?c1 ?c2 ?c3 ?c4 ?c5 ?_)
      case c1 =>
        intro j u hu
        rw [Addr.add_lit, Lib.cell_of_heap (heap_alloc_new w4 _)]
        simpa [row6, strV, idB] using hu
      case c2 =>
        intro u hu
        exact row6_one _ u hu
      case c3 => omega
      case c4 => omega
      case c5 => simp; omega
      intro v' w6 hown' hgrow _
      have HB6 := Lib.hid (below_own (HB4.out.alloc hs4 _) (HOW4.out.alloc _) hgrow (by simp; omega))
      have HOW6 := Lib.hid hown'
      clear hown' hgrow
      go_wp2_with fail
      go_meet
      refine ⟨[], v', .inl E.out, fun _ => rfl, by simp, rfl, rfl, Lib.hid ?_, HB6⟩
      have h := HOW6.out
      have e1 := E.out
      subst e1
      rw [midQ_opa, lastQ_opa]
      simpa using h
    by_cases e2 : f = emaB
    · skip
      have hb0 : (f == [111, 112, 97, 113, 117, 101]) = false := by simpa [opaB] using e1
      have hb1 : (f == [101, 109, 97, 105, 108]) = true := by rw [e2]; rfl
      have E := Lib.hid e2
      clear e2
      go_wp2_with fail
      refine (jstr_fn i w3).mono ?_
      rintro e w4 ⟨rfl, hb4⟩
      have HB4 := Lib.hid (HB23.out.trans (hb4.mono hs3))
      have HOW4 := Lib.hid (own_below HOW3.out hb4)
      have hs4 : g1 ≤ w4.heap.size := Nat.le_trans hs3 hb4.size
      clear hb4
      go_wp2_with (at_builtin; refine wpList_append_rows rfl (.tmp 46) (.tmp 50) 24 rfl g1 35 6 96 Tryz.underlying24 (by kernel_rfl) (by decide) _ 1 (row6 (fmtB, f)) rfl (HOW4.out.alloc _) ⟨w4.heap.size, 0, none⟩ 1 1 (row6 (emaB, i)) rfl rfl ?c1 ?c2 ?c3 ?c4 ?c5 ?_)
      case c1 =>
        intro j u hu
        rw [Addr.add_lit, Lib.cell_of_heap (heap_alloc_new w4 _)]
        simpa [row6, strV, emaB] using hu
      case c2 =>
        intro u hu
        exact row6_one _ u hu
      case c3 => omega
      case c4 => omega
      case c5 => simp; omega
      intro v' w6 hown' hgrow _
      have HB6 := Lib.hid (below_own (HB4.out.alloc hs4 _) (HOW4.out.alloc _) hgrow (by simp; omega))
      have HOW6 := Lib.hid hown'
      clear hown' hgrow
      go_wp2_with fail
      go_meet
      refine ⟨[], v', .inr (.inl E.out), fun _ => rfl, by simp, rfl, rfl, Lib.hid ?_, HB6⟩
      have h := HOW6.out
      have e2 := E.out
      subst e2
      rw [midQ_ema, lastQ_ema]
      simpa using h
    by_cases e3 : f = issB
    · skip
      have hb0 : (f == [111, 112, 97, 113, 117, 101]) = false := by simpa [opaB] using e1
      have hb1 : (f == [101, 109, 97, 105, 108]) = false := by simpa [emaB] using e2
      have hb2 : (f == [105, 115, 115, 95, 115, 117, 98]) = true := by rw [e3]; rfl
      have E := Lib.hid e3
      clear e3
      go_wp2_with fail
      refine (jstr_fn s w3).mono ?_
      rintro e w4 ⟨rfl, hb4⟩
      have HB4 := Lib.hid (HB23.out.trans (hb4.mono hs3))
      have HOW4 := Lib.hid (own_below HOW3.out hb4)
      have hs4 : g1 ≤ w4.heap.size := Nat.le_trans hs3 hb4.size
      clear hb4
      go_wp2_with fail
      refine (jstr_fn i w4).mono ?_
      rintro e w5 ⟨rfl, hb5⟩
      have HB5 := Lib.hid (HB4.out.trans (hb5.mono hs4))
      have HOW5 := Lib.hid (own_below HOW4.out hb5)
      have hs5 : g1 ≤ w5.heap.size := Nat.le_trans hs4 hb5.size
      clear hb5
      go_wp2_with (at_builtin; refine wpList_append_rows rfl (.tmp 54) (.tmp 61) 24 rfl g1 35 6 96 Tryz.underlying24 (by kernel_rfl) (by decide) _ 1 (row6 (fmtB, f)) rfl (HOW5.out.alloc _) ⟨w5.heap.size, 0, none⟩ 2 2 (row6 (isB, s) ++ row6 (subB, i)) rfl rfl ?c1 ?c2 ?c3 ?c4 ?c5 ?_)
      case c1 =>
        intro j u hu
        rw [Addr.add_lit, Lib.cell_of_heap (heap_alloc_new w5 _)]
        simpa [row6, strV, isB, subB] using hu
      case c2 =>
        intro u hu
        rcases List.mem_append.1 hu with hu | hu
        · exact row6_one _ u hu
        · exact row6_one _ u hu
      case c3 => omega
      case c4 => omega
      case c5 => simp; omega
      intro v' w6 hown' hgrow _
      have HB6 := Lib.hid (below_own (HB5.out.alloc hs5 _) (HOW5.out.alloc _) hgrow (by simp; omega))
      have HOW6 := Lib.hid hown'
      clear hown' hgrow
      go_wp2_with fail
      go_meet
      refine ⟨s, v', .inr (.inr E.out), fun h => absurd E.out h, by omega, rfl, rfl, Lib.hid ?_, HB6⟩
      have h := HOW6.out
      have e3 := E.out
      subst e3
      rw [midQ_iss, lastQ_iss]
      simpa [List.append_assoc] using h
    have hb0 : (f == [111, 112, 97, 113, 117, 101]) = false := by simpa [opaB] using e1
    have hb1 : (f == [101, 109, 97, 105, 108]) = false := by simpa [emaB] using e2
    have hb2 : (f == [105, 115, 115, 95, 115, 117, 98]) = false := by simpa [issB] using e3
    go_wp2_with fail
    refine bodyPost_ret (results_tmp rfl _ _ _) rfl ?_
    exact ⟨rfl, HB3.out⟩
  case rest =>
  obtain ⟨s', v, hfm, hs', hsl, rfl, rfl, HOW, HBC⟩ := hcut
  clear HB3 HP3 HOW3 HB23 hs3
  have hmt := memT_q f i s' turn
  have hqb : ∀ x ∈ turnQ (fmtB, f) (lastQ f i) (midQ f s') turn, x.1.length ≤ 300 ∧ x.2.length ≤ 300 := by
    have hfl : f.length ≤ 7 := by rcases hfm with rfl | rfl | rfl <;> decide
    have h1 : ∀ y ∈ midQ f s', y.1.length ≤ 300 ∧ y.2.length ≤ 300 := by
      intro y hy
      unfold midQ at hy
      split at hy
      · simp only [List.mem_singleton] at hy
        rw [hy]
        exact ⟨show isB.length ≤ 300 by decide, hsl⟩
      · simp at hy
    have h2 : (lastQ f i).1.length ≤ 300 ∧ (lastQ f i).2.length ≤ 300 := by
      unfold lastQ keyT
      split
      · exact ⟨show subB.length ≤ 300 by decide, l1⟩
      · split
        · exact ⟨show emaB.length ≤ 300 by decide, l1⟩
        · exact ⟨show idB.length ≤ 300 by decide, l1⟩
    intro x hx
    unfold turnQ at hx
    split at hx
    · simp only [List.mem_cons, List.mem_append, List.mem_nil_iff, or_false] at hx
      rcases hx with rfl | hx | rfl
      · exact h2
      · exact h1 x hx
      · exact ⟨show fmtB.length ≤ 300 by decide, by show f.length ≤ 300; omega⟩
    · simp only [List.mem_cons, List.mem_append, List.mem_nil_iff, or_false] at hx
      rcases hx with rfl | hx | rfl
      · exact ⟨show fmtB.length ≤ 300 by decide, by show f.length ≤ 300; omega⟩
      · exact h1 x hx
      · exact h2
  have hmidl : (midQ f s').length ≤ 1 := by unfold midQ; split <;> simp
  have HOFT := Lib.hid (of_T (f := f) (i := i) (s := s') turn hfm hs')
  have HMORE := Lib.hid (fun u => of_T_more f i s' turn hfm more u)
  have hown := HOW.out
  rcases hown.2 with ⟨_, h0⟩ | ⟨g, cap, cur, rfl, hgB, hgg, hle, hcm, hsz, htk⟩
  · omega
  have hfl2 := first_last htk
  have HTURN := Lib.hid (fun C1 C2 h2 h3 => turn_cells (C1 := C1) (C2 := C2) htk (by omega) h2 h3)
  have HRD0 : Hid (RdC wc (some ⟨g, 0, none⟩) (((fmtB, f) :: (midQ f s' ++ [lastQ f i])).flatMap row6)) := Lib.hid (by
    obtain ⟨a, c, he, h, _⟩ := RdC.of_own hown
    simp only [Value.slice.injEq] at he
    rw [he.1]
    exact h)
  have HQB := Lib.hid hqb
  have HMT := Lib.hid hmt
  obtain ⟨⟨y1, y2⟩, hy⟩ : ∃ y, lastQ f i = y := ⟨_, rfl⟩
  rw [hy] at hfl2 HTURN HQB HMT HRD0 htk
  obtain ⟨mid, hmid⟩ : ∃ m, midQ f s' = m := ⟨_, rfl⟩
  rw [hmid] at hfl2 HTURN HQB HMT HRD0 hle hmidl htk ⊢
  obtain ⟨x1, hx1⟩ : ∃ x, fmtB = x := ⟨_, rfl⟩
  rw [hx1] at hfl2 HTURN HQB HMT HRD0 htk
  obtain ⟨L, hL⟩ : ∃ n, mid.length + 1 = n := ⟨_, rfl⟩
  obtain ⟨N, hN⟩ : ∃ n, mid.length + 2 = n := ⟨_, rfl⟩
  have hNL1 : N ≤ L + 1 := by omega
  have hNL2 : L + 1 ≤ N := by omega
  have hN3 : N ≤ 3 := by omega
  have hcurs : N * 6 ≤ cur.size := by
    rw [hsz]
    omega
  rw [hN] at hle ⊢
  have HN := Lib.hid hN
  rw [hL] at hfl2 HTURN
  obtain ⟨hfx, hfy⟩ := hfl2
  have HFX := Lib.hid hfx
  have HFY := Lib.hid hfy
  have HGG := Lib.hid hgg
  clear hmt hqb hown hsz htk hfx hfy hy hmid hx1 hL hN hgg hs' HOW hcm hmidl
  obtain ⟨wT, rfl⟩ : ∃ x : World, x = wc := ⟨_, rfl⟩
  go_step
  go_upto_if 63 with (fail)
  go_cut [11] (fun x11 wc => x11 = .slice (some ⟨g, 0, none⟩) N cap ∧ Hid (RdC wc (some ⟨g, 0, none⟩) ((turnQ (x1, f) (y1, y2) mid turn).flatMap row6)) ∧ Hid (Below g1 w2 wc))
  case first =>
    cases turn with
    | false =>
      go_wp2_with fail
      go_meet
      exact ⟨rfl, HRD0, HBC⟩
    | true =>
      obtain ⟨x2, hx2⟩ : ∃ x, f = x := ⟨_, rfl⟩
      have HYC : Hid (wT.drew.cell? ⟨g, L * 6, none⟩ = some (.string ⟨y1.toArray⟩) ∧ wT.drew.cell? ⟨g, L * 6 + 1, none⟩ = some (.int .i64 4) ∧ wT.drew.cell? ⟨g, L * 6 + 2, none⟩ = some (.bool false) ∧ wT.drew.cell? ⟨g, L * 6 + 3, none⟩ = some (.string ⟨y2.toArray⟩) ∧ wT.drew.cell? ⟨g, L * 6 + 4, none⟩ = some (.slice none 0 0) ∧ wT.drew.cell? ⟨g, L * 6 + 5, none⟩ = some (.slice none 0 0)) := Lib.hid (by
        have hc : ∀ o, wT.drew.cell? ⟨g, o, none⟩ = cur[o]? := fun o => Lib.cell_of_heap (w := wT.drew) HGG.out o
        refine ⟨?_, ?_, ?_, ?_, ?_, ?_⟩
        · rw [hc]; exact HFY.out 0 (by decide)
        · rw [hc]; exact HFY.out 1 (by decide)
        · rw [hc]; exact HFY.out 2 (by decide)
        · rw [hc]; exact HFY.out 3 (by decide)
        · rw [hc]; exact HFY.out 4 (by decide)
        · rw [hc]; exact HFY.out 5 (by decide))
      have HXC : Hid (wT.drew.cell? ⟨g, 0, none⟩ = some (.string ⟨x1.toArray⟩) ∧ wT.drew.cell? ⟨g, 1, none⟩ = some (.int .i64 4) ∧ wT.drew.cell? ⟨g, 2, none⟩ = some (.bool false) ∧ wT.drew.cell? ⟨g, 3, none⟩ = some (.string ⟨x2.toArray⟩) ∧ wT.drew.cell? ⟨g, 4, none⟩ = some (.slice none 0 0) ∧ wT.drew.cell? ⟨g, 5, none⟩ = some (.slice none 0 0)) := Lib.hid (by
        have hc : ∀ o, wT.drew.cell? ⟨g, o, none⟩ = cur[o]? := fun o => Lib.cell_of_heap (w := wT.drew) HGG.out o
        rw [← hx2]
        refine ⟨?_, ?_, ?_, ?_, ?_, ?_⟩
        · rw [hc]; exact HFX.out 0 (by decide)
        · rw [hc]; exact HFX.out 1 (by decide)
        · rw [hc]; exact HFX.out 2 (by decide)
        · rw [hc]; exact HFX.out 3 (by decide)
        · rw [hc]; exact HFX.out 4 (by decide)
        · rw [hc]; exact HFX.out 5 (by decide))
      obtain ⟨C1, hC1⟩ : ∃ C, (cur.toList.take 0 ++ row6 (y1, y2) ++ cur.toList.drop (0 + (row6 (y1, y2)).length)).toArray = C := ⟨_, rfl⟩
      obtain ⟨C2, hC2⟩ : ∃ C, (C1.toList.take (L * 6) ++ row6 (x1, x2) ++ C1.toList.drop (L * 6 + (row6 (x1, x2)).length)).toArray = C := ⟨_, rfl⟩
      obtain ⟨hz1, hz2, hcell2⟩ := HTURN.out C1 C2 hC1.symm (by rw [hx2]; exact hC2.symm)
      have HC1 := Lib.hid hC1
      have HC2 := Lib.hid hC2
      have HG : Hid (wT.drew.heap[g]? = some (.cells cur 35 (0, 0))) := Lib.hid HGG.out
      have HG1 : Hid ((wT.drew.setRow g C1).heap[g]? = some (.cells C1 35 (0, 0))) := Lib.hid (setRow_at HG.out)
      have HCELL2 := Lib.hid hcell2
      have hz1' : cur.size ≤ C1.size := by omega
      have HX2 := Lib.hid hx2
      clear hC1 hC2 hz1 hz2 hcell2 hx2
      go_upto_region 17 with (fail)
      refine wp_region_fix (by kernel_rfl) (by kernel_rfl) [some 64, some 65, some 66, some 67, some 68, some 69, some 70, some 71, some 72, some 73, some 74, some 75, some 76, some 77, some 78, none, some 79, none] rfl [64, 65, 66, 67, 68, 69, 70, 71, 72, 73, 74, 75, 76, 77, 78, 79] (by kernel_rfl) (by kernel_rfl) (fun i => [Value.slice (some ⟨g, 0, none⟩) N cap, Value.slice (some ⟨g, 0, none⟩) N cap, Value.slice (some ⟨g, 0, none⟩) N cap, Value.int IntKind.i64 (N : Int), Value.int IntKind.i64 (L : Int), Value.slice (some ⟨g, 0, none⟩) N cap, Value.slice (some ⟨g, 0, none⟩) N cap, Value.int IntKind.i64 (N : Int), Value.int IntKind.i64 (L : Int), Value.pointer (some ⟨g, L * 6, none⟩), Value.agg #[Value.string ⟨y1.toArray⟩, Value.int IntKind.i64 4, Value.bool false, Value.string ⟨y2.toArray⟩, Value.slice none 0 0, Value.slice none 0 0], Value.slice (some ⟨g, 0, none⟩) N cap, Value.pointer (some ⟨g, 0, none⟩), Value.agg #[Value.string ⟨x1.toArray⟩, Value.int IntKind.i64 4, Value.bool false, Value.string ⟨x2.toArray⟩, Value.slice none 0 0, Value.slice none 0 0], Value.pointer (some ⟨g, 0, none⟩), undef, Value.pointer (some ⟨g, L * 6, none⟩), undef].getD i undef) (stW wT.drew (wT.drew.setRow g C1) ((wT.drew.setRow g C1).setRow g C2)) rfl ?_ ?_
      · intro b a' i o ho hbi hcl hdi hf hv
        rcases i with _ | _ | _ | _ | _ | _ | _ | _ | _ | _ | _ | _ | _ | _ | _ | _ | _ | _ | i
        · cases ho
          have f11 : a'.tmps.getD 11 undef = .slice (some ⟨g, 0, none⟩) N cap := (hf.same 11 (by decide)).trans rfl
          refine op_step rfl rfl (op_value (v := Value.slice (some ⟨g, 0, none⟩) N cap) (w' := stW wT.drew (wT.drew.setRow g C1) ((wT.drew.setRow g C1).setRow g C2) b) ?_ ⟨rfl, (stW_other (by decide) (by decide)).symm⟩)
          simp only [execOp, Act.eval, f11]
          go_simp
        · cases ho
          have f11 : a'.tmps.getD 11 undef = .slice (some ⟨g, 0, none⟩) N cap := (hf.same 11 (by decide)).trans rfl
          refine op_step rfl rfl (op_value (v := Value.slice (some ⟨g, 0, none⟩) N cap) (w' := stW wT.drew (wT.drew.setRow g C1) ((wT.drew.setRow g C1).setRow g C2) b) ?_ ⟨rfl, (stW_other (by decide) (by decide)).symm⟩)
          simp only [execOp, Act.eval, f11]
          go_simp
        · cases ho
          have f11 : a'.tmps.getD 11 undef = .slice (some ⟨g, 0, none⟩) N cap := (hf.same 11 (by decide)).trans rfl
          refine op_step rfl rfl (op_value (v := Value.slice (some ⟨g, 0, none⟩) N cap) (w' := stW wT.drew (wT.drew.setRow g C1) ((wT.drew.setRow g C1).setRow g C2) b) ?_ ⟨rfl, (stW_other (by decide) (by decide)).symm⟩)
          simp only [execOp, Act.eval, f11]
          go_simp
        · cases ho
          have e2 : a'.tmps.getD 66 undef = .slice (some ⟨g, 0, none⟩) N cap := hv 2 66 (hdi 2 (of_decide_eq_true (by kernel_rfl))) rfl
          refine op_step rfl rfl (op_value (v := Value.int IntKind.i64 (N : Int)) (w' := stW wT.drew (wT.drew.setRow g C1) ((wT.drew.setRow g C1).setRow g C2) b) ?_ ⟨rfl, (stW_other (by decide) (by decide)).symm⟩)
          simp only [execOp]
          go_simp
        · cases ho
          have e3 : a'.tmps.getD 67 undef = .int .i64 (N : Int) := hv 3 67 (hdi 3 (of_decide_eq_true (by kernel_rfl))) rfl
          refine op_step rfl rfl (op_value (v := Value.int IntKind.i64 (L : Int)) (w' := stW wT.drew (wT.drew.setRow g C1) ((wT.drew.setRow g C1).setRow g C2) b) ?_ ⟨rfl, (stW_other (by decide) (by decide)).symm⟩)
          simp only [execOp, Act.eval, e3]
          go_simp
          rw [IntWalk.i64_in _ (by omega)]
          omega
        · cases ho
          have f11 : a'.tmps.getD 11 undef = .slice (some ⟨g, 0, none⟩) N cap := (hf.same 11 (by decide)).trans rfl
          refine op_step rfl rfl (op_value (v := Value.slice (some ⟨g, 0, none⟩) N cap) (w' := stW wT.drew (wT.drew.setRow g C1) ((wT.drew.setRow g C1).setRow g C2) b) ?_ ⟨rfl, (stW_other (by decide) (by decide)).symm⟩)
          simp only [execOp, Act.eval, f11]
          go_simp
        · cases ho
          have f11 : a'.tmps.getD 11 undef = .slice (some ⟨g, 0, none⟩) N cap := (hf.same 11 (by decide)).trans rfl
          refine op_step rfl rfl (op_value (v := Value.slice (some ⟨g, 0, none⟩) N cap) (w' := stW wT.drew (wT.drew.setRow g C1) ((wT.drew.setRow g C1).setRow g C2) b) ?_ ⟨rfl, (stW_other (by decide) (by decide)).symm⟩)
          simp only [execOp, Act.eval, f11]
          go_simp
        · cases ho
          have e6 : a'.tmps.getD 70 undef = .slice (some ⟨g, 0, none⟩) N cap := hv 6 70 (hdi 6 (of_decide_eq_true (by kernel_rfl))) rfl
          refine op_step rfl rfl (op_value (v := Value.int IntKind.i64 (N : Int)) (w' := stW wT.drew (wT.drew.setRow g C1) ((wT.drew.setRow g C1).setRow g C2) b) ?_ ⟨rfl, (stW_other (by decide) (by decide)).symm⟩)
          simp only [execOp]
          go_simp
        · cases ho
          have e7 : a'.tmps.getD 71 undef = .int .i64 (N : Int) := hv 7 71 (hdi 7 (of_decide_eq_true (by kernel_rfl))) rfl
          refine op_step rfl rfl (op_value (v := Value.int IntKind.i64 (L : Int)) (w' := stW wT.drew (wT.drew.setRow g C1) ((wT.drew.setRow g C1).setRow g C2) b) ?_ ⟨rfl, (stW_other (by decide) (by decide)).symm⟩)
          simp only [execOp, Act.eval, e7]
          go_simp
          rw [IntWalk.i64_in _ (by omega)]
          omega
        · cases ho
          have e5 : a'.tmps.getD 69 undef = .slice (some ⟨g, 0, none⟩) N cap := hv 5 69 (hdi 5 (of_decide_eq_true (by kernel_rfl))) rfl
          have e8 : a'.tmps.getD 72 undef = .int .i64 (L : Int) := hv 8 72 (hdi 8 (of_decide_eq_true (by kernel_rfl))) rfl
          refine op_step rfl rfl (op_value (v := Value.pointer (some ⟨g, L * 6, none⟩)) (w' := stW wT.drew (wT.drew.setRow g C1) ((wT.drew.setRow g C1).setRow g C2) b) ?_ ⟨rfl, (stW_other (by decide) (by decide)).symm⟩)
          simp only [execOp, Act.eval, e5, e8]
          go_simp
          exact fun h => absurd h (by omega)
        · cases ho
          have e9 : a'.tmps.getD 73 undef = .pointer (some ⟨g, L * 6, none⟩) := hv 9 73 (hdi 9 (of_decide_eq_true (by kernel_rfl))) rfl
          have hb15 : b 15 = false := by cases h : b 15 with | false => rfl | true => exact absurd (hcl 15 h 10 (of_decide_eq_true (by kernel_rfl))) (by simp [hbi])
          have hb17 : b 17 = false := by cases h : b 17 with | false => rfl | true => exact absurd (hcl 17 h 15 (of_decide_eq_true (by kernel_rfl))) (by simp [hb15])
          refine op_step rfl rfl (op_value (v := Value.agg #[Value.string ⟨y1.toArray⟩, Value.int IntKind.i64 4, Value.bool false, Value.string ⟨y2.toArray⟩, Value.slice none 0 0, Value.slice none 0 0]) (w' := stW wT.drew (wT.drew.setRow g C1) ((wT.drew.setRow g C1).setRow g C2) b) ?_ ⟨rfl, (stW_other (by decide) (by decide)).symm⟩)
          rw [stW_none hb15 hb17]
          simp only [execOp, Act.eval, e9]
          obtain ⟨c0, c1, c2, c3, c4, c5⟩ := HYC.out
          go_simp
        · cases ho
          have f11 : a'.tmps.getD 11 undef = .slice (some ⟨g, 0, none⟩) N cap := (hf.same 11 (by decide)).trans rfl
          refine op_step rfl rfl (op_value (v := Value.slice (some ⟨g, 0, none⟩) N cap) (w' := stW wT.drew (wT.drew.setRow g C1) ((wT.drew.setRow g C1).setRow g C2) b) ?_ ⟨rfl, (stW_other (by decide) (by decide)).symm⟩)
          simp only [execOp, Act.eval, f11]
          go_simp
        · cases ho
          have e11 : a'.tmps.getD 75 undef = .slice (some ⟨g, 0, none⟩) N cap := hv 11 75 (hdi 11 (of_decide_eq_true (by kernel_rfl))) rfl
          refine op_step rfl rfl (op_value (v := Value.pointer (some ⟨g, 0, none⟩)) (w' := stW wT.drew (wT.drew.setRow g C1) ((wT.drew.setRow g C1).setRow g C2) b) ?_ ⟨rfl, (stW_other (by decide) (by decide)).symm⟩)
          simp only [execOp, Act.eval, e11]
          go_simp
          exact fun h => absurd h (by omega)
        · cases ho
          have e12 : a'.tmps.getD 76 undef = .pointer (some ⟨g, 0, none⟩) := hv 12 76 (hdi 12 (of_decide_eq_true (by kernel_rfl))) rfl
          have hb15 : b 15 = false := by cases h : b 15 with | false => rfl | true => exact absurd (hcl 15 h 13 (of_decide_eq_true (by kernel_rfl))) (by simp [hbi])
          have hb17 : b 17 = false := by cases h : b 17 with | false => rfl | true => exact absurd (hcl 17 h 15 (of_decide_eq_true (by kernel_rfl))) (by simp [hb15])
          refine op_step rfl rfl (op_value (v := Value.agg #[Value.string ⟨x1.toArray⟩, Value.int IntKind.i64 4, Value.bool false, Value.string ⟨x2.toArray⟩, Value.slice none 0 0, Value.slice none 0 0]) (w' := stW wT.drew (wT.drew.setRow g C1) ((wT.drew.setRow g C1).setRow g C2) b) ?_ ⟨rfl, (stW_other (by decide) (by decide)).symm⟩)
          rw [stW_none hb15 hb17]
          simp only [execOp, Act.eval, e12]
          obtain ⟨c0, c1, c2, c3, c4, c5⟩ := HXC.out
          go_simp
        · cases ho
          have e0 : a'.tmps.getD 64 undef = .slice (some ⟨g, 0, none⟩) N cap := hv 0 64 (hdi 0 (of_decide_eq_true (by kernel_rfl))) rfl
          refine op_step rfl rfl (op_value (v := Value.pointer (some ⟨g, 0, none⟩)) (w' := stW wT.drew (wT.drew.setRow g C1) ((wT.drew.setRow g C1).setRow g C2) b) ?_ ⟨rfl, (stW_other (by decide) (by decide)).symm⟩)
          simp only [execOp, Act.eval, e0]
          go_simp
          exact fun h => absurd h (by omega)
        · cases ho
          have e14 : a'.tmps.getD 78 undef = .pointer (some ⟨g, 0, none⟩) := hv 14 78 (hdi 14 (of_decide_eq_true (by kernel_rfl))) rfl
          have e10 : a'.tmps.getD 74 undef = .agg #[.string ⟨y1.toArray⟩, .int .i64 4, .bool false, .string ⟨y2.toArray⟩, .slice none 0 0, .slice none 0 0] := hv 10 74 (hdi 10 (of_decide_eq_true (by kernel_rfl))) rfl
          have hb17 : b 17 = false := by cases h : b 17 with | false => rfl | true => exact absurd (hcl 17 h 15 (of_decide_eq_true (by kernel_rfl))) (by simp [hbi])
          refine op_step rfl rfl (op_store 35 (.tmp 78) (.tmp 74) rfl rfl g 0 (row6 (y1, y2)) e14 e10 35 cur (by rw [stW_none hbi hb17]; exact HG.out) (by kernel_rfl) (by rw [row6_len]; omega) (row6_one _) ?_)
          refine ⟨rfl, ?_⟩
          rw [stW_none hbi hb17, stW_one hb17, HC1.out]
        · cases ho
          have e1 : a'.tmps.getD 65 undef = .slice (some ⟨g, 0, none⟩) N cap := hv 1 65 (hdi 1 (of_decide_eq_true (by kernel_rfl))) rfl
          have e4 : a'.tmps.getD 68 undef = .int .i64 (L : Int) := hv 4 68 (hdi 4 (of_decide_eq_true (by kernel_rfl))) rfl
          refine op_step rfl rfl (op_value (v := Value.pointer (some ⟨g, L * 6, none⟩)) (w' := stW wT.drew (wT.drew.setRow g C1) ((wT.drew.setRow g C1).setRow g C2) b) ?_ ⟨rfl, (stW_other (by decide) (by decide)).symm⟩)
          simp only [execOp, Act.eval, e1, e4]
          go_simp
          exact fun h => absurd h (by omega)
        · cases ho
          have e16 : a'.tmps.getD 79 undef = .pointer (some ⟨g, L * 6, none⟩) := hv 16 79 (hdi 16 (of_decide_eq_true (by kernel_rfl))) rfl
          have e13 : a'.tmps.getD 77 undef = .agg #[.string ⟨x1.toArray⟩, .int .i64 4, .bool false, .string ⟨x2.toArray⟩, .slice none 0 0, .slice none 0 0] := hv 13 77 (hdi 13 (of_decide_eq_true (by kernel_rfl))) rfl
          have hb15 : b 15 = true := hdi 15 (of_decide_eq_true (by kernel_rfl))
          refine op_step rfl rfl (op_store 35 (.tmp 79) (.tmp 77) rfl rfl g (L * 6) (row6 (x1, x2)) e16 e13 35 C1 (by rw [stW_first hb15 hbi]; exact HG1.out) (by kernel_rfl) (by rw [row6_len]; omega) (row6_one _) ?_)
          refine ⟨rfl, ?_⟩
          rw [stW_first hb15 hbi, stW_two, HC2.out]
        · simp at ho
      · intro b a' hdone hf hv
        obtain rfl := hf.eq [Value.slice (some ⟨g, 0, none⟩) N cap, Value.slice (some ⟨g, 0, none⟩) N cap, Value.slice (some ⟨g, 0, none⟩) N cap, Value.int IntKind.i64 (N : Int), Value.int IntKind.i64 (L : Int), Value.slice (some ⟨g, 0, none⟩) N cap, Value.slice (some ⟨g, 0, none⟩) N cap, Value.int IntKind.i64 (N : Int), Value.int IntKind.i64 (L : Int), Value.pointer (some ⟨g, L * 6, none⟩), Value.agg #[Value.string ⟨y1.toArray⟩, Value.int IntKind.i64 4, Value.bool false, Value.string ⟨y2.toArray⟩, Value.slice none 0 0, Value.slice none 0 0], Value.slice (some ⟨g, 0, none⟩) N cap, Value.pointer (some ⟨g, 0, none⟩), Value.agg #[Value.string ⟨x1.toArray⟩, Value.int IntKind.i64 4, Value.bool false, Value.string ⟨x2.toArray⟩, Value.slice none 0 0, Value.slice none 0 0], Value.pointer (some ⟨g, 0, none⟩), Value.pointer (some ⟨g, L * 6, none⟩)] (fun j hj => match j, hj with
          | 0, _ => hv 0 64 rfl
          | 1, _ => hv 1 65 rfl
          | 2, _ => hv 2 66 rfl
          | 3, _ => hv 3 67 rfl
          | 4, _ => hv 4 68 rfl
          | 5, _ => hv 5 69 rfl
          | 6, _ => hv 6 70 rfl
          | 7, _ => hv 7 71 rfl
          | 8, _ => hv 8 72 rfl
          | 9, _ => hv 9 73 rfl
          | 10, _ => hv 10 74 rfl
          | 11, _ => hv 11 75 rfl
          | 12, _ => hv 12 76 rfl
          | 13, _ => hv 13 77 rfl
          | 14, _ => hv 14 78 rfl
          | 15, _ => hv 16 79 rfl
          | k + 16, h => absurd h (by simp)) (by decide) (by kernel_rfl) rfl
        simp only [List.zip_cons_cons, List.zip_nil_right, List.foldl_cons, List.foldl_nil, Act.put, List.setIfInBounds_toArray, List.set_cons_succ, List.set_cons_zero]
        rw [stW_all (hdone 17 (by decide))]
        have HW2 : Hid (((wT.drew.setRow g C1).setRow g C2).heap[g]? = some (.cells C2 35 (0, 0))) := Lib.hid (setRow_at HG1.out)
        have hbd : Below g1 w2 wT.drew := HBC.out.trans ⟨rfl, rfl, rfl, Nat.le_refl _, fun _ _ => rfl⟩
        have HBW : Hid (Below g1 w2 ((wT.drew.setRow g C1).setRow g C2)) := Lib.hid (below_setRow (below_setRow hbd hgB C1) hgB C2)
        clear hdone hf hv
        go_wp2_with fail
        go_meet
        refine ⟨rfl, Lib.hid (.inr ⟨g, 0, rfl, fun k u hu => ?_⟩), HBW⟩
        rw [Nat.zero_add, Lib.cell_of_heap HW2.out]
        exact HCELL2.out k u hu
  case rest =>
  obtain ⟨rfl, HRQ, HBQ⟩ := hcut
  clear HBC HRD0 HFX HFY HTURN HGG hcurs
  go_step
  obtain ⟨w7, rfl⟩ : ∃ x : World, x = wc := ⟨_, rfl⟩
  have hql : (turnQ (x1, f) (y1, y2) mid turn).length = N := by rw [turnQ_len, HN.out]
  obtain ⟨q, hq⟩ : ∃ q, turnQ (x1, f) (y1, y2) mid turn = q := ⟨_, rfl⟩
  rw [hq] at HRQ HQB HMT hql
  have HB7 := Lib.hid (HB2.out.trans (HBQ.out.mono hwg))
  have HP7 : Hid (Pow w7) := Lib.hid (HP2.out.below (by rw [HG1W.out]; exact HBQ.out))
  have hmql : (mq q).length = N := by rw [← hql]; simp [mq]
  have hszq : sizeM (mq q) ≤ 3 * 602 := by
    have h := q_size q 300 HQB.out
    have : q.length * (2 * 300 + 2) ≤ 3 * 602 := Nat.mul_le_mul (by omega) (by omega)
    omega
  have hrdo : RdO (fun _ => True) w7 (some ⟨g, 0, none⟩) (memCells (mq q) (cq q)) := by
    rw [memCells_q]
    rcases HRQ.out with h | ⟨b, off, e, h⟩
    · exact .inl h
    · exact .inr ⟨b, off, e, trivial, h⟩
  have hob := obj_any (fun _ => True) (some ⟨g, 0, none⟩) cap (mq q) (cq q) w7 hrdo (cq_reps _ w7 q) (by omega) (fun e => by cases e)
  rw [hmql] at hob
  have HOB := Lib.hid hob
  have hvs : sizeJ (jobj (mq q)) ≤ 2000 := by simp only [jobj, sizeJ, sizeL, List.length_nil]; omega
  have HOF := Lib.hid (fun ok cs w' h => of_any (jobj (mq q)) (by omega) ok cs w' h)
  have hoft := HOFT.out
  rw [HMT.out] at hoft
  have HMO := Lib.hid (fun u => by have := HMORE.out u; rw [HMT.out] at this; exact this)
  obtain ⟨⟨⟨p1, p2, p3⟩, E⟩, hE⟩ : ∃ x, ofS (jobj (mq q)) = x := ⟨_, rfl⟩
  rw [hE] at HOF hoft
  have HOE := Lib.hid hoft
  have hrr := refright_any f i s'
  have HRF := Lib.hid (fun w' => hrr w' (by omega) (by omega))
  rw [ref_right] at HRF
  obtain ⟨R, hR⟩ : ∃ r, rightS f i s' = r := ⟨_, rfl⟩
  rw [hR] at HRF HOE
  clear hq hrdo hob hoft hrr hE hR HOFT HMORE HMT HBQ HP2 HB2 HG1W
  unfold OfIs at HOF
  simp only at HOF
  go_wp2_with fail
  refine HOB.out.mono ?_
  rintro e w8 ⟨hb8, cs, rfl, hrep⟩
  have HB8 := Lib.hid (HB7.out.trans (hb8.mono HB7.out.size))
  have HP8 := Lib.hid (HP7.out.below hb8)
  have HRQ8 := Lib.hid (HRQ.out.below hb8)
  have HREP := Lib.hid hrep
  clear hb8 hrep HOB HB7 HP7 HRQ
  go_wp2_with fail
  refine (HOF.out _ cs w8 HREP.out).mono ?_
  rintro e w9 ⟨rfl, hb9⟩
  have HB9 := Lib.hid (HB8.out.trans (hb9.mono HB8.out.size))
  have HP9 := Lib.hid (HP8.out.below hb9)
  have HRQ9 := Lib.hid (HRQ8.out.below hb9)
  clear hb9 HREP HB8 HP8 HRQ8 HOF
  obtain ⟨b1, hb1⟩ : ∃ b, w9.heap.size = b := ⟨_, rfl⟩
  go_upto_region 19 with (fail)
  generalize hwA : w9.alloc _ = wA
  have hbA : Below w9.heap.size w9 wA := by rw [← hwA]; exact (Below.refl _ _).alloc (Nat.le_refl _) _
  have hxA : wA.heap[b1]? = some (.cells #[.string ⟨p1.toArray⟩, .string ⟨p2.toArray⟩, .string ⟨p3.toArray⟩] 46 (0, 0)) := by rw [← hwA, ← hb1]; exact heap_alloc_new _ _
  have hsA : b1 < wA.heap.size := (Array.getElem?_eq_some_iff.1 hxA).1
  have hb1A := hsA
  have HXA := Lib.hid hxA
  have HBA := Lib.hid (HB9.out.trans (hbA.mono HB9.out.size))
  have HPA := Lib.hid (HP9.out.below hbA)
  have HRQA := Lib.hid (HRQ9.out.below hbA)
  have hwwA := HBA.out.size
  clear hwA hbA hxA hb1 HB9 HP9 HRQ9
  have hoE : (wA.alloc (.cells #[] 35)).ownsRow wA.heap.size 35 6 (.slice (some ⟨wA.heap.size, 0, none⟩) 0 0) 0 [] := World.ownsRow_made wA #[] 0 (Nat.le_refl _) (by decide) rfl
  have hbE : Below wA.heap.size wA (wA.alloc (.cells #[] 35)) := (Below.refl _ _).alloc (Nat.le_refl _) _
  have HOE2 := Lib.hid hoE
  have HBE := Lib.hid hbE
  have HRQE := Lib.hid (HRQA.out.below hbE)
  have hsz := hbE.size
  have hqf := flat6_len q
  have hq1 := flat6_one q
  clear hoE hbE
  obtain ⟨QR, hQR⟩ : ∃ r, q.flatMap row6 = r := ⟨_, rfl⟩
  rw [hQR] at hqf hq1 HRQE
  have HQ1 := Lib.hid hq1
  have HQF := Lib.hid (show QR.length = N * 6 by rw [hqf, hql])
  have HQR := Lib.hid hQR
  clear hQR hqf hq1
  go_wp2_with (at_builtin; refine wpList_append_rows rfl (.tmp 87) (.tmp 88) 24 rfl wA.heap.size 35 6 96 Tryz.underlying24 (by kernel_rfl) (by decide) _ 0 [] rfl HOE2.out ⟨g, 0, none⟩ N cap QR rfl HQF.out ?c1 HQ1.out ?c3 ?c4 ?c5 ?_)
  case c1 =>
    intro j u hu
    rcases HRQE.out with h | ⟨b, off, e, h⟩
    · rw [h] at hu; simp at hu
    · cases e
      rw [Addr.add_lit]
      exact h j u hu
  case c3 => omega
  case c4 => omega
  case c5 => exact hsz
  intro v1 wB hownB hgrowB _
  have hbB := below_own HBE.out HOE2.out hgrowB hsz
  have HBB := Lib.hid (HBA.out.trans (hbB.mono HBA.out.size))
  have HPB := Lib.hid (HPA.out.below hbB)
  have HXB := Lib.hid ((hbB.block _ hsA).trans HXA.out)
  have hsB : b1 < wB.heap.size := Nat.lt_of_lt_of_le hsA hbB.size
  have hsAB : wA.heap.size ≤ wB.heap.size := hbB.size
  have HOWB := Lib.hid hownB
  clear hownB hgrowB hbB HOE2 HBE HRQE HRQA HBA HPA HXA hsA
  have hnu := jnum_fn 1 (by decide) (by decide) wB HPB.out
  obtain ⟨I1, hI1⟩ : ∃ I, Lib.itoa 1 = I := ⟨_, rfl⟩
  rw [hI1] at hnu
  have hi1 : I1.length ≤ 30 := by rw [← hI1]; decide +kernel
  have HNU := Lib.hid hnu
  clear hnu hI1 HPB
  go_wp2_with fail
  refine HNU.out.mono ?_
  rintro e wC ⟨rfl, hbC⟩
  have HBC := Lib.hid (HBB.out.trans (hbC.mono HBB.out.size))
  have HXC := Lib.hid ((hbC.block _ hsB).trans HXB.out)
  have hsC : b1 < wC.heap.size := Nat.lt_of_lt_of_le hsB hbC.size
  have HOWC := Lib.hid (own_below HOWB.out hbC)
  have hsAC : wA.heap.size ≤ wC.heap.size := Nat.le_trans hsAB hbC.size
  clear hbC HNU HBB HXB hsB HOWB hsAB
  go_wp2_with (at_builtin; refine wpList_append_rows rfl (.tmp 89) (.tmp 93) 24 rfl wA.heap.size 35 6 96 Tryz.underlying24 (by kernel_rfl) (by decide) _ N QR rfl (HOWC.out.alloc _) ⟨wC.heap.size, 0, none⟩ 1 1 [.string ⟨more.toArray⟩, .int .i64 3, .bool false, .string ⟨I1.toArray⟩, .slice none 0 0, .slice none 0 0] rfl rfl ?c1 ?c2 ?c3 ?c4 ?c5 ?_)
  case c1 =>
    intro j u hu
    rw [Addr.add_lit, Lib.cell_of_heap (heap_alloc_new wC _)]
    simpa using hu
  case c2 => intro u hu; simp only [List.mem_cons, List.mem_nil_iff, or_false] at hu; rcases hu with rfl | rfl | rfl | rfl | rfl | rfl <;> rfl
  case c3 => omega
  case c4 => omega
  case c5 => simp; omega
  intro v2 wD hownD hgrowD _
  have hbCD := (Below.refl wC.heap.size wC).alloc (Nat.le_refl _) (.cells #[.string ⟨more.toArray⟩, .int .i64 3, .bool false, .string ⟨I1.toArray⟩, .slice none 0 0, .slice none 0 0] 35)
  have hbD : Below wA.heap.size wC wD := below_own (hbCD.mono hsAC) (HOWC.out.alloc _) hgrowD (by simp; omega)
  obtain ⟨ra, rc, rfl, hrd, hle2⟩ := own_rd hownD
  have hcs2 : memCells (mq q ++ [(more, jnum I1)]) (cq q ++ [[.int .i64 3, .bool false, .string ⟨I1.toArray⟩, .slice none 0 0, .slice none 0 0]]) = QR ++ [.string ⟨more.toArray⟩, .int .i64 3, .bool false, .string ⟨I1.toArray⟩, .slice none 0 0, .slice none 0 0] := by
    rw [memCells_snoc _ _ _ _ _ (by simp [mq, cq]), memCells_q, HQR.out]
    rfl
  rw [← hcs2] at hrd
  have hreps2 : RepsM (fun _ => True) wD (cq q ++ [[.int .i64 3, .bool false, .string ⟨I1.toArray⟩, .slice none 0 0, .slice none 0 0]]) (mq q ++ [(more, jnum I1)]) := (cq_reps _ wD q).snoc (Rep.leaf _ wD 3 false I1)
  have hml2 : (mq q ++ [(more, jnum I1)]).length = N + 1 := by rw [List.length_append, hmql]; rfl
  have hob2 := obj_any (fun _ => True) ra rc _ _ wD (hrd.mono fun _ _ => trivial) hreps2 (by omega) (fun e => by
    subst e
    rcases hrd with h | ⟨b, off, e, _⟩
    · have h1 := congrArg List.length hcs2
      rw [h] at h1
      simp at h1
    · cases e)
  rw [hml2] at hob2
  have HOB2 := Lib.hid hob2
  have hvs2 : sizeJ (jobj (mq q ++ [(more, jnum I1)])) ≤ 3000 := by
    have : ∀ a b : List (List UInt8 × JV), sizeM (a ++ b) = sizeM a + sizeM b := by
      intro a b
      induction a with
      | nil => simp [sizeM]
      | cons x a ih => obtain ⟨k, v⟩ := x; rw [List.cons_append, sizeM, sizeM, ih]; omega
    simp only [jobj, sizeJ, sizeL, List.length_nil, this, sizeM, jnum]
    omega
  have HOF2 := Lib.hid (fun ok cs w' h => of_any (jobj (mq q ++ [(more, jnum I1)])) (by omega) ok cs w' h)
  have hmo2 := HMO.out (jnum I1)
  obtain ⟨⟨⟨p4, p5, p6⟩, E2⟩, hE2⟩ : ∃ x, ofS (jobj (mq q ++ [(more, jnum I1)])) = x := ⟨_, rfl⟩
  rw [hE2] at HOF2 hmo2
  change E2 ≠ 0 at hmo2
  unfold OfIs at HOF2
  simp only at HOF2
  have HBD := Lib.hid (show Below w.heap.size w wD from HBC.out.trans (hbD.mono hwwA))
  have HXD : Hid (wD.heap[b1]? = some (.cells #[.string ⟨p1.toArray⟩, .string ⟨p2.toArray⟩, .string ⟨p3.toArray⟩] 46 (0, 0))) := Lib.hid ((hbD.block b1 (by omega)).trans HXC.out)
  have hsD : b1 < wD.heap.size := Nat.lt_of_lt_of_le hsC hbD.size
  clear hownD hgrowD hbCD hbD hrd hle2 hcs2 hreps2 hob2 hvs2 hE2 HMO HBC HXC hsC HOWC hsAC HQR HQ1 HQF HQB hvs hszq
  go_wp2_with fail
  refine HOB2.out.mono ?_
  rintro e wE ⟨hbE, cs2, rfl, hrep2⟩
  have HBE := Lib.hid (HBD.out.trans (hbE.mono HBD.out.size))
  have HXE := Lib.hid ((hbE.block _ hsD).trans HXD.out)
  have hsE : b1 < wE.heap.size := Nat.lt_of_lt_of_le hsD hbE.size
  have HREP2 := Lib.hid hrep2
  clear hbE hrep2 HOB2 HBD HXD hsD
  go_wp2_with fail
  refine (HOF2.out _ cs2 wE HREP2.out).mono ?_
  rintro e wF ⟨rfl, hbF⟩
  have HBF := Lib.hid (HBE.out.trans (hbF.mono HBE.out.size))
  have HXF := Lib.hid ((hbF.block _ hsE).trans HXE.out)
  have hsF : b1 < wF.heap.size := Nat.lt_of_lt_of_le hsE hbF.size
  clear hbF HREP2 HOF2 HBE HXE hsE
  go_upto_region 20 with (fail)
  generalize hwG : wF.alloc _ = wG
  have hbG : Below wF.heap.size wF wG := by rw [← hwG]; exact (Below.refl _ _).alloc (Nat.le_refl _) _
  have HBG := Lib.hid (HBF.out.trans (hbG.mono HBF.out.size))
  have HXG := Lib.hid ((hbG.block _ hsF).trans HXF.out)
  have hsG : b1 < wG.heap.size := Nat.lt_of_lt_of_le hsF hbG.size
  have he2 : (E2 == 0) = false := by simpa using hmo2
  clear hwG hbG HBF HXF hsF hmo2
  go_wp2_with fail
  refine (HRF.out wG).mono ?_
  rintro e wH ⟨rfl, hbH⟩
  have HBH := Lib.hid (HBG.out.trans (hbH.mono HBG.out.size))
  have HXH := Lib.hid ((hbH.block _ hsG).trans HXG.out)
  have hsH : b1 < wH.heap.size := Nat.lt_of_lt_of_le hsG hbH.size
  clear hbH HRF HBG HXG hsG
  have hoe := HOE.out
  cases R with
  | false =>
    rw [if_neg (by decide)] at hoe
    simp only [Prod.mk.injEq] at hoe
    obtain ⟨⟨rfl, rfl, rfl⟩, rfl⟩ := hoe
    clear HOE
    go_wp2_with fail
    refine bodyPost_ret (results_tmp rfl _ _ _) rfl ?_
    exact ⟨rfl, HBH.out⟩
  | true =>
    rw [if_pos rfl] at hoe
    simp only [Prod.mk.injEq] at hoe
    obtain ⟨⟨rfl, rfl, rfl⟩, rfl⟩ := hoe
    clear HOE
    obtain ⟨x0, x1', x2⟩ := three_at HXH.out (Below.refl wH.heap.size wH) hsH
    go_wp2_with fail
    refine bodyPost_ret (results_tmp rfl _ _ _) rfl ?_
    exact ⟨rfl, HBH.out⟩
end Go.Proofs.YtfcokdkbjajohaaGreatDoor
