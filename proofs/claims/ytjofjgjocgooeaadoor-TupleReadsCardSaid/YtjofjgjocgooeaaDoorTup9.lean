/- The walk of the law TupleReads. -/
import Derived.Test.YtjofjgjocgooeaaDoorTupJ
import Derived.Test.YtjofjgjocgooeaaDoorTup6
import Derived.Lib.IndexAny
set_option linter.unusedVariables false
namespace Go.Proofs.YtjofjgjocgooeaaDoor
open Go.RowKit

theorem readL_texts : ∀ (n : Nat) (s : List UInt8) (l : List TP), s.length ≤ n → readL s = some l → l.length ≤ s.length ∧ ∀ p ∈ l, p.text.length ≤ s.length
  | n, [], l, _, h => by
    simp [readL, readN] at h
    subst h
    exact ⟨Nat.le_refl _, by simp⟩
  | 0, _ :: _, l, hn, h => by simp at hn
  | n + 1, b :: s, l, hn, h => by
    rw [readL_cons] at h
    cases ho : oneL b s with
    | none => rw [ho] at h; cases h
    | some x =>
      rw [ho] at h
      simp only [Option.bind_some] at h
      have hlen := oneL_len (p := x.1) (r := x.2) ho
      obtain ⟨h1, h2, h3⟩ := oneL_some (p := x.1) (r := x.2) ho
      cases hr : readL x.2 with
      | none => rw [hr] at h; cases h
      | some q =>
        rw [hr] at h
        simp only [Option.map_some, Option.some.injEq] at h
        subst h
        simp only [List.length_cons] at hlen hn
        obtain ⟨h4, h5⟩ := readL_texts n x.2 q (by omega) hr
        have h6 := congrArg List.length h1
        rw [List.length_append, List.length_cons] at h6
        have h7 : x.1.text.length ≤ (pb x.1).length := by
          rw [← h3]
          unfold cleanP
          split
          · simp
          · rename_i hk
            have := esc_len x.1.text
            simp [pb]
            omega
        refine ⟨by simp only [List.length_cons]; omega, fun p hp => ?_⟩
        rcases List.mem_cons.1 hp with rfl | hp
        · simp only [List.length_cons]; omega
        · have := h5 p hp
          simp only [List.length_cons]; omega
/-- What surely is a text's key. -/
theorem plain_key (q : List UInt8) (h1 : Lib.hasSuffix (1 :: q) [97, 0, 0] = true) (h2 : ((1 :: q).take ((1 :: q).length - 3)).contains 0 = false) : ∃ l, readL (1 :: q) = some l := by
  obtain ⟨u, hu⟩ := List.isSuffixOf_iff_suffix.1 h1
  have hlen := congrArg List.length hu
  simp only [List.length_append, List.length_cons, List.length_nil] at hlen
  cases u with
  | nil => simp at hu
  | cons c u =>
    simp only [List.cons_append, List.cons.injEq] at hu
    obtain ⟨rfl, rfl⟩ := hu
    have e : (1 :: (u ++ [97, 0, 0])).take ((1 :: (u ++ [97, 0, 0])).length - 3) = 1 :: u := by
      have : (1 :: (u ++ [97, 0, 0])).length - 3 = (1 :: u).length := by simp
      rw [this, ← List.cons_append, List.take_left]
    rw [e] at h2
    have h3 : (0 : UInt8) ∉ u ++ [97] := by
      simp only [List.contains_eq_mem, List.mem_cons, decide_eq_false_iff_not, not_or] at h2
      simp [h2.2]
    exact ⟨_, by have := readL_plain (u ++ [97]) h3; rwa [List.append_assoc] at this⟩

set_option maxRecDepth 100000 in
set_option maxHeartbeats 8000000 in
theorem tupleReads_walk (s : ByteArray) (w : World) (hs : s.size ≤ maxLen) (hm : ∃ m, w.cell? ⟨0, 0, none⟩ = some (.int .i64 m)) :
    Calls Tryd.prog 7 #[.string s] w fun e w' => e = .returned (.bool true) ∧ Below w.heap.size w w' := by
  obtain ⟨m, hm⟩ := hm
  unfold maxLen at hs
  obtain ⟨S, rfl⟩ := bytes_list s
  simp only [ByteArray.size, List.size_toArray] at hs
  have HM := Lib.hid hm
  clear hm
  go_enter Tryd.func7, Tryd.ntmps7
  go_wp2_with fail
  refine (anchor10_any m _ HM.out).mono ?_
  rintro e w1 ⟨rfl, hb1⟩
  have HB1 := Lib.hid hb1
  clear hb1
  by_cases h1 : S.length ≤ 500
  · have h1I : ¬ (500 : Int) < (S.length : Int) := by omega
    go_wp2_with fail
    refine (read_any S w1 (by omega)).mono ?_
    rintro e w2 ⟨hrd, hb2⟩
    have HB2 := Lib.hid (HB1.out.trans (hb2.mono HB1.out.size))
    clear hb2 HB1
    rcases hrd with ⟨l, a, c, hrl, rfl, hrc⟩ | ⟨hrl, rfl⟩
    · obtain ⟨hk1, hk2⟩ := readL_some _ S l (Nat.le_refl _) hrl
      obtain ⟨hk3, hk4⟩ := readL_texts _ S l (Nat.le_refl _) hrl
      have HK := Lib.hid hk1
      have HO := Lib.hid hk2
      have HT := Lib.hid hk4
      have HRC := Lib.hid hrc
      clear hk1 hk2 hk4 hrc hrl
      go_wp2_with fail
      refine (key_any a c l m w2 (RdP.of_c HRC.out) (by rw [HB2.out.cell (World.block_lt_of_cell? _ _ HM.out)]; exact HM.out) HO.out (fun p hp => by have := HT.out p hp; omega) (by omega)).mono ?_
      rintro e w3 ⟨rfl, hb3⟩
      have HB3 := Lib.hid (HB2.out.trans (hb3.mono HB2.out.size))
      clear hb3 HB2
      rw [HK.out]
      go_wp2_with fail
      refine bodyPost_ret (results_tmp rfl _ _ _) rfl ?_
      exact ⟨rfl, HB3.out⟩
    · have HN := Lib.hid hrl
      clear hrl
      cases S with
      | nil =>
        go_wp2_with fail
        refine bodyPost_ret (results_tmp rfl _ _ _) rfl ?_
        exact ⟨rfl, HB2.out⟩
      | cons b q =>
        have hix : ∀ w, (Instr.index 9 (.string ⟨(b :: q).toArray⟩) (.int .i64 0)).run Tryd.prog w = .ok (.int .u8 (b.toNat : Nat)) w := fun w => str_at (b :: q) 0 (by simp) w
        by_cases hb : b = 1
        · subst hb
          go_wp2_with fail
          refine (Tryd.strings_HasSuffix ⟨(1 :: q).toArray⟩ ⟨#[97, 0, 0]⟩ w2 (by simp only [ByteArray.size, List.size_toArray]; omega)).mono ?_
          rintro e w3 ⟨rfl, rfl⟩
          have ehs : Lib.hasSuffix (⟨(1 :: q).toArray⟩ : ByteArray).data.toList (⟨#[97, 0, 0]⟩ : ByteArray).data.toList = Lib.hasSuffix (1 :: q) [97, 0, 0] := rfl
          rw [ehs]
          cases hsf : Lib.hasSuffix (1 :: q) [97, 0, 0] with
          | false =>
            clear ehs hsf
            go_wp2_with fail
            refine bodyPost_ret (results_tmp rfl _ _ _) rfl ?_
            exact ⟨rfl, HB2.out⟩
          | true =>
            have hle : 3 ≤ q.length + 1 := by
              obtain ⟨u, hu⟩ := List.isSuffixOf_iff_suffix.1 hsf
              have := congrArg List.length hu
              simp only [List.length_append, List.length_cons, List.length_nil] at this
              omega
            simp only [List.length_cons] at h1 h1I
            obtain ⟨T, hT⟩ : ∃ T, (1 :: q).take ((1 :: q).length - 3) = T := ⟨_, rfl⟩
            have hpk := plain_key q hsf
            rw [hT] at hpk
            have hsl : ∀ w, (Instr.slice 9 (.string ⟨(1 :: q).toArray⟩) none (some (.int .i64 ((q.length : Int) + 1 - 3))) none).run Tryd.prog w = .ok (.string ⟨T.toArray⟩) w := by
              rw [← hT]
              exact fun w => str_head (1 :: q) ((1 :: q).length - 3) (by omega) _ (by simp only [List.length_cons]; omega) w
            have HPK := Lib.hid hpk
            clear ehs hsf hT hpk
            go_wp2_with fail
            refine (Tryd.strings_Contains_one ⟨T.toArray⟩ 0 w3).mono ?_
            rintro e w4 ⟨rfl, rfl⟩
            have eci : decide (0 ≤ Lib.indexByte (⟨T.toArray⟩ : ByteArray).data.toList 0) = T.contains 0 := (Lib.contains_iff_indexByte T 0).symm
            rw [eci]
            clear eci
            cases hc : T.contains 0 with
            | false =>
              obtain ⟨l, hl⟩ := HPK.out hc
              rw [HN.out] at hl
              cases hl
            | true =>
              clear hc
              go_wp2_with fail
              refine bodyPost_ret (results_tmp rfl _ _ _) rfl ?_
              exact ⟨rfl, HB2.out⟩
        · have hbI : ¬ ((b.toNat : Nat) : Int) = 1 := fun e => hb (UInt8.toNat_inj.1 (by show b.toNat = 1; omega))
          have hbI2 : (((b.toNat : Nat) : Int) != 1) = true := by simpa using hbI
          go_wp2_with fail
          refine bodyPost_ret (results_tmp rfl _ _ _) rfl ?_
          exact ⟨rfl, HB2.out⟩
  · have h1I : (500 : Int) < (S.length : Int) := by omega
    go_wp2_with fail
    refine bodyPost_ret (results_tmp rfl _ _ _) rfl ?_
    exact ⟨rfl, HB1.out⟩
end Go.Proofs.YtjofjgjocgooeaaDoor
