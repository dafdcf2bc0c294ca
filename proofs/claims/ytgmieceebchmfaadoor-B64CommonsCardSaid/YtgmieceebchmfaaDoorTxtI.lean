/- text.Unescape. -/
import Derived.Test.YtgmieceebchmfaaDoorTxtH
import Derived.Test.YtgmieceebchmfaaDoorTxtJ
set_option linter.unusedVariables false
namespace Go.Proofs.YtgmieceebchmfaaDoor
open Go.RowKit

theorem unescL_pair (r : List UInt8) : unescL (37 :: r) = match pairL r with
    | some x => (unescL (r.drop 2)).map (x :: ·)
    | none => none := by
  match r with
  | [] => rfl
  | [a] => rfl
  | a :: b :: q =>
    rw [unescL_hex]
    by_cases h : digI a.toNat < 0 ∨ digI b.toNat < 0
    · rw [if_pos h, show pairL (a :: b :: q) = none from if_pos h]
    · rw [if_neg h, show pairL (a :: b :: q) = some _ from if_neg h]
      rfl
def uneV (s : List UInt8) : Value := .tuple #[.string ⟨(uneR s).1.toArray⟩, .int .i64 (uneR s).2]

set_option maxRecDepth 100000 in
set_option maxHeartbeats 8000000 in
theorem unescape_any (s : List UInt8) (w : World) (hs : s.length ≤ 1000000) :
    Calls Tryd.prog 16 #[.string ⟨s.toArray⟩] w fun e w' => e = .returned (uneV s) ∧ Below w.heap.size w w' := by
  have HBL0 := Lib.hid (Bld.fresh w)
  have HB0 := Lib.hid ((Below.refl w.heap.size w).alloc (Nat.le_refl _) (.cells #[.pointer none, .slice none 0 0] 52 (0, 0)))
  go_enter Tryd.func16, Tryd.ntmps16
  go_wp2_with fail
  go_loopg [5] s.length (fun k y wr => ∃ (i : Nat) (o : List UInt8), y = .int .i64 (i : Int) ∧ i + k = s.length ∧ Hid (unescL s = (unescL (s.drop i)).map (o ++ ·)) ∧ o.length ≤ i ∧ Hid (Bld w.heap.size o wr) ∧ Hid (Below w.heap.size w wr))
  case atStart => exact ⟨0, [], rfl, by omega, Lib.hid (by rw [List.drop_zero]; cases unescL s <;> simp), by simp, HBL0, HB0⟩
  case round =>
    obtain ⟨i, o, rfl, hi, HU, hol, HBL, HB⟩ := hrel
    clear HBL0 HB0
    by_cases hlt : i < s.length
    · have hltI : (i : Int) < (s.length : Int) := by omega
      have hix := fun w => str_at s i hlt w
      have hsl := fun w => str_tail s (i + 1) (by omega) ((i : Int) + 1) (by omega) w
      have hu := HU.out
      rw [List.drop_eq_getElem_cons hlt] at hu
      have hdl : (s.drop (i + 1)).length = s.length - (i + 1) := List.length_drop
      have hdd : (s.drop (i + 1)).drop 2 = s.drop (i + 3) := by rw [List.drop_drop]
      generalize s[i] = c at *
      have hc256 := UInt8.toNat_lt c
      have HU0 := Lib.hid hu
      have HDD := Lib.hid hdd
      clear hu HU hdd
      by_cases h43 : c = 43
      · subst h43
        have hu := HU0.out
        rw [unescL_plus] at hu
        have HU1 := Lib.hid hu
        clear hu HU0
        go_wp2_with fail
        refine (WriteByte_any w.heap.size o _ 32 rfl wr HBL.out (by omega)).mono ?_
        rintro e w1 ⟨rfl, hbl1, hb1, _⟩
        have HBL1 := Lib.hid hbl1
        have HB1 := Lib.hid (HB.out.trans hb1)
        clear hbl1 hb1 HBL HB
        go_wp2_with fail
        go_roundg (gk - 1)
        case measure => omega
        case rel => exact ⟨i + 1, o ++ [32], by first | rfl | (congr 1), by omega, Lib.hid (by rw [HU1.out]; cases unescL (s.drop (i + 1)) <;> simp), by simp; omega, HBL1, HB1⟩
      have h43I : ¬ ((c.toNat : Nat) : Int) = 43 := fun e => h43 (UInt8.toNat_inj.1 (by show c.toNat = 43; omega))
      by_cases h37 : c = 37
      · subst h37
        have hu := HU0.out
        rw [unescL_pair, HDD.out] at hu
        have HU1 := Lib.hid hu
        clear hu HU0 HDD
        go_wp2_with fail
        refine (pair_any (s.drop (i + 1)) wr (by omega)).mono ?_
        rintro e w1 ⟨rfl, hb1⟩
        have HBL1 := Lib.hid (HBL.out.below hb1)
        have HB1 := Lib.hid (HB.out.trans (hb1.mono HB.out.size))
        clear hb1 HBL HB
        unfold pairV
        cases hp : pairL (s.drop (i + 1)) with
        | none =>
          have hu := HU1.out
          rw [hp] at hu
          have hr : uneV s = .tuple #[.string ⟨#[]⟩, .int .i64 31] := by unfold uneV uneR; rw [hu]; rfl
          have HR := Lib.hid hr
          clear hu HU1 hp hr
          simp only
          go_wp2_with fail
          go_ret2
          exact ⟨by rw [HR.out]; rfl, HB1.out⟩
        | some x =>
          have hu := HU1.out
          rw [hp] at hu
          simp only at hu
          have h3 : i + 3 ≤ s.length := by
            match hq : s.drop (i + 1), hp with
            | [], hp => cases hp
            | [_], hp => cases hp
            | a :: b :: q, _ =>
              rw [hq] at hdl
              simp only [List.length_cons] at hdl
              omega
          have HU2 := Lib.hid hu
          clear hu HU1 hp
          simp only
          go_wp2_with fail
          refine (WriteByte_any w.heap.size o _ x rfl w1 HBL1.out (by omega)).mono ?_
          rintro e w2 ⟨rfl, hbl2, hb2, _⟩
          have HBL2 := Lib.hid hbl2
          have HB2 := Lib.hid (HB1.out.trans hb2)
          clear hbl2 hb2 HBL1 HB1
          go_wp2_with fail
          go_roundg (gk - 3)
          case measure => omega
          case rel => exact ⟨i + 3, o ++ [x], by first | rfl | (congr 1; omega), by omega, Lib.hid (by rw [HU2.out]; cases unescL (s.drop (i + 3)) <;> simp), by simp; omega, HBL2, HB2⟩
      have h37I : ¬ ((c.toNat : Nat) : Int) = 37 := fun e => h37 (UInt8.toNat_inj.1 (by show c.toNat = 37; omega))
      by_cases hbad : c.toNat < 33 ∨ 126 < c.toNat ∨ c = 38 ∨ c = 61
      · have hu := HU0.out
        rw [unescL_bad c _ h43 h37 hbad] at hu
        have hr : uneV s = .tuple #[.string ⟨#[]⟩, .int .i64 31] := by unfold uneV uneR; rw [hu]; rfl
        have HR := Lib.hid hr
        clear hu HU0 hr
        rcases hbad with h | h | h | h
        · have hI : ((c.toNat : Nat) : Int) < 33 := by omega
          go_wp2_with fail
          go_ret2
          exact ⟨by rw [HR.out]; rfl, HB.out⟩
        · have hI : ¬ ((c.toNat : Nat) : Int) < 33 := by omega
          have hI2 : 126 < ((c.toNat : Nat) : Int) := by omega
          go_wp2_with fail
          go_ret2
          exact ⟨by rw [HR.out]; rfl, HB.out⟩
        · subst h
          go_wp2_with fail
          go_ret2
          exact ⟨by rw [HR.out]; rfl, HB.out⟩
        · subst h
          go_wp2_with fail
          go_ret2
          exact ⟨by rw [HR.out]; rfl, HB.out⟩
      · have hu := HU0.out
        rw [unescL_plain c _ h43 h37 hbad] at hu
        have HU1 := Lib.hid hu
        have hI1 : ¬ ((c.toNat : Nat) : Int) < 33 := by omega
        have hI2 : ¬ 126 < ((c.toNat : Nat) : Int) := by omega
        have hI3 : ¬ ((c.toNat : Nat) : Int) = 38 := fun e => hbad (.inr (.inr (.inl (UInt8.toNat_inj.1 (by show c.toNat = 38; omega)))))
        have hI4 : ¬ ((c.toNat : Nat) : Int) = 61 := fun e => hbad (.inr (.inr (.inr (UInt8.toNat_inj.1 (by show c.toNat = 61; omega)))))
        have hB3 : (((c.toNat : Nat) : Int) == 38) = false := by simpa using hI3
        have hB4 : (((c.toNat : Nat) : Int) == 61) = false := by simpa using hI4
        clear hu HU0 hbad
        go_wp2_with fail
        refine (WriteByte_any w.heap.size o _ c rfl wr HBL.out (by omega)).mono ?_
        rintro e w1 ⟨rfl, hbl1, hb1, _⟩
        have HBL1 := Lib.hid hbl1
        have HB1 := Lib.hid (HB.out.trans hb1)
        clear hbl1 hb1 HBL HB
        go_wp2_with fail
        go_roundg (gk - 1)
        case measure => omega
        case rel => exact ⟨i + 1, o ++ [c], by first | rfl | (congr 1), by omega, Lib.hid (by rw [HU1.out]; cases unescL (s.drop (i + 1)) <;> simp), by simp; omega, HBL1, HB1⟩
    · have hltI : ¬ (i : Int) < (s.length : Int) := by omega
      have hu := HU.out
      rw [List.drop_of_length_le (by omega), unescL_nil] at hu
      simp only [Option.map_some, List.append_nil] at hu
      have HU1 := Lib.hid hu
      clear hu HU
      go_wp2_with fail
      refine (BString_any w.heap.size o wr HBL.out).mono ?_
      rintro e w1 ⟨rfl, hbl1, hb1, _⟩
      have HBL1 := Lib.hid hbl1
      have HB1 := Lib.hid (HB.out.trans hb1)
      clear hbl1 hb1 HBL HB
      go_wp2_with fail
      refine (told_any o w1 (by omega)).mono ?_
      rintro e w2 ⟨rfl, hb2⟩
      have HBL2 := Lib.hid (HBL1.out.below hb2)
      have HB2 := Lib.hid (HB1.out.trans (hb2.mono HB1.out.size))
      clear hb2 HBL1 HB1
      cases ht : toldB o with
      | false =>
        have hr : uneV s = .tuple #[.string ⟨#[]⟩, .int .i64 30] := by unfold uneV uneR; rw [HU1.out]; simp only [ht]; rfl
        have HR := Lib.hid hr
        clear hr HU1 ht
        go_wp2_with fail
        go_ret2
        exact ⟨by rw [HR.out]; rfl, HB2.out⟩
      | true =>
        have hr : uneV s = .tuple #[.string ⟨o.toArray⟩, .int .i64 0] := by unfold uneV uneR; rw [HU1.out]; simp only [ht]; rfl
        have HR := Lib.hid hr
        clear hr HU1 ht
        go_wp2_with fail
        refine (BString_any w.heap.size o w2 HBL2.out).mono ?_
        rintro e w3 ⟨rfl, _, hb3, _⟩
        have HB3 := Lib.hid (HB2.out.trans hb3)
        clear hb3
        go_wp2_with fail
        go_ret2
        exact ⟨by rw [HR.out]; rfl, HB3.out⟩
end Go.Proofs.YtgmieceebchmfaaDoor
