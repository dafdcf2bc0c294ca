/- text.Form. -/
import Derived.Test.YtgmieceebchmfaaDoorTxtK
set_option linter.unusedVariables false
namespace Go.Proofs.YtgmieceebchmfaaDoor
open Go.RowKit

def FormIs (s : List UInt8) (e : Ending) (w' : World) : Prop :=
  ∃ a c, e = .returned (.tuple #[.slice a (formR s).1.length c, .int .i64 (formR s).2]) ∧ RdC w' a ((formR s).1.flatMap paircell)
theorem formIs_err {s : List UInt8} {n : Int} {w : World} (h : formR s = ([], n)) : FormIs s (.returned (.tuple #[.slice none 0 0, .int .i64 n])) w := by
  refine ⟨none, 0, ?_, ?_⟩
  · rw [h]; rfl
  · rw [h]; exact .inl rfl
theorem info_pr : (Tryd.prog.info? 38).map (fun i => (i.zero, i.size, i.bytes)) = some (some (.agg #[.string ⟨#[]⟩, .string ⟨#[]⟩]), 2, 32) := by kernel_rfl
theorem formN_drop (P : List (List UInt8)) (acc : List PairL) (j : Nat) (h : j < P.length) : formN (P.drop j) acc = if acc.length = 32 then ([], 14) else if (oneR P[j]).2 ≠ 0 then ([], (oneR P[j]).2) else if hasName acc (oneR P[j]).1.1 then ([], 15) else formN (P.drop (j + 1)) (acc ++ [(oneR P[j]).1]) := by
  rw [List.drop_eq_getElem_cons h]
  rfl

set_option maxRecDepth 100000 in
set_option maxHeartbeats 8000000 in
theorem form_any (s : List UInt8) (m : Int) (w : World) (hm : w.cell? ⟨0, 0, none⟩ = some (.int .i64 m)) (hs : s.length ≤ 1000000) :
    Calls Tryd.prog 19 #[.string ⟨s.toArray⟩] w fun e w' => FormIs s e w' ∧ Below w.heap.size w w' := by
  obtain ⟨i0, hi, hz0, hz1, hz2⟩ := info_parts info_pr
  have HI := Lib.hid hi
  have HZ0 := Lib.hid hz0
  have HZ1 := Lib.hid hz1
  have HZ2 := Lib.hid hz2
  have HM := Lib.hid hm
  clear hi hz0 hz1 hz2 hm
  by_cases hne : s = []
  · subst hne
    go_enter Tryd.func19, Tryd.ntmps19
    go_wp2_with fail
    go_ret2
    exact ⟨formIs_err rfl, Below.refl _ _⟩
  have hneI : s.isEmpty = false := by simpa using hne
  have hfr : formR s = formN (partsL 38 s) [] := by unfold formR; rw [if_neg hne]
  have hpl := partsL_len 38 s
  have hspl := Tryd.strings_Split ⟨s.toArray⟩ ⟨#[38]⟩ m w (by simp only [ByteArray.size, List.size_toArray]; omega) HM.out (by decide)
  rw [splitB_parts 38 s, countB_parts 38 s] at hspl
  have hcnt : (partsL 38 s).length ≤ s.length + 1 := by
    rw [← countB_parts 38 s]
    have : Lib.countB ⟨s.toArray⟩ ⟨#[38]⟩ = s.count 38 := Lib.count_one 38 s
    rw [this]
    have := List.count_le_length (a := (38 : UInt8)) (l := s)
    omega
  generalize partsL 38 s = P at *
  have HFR := Lib.hid hfr
  have HPL := Lib.hid hpl
  have HSP := Lib.hid hspl
  clear hfr hpl hspl hne
  go_enter Tryd.func19, Tryd.ntmps19
  go_wp2_with fail
  refine HSP.out.mono ?_
  rintro e w1 ⟨rfl, hw1⟩
  have hbk1 : w1.heap[w.heap.size]? = some (.cells ((P.map fun p => (⟨p.toArray⟩ : ByteArray)).map Value.string).toArray 9 (0, 0)) := by rw [hw1]; exact heap_alloc_new _ _
  have hb1 : Below w.heap.size w w1 := by rw [hw1]; exact (Below.refl _ _).alloc (Nat.le_refl _) _
  have hz1 : w1.heap.size = w.heap.size + 1 := by rw [hw1]; simp
  have HK1 := Lib.hid hbk1
  have HB1 := Lib.hid hb1
  have HS1 := Lib.hid hz1
  clear hbk1 hb1 hz1 hw1 HSP
  go_wp2_with fail
  go_loopg [4, 16] P.length (fun k out y wr => ∃ (j : Nat) (acc : List PairL), y = .int .i64 (j : Int) ∧ j + k = P.length ∧ acc.length = j ∧ j ≤ 32 ∧ Hid (formN P [] = formN (P.drop j) acc) ∧ Hid (wr.ownsRow w1.heap.size 38 2 out acc.length (acc.flatMap paircell)) ∧ Hid (Below w1.heap.size w1 wr))
  case atStart => exact ⟨0, [], rfl, by omega, rfl, by omega, Lib.hid (by rw [List.drop_zero]), Lib.hid (World.ownsRow_nil _ _ _ _), Lib.hid (Below.refl _ _)⟩
  case round =>
    obtain ⟨j, acc, rfl, hj, hacc, hj32, HF, HW, HB⟩ := hrel
    have hacc1 : acc.length ≤ j := by omega
    have hacc2 : j ≤ acc.length := by omega
    clear hacc
    have hszB : w1.heap.size ≤ wr.heap.size := HB.out.size
    obtain ⟨ao, co, hout, hro, _⟩ := RdC.of_own HW.out
    subst hout
    have HRO := Lib.hid hro
    clear hro
    by_cases hlt : j < P.length
    · have hltI : (j : Int) < (P.length : Int) := by omega
      have hcell : wr.cell? ⟨w.heap.size, j, none⟩ = some (.string ⟨P[j].toArray⟩) := by
        rw [World.cell?_of_block (HB.out.block w.heap.size (by rw [HS1.out]; omega)), Lib.cell_of_heap HK1.out]
        simp [hlt]
      have hplj := HPL.out P[j] (List.getElem_mem _)
      have hf := HF.out
      rw [formN_drop P acc j hlt] at hf
      generalize P[j] = p at *
      have HF0 := Lib.hid hf
      clear hf HF
      by_cases h32 : acc.length = 32
      · have hf := HF0.out
        rw [if_pos h32] at hf
        have hfr2 : formR s = ([], 14) := HFR.out.trans hf
        have HR := Lib.hid hfr2
        have h32I : (acc.length : Int) = 32 := by omega
        clear hf hfr2 HF0
        go_wp2_with fail
        go_ret2
        exact ⟨formIs_err HR.out, HB1.out.trans (HB.out.mono (by rw [HS1.out]; omega))⟩
      have h32I : ¬ (acc.length : Int) = 32 := by omega
      have hf := HF0.out
      rw [if_neg h32] at hf
      have HF1 := Lib.hid hf
      clear hf HF0
      have hmr : wr.cell? ⟨0, 0, none⟩ = some (.int .i64 m) := by
        rw [(HB1.out.trans (HB.out.mono (by rw [HS1.out]; omega))).cell (World.block_lt_of_cell? _ _ HM.out)]
        exact HM.out
      have HMR := Lib.hid hmr
      clear hmr
      go_wp2_with fail
      refine (one_any p m wr HMR.out (by omega)).mono ?_
      rintro e w2 ⟨rfl, hb2⟩
      have HB2 := Lib.hid (HB.out.trans (hb2.mono hszB))
      have HW2 := Lib.hid (own_below HW.out hb2)
      have HRO2 := Lib.hid (HRO.out.below hb2)
      clear hb2 hcell HW HB HRO HMR
      unfold oneV
      generalize oneR p = rp at *
      obtain ⟨⟨pn, pv⟩, er⟩ := rp
      simp only at HF1 ⊢
      by_cases her : er = 0
      · subst her
        have hf := HF1.out
        rw [if_neg (by simp)] at hf
        have HF2 := Lib.hid hf
        clear hf HF1
        have hget := get_any ao co acc pn (w2.alloc (.cells #[.string ⟨pn.toArray⟩, .string ⟨pv.toArray⟩] 38)) (HRO2.out.below ((Below.refl _ _).alloc (Nat.le_refl _) _)) (by omega)
        have HGET := Lib.hid hget
        clear hget
        go_wp2_with fail
        refine HGET.out.mono ?_
        rintro e w3 ⟨rfl, hb3⟩
        have hkp : w3.heap[w2.heap.size]? = some (.cells #[.string ⟨pn.toArray⟩, .string ⟨pv.toArray⟩] 38 (0, 0)) := (hb3.block _ (by simp)).trans (heap_alloc_new _ _)
        have hba : Below w2.heap.size w2 w3 := ((Below.refl _ _).alloc (Nat.le_refl _) _).trans (hb3.mono (by simp))
        have HB3 := Lib.hid (HB2.out.trans (hba.mono HB2.out.size))
        have HW3 := Lib.hid (own_below HW2.out hba)
        have d0 : w3.cell? ⟨w2.heap.size, 0, none⟩ = some (.string ⟨pn.toArray⟩) := by rw [Lib.cell_of_heap hkp]; rfl
        have d1 : w3.cell? ⟨w2.heap.size, 1, none⟩ = some (.string ⟨pv.toArray⟩) := by rw [Lib.cell_of_heap hkp]; rfl
        have hszB3 : w1.heap.size ≤ w3.heap.size := HB3.out.size
        clear hb3 hkp hba HB2 HW2 HRO2 hszB
        have hgh := getL_has acc pn
        unfold getV
        cases hg : getL acc pn with
        | some v =>
          rw [hg] at hgh
          have hf := HF2.out
          rw [← hgh] at hf
          have hfr2 : formR s = ([], 15) := HFR.out.trans hf
          have HR := Lib.hid hfr2
          clear hf hfr2 HF2 hg hgh
          simp only
          go_wp2_with fail
          go_ret2
          exact ⟨formIs_err HR.out, HB1.out.trans (HB3.out.mono (by rw [HS1.out]; omega))⟩
        | none =>
          rw [hg] at hgh
          have hf := HF2.out
          rw [← hgh] at hf
          have hf2 : formN P [] = formN (P.drop (j + 1)) (acc ++ [(pn, pv)]) := hf
          have HF3 := Lib.hid hf2
          clear hf hf2 HF2 hg hgh
          simp only
          go_wp2_with (at_builtin; refine wpList_append_new rfl (.tmp 39) (.tmp 41) 31 rfl w1.heap.size 38 i0 _ 2 32 Tryd.underlying31 HI.out HZ0.out HZ1.out HZ2.out rfl (by decide) _ _ _ rfl (HW3.out.alloc _) w3.heap.size 1 #[.string ⟨pn.toArray⟩, .string ⟨pv.toArray⟩] 38 (0, 0) ?c1 rfl rfl ?c2 ?c3 ?c4 ?c5 ?_)
          case c1 => exact heap_alloc_new _ _
          case c2 => exact ⟨rfl, rfl⟩
          case c3 => omega
          case c4 => omega
          case c5 => simp; omega
          intro v' w4 hown' hgrow
          have hb4 := below_own (HB3.out.alloc hszB3 _) (HW3.out.alloc _) hgrow (by simp; omega)
          have HW4 := Lib.hid hown'
          have HB4 := Lib.hid hb4
          clear hown' hgrow hb4 d0 d1 HW3 HB3
          go_wp2_with fail
          go_roundg (gk - 1)
          case measure => omega
          case rel => exact ⟨j + 1, acc ++ [(pn, pv)], by first | rfl | (congr 1), by omega, by simp; omega, by omega, HF3, Lib.hid (by have := HW4.out; simpa [paircell] using this), HB4⟩
      · have hf := HF1.out
        rw [if_pos her] at hf
        have hfr2 : formR s = ([], er) := HFR.out.trans hf
        have HR := Lib.hid hfr2
        have herb : (er != 0) = true := by simpa using her
        clear hf hfr2 HF1
        go_wp2_with fail
        go_ret2
        exact ⟨formIs_err HR.out, (HB1.out.trans (HB2.out.mono (by rw [HS1.out]; omega))).alloc (by have := HB2.out.size; have := HB1.out.size; omega) _⟩
    · have hltI : ¬ (j : Int) < (P.length : Int) := by omega
      have hf := HF.out
      rw [List.drop_of_length_le (by omega)] at hf
      have hfr2 : formR s = (acc, 0) := HFR.out.trans hf
      have HR := Lib.hid hfr2
      clear hf hfr2 HF
      go_wp2_with fail
      go_ret2
      exact ⟨⟨ao, co, by rw [HR.out]; rfl, by rw [HR.out]; exact HRO.out⟩, HB1.out.trans (HB.out.mono (by rw [HS1.out]; omega))⟩
end Go.Proofs.YtgmieceebchmfaaDoor
