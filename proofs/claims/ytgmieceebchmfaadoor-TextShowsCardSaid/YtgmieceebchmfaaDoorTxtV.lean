/- The document's one. -/
import Derived.Test.YtgmieceebchmfaaDoorTxtU
set_option linter.unusedVariables false
namespace Go.Proofs.YtgmieceebchmfaaDoor
open Go.RowKit

theorem strs_get {w : World} {a : Option Addr} {l : List (List UInt8)} (h : RdC w a (strs l)) {j : Nat} (hj : j < l.length) :
    ∃ b off, a = some ⟨b, off, none⟩ ∧ w.cell? ⟨b, off + j, none⟩ = some (.string ⟨l[j].toArray⟩) := by
  obtain ⟨b, off, e, hc⟩ := h.at (by intro h0; have h2 : (strs l).length = l.length := by simp [strs]
                                     rw [h0] at h2; simp at h2; omega)
  exact ⟨b, off, e, hc j _ (by simp [strs, hj])⟩

set_option maxRecDepth 100000 in
set_option maxHeartbeats 8000000 in
theorem refone_any (s : List UInt8) (w : World) (hs : s.length ≤ 1000000) :
    Calls Tryd.prog 39 #[.string ⟨s.toArray⟩] w fun e w' => e = .returned (oneV s) ∧ Below w.heap.size w w' := by
  have hk0 := heap_alloc_new w (.cells #[.string ⟨#[]⟩, .string ⟨#[]⟩] 39)
  have hb0 : Below w.heap.size w (w.alloc (.cells #[.string ⟨#[]⟩, .string ⟨#[]⟩] 39)) := (Below.refl _ _).alloc (Nat.le_refl _) _
  have HK0 := Lib.hid hk0
  have HB0 := Lib.hid hb0
  clear hk0 hb0
  have hpt := parts_any s 61 (w.alloc (.cells #[.string ⟨#[]⟩, .string ⟨#[]⟩] 39)) hs
  have HPT := Lib.hid hpt
  clear hpt
  have hpl := partsL_len 61 s
  have hov : ∀ r, oneR s = r → oneV s = .tuple #[.agg #[.string ⟨r.1.1.toArray⟩, .string ⟨r.1.2.toArray⟩], .int .i64 r.2] := fun r h => by unfold oneV; rw [h]
  unfold oneR at hov
  go_enter Tryd.func39, Tryd.ntmps39
  go_wp2_with fail
  refine HPT.out.mono ?_
  rintro e w1 ⟨⟨ap, cp, rfl, hrp⟩, hb1⟩
  have hk1 := (hb1.block _ (by simp)).trans HK0.out
  have hbb1 := HB0.out.trans (hb1.mono (by simp))
  clear HPT HK0 HB0 hb1
  generalize partsL 61 s = P at *
  have HK1 := Lib.hid hk1
  have HB1 := Lib.hid hbb1
  have HRP := Lib.hid hrp
  clear hk1 hbb1 hrp
  by_cases h2 : P.length = 2
  · obtain ⟨a, r, rfl⟩ : ∃ a r, P = [a, r] := by
      match P, h2 with
      | [a, r], _ => exact ⟨a, r, rfl⟩
    obtain ⟨b, off, rfl, c0⟩ := strs_get HRP.out (j := 0) (by simp)
    obtain ⟨b', off', e, c1⟩ := strs_get HRP.out (j := 1) (by simp)
    obtain ⟨rfl, rfl⟩ : b' = b ∧ off' = off := by
      simp only [Option.some.injEq, Addr.mk.injEq] at e
      exact ⟨e.1.symm, e.2.1.symm⟩
    have ha := hpl a (by simp)
    have hr := hpl r (by simp)
    simp only [List.getElem_cons_zero, List.getElem_cons_succ, Nat.add_zero] at c0 c1
    simp only at hov
    have HC1 := Lib.hid c1
    clear c1 hpl h2 e HRP
    go_wp2_with fail
    refine (refunescape_any a w1 (by omega)).mono ?_
    rintro e w2 ⟨rfl, hb2⟩
    have hk2 := (hb2.block _ (Array.getElem?_eq_some_iff.1 HK1.out).1).trans HK1.out
    have hbb2 := HB1.out.trans (hb2.mono HB1.out.size)
    have c1 := (hb2.cell (World.block_lt_of_cell? _ _ HC1.out)).trans HC1.out
    have HK2 := Lib.hid hk2
    have HB2 := Lib.hid hbb2
    clear hk2 hbb2 hb2 HK1 HB1 HC1 c0
    unfold uneV
    generalize uneR a = ra at *
    obtain ⟨na, ea⟩ := ra
    simp only at hov ⊢
    by_cases hea : ea = 0
    · subst hea
      rw [if_neg (by simp)] at hov
      go_wp2_with fail
      refine (refunescape_any r w2 (by omega)).mono ?_
      rintro e w3 ⟨rfl, hb3⟩
      have hk3 := (hb3.block _ (Array.getElem?_eq_some_iff.1 HK2.out).1).trans HK2.out
      have hbb3 := HB2.out.trans (hb3.mono HB2.out.size)
      have HK3 := Lib.hid hk3
      have HB3 := Lib.hid hbb3
      clear hk3 hbb3 hb3 HK2 HB2 c1
      unfold uneV
      generalize uneR r = rr at *
      obtain ⟨nr, er⟩ := rr
      simp only at hov ⊢
      by_cases her : er = 0
      · subst her
        rw [if_neg (by simp)] at hov
        by_cases hna : na = []
        · subst hna
          rw [if_pos rfl] at hov
          have hr : oneV s = .tuple #[.agg #[.string ⟨#[]⟩, .string ⟨#[]⟩], .int .i64 10] := hov _ rfl
          have HR := Lib.hid hr
          clear hr hov
          have d0 : w3.cell? ⟨w.heap.size, 0, none⟩ = some (.string ⟨#[]⟩) := by rw [Lib.cell_of_heap HK3.out]; rfl
          have d1 : w3.cell? ⟨w.heap.size, 1, none⟩ = some (.string ⟨#[]⟩) := by rw [Lib.cell_of_heap HK3.out]; rfl
          have f0 : w3.frozen? ⟨w.heap.size, 0, none⟩ = false := Lib.frozen_of_heap HK3.out 0
          have f1 : w3.frozen? ⟨w.heap.size, 1, none⟩ = false := Lib.frozen_of_heap HK3.out 1
          go_wp2_with fail
          have hst := pair_stored HK3.out (.string ⟨#[]⟩) (.string ⟨#[]⟩)
          have e0 := Lib.cell_of_heap hst 0
          have e1 := Lib.cell_of_heap hst 1
          simp only [List.getElem?_toArray] at e0 e1
          refine bodyPost_ret (v := .tuple #[.agg #[.string ⟨#[]⟩, .string ⟨#[]⟩], .int .i64 10]) (by simp [results, Tryd.results39, go_sem, e0, e1]) rfl ?_
          exact ⟨by rw [HR.out]; try rfl, below_stored2 HB3.out (Nat.le_refl _) _ _⟩
        · rw [if_neg hna] at hov
          have hne : na.isEmpty = false := by simpa using hna
          have hr : oneV s = .tuple #[.agg #[.string ⟨na.toArray⟩, .string ⟨nr.toArray⟩], .int .i64 0] := hov _ rfl
          have HR := Lib.hid hr
          clear hr hov
          have d0 : w3.cell? ⟨w.heap.size, 0, none⟩ = some (.string ⟨#[]⟩) := by rw [Lib.cell_of_heap HK3.out]; rfl
          have d1 : w3.cell? ⟨w.heap.size, 1, none⟩ = some (.string ⟨#[]⟩) := by rw [Lib.cell_of_heap HK3.out]; rfl
          have f0 : w3.frozen? ⟨w.heap.size, 0, none⟩ = false := Lib.frozen_of_heap HK3.out 0
          have f1 : w3.frozen? ⟨w.heap.size, 1, none⟩ = false := Lib.frozen_of_heap HK3.out 1
          go_wp2_with fail
          have hst := pair_stored HK3.out (.string ⟨na.toArray⟩) (.string ⟨nr.toArray⟩)
          have e0 := Lib.cell_of_heap hst 0
          have e1 := Lib.cell_of_heap hst 1
          simp only [List.getElem?_toArray] at e0 e1
          refine bodyPost_ret (v := .tuple #[.agg #[.string ⟨na.toArray⟩, .string ⟨nr.toArray⟩], .int .i64 0]) (by simp [results, Tryd.results39, go_sem, e0, e1]) rfl ?_
          exact ⟨by rw [HR.out]; try rfl, below_stored2 HB3.out (Nat.le_refl _) _ _⟩
      · rw [if_pos her] at hov
        have herb : (er != 0) = true := by simpa using her
        have hr : oneV s = .tuple #[.agg #[.string ⟨#[]⟩, .string ⟨#[]⟩], .int .i64 er] := hov _ rfl
        have HR := Lib.hid hr
        clear hr hov
        have d0 : w3.cell? ⟨w.heap.size, 0, none⟩ = some (.string ⟨#[]⟩) := by rw [Lib.cell_of_heap HK3.out]; rfl
        have d1 : w3.cell? ⟨w.heap.size, 1, none⟩ = some (.string ⟨#[]⟩) := by rw [Lib.cell_of_heap HK3.out]; rfl
        have f0 : w3.frozen? ⟨w.heap.size, 0, none⟩ = false := Lib.frozen_of_heap HK3.out 0
        have f1 : w3.frozen? ⟨w.heap.size, 1, none⟩ = false := Lib.frozen_of_heap HK3.out 1
        go_wp2_with fail
        have hst := pair_stored HK3.out (.string ⟨#[]⟩) (.string ⟨#[]⟩)
        have e0 := Lib.cell_of_heap hst 0
        have e1 := Lib.cell_of_heap hst 1
        simp only [List.getElem?_toArray] at e0 e1
        refine bodyPost_ret (v := .tuple #[.agg #[.string ⟨#[]⟩, .string ⟨#[]⟩], .int .i64 er]) (by simp [results, Tryd.results39, go_sem, e0, e1]) rfl ?_
        exact ⟨by rw [HR.out]; try rfl, below_stored2 HB3.out (Nat.le_refl _) _ _⟩
    · rw [if_pos hea] at hov
      have heab : (ea != 0) = true := by simpa using hea
      have hr : oneV s = .tuple #[.agg #[.string ⟨#[]⟩, .string ⟨#[]⟩], .int .i64 ea] := hov _ rfl
      have HR := Lib.hid hr
      clear hr hov
      have d0 : w2.cell? ⟨w.heap.size, 0, none⟩ = some (.string ⟨#[]⟩) := by rw [Lib.cell_of_heap HK2.out]; rfl
      have d1 : w2.cell? ⟨w.heap.size, 1, none⟩ = some (.string ⟨#[]⟩) := by rw [Lib.cell_of_heap HK2.out]; rfl
      have f0 : w2.frozen? ⟨w.heap.size, 0, none⟩ = false := Lib.frozen_of_heap HK2.out 0
      have f1 : w2.frozen? ⟨w.heap.size, 1, none⟩ = false := Lib.frozen_of_heap HK2.out 1
      go_wp2_with fail
      have hst := pair_stored HK2.out (.string ⟨#[]⟩) (.string ⟨#[]⟩)
      have e0 := Lib.cell_of_heap hst 0
      have e1 := Lib.cell_of_heap hst 1
      simp only [List.getElem?_toArray] at e0 e1
      refine bodyPost_ret (v := .tuple #[.agg #[.string ⟨#[]⟩, .string ⟨#[]⟩], .int .i64 ea]) (by simp [results, Tryd.results39, go_sem, e0, e1]) rfl ?_
      exact ⟨by rw [HR.out]; try rfl, below_stored2 HB2.out (Nat.le_refl _) _ _⟩
  · have h2I : ¬ (P.length : Int) = 2 := by omega
    have hov2 := hov (([], []), 31) (by
      split
      · simp at h2
      · rfl)
    have hr : oneV s = .tuple #[.agg #[.string ⟨#[]⟩, .string ⟨#[]⟩], .int .i64 31] := hov2
    have HR := Lib.hid hr
    clear hr hov
    have d0 : w1.cell? ⟨w.heap.size, 0, none⟩ = some (.string ⟨#[]⟩) := by rw [Lib.cell_of_heap HK1.out]; rfl
    have d1 : w1.cell? ⟨w.heap.size, 1, none⟩ = some (.string ⟨#[]⟩) := by rw [Lib.cell_of_heap HK1.out]; rfl
    have f0 : w1.frozen? ⟨w.heap.size, 0, none⟩ = false := Lib.frozen_of_heap HK1.out 0
    have f1 : w1.frozen? ⟨w.heap.size, 1, none⟩ = false := Lib.frozen_of_heap HK1.out 1
    go_wp2_with fail
    have hst := pair_stored HK1.out (.string ⟨#[]⟩) (.string ⟨#[]⟩)
    have e0 := Lib.cell_of_heap hst 0
    have e1 := Lib.cell_of_heap hst 1
    simp only [List.getElem?_toArray] at e0 e1
    refine bodyPost_ret (v := .tuple #[.agg #[.string ⟨#[]⟩, .string ⟨#[]⟩], .int .i64 31]) (by simp [results, Tryd.results39, go_sem, e0, e1]) rfl ?_
    exact ⟨by rw [HR.out]; try rfl, below_stored2 HB1.out (Nat.le_refl _) _ _⟩
end Go.Proofs.YtgmieceebchmfaaDoor
