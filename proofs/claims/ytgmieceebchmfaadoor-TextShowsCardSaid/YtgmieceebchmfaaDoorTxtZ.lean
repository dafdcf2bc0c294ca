/- The walk of the law TextShows. -/
import Derived.Test.YtgmieceebchmfaaDoorTxtY
set_option linter.unusedVariables false
namespace Go.Proofs.YtgmieceebchmfaaDoor
open Go.RowKit

def GoodP (p : PairL) : Prop := p.1.length ≤ 100 ∧ p.2.length ≤ 100 ∧ p.1 ≠ [] ∧ toldB p.1 = true ∧ toldB p.2 = true
def GoodL (l : List PairL) : Prop := (∀ p ∈ l, GoodP p) ∧ (l.map (·.1)).Nodup
theorem GoodL.nil : GoodL [] := ⟨by simp, by simp⟩
theorem GoodL.snoc {l : List PairL} {j : Nat} (h : GoodL (l.take j)) (hj : j < l.length) (hg : GoodP l[j]) (hn : ∀ (i : Nat) (hi : i < l.length), i < j → l[i].1 ≠ l[j].1) : GoodL (l.take (j + 1)) := by
  have e : l.take (j + 1) = l.take j ++ [l[j]] := by rw [List.take_succ_eq_append_getElem hj]
  rw [e]
  refine ⟨fun p hp => ?_, ?_⟩
  · rcases List.mem_append.1 hp with hp | hp
    · exact h.1 p hp
    · simp only [List.mem_singleton] at hp; subst hp; exact hg
  · rw [List.map_append, List.nodup_append]
    refine ⟨h.2, by simp, fun a ha b hb e => ?_⟩
    simp only [List.map_cons, List.map_nil, List.mem_singleton] at hb
    subst hb e
    obtain ⟨p, hp, hpe⟩ := List.mem_map.1 ha
    obtain ⟨i, hi, rfl⟩ := List.getElem_of_mem hp
    have hi2 : i < j ∧ i < l.length := by simp at hi; omega
    rw [List.getElem_take] at hpe
    exact hn i hi2.2 hi2.1 hpe
theorem GoodL.shown {l : List PairL} (h : GoodL l) (hl : l.length ≤ 32) : Shown l := ⟨hl, fun p hp => by
  have := h.1 p hp
  unfold GoodP at this
  omega⟩

set_option maxRecDepth 100000 in
set_option maxHeartbeats 16000000 in
theorem textShows_walk (a : Option Addr) (c : Nat) (l : List PairL) (w : World) (hr : RdC w a (l.flatMap paircell) ∧ l.length ≤ c) (hm : ∃ m, w.cell? ⟨0, 0, none⟩ = some (.int .i64 m)) :
    Calls Tryd.prog 10 #[.slice a l.length c] w fun e w' => e = .returned (.bool true) ∧ Below w.heap.size w w' := by
  obtain ⟨m, hm⟩ := hm
  obtain ⟨hr, hlc⟩ := hr
  have HM := Lib.hid hm
  have HR := Lib.hid hr
  clear hm hr
  go_enter Tryd.func10, Tryd.ntmps10
  go_wp2_with fail
  refine (anchor05_any m _ HM.out).mono ?_
  rintro e w1 ⟨rfl, hb1⟩
  have hm1 : w1.cell? ⟨0, 0, none⟩ = some (.int .i64 m) := cell_now hb1 HM.out
  have HR1 := Lib.hid (HR.out.below hb1)
  have HB1 := Lib.hid hb1
  have HM1 := Lib.hid hm1
  clear hb1 hm1 HM HR
  by_cases h1 : l.length ≤ 32
  · have h1I : ¬ (32 : Int) < (l.length : Int) := by omega
    go_wp2_with fail
    go_loopg [19] l.length (fun k y wr => ∃ j : Nat, y = .int .i64 (j : Int) ∧ j + k = l.length ∧ Hid (GoodL (l.take j)) ∧ Hid (Below w1.heap.size w1 wr))
    case atStart => exact ⟨0, rfl, by omega, Lib.hid (by simpa using GoodL.nil), Lib.hid (Below.refl _ _)⟩
    case round =>
      obtain ⟨j, rfl, hj, HG, HB⟩ := hrel
      have hszB : w1.heap.size ≤ wr.heap.size := HB.out.size
      have hsz1 : w.heap.size ≤ w1.heap.size := HB1.out.size
      by_cases hlt : j < l.length
      · have hltI : (j : Int) < (l.length : Int) := by omega
        obtain ⟨b, off, rfl, c1, c2⟩ := pair_get (HR1.out.below HB.out) hlt
        have hsn := HG.out.snoc hlt
        have HSN := Lib.hid hsn
        clear hsn HG
        generalize l[j] = p at *
        obtain ⟨pn, pv⟩ := p
        simp only at c1 c2 HSN
        unfold GoodP at HSN
        simp only at HSN
        go_upto_region 8 with (fail)
        have hba : Below wr.heap.size wr (wr.alloc (.cells #[.string ⟨pn.toArray⟩, .string ⟨pv.toArray⟩] 38)) := (Below.refl _ _).alloc (Nat.le_refl _) _
        have hkp := heap_alloc_new wr (.cells #[.string ⟨pn.toArray⟩, .string ⟨pv.toArray⟩] 38)
        have d0 : (wr.alloc (.cells #[.string ⟨pn.toArray⟩, .string ⟨pv.toArray⟩] 38)).cell? ⟨wr.heap.size, 0, none⟩ = some (.string ⟨pn.toArray⟩) := by rw [Lib.cell_of_heap hkp]; rfl
        have d1 : (wr.alloc (.cells #[.string ⟨pn.toArray⟩, .string ⟨pv.toArray⟩] 38)).cell? ⟨wr.heap.size, 1, none⟩ = some (.string ⟨pv.toArray⟩) := by rw [Lib.cell_of_heap hkp]; rfl
        have HB2 := Lib.hid (HB.out.trans (hba.mono hszB))
        have hszk : (wr.alloc (.cells #[.string ⟨pn.toArray⟩, .string ⟨pv.toArray⟩] 38)).heap.size = wr.heap.size + 1 := by simp
        clear hba hkp c1 c2 HB
        generalize (wr.alloc (.cells #[.string ⟨pn.toArray⟩, .string ⟨pv.toArray⟩] 38)) = wn at *
        have hszN : w1.heap.size ≤ wn.heap.size := HB2.out.size
        by_cases k1 : pn.length ≤ 100
        · have k1I : ¬ (100 : Int) < (pn.length : Int) := by omega
          by_cases k2 : pv.length ≤ 100
          · have k2I : ¬ (100 : Int) < (pv.length : Int) := by omega
            by_cases k3 : pn = []
            · subst k3
              go_wp2_with fail
              refine bodyPost_ret (results_tmp rfl _ _ _) rfl ?_
              exact ⟨rfl, HB1.out.trans (HB2.out.mono hsz1)⟩
            · have k3I : pn.isEmpty = false := by simpa using k3
              go_wp2_with fail
              refine (told_any pn wn (by omega)).mono ?_
              rintro e w2 ⟨rfl, hb2⟩
              have e0 := (hb2.cell (World.block_lt_of_cell? _ _ d0)).trans d0
              have e1 := (hb2.cell (World.block_lt_of_cell? _ _ d1)).trans d1
              have HB3 := Lib.hid (HB2.out.trans (hb2.mono hszN))
              have hszk2 : wr.heap.size < w2.heap.size := by have := hb2.size; omega
              clear d0 d1 HB2 hb2
              cases k4 : toldB pn with
              | false =>
                go_wp2_with fail
                refine bodyPost_ret (results_tmp rfl _ _ _) rfl ?_
                exact ⟨rfl, HB1.out.trans (HB3.out.mono hsz1)⟩
              | true =>
                go_wp2_with fail
                refine (told_any pv w2 (by omega)).mono ?_
                rintro e w3 ⟨rfl, hb3⟩
                have f0 := (hb3.cell (World.block_lt_of_cell? _ _ e0)).trans e0
                have f1 := (hb3.cell (World.block_lt_of_cell? _ _ e1)).trans e1
                have HB4 := Lib.hid (HB3.out.trans (hb3.mono HB3.out.size))
                have hszk3 : wr.heap.size < w3.heap.size := by have := hb3.size; omega
                clear e0 e1 HB3 hb3
                cases k5 : toldB pv with
                | false =>
                  go_wp2_with fail
                  refine bodyPost_ret (results_tmp rfl _ _ _) rfl ?_
                  exact ⟨rfl, HB1.out.trans (HB4.out.mono hsz1)⟩
                | true =>
                  have hsn2 := HSN.out ⟨k1, k2, k3, k4, k5⟩
                  have HSN2 := Lib.hid hsn2
                  have HF0 := Lib.hid f0
                  have hw3 : w1.heap.size ≤ w3.heap.size := HB4.out.size
                  clear hsn2 HSN k4 k5 f0 f1
                  obtain ⟨gO, rfl⟩ : ∃ x : Nat, x = gk := ⟨_, rfl⟩
                  have hjc : (j : Int) ≤ (c : Int) := by omega
                  generalize wr.heap.size = gp at *
                  go_wp2_with fail
                  go_loopg [55] j (fun k y w4 => ∃ q : Nat, y = .int .i64 (q : Int) ∧ q + k = j ∧ Hid (∀ (i : Nat) (hi : i < l.length), i < q → l[i].1 ≠ pn) ∧ Hid (Below w3.heap.size w3 w4))
                  case atStart => exact ⟨0, rfl, by omega, Lib.hid (fun i _ hi => by omega), Lib.hid (Below.refl _ _)⟩
                  case round =>
                    obtain ⟨q, rfl, hq, HN, HB5⟩ := hrel
                    have hsz5 : w3.heap.size ≤ wr.heap.size := HB5.out.size
                    by_cases hlq : q < j
                    · have hlqI : (q : Int) < (j : Int) := by omega
                      have hql : q < l.length := by omega
                      obtain ⟨b', off', eb, c1, c2⟩ := pair_get (HR1.out.below (HB4.out.trans (HB5.out.mono hw3))) hql
                      obtain ⟨rfl, rfl⟩ : b' = b ∧ off' = off := by
                        simp only [Option.some.injEq, Addr.mk.injEq] at eb
                        exact ⟨eb.1.symm, eb.2.1.symm⟩
                      clear eb
                      have hst : l[q].1 ≠ pn → ∀ (i : Nat) (hi : i < l.length), i < q + 1 → l[i].1 ≠ pn := by
                        intro hne i hi hiq
                        by_cases e : i = q
                        · subst e; exact hne
                        · exact HN.out i hi (by omega)
                      have HST := Lib.hid hst
                      clear hst HN
                      generalize l[q] = u at *
                      obtain ⟨un, uv⟩ := u
                      simp only at c1 c2 HST
                      have HF1 := Lib.hid ((HB5.out.cell (World.block_lt_of_cell? _ _ HF0.out)).trans HF0.out)
                      go_upto_region 13 with (fail)
                      have hba : Below wr.heap.size wr (wr.alloc (.cells #[.string ⟨un.toArray⟩, .string ⟨uv.toArray⟩] 38)) := (Below.refl _ _).alloc (Nat.le_refl _) _
                      have hkp := heap_alloc_new wr (.cells #[.string ⟨un.toArray⟩, .string ⟨uv.toArray⟩] 38)
                      have d0 : (wr.alloc (.cells #[.string ⟨un.toArray⟩, .string ⟨uv.toArray⟩] 38)).cell? ⟨wr.heap.size, 0, none⟩ = some (.string ⟨un.toArray⟩) := by rw [Lib.cell_of_heap hkp]; rfl
                      have g0 := (hba.cell (World.block_lt_of_cell? _ _ HF1.out)).trans HF1.out
                      have HB6 := Lib.hid (HB5.out.trans (hba.mono hsz5))
                      clear hba hkp c1 c2 HB5 HF1
                      generalize (wr.alloc (.cells #[.string ⟨un.toArray⟩, .string ⟨uv.toArray⟩] 38)) = wn at *
                      by_cases hun : un = pn
                      · subst hun
                        go_wp2_with fail
                        refine bodyPost_ret (results_tmp rfl _ _ _) rfl ?_
                        exact ⟨rfl, HB1.out.trans ((HB4.out.trans (HB6.out.mono hw3)).mono hsz1)⟩
                      · have hb : (un == pn) = false := by simpa using hun
                        have HN2 := Lib.hid (HST.out hun)
                        clear HST
                        go_wp2_with fail
                        go_roundg (gk - 1)
                        case measure => omega
                        case rel => exact ⟨q + 1, by first | rfl | (congr 1), by omega, HN2, HB6⟩
                    · have hlqI : ¬ (q : Int) < (j : Int) := by omega
                      obtain rfl : q = j := by omega
                      have hg2 := HSN2.out (fun i hi h => HN.out i hi h)
                      have HG2 := Lib.hid hg2
                      clear hg2 HSN2 HN
                      go_wp2_with fail
                      go_roundg (gO - 1)
                      case measure => omega
                      case rel => exact ⟨q + 1, by first | rfl | (congr 1), by omega, HG2, Lib.hid (HB4.out.trans (HB5.out.mono hw3))⟩
          · have k2I : (100 : Int) < (pv.length : Int) := by omega
            go_wp2_with fail
            refine bodyPost_ret (results_tmp rfl _ _ _) rfl ?_
            exact ⟨rfl, HB1.out.trans (HB2.out.mono hsz1)⟩
        · have k1I : (100 : Int) < (pn.length : Int) := by omega
          go_wp2_with fail
          refine bodyPost_ret (results_tmp rfl _ _ _) rfl ?_
          exact ⟨rfl, HB1.out.trans (HB2.out.mono hsz1)⟩
      · have hltI : ¬ (j : Int) < (l.length : Int) := by omega
        have hg := HG.out
        rw [List.take_of_length_le (by omega)] at hg
        have hsh := hg.shown h1
        have hfs := formR_show l (fun p hp => ⟨(hg.1 p hp).2.2.2.1, (hg.1 p hp).2.2.2.2, (hg.1 p hp).2.2.1⟩) hg.2 h1
        have hjl := hsh.len
        have HSH := Lib.hid hsh
        have hmr : wr.cell? ⟨0, 0, none⟩ = some (.int .i64 m) := cell_now HB.out HM1.out
        have HMR := Lib.hid hmr
        clear hg HG hsh hmr
        go_wp2_with fail
        refine (show_any a c l wr (HR1.out.below HB.out) HSH.out).mono ?_
        rintro e w2 ⟨rfl, hb2⟩
        have HR2 := Lib.hid ((HR1.out.below HB.out).below hb2)
        have HB2 := Lib.hid (HB.out.trans (hb2.mono hszB))
        have hm2 := cell_now hb2 HMR.out
        have HM2 := Lib.hid hm2
        clear hb2 hm2 HMR
        generalize hJ : Lib.join (l.map showP) [38] = J at *
        have HJ := Lib.hid hJ
        clear hJ
        have HFS := Lib.hid hfs
        clear hfs
        go_wp2_with fail
        refine (form_any J m w2 HM2.out (by omega)).mono ?_
        rintro e w3 ⟨⟨a3, c3, rfl, hr3⟩, hb3⟩
        rw [HFS.out] at hr3 ⊢
        simp only at hr3 ⊢
        have HR3 := Lib.hid hr3
        have HR4 := Lib.hid (HR2.out.below hb3)
        have HB3 := Lib.hid (HB2.out.trans (hb3.mono HB2.out.size))
        clear hb3 hr3 HR2 HM2 HB2
        go_wp2_with fail
        refine (show_any a3 c3 l w3 HR3.out HSH.out).mono ?_
        rintro e w4 ⟨rfl, hb4⟩
        rw [HJ.out]
        have HR5 := Lib.hid (HR3.out.below hb4)
        have HR6 := Lib.hid (HR4.out.below hb4)
        have HB4 := Lib.hid (HB3.out.trans (hb4.mono HB3.out.size))
        have hsz4 : w1.heap.size ≤ w4.heap.size := HB4.out.size
        clear hb4 HR3 HR4 HB3
        go_wp2_with fail
        go_loopg [90] l.length (fun k y wr => ∃ i : Nat, y = .int .i64 (i : Int) ∧ i + k = l.length ∧ Hid (Below w4.heap.size w4 wr))
        case atStart => exact ⟨0, rfl, by omega, Lib.hid (Below.refl _ _)⟩
        case round =>
          obtain ⟨i, rfl, hi, HB5⟩ := hrel
          by_cases hli : i < l.length
          · have hliI : (i : Int) < (l.length : Int) := by omega
            obtain ⟨b5, o5, rfl, c1, c2⟩ := pair_get (HR5.out.below HB5.out) hli
            obtain ⟨b6, o6, rfl, c3, c4⟩ := pair_get (HR6.out.below HB5.out) hli
            generalize l[i] = u at *
            obtain ⟨un, uv⟩ := u
            simp only at c1 c2 c3 c4
            go_upto_region 24 with (fail)
            have hba : Below wr.heap.size wr (wr.alloc (.cells #[.string ⟨un.toArray⟩, .string ⟨uv.toArray⟩] 38)) := (Below.refl _ _).alloc (Nat.le_refl _) _
            have hkp := heap_alloc_new wr (.cells #[.string ⟨un.toArray⟩, .string ⟨uv.toArray⟩] 38)
            have d0 : (wr.alloc (.cells #[.string ⟨un.toArray⟩, .string ⟨uv.toArray⟩] 38)).cell? ⟨wr.heap.size, 0, none⟩ = some (.string ⟨un.toArray⟩) := by rw [Lib.cell_of_heap hkp]; rfl
            have d1 : (wr.alloc (.cells #[.string ⟨un.toArray⟩, .string ⟨uv.toArray⟩] 38)).cell? ⟨wr.heap.size, 1, none⟩ = some (.string ⟨uv.toArray⟩) := by rw [Lib.cell_of_heap hkp]; rfl
            have g1 := (hba.cell (World.block_lt_of_cell? _ _ c1)).trans c1
            have g2 := (hba.cell (World.block_lt_of_cell? _ _ c2)).trans c2
            have HB6 := Lib.hid (HB5.out.trans (hba.mono HB5.out.size))
            clear hba hkp c1 c2 c3 c4 HB5
            generalize (wr.alloc (.cells #[.string ⟨un.toArray⟩, .string ⟨uv.toArray⟩] 38)) = wn at *
            go_quiet (fail)
            go_wp2_with fail
            go_roundg (gk - 1)
            case measure => omega
            case rel => exact ⟨i + 1, by first | rfl | (congr 1), by omega, Lib.hid (below_drewN HB6.out _)⟩
          · have hliI : ¬ (i : Int) < (l.length : Int) := by omega
            go_wp2_with fail
            refine bodyPost_ret (results_tmp rfl _ _ _) rfl ?_
            exact ⟨rfl, HB1.out.trans ((HB4.out.trans (HB5.out.mono hsz4)).mono hsz1)⟩
  · have h1I : (32 : Int) < (l.length : Int) := by omega
    go_wp2_with fail
    refine bodyPost_ret (results_tmp rfl _ _ _) rfl ?_
    exact ⟨rfl, HB1.out⟩
end Go.Proofs.YtgmieceebchmfaaDoor
