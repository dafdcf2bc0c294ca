/- text.one, text.Get. -/
import Derived.Test.YtgmieceebchmfaaDoorTxtI
import Derived.Test.YtgmieceebchmfaaDoorPut
import Derived.Laws.ResultCell
import Derived.Lib.IndexAny
import Derived.WalkSmall
set_option linter.unusedVariables false
namespace Go.Proofs.YtgmieceebchmfaaDoor
open Go.RowKit

theorem pair_stored {w : World} {g : Nat} {x y : Value} {T : TypeId} {fr : Nat × Nat} (h : w.heap[g]? = some (.cells #[x, y] T fr)) (a b : Value) :
    ((w.setCell ⟨g, 0, none⟩ a).setCell ⟨g, 1, none⟩ b).heap[g]? = some (.cells #[a, b] T fr) := by
  simp [World.setCell, Array.getElem?_modify, h]
theorem below_stored2 {B g : Nat} {a w : World} (h : Below B a w) (hg : B ≤ g) (x y : Value) : Below B a ((w.setCell ⟨g, 0, none⟩ x).setCell ⟨g, 1, none⟩ y) :=
  (h.setCell (p := ⟨g, 0, none⟩) hg _).setCell (p := ⟨g, 1, none⟩) hg _
def oneV (s : List UInt8) : Value := .tuple #[.agg #[.string ⟨(oneR s).1.1.toArray⟩, .string ⟨(oneR s).1.2.toArray⟩], .int .i64 (oneR s).2]
theorem oneR_none {s : List UInt8} (h : (61 : UInt8) ∉ s) : oneR s = (([], []), 31) := by
  unfold oneR
  rw [partsL_none 61 s h]
theorem oneR_many {a r : List UInt8} (ha : (61 : UInt8) ∉ a) (hr : (61 : UInt8) ∈ r) : oneR (a ++ 61 :: r) = (([], []), 31) := by
  obtain ⟨b, q, rfl, hb⟩ := first_at 61 r hr
  unfold oneR
  rw [partsL_hit 61 a _ ha, partsL_hit 61 b _ hb]
  split
  · rename_i x y h
    simp only [List.cons.injEq] at h
    exact absurd h.2.2 (partsL_ne 61 q)
  · rfl
theorem oneR_two {a r : List UInt8} (ha : (61 : UInt8) ∉ a) (hr : (61 : UInt8) ∉ r) : oneR (a ++ 61 :: r) = if (uneR a).2 ≠ 0 then (([], []), (uneR a).2) else if (uneR r).2 ≠ 0 then (([], []), (uneR r).2) else if (uneR a).1 = [] then (([], []), 10) else (((uneR a).1, (uneR r).1), 0) := by
  unfold oneR
  rw [partsL_hit 61 a _ ha, partsL_none 61 r hr]

set_option maxRecDepth 100000 in
set_option maxHeartbeats 8000000 in
theorem one_any (s : List UInt8) (m : Int) (w : World) (hm : w.cell? ⟨0, 0, none⟩ = some (.int .i64 m)) (hs : s.length ≤ 1000000) :
    Calls Tryd.prog 37 #[.string ⟨s.toArray⟩] w fun e w' => e = .returned (oneV s) ∧ Below w.heap.size w w' := by
  have hk0 := heap_alloc_new w (.cells #[.string ⟨#[]⟩, .string ⟨#[]⟩] 38)
  have hb0 : Below w.heap.size w (w.alloc (.cells #[.string ⟨#[]⟩, .string ⟨#[]⟩] 38)) := (Below.refl _ _).alloc (Nat.le_refl _) _
  have hm0 : (w.alloc (.cells #[.string ⟨#[]⟩, .string ⟨#[]⟩] 38)).cell? ⟨0, 0, none⟩ = some (.int .i64 m) := cell_now hb0 hm
  have HK0 := Lib.hid hk0
  have HB0 := Lib.hid hb0
  have HM0 := Lib.hid hm0
  clear hk0 hb0 hm0 hm
  go_enter Tryd.func37, Tryd.ntmps37
  go_wp2_with fail
  refine (Tryd.strings_Cut ⟨s.toArray⟩ ⟨#[61]⟩ m _ (by simp only [ByteArray.size, List.size_toArray]; omega) HM0.out).mono ?_
  rintro e w1 ⟨rfl, q, rfl⟩
  have HK1 := Lib.hid (show ((w.alloc (.cells #[.string ⟨#[]⟩, .string ⟨#[]⟩] 38)).drewN q).heap[w.heap.size]? = some (.cells #[.string ⟨#[]⟩, .string ⟨#[]⟩] 38 (0, 0)) from HK0.out)
  have HB1 := Lib.hid (below_drewN HB0.out q)
  generalize (w.alloc (.cells #[.string ⟨#[]⟩, .string ⟨#[]⟩] 38)).drewN q = w1 at *
  clear HK0 HB0 HM0
  by_cases hmem : (61 : UInt8) ∈ s
  · obtain ⟨a, r, rfl, ha⟩ := first_at 61 s hmem
    have hcut : Lib.cut (⟨(a ++ 61 :: r).toArray⟩ : ByteArray).data.toList (⟨#[61]⟩ : ByteArray).data.toList = (a, r, true) := cut_hit 61 a r ha
    rw [hcut]
    have HA := Lib.hid ha
    simp only [List.length_append, List.length_cons] at hs
    clear hcut hmem ha
    go_wp2_with fail
    refine (Tryd.strings_Contains_one ⟨r.toArray⟩ 61 _).mono ?_
    rintro e w2 ⟨rfl, rfl⟩
    have eci : decide (0 ≤ Lib.indexByte (⟨r.toArray⟩ : ByteArray).data.toList 61) = r.contains 61 := (Lib.contains_iff_indexByte r 61).symm
    rw [eci]
    clear eci
    cases hc : r.contains 61 with
    | true =>
      have hr : oneV (a ++ 61 :: r) = .tuple #[.agg #[.string ⟨#[]⟩, .string ⟨#[]⟩], .int .i64 31] := by unfold oneV; rw [oneR_many HA.out (by simpa using hc)]
      have HR := Lib.hid hr
      clear hr hc
      have d0 : w2.cell? ⟨w.heap.size, 0, none⟩ = some (.string ⟨#[]⟩) := by rw [Lib.cell_of_heap HK1.out]; rfl
      have d1 : w2.cell? ⟨w.heap.size, 1, none⟩ = some (.string ⟨#[]⟩) := by rw [Lib.cell_of_heap HK1.out]; rfl
      have f0 : w2.frozen? ⟨w.heap.size, 0, none⟩ = false := Lib.frozen_of_heap HK1.out 0
      have f1 : w2.frozen? ⟨w.heap.size, 1, none⟩ = false := Lib.frozen_of_heap HK1.out 1
      go_wp2_with fail
      have hst := pair_stored HK1.out (.string ⟨#[]⟩) (.string ⟨#[]⟩)
      have e0 := Lib.cell_of_heap hst 0
      have e1 := Lib.cell_of_heap hst 1
      simp only [List.getElem?_toArray] at e0 e1
      refine bodyPost_ret (v := .tuple #[.agg #[.string ⟨#[]⟩, .string ⟨#[]⟩], .int .i64 31]) (by simp [results, Tryd.results37, go_sem, e0, e1]) rfl ?_
      exact ⟨by rw [HR.out]; try rfl, below_stored2 HB1.out (Nat.le_refl _) _ _⟩
    | false =>
      have hr := oneR_two HA.out (r := r) (by simpa using hc)
      have HR := Lib.hid hr
      clear hr hc
      go_wp2_with fail
      refine (unescape_any a w2 (by omega)).mono ?_
      rintro e w3 ⟨rfl, hb3⟩
      have HK3 := Lib.hid ((hb3.block _ (Array.getElem?_eq_some_iff.1 HK1.out).1).trans HK1.out)
      have HB3 := Lib.hid (HB1.out.trans (hb3.mono HB1.out.size))
      clear hb3 HK1 HB1
      unfold uneV
      generalize uneR a = ra at *
      obtain ⟨na, ea⟩ := ra
      by_cases hea : ea = 0
      · subst hea
        go_wp2_with fail
        refine (unescape_any r w3 (by omega)).mono ?_
        rintro e w4 ⟨rfl, hb4⟩
        have HK4 := Lib.hid ((hb4.block _ (Array.getElem?_eq_some_iff.1 HK3.out).1).trans HK3.out)
        have HB4 := Lib.hid (HB3.out.trans (hb4.mono HB3.out.size))
        clear hb4 HK3 HB3
        unfold uneV
        generalize uneR r = rr at *
        obtain ⟨nr, er⟩ := rr
        by_cases her : er = 0
        · subst her
          by_cases hna : na = []
          · subst hna
            have hr : oneV (a ++ 61 :: r) = .tuple #[.agg #[.string ⟨#[]⟩, .string ⟨#[]⟩], .int .i64 10] := by unfold oneV; rw [HR.out]; rfl
            have HR1 := Lib.hid hr
            clear hr HR
            have d0 : w4.cell? ⟨w.heap.size, 0, none⟩ = some (.string ⟨#[]⟩) := by rw [Lib.cell_of_heap HK4.out]; rfl
            have d1 : w4.cell? ⟨w.heap.size, 1, none⟩ = some (.string ⟨#[]⟩) := by rw [Lib.cell_of_heap HK4.out]; rfl
            have f0 : w4.frozen? ⟨w.heap.size, 0, none⟩ = false := Lib.frozen_of_heap HK4.out 0
            have f1 : w4.frozen? ⟨w.heap.size, 1, none⟩ = false := Lib.frozen_of_heap HK4.out 1
            go_wp2_with fail
            have hst := pair_stored HK4.out (.string ⟨#[]⟩) (.string ⟨#[]⟩)
            have e0 := Lib.cell_of_heap hst 0
            have e1 := Lib.cell_of_heap hst 1
            simp only [List.getElem?_toArray] at e0 e1
            refine bodyPost_ret (v := .tuple #[.agg #[.string ⟨#[]⟩, .string ⟨#[]⟩], .int .i64 10]) (by simp [results, Tryd.results37, go_sem, e0, e1]) rfl ?_
            exact ⟨by rw [HR1.out]; try rfl, below_stored2 HB4.out (Nat.le_refl _) _ _⟩
          · have hr : oneV (a ++ 61 :: r) = .tuple #[.agg #[.string ⟨na.toArray⟩, .string ⟨nr.toArray⟩], .int .i64 0] := by unfold oneV; rw [HR.out]; simp [hna]
            have HR1 := Lib.hid hr
            have hne : na.isEmpty = false := by simpa using hna
            clear hr HR
            have d0 : w4.cell? ⟨w.heap.size, 0, none⟩ = some (.string ⟨#[]⟩) := by rw [Lib.cell_of_heap HK4.out]; rfl
            have d1 : w4.cell? ⟨w.heap.size, 1, none⟩ = some (.string ⟨#[]⟩) := by rw [Lib.cell_of_heap HK4.out]; rfl
            have f0 : w4.frozen? ⟨w.heap.size, 0, none⟩ = false := Lib.frozen_of_heap HK4.out 0
            have f1 : w4.frozen? ⟨w.heap.size, 1, none⟩ = false := Lib.frozen_of_heap HK4.out 1
            go_wp2_with fail
            have hst := pair_stored HK4.out (.string ⟨na.toArray⟩) (.string ⟨nr.toArray⟩)
            have e0 := Lib.cell_of_heap hst 0
            have e1 := Lib.cell_of_heap hst 1
            simp only [List.getElem?_toArray] at e0 e1
            refine bodyPost_ret (v := .tuple #[.agg #[.string ⟨na.toArray⟩, .string ⟨nr.toArray⟩], .int .i64 0]) (by simp [results, Tryd.results37, go_sem, e0, e1]) rfl ?_
            exact ⟨by rw [HR1.out]; try rfl, below_stored2 HB4.out (Nat.le_refl _) _ _⟩
        · have hr : oneV (a ++ 61 :: r) = .tuple #[.agg #[.string ⟨#[]⟩, .string ⟨#[]⟩], .int .i64 er] := by unfold oneV; rw [HR.out]; simp [her]
          have HR1 := Lib.hid hr
          clear hr HR
          have d0 : w4.cell? ⟨w.heap.size, 0, none⟩ = some (.string ⟨#[]⟩) := by rw [Lib.cell_of_heap HK4.out]; rfl
          have d1 : w4.cell? ⟨w.heap.size, 1, none⟩ = some (.string ⟨#[]⟩) := by rw [Lib.cell_of_heap HK4.out]; rfl
          have f0 : w4.frozen? ⟨w.heap.size, 0, none⟩ = false := Lib.frozen_of_heap HK4.out 0
          have f1 : w4.frozen? ⟨w.heap.size, 1, none⟩ = false := Lib.frozen_of_heap HK4.out 1
          go_wp2_with fail
          have hst := pair_stored HK4.out (.string ⟨#[]⟩) (.string ⟨#[]⟩)
          have e0 := Lib.cell_of_heap hst 0
          have e1 := Lib.cell_of_heap hst 1
          simp only [List.getElem?_toArray] at e0 e1
          refine bodyPost_ret (v := .tuple #[.agg #[.string ⟨#[]⟩, .string ⟨#[]⟩], .int .i64 er]) (by simp [results, Tryd.results37, go_sem, e0, e1]) rfl ?_
          exact ⟨by rw [HR1.out]; try rfl, below_stored2 HB4.out (Nat.le_refl _) _ _⟩
      · have hr : oneV (a ++ 61 :: r) = .tuple #[.agg #[.string ⟨#[]⟩, .string ⟨#[]⟩], .int .i64 ea] := by unfold oneV; rw [HR.out]; simp [hea]
        have HR1 := Lib.hid hr
        clear hr HR
        have d0 : w3.cell? ⟨w.heap.size, 0, none⟩ = some (.string ⟨#[]⟩) := by rw [Lib.cell_of_heap HK3.out]; rfl
        have d1 : w3.cell? ⟨w.heap.size, 1, none⟩ = some (.string ⟨#[]⟩) := by rw [Lib.cell_of_heap HK3.out]; rfl
        have f0 : w3.frozen? ⟨w.heap.size, 0, none⟩ = false := Lib.frozen_of_heap HK3.out 0
        have f1 : w3.frozen? ⟨w.heap.size, 1, none⟩ = false := Lib.frozen_of_heap HK3.out 1
        go_wp2_with fail
        have hst := pair_stored HK3.out (.string ⟨#[]⟩) (.string ⟨#[]⟩)
        have e0 := Lib.cell_of_heap hst 0
        have e1 := Lib.cell_of_heap hst 1
        simp only [List.getElem?_toArray] at e0 e1
        refine bodyPost_ret (v := .tuple #[.agg #[.string ⟨#[]⟩, .string ⟨#[]⟩], .int .i64 ea]) (by simp [results, Tryd.results37, go_sem, e0, e1]) rfl ?_
        exact ⟨by rw [HR1.out]; try rfl, below_stored2 HB3.out (Nat.le_refl _) _ _⟩
  · have hcut : Lib.cut (⟨s.toArray⟩ : ByteArray).data.toList (⟨#[61]⟩ : ByteArray).data.toList = (s, [], false) := cut_none 61 s hmem
    rw [hcut]
    have hr : oneV s = .tuple #[.agg #[.string ⟨#[]⟩, .string ⟨#[]⟩], .int .i64 31] := by unfold oneV; rw [oneR_none hmem]
    have HR := Lib.hid hr
    clear hr hcut hmem
    have d0 : w1.cell? ⟨w.heap.size, 0, none⟩ = some (.string ⟨#[]⟩) := by rw [Lib.cell_of_heap HK1.out]; rfl
    have d1 : w1.cell? ⟨w.heap.size, 1, none⟩ = some (.string ⟨#[]⟩) := by rw [Lib.cell_of_heap HK1.out]; rfl
    have f0 : w1.frozen? ⟨w.heap.size, 0, none⟩ = false := Lib.frozen_of_heap HK1.out 0
    have f1 : w1.frozen? ⟨w.heap.size, 1, none⟩ = false := Lib.frozen_of_heap HK1.out 1
    go_wp2_with fail
    have hst := pair_stored HK1.out (.string ⟨#[]⟩) (.string ⟨#[]⟩)
    have e0 := Lib.cell_of_heap hst 0
    have e1 := Lib.cell_of_heap hst 1
    simp only [List.getElem?_toArray] at e0 e1
    refine bodyPost_ret (v := .tuple #[.agg #[.string ⟨#[]⟩, .string ⟨#[]⟩], .int .i64 31]) (by simp [results, Tryd.results37, go_sem, e0, e1]) rfl ?_
    exact ⟨by rw [HR.out]; try rfl, below_stored2 HB1.out (Nat.le_refl _) _ _⟩

def paircell (p : PairL) : List Value := [.string ⟨p.1.toArray⟩, .string ⟨p.2.toArray⟩]
theorem paircell_len (p : PairL) : (paircell p).length = 2 := rfl
theorem pair_get {w : World} {a : Option Addr} {l : List PairL} (h : RdC w a (l.flatMap paircell)) {j : Nat} (hj : j < l.length) :
    ∃ b off, a = some ⟨b, off, none⟩ ∧ w.cell? ⟨b, off + j * 2, none⟩ = some (.string ⟨l[j].1.toArray⟩) ∧ w.cell? ⟨b, off + j * 2 + 1, none⟩ = some (.string ⟨l[j].2.toArray⟩) := by
  obtain ⟨b, off, e, hc⟩ := h.at (by intro h0; have h2 := flat_len paircell 2 paircell_len l; rw [h0] at h2; simp at h2; omega)
  have c1 := hc _ _ ((flat_get paircell 2 paircell_len l j 0 hj (by omega)).trans rfl)
  have c2 := hc _ _ ((flat_get paircell 2 paircell_len l j 1 hj (by omega)).trans rfl)
  rw [Nat.add_zero] at c1
  rw [← Nat.add_assoc] at c2
  exact ⟨b, off, e, c1, c2⟩
def getV (l : List PairL) (n : List UInt8) : Value := match getL l n with
  | some v => .tuple #[.string ⟨v.toArray⟩, .bool true]
  | none => .tuple #[.string ⟨#[]⟩, .bool false]
theorem getL_drop (l : List PairL) (n : List UInt8) (j : Nat) (h : j < l.length) : getL (l.drop j) n = if l[j].1 = n then some l[j].2 else getL (l.drop (j + 1)) n := by
  rw [List.drop_eq_getElem_cons h]
  rfl

set_option maxRecDepth 100000 in
set_option maxHeartbeats 4000000 in
theorem get_any (a : Option Addr) (c : Nat) (l : List PairL) (n : List UInt8) (w : World) (hr : RdC w a (l.flatMap paircell)) (hl : l.length ≤ 1000000) :
    Calls Tryd.prog 21 #[.slice a l.length c, .string ⟨n.toArray⟩] w fun e w' => e = .returned (getV l n) ∧ Below w.heap.size w w' := by
  have HR := Lib.hid hr
  clear hr
  go_enter Tryd.func21, Tryd.ntmps21
  go_wp2_with fail
  go_loopg [10] l.length (fun k y wr => ∃ j : Nat, y = .int .i64 (j : Int) ∧ j + k = l.length ∧ Hid (getL l n = getL (l.drop j) n) ∧ Hid (Below w.heap.size w wr))
  case atStart => exact ⟨0, rfl, by omega, Lib.hid (by rw [List.drop_zero]), Lib.hid (Below.refl _ _)⟩
  case round =>
    obtain ⟨j, rfl, hj, HG, HB⟩ := hrel
    by_cases hlt : j < l.length
    · have hltI : (j : Int) < (l.length : Int) := by omega
      obtain ⟨b, off, rfl, c1, c2⟩ := pair_get (HR.out.below HB.out) hlt
      have hg := HG.out
      rw [getL_drop l n j hlt] at hg
      generalize l[j] = p at *
      obtain ⟨pn, pv⟩ := p
      simp only at c1 c2 hg
      by_cases hpn : pn = n
      · subst hpn
        rw [if_pos rfl] at hg
        have HG1 := Lib.hid hg
        clear hg HG
        go_wp2_with fail
        go_ret2
        exact ⟨by unfold getV; rw [HG1.out]; rfl, HB.out.alloc HB.out.size _⟩
      · rw [if_neg hpn] at hg
        have HG1 := Lib.hid hg
        have hb : (pn == n) = false := by simpa using hpn
        clear hg HG
        go_wp2_with fail
        go_roundg (gk - 1)
        case measure => omega
        case rel => exact ⟨j + 1, by first | rfl | (congr 1), by omega, HG1, Lib.hid (HB.out.alloc HB.out.size _)⟩
    · have hltI : ¬ (j : Int) < (l.length : Int) := by omega
      have hg := HG.out
      rw [List.drop_of_length_le (by omega)] at hg
      have HG1 := Lib.hid hg
      clear hg HG
      go_wp2_with fail
      go_ret2
      exact ⟨by unfold getV; rw [HG1.out]; rfl, HB.out⟩
end Go.Proofs.YtgmieceebchmfaaDoor
