/- Package sha: Sum; the anchor. -/
import Derived.Test.YtbblnlddiafkhaaDoorShaF
set_option linter.unusedVariables false
namespace Go.Proofs.YtbblnlddiafkhaaDoor
open Go.RowKit

theorem Rd.lt {w : World} {b off : Nat} {s : Option Nat} {l : List UInt8} (h : Rd w (some ⟨b, off, s⟩) l) (hl : l ≠ []) : b < w.heap.size := by
  rcases h with h | ⟨b', off', e, hc⟩
  · exact absurd h hl
  · simp at e
    have hp : 0 < l.length := List.length_pos_iff.2 hl
    have := World.block_lt_of_cell? w _ (hc 0 hp)
    simp at this
    omega

/-- Parts lie at an address. -/
def RdS (w : World) (a : Option Addr) (ps : List (List UInt8)) : Prop :=
  ps = [] ∨ ∃ b off, a = some ⟨b, off, none⟩ ∧ ∀ i (h : i < ps.length), ∃ x c, w.cell? ⟨b, off + i, none⟩ = some (.slice x (ps[i]).length c) ∧ Rd w x ps[i]
theorem RdS.below {w w' : World} {a : Option Addr} {ps : List (List UInt8)} (h : RdS w a ps) (hb : Below w.heap.size w w') : RdS w' a ps := by
  rcases h with rfl | ⟨b, off, rfl, hc⟩
  · exact .inl rfl
  · refine .inr ⟨b, off, rfl, fun i hi => ?_⟩
    obtain ⟨x, c, h1, h2⟩ := hc i hi
    refine ⟨x, c, ?_, h2.below hb⟩
    rw [hb.cell (World.block_lt_of_cell? w _ h1)]
    exact h1

theorem flatten_le (ps : List (List UInt8)) (j : Nat) : (ps.take j).flatten.length ≤ ps.flatten.length := by
  conv => rhs; rw [← List.take_append_drop j ps]
  rw [List.flatten_append, List.length_append]
  omega

set_option maxRecDepth 100000 in
set_option maxHeartbeats 4000000 in
theorem sum_any (ps : List (List UInt8)) (ap : Option Addr) (n c : Nat) (w : World) (hr : RdS w ap ps) (hn : n = ps.length) (hps : ps.length ≤ 1000000) (hlen : ps.flatten.length ≤ 900000) :
    Calls Tryd.prog 57 #[.slice ap n c] w fun e w' => ∃ v', e = .returned v' ∧ Tl w.heap.size w' v' (sha ps.flatten) ∧ Below w.heap.size w w' := by
  subst hn
  have HR := Lib.hid hr
  clear hr
  go_enter Tryd.func57, Tryd.ntmps57
  go_wp2_with fail
  refine (new_any w).mono ?_
  rintro e w1 ⟨rfl, rfl⟩
  have hm := new_hm w.heap.size w (Nat.le_refl _)
  have hb1 : Below w.heap.size w (w.alloc (.cells (hCells iv (.slice none 0 0) 0) 113)) := (Below.refl _ _).alloc (Nat.le_refl _) _
  obtain ⟨w1, hw1⟩ : ∃ w1, w.alloc (.cells (hCells iv (.slice none 0 0) 0) 113) = w1 := ⟨_, rfl⟩
  rw [hw1] at hm hb1 ⊢
  have HM1 := Lib.hid hm
  have HB1 := Lib.hid hb1
  clear hw1 hm hb1
  go_wp2_with fail
  go_loopg [9] ps.length (fun k y wr => ∃ j : Nat, ∃ v : Value, y = .int .i64 j ∧ j + k = ps.length ∧ Hid (HM w.heap.size wr w.heap.size v (ps.take j).flatten) ∧ Hid (Below w.heap.size w wr))
  case atStart => exact ⟨0, _, rfl, by omega, HM1, HB1⟩
  case round =>
    clear HM1 HB1
    obtain ⟨j, v, rfl, hj, HM, HB⟩ := hrel
    by_cases hlt : j < ps.length
    · obtain ⟨b, off, hap, hc⟩ : ∃ b off, ap = some ⟨b, off, none⟩ ∧ ∀ i (h : i < ps.length), ∃ x c, w.cell? ⟨b, off + i, none⟩ = some (.slice x (ps[i]).length c) ∧ Rd w x ps[i] := by
        rcases HR.out with h | h
        · rw [h] at hlt; simp at hlt
        · exact h
      obtain ⟨x, cx, hcell, hrd⟩ := hc j hlt
      obtain ⟨l, hl⟩ : ∃ l, ps[j] = l := ⟨_, rfl⟩
      rw [hl] at hcell hrd
      have hcell' := cell_now HB.out hcell
      have htake : (ps.take (j + 1)).flatten = (ps.take j).flatten ++ l := by
        rw [List.take_add_one, List.getElem?_eq_getElem hlt, hl]
        simp
      have hfl := flatten_le ps (j + 1)
      rw [htake, List.length_append] at hfl
      have hw := write_any w.heap.size w.heap.size v (ps.take j).flatten l x l.length cx wr HM.out HB.out.size (hrd.below HB.out) rfl (fun hne b off s e => by
        subst e
        have := hrd.lt hne
        omega) (by omega)
      have HW := Lib.hid hw
      have HT := Lib.hid htake
      have hjI : (j : Int) < (ps.length : Int) := by omega
      have hjn : ((j : Int)).toNat = j := by omega
      have hj0 : 0 ≤ (j : Int) := by omega
      subst hap
      clear hc hcell hrd hl hw htake hfl
      go_wp2_with fail
      refine HW.out.mono ?_
      rintro e w2 ⟨rfl, v', hm2, hk2, _⟩
      have hb2 : Below w.heap.size w w2 := HB.out.trans (hk2.below w.heap.size HB.out.size (fun k hk h => by
        rcases h with h | h
        · omega
        · have := (HM.out.tl.lt k h).1
          omega))
      rw [← HT.out] at hm2
      have HM2 := Lib.hid hm2
      have HB2 := Lib.hid hb2
      clear hm2 hk2 hb2 hcell'
      go_wp2_with fail
      go_roundg (gk - 1)
      case measure => omega
      case rel => exact ⟨j + 1, v', by go_num, by omega, HM2, HB2⟩
    · obtain rfl : j = ps.length := by omega
      have hm := HM.out
      rw [List.take_length] at hm
      have HM2 := Lib.hid hm
      clear hm
      go_wp2_with fail
      refine (hsum_any w.heap.size w.heap.size v ps.flatten wr HM2.out hlen).mono ?_
      rintro e w2 ⟨v', rfl, ht, hb⟩
      have hb2 := HB.out.trans (hb.mono HB.out.size)
      have ht2 := ht.mono HB.out.size
      obtain ⟨a', c', rfl, _⟩ := ht2.shape
      have HB2 := Lib.hid hb2
      have HT2 := Lib.hid ht2
      clear ht hb hb2 ht2
      go_wp2_with fail
      go_ret
      exact ⟨_, rfl, HT2.out, HB2.out⟩

/-- One part. -/
theorem RdS.one {w : World} {a : Option Addr} {l : List UInt8} {c : Nat} (h : Rd w a l) (T : TypeId) : RdS (w.alloc (.cells #[.slice a l.length c] T)) (some ⟨w.heap.size, 0, none⟩) [l] := by
  refine .inr ⟨w.heap.size, 0, rfl, fun i hi => ?_⟩
  simp at hi
  subst hi
  refine ⟨a, c, ?_, h.alloc _⟩
  rw [Lib.cell_of_heap (heap_alloc_new w _)]
  rfl
end Go.Proofs.YtbblnlddiafkhaaDoor
