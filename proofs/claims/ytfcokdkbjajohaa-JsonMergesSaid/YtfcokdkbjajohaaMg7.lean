/- Merged: JsWq, JsWu, JsWv, JsDf, JsDw, JsMq, Dig, JsIn, JsMbp, JsWp, JsMbw, JsWq2. -/
import Derived.Lib.SliceRun
import Derived.Lib.ItoaNum
import Derived.Lib.AtoiTie
import Derived.Lib.ParseIntB
import Derived.Lib.ItoaMem
import Derived.Test.YtfcokdkbjajohaaMg1
import Derived.Test.YtfcokdkbjajohaaMg2
import Derived.Test.YtfcokdkbjajohaaMg3
import Derived.Test.YtfcokdkbjajohaaMg4
import Derived.Test.YtfcokdkbjajohaaMg5
import Derived.Test.YtfcokdkbjajohaaMg6
/- clear of a row of members. -/
set_option linter.unusedVariables false
namespace Go.Proofs.Ytfcokdkbjajohaa
open Go.RowKit

def zeroM6 : Array Value := #[.string ⟨#[]⟩, .int .i64 0, .bool false, .string ⟨#[]⟩, .slice none 0 0, .slice none 0 0]
theorem info_mem6 : (Try.prog.info? 38).map (fun i => (i.zero, i.size)) = some (some (.agg zeroM6), 6) := by kernel_rfl
theorem zero_cells_one (n : Nat) : ∀ v ∈ (Builtin.zeroCells zeroM6 n).toList, v.oneCell' = true := by
  intro v hv
  simp only [Builtin.zeroCells, Array.toList_map, List.mem_map] at hv
  obtain ⟨i, -, rfl⟩ := hv
  have h : i % zeroM6.size < 6 := Nat.mod_lt _ (by decide)
  generalize i % zeroM6.size = j at *
  match j, h with
  | 0, _ => rfl
  | 1, _ => rfl
  | 2, _ => rfl
  | 3, _ => rfl
  | 4, _ => rfl
  | 5, _ => rfl
theorem zero_cells_len (n : Nat) : (Builtin.zeroCells zeroM6 n).toList.length = n * 6 := by
  simp [Builtin.zeroCells, zeroM6]
theorem clear_members (w : World) (ty : TypeId) (b o n c : Nat) (hn : 0 < n) (hc : ∀ j, j < n * 6 → (w.cell? ⟨b, o + j, none⟩).isSome = true) (hf : ∀ j, j < n * 6 → w.frozen? ⟨b, o + j, none⟩ = false) :
    (Builtin.clear_ #[26] ty #[.slice (some ⟨b, o, none⟩) n c]).run Try.prog w = .ok (.tuple #[]) (w.setCells b o (Builtin.zeroCells zeroM6 n).toList) := by
  obtain ⟨i0, hi, hz⟩ : ∃ i0, Try.prog.info? 38 = some i0 ∧ i0.zero = some (.agg zeroM6) := by
    have h := info_mem6
    cases e : Try.prog.info? 38 with
    | none => rw [e] at h; cases h
    | some i => rw [e] at h; simp at h; exact ⟨i, rfl, h.1⟩
  have hst := run_storeCells_cells (P := Try.prog) b o (Builtin.zeroCells zeroM6 n).toList 0 w (by rw [zero_cells_len]; simpa using hc) (by rw [zero_cells_len]; simpa using hf) (zero_cells_one n)
  simp only [Nat.add_zero] at hst
  obtain ⟨m, rfl⟩ : ∃ m, n = m + 1 := ⟨n - 1, by omega⟩
  simp [Builtin.clear_, run_underlying Try.underlying26, zeroValue, typeInfo, hi, hz, Value.cells, hst]
end Go.Proofs.Ytfcokdkbjajohaa
/- A row of members, cleared behind a place; the members of other names, with their cells: no program. -/
set_option linter.unusedVariables false
namespace Go.Proofs.Ytfcokdkbjajohaa
open Go.RowKit

theorem setCells_keep (b : Nat) : ∀ (L : List Value) (o : Nat) (w : World), But b w (w.setCells b o L) ∧ (w.setCells b o L).heap.size = w.heap.size ∧ (∀ q, q < o → (w.setCells b o L).cell? ⟨b, q, none⟩ = w.cell? ⟨b, q, none⟩)
  | [], o, w => ⟨⟨rfl, rfl, rfl, Nat.le_refl _, fun _ _ _ => rfl⟩, rfl, fun _ _ => rfl⟩
  | v :: r, o, w => by
    obtain ⟨h1, h2, h3⟩ := setCells_keep b r (o + 1) (w.setCell ⟨b, o, none⟩ v)
    have hs : (w.setCell ⟨b, o, none⟩ v).heap.size = w.heap.size := by simp [World.setCell]
    refine ⟨⟨h1.os, h1.tape, h1.output, by have := h1.size; rw [hs] at this; exact this, fun k hk hb => ?_⟩, h2.trans hs, fun q hq => ?_⟩
    · exact (h1.block k (by rw [hs]; exact hk) hb).trans (Below.heap_setCell _ _ _ _ hb)
    · refine (h3 q (by omega)).trans ?_
      simp only [World.cell?, World.setCell, Array.getElem?_modify]
      cases e : w.heap[b]? with
      | none => simp
      | some ob =>
        cases ob with
        | cells cs T fr => simp [Array.getElem?_setIfInBounds_ne (show o ≠ q by omega)]
        | _ => simp
/-- The cells of the members of other names. -/
def withoutC (n : List UInt8) : List (List UInt8 × JV) → List (List Value) → List (List Value)
  | p :: m, r :: cm => if p.1 = n then withoutC n m cm else r :: withoutC n m cm
  | _, _ => []
theorem withoutC_reps {ok : Nat → Prop} {w : World} (n : List UInt8) : ∀ (m : List (List UInt8 × JV)) (cm : List (List Value)), RepsM ok w cm m → RepsM ok w (withoutC n m cm) (withoutM n m)
  | [], cm, h => by
    have hc : cm = [] := List.eq_nil_of_length_eq_zero h.1
    subst hc
    exact RepsM.nil ok w
  | p :: m, [], h => by have := h.1; simp at this
  | p :: m, r :: cm, h => by
    have ht : RepsM ok w cm m := ⟨by have := h.1; simpa using this, fun i hi hj => by have := h.2 (i + 1) (by simpa using hi) (by simpa using hj); simpa using this⟩
    have hr : Rep ok w r p.2 := by have := h.2 0 (by simp) (by simp); simpa using this
    have ih := withoutC_reps n m cm ht
    by_cases e : p.1 = n
    · have e1 : withoutM n (p :: m) = withoutM n m := by unfold withoutM; rw [List.filter_cons_of_neg (by simp [e])]
      rw [e1]
      unfold withoutC
      rw [if_pos e]
      exact ih
    · have e1 : withoutM n (p :: m) = p :: withoutM n m := by unfold withoutM; rw [List.filter_cons_of_pos (by simp [e])]
      rw [e1]
      unfold withoutC
      rw [if_neg e]
      refine ⟨by simp [ih.1], fun i hi hj => ?_⟩
      cases i with
      | zero => simpa using hr
      | succ i => simpa using ih.2 i (by simpa using hi) (by simpa using hj)
end Go.Proofs.Ytfcokdkbjajohaa
/- The members of other names, up to a place: no program (for DeleteFunc). -/
set_option linter.unusedVariables false
namespace Go.Proofs.Ytfcokdkbjajohaa
open Go.RowKit

theorem withoutM_snoc (n : List UInt8) (m : List (List UInt8 × JV)) (j : Nat) (h : j < m.length) : withoutM n (m.take (j + 1)) = if m[j].1 = n then withoutM n (m.take j) else withoutM n (m.take j) ++ [m[j]] := by
  unfold withoutM
  rw [List.take_succ_eq_append_getElem h, List.filter_append]
  by_cases e : m[j].1 = n
  · rw [if_pos e, List.filter_cons_of_neg (by simp [e])]
    simp
  · rw [if_neg e, List.filter_cons_of_pos (by simp [e])]
    simp
theorem withoutC_snoc (n : List UInt8) : ∀ (m : List (List UInt8 × JV)) (cm : List (List Value)) (j : Nat) (h : j < m.length) (hl : cm.length = m.length), withoutC n (m.take (j + 1)) (cm.take (j + 1)) = if m[j].1 = n then withoutC n (m.take j) (cm.take j) else withoutC n (m.take j) (cm.take j) ++ [cm[j]'(by omega)]
  | [], _, _, h, _ => by simp at h
  | p :: m, [], _, _, hl => by simp at hl
  | p :: m, r :: cm, 0, h, hl => by
    simp only [List.take_succ_cons, List.take_zero, withoutC, List.getElem_cons_zero]
    split <;> rfl
  | p :: m, r :: cm, j + 1, h, hl => by
    have ih := withoutC_snoc n m cm j (by simpa using h) (by simpa using hl)
    simp only [List.take_succ_cons, withoutC, List.getElem_cons_succ]
    by_cases e : p.1 = n
    · rw [if_pos e, if_pos e]
      exact ih
    · rw [if_neg e, if_neg e, ih]
      split <;> rfl
/-- Up to the first of the name nothing goes. -/
theorem without_idx (n : List UInt8) : ∀ (m : List (List UInt8 × JV)), withoutM n (m.take (idxM n m)) = m.take (idxM n m)
  | [] => rfl
  | (k, u) :: r => by
    unfold idxM
    by_cases e : k = n
    · rw [if_pos e]; rfl
    · rw [if_neg e, List.take_succ_cons]
      unfold withoutM
      rw [List.filter_cons_of_pos (by simp [e])]
      congr 1
      exact without_idx n r
theorem withoutC_idx (n : List UInt8) : ∀ (m : List (List UInt8 × JV)) (cm : List (List Value)), cm.length = m.length → withoutC n (m.take (idxM n m)) (cm.take (idxM n m)) = cm.take (idxM n m)
  | [], cm, h => by
    have hc : cm = [] := List.eq_nil_of_length_eq_zero h
    subst hc
    rfl
  | (k, u) :: m, [], h => by simp at h
  | (k, u) :: m, r :: cm, h => by
    unfold idxM
    by_cases e : k = n
    · rw [if_pos e]; rfl
    · rw [if_neg e, List.take_succ_cons, List.take_succ_cons]
      unfold withoutC
      rw [if_neg e, withoutC_idx n m cm (by simpa using h)]
end Go.Proofs.Ytfcokdkbjajohaa
/- DeleteFunc over members, with Without's closure. -/
set_option linter.unusedVariables false
namespace Go.Proofs.Ytfcokdkbjajohaa
open Go.RowKit

theorem memCells_taken : ∀ (m : List (List UInt8 × JV)) (cm : List (List Value)) (j : Nat) (q : Nat) (u : Value), (memCells (m.take j) (cm.take j))[q]? = some u → (memCells m cm)[q]? = some u
  | [], cm, j, q, u, h => by simp [memCells] at h
  | p :: m, [], j, q, u, h => by cases j <;> simp [memCells] at h
  | p :: m, r :: cm, 0, q, u, h => by simp [memCells] at h
  | p :: m, r :: cm, j + 1, q, u, h => by
    simp only [List.take_succ_cons, memCells] at h ⊢
    cases q with
    | zero => simpa using h
    | succ q =>
      simp only [List.getElem?_cons_succ] at h ⊢
      by_cases hq : q < r.length
      · rw [List.getElem?_append_left hq] at h ⊢
        exact h
      · rw [List.getElem?_append_right (by omega)] at h ⊢
        exact memCells_taken m cm j _ u h
theorem setCells_row (b : Nat) : ∀ (L : List Value) (o : Nat) (w : World) (cur : Array Value) (T : TypeId) (fr : Nat × Nat), w.heap[b]? = some (.cells cur T fr) → ∃ cur2, (w.setCells b o L).heap[b]? = some (.cells cur2 T fr) ∧ ∀ q : Nat, q < o → cur2[q]? = cur[q]?
  | [], o, w, cur, T, fr, h => ⟨cur, h, fun _ _ => rfl⟩
  | v :: r, o, w, cur, T, fr, h => by
    have h' : (w.setCell ⟨b, o, none⟩ v).heap[b]? = some (.cells (cur.setIfInBounds o v) T fr) := by simp [World.setCell, Array.getElem?_modify, h]
    obtain ⟨c2, e, k⟩ := setCells_row b r (o + 1) _ _ T fr h'
    exact ⟨c2, e, fun q hq => (k q (by omega)).trans (Array.getElem?_setIfInBounds_ne (by omega))⟩
theorem but_below {g : Nat} {w w1 w2 : World} (h : But g w w1) (hb : Below w1.heap.size w1 w2) : But g w w2 :=
  ⟨hb.os.trans h.os, hb.tape.trans h.tape, hb.output.trans h.output, Nat.le_trans h.size hb.size, fun k hk hne => (hb.block k (Nat.lt_of_lt_of_le hk h.size)).trans (h.block k hk hne)⟩
theorem six_but (w : World) (g p : Nat) (x a b c d e : Value) : But g w ((((((w.setCell ⟨g, p, none⟩ x).setCell ⟨g, p + 1, none⟩ a).setCell ⟨g, p + 2, none⟩ b).setCell ⟨g, p + 3, none⟩ c).setCell ⟨g, p + 4, none⟩ d).setCell ⟨g, p + 5, none⟩ e) :=
  (((((But.setCell _ _ _ _).trans (But.setCell _ _ _ _)).trans (But.setCell _ _ _ _)).trans (But.setCell _ _ _ _)).trans (But.setCell _ _ _ _)).trans (But.setCell _ _ _ _)
set_option maxRecDepth 100000 in
set_option maxHeartbeats 16000000 in
theorem odel_any (n : List UInt8) (q : Addr) (ok : Nat → Prop) (g cap : Nat) (cur : Array Value) (m : List (List UInt8 × JV)) (cm : List (List Value)) (w : World) (hg : w.heap[g]? = some (.cells cur 38 (0, 0))) (hcap : m.length ≤ cap) (hcs : cur.size = cap * 6) (htk : cur.toList.take (m.length * 6) = memCells m cm) (hok : ok g) (h4 : RepsM ok w cm m) (hq : w.cell? q = some (.string ⟨n.toArray⟩)) (hqg : q.block ≠ g) (hl : m.length ≤ 1000000) :
    Calls Try.prog 37 #[.slice (some ⟨g, 0, none⟩) m.length cap, .func (.func 38) #[] #[.pointer (some q)]] w fun e w' => But g w w' ∧ e = .returned (.slice (some ⟨g, 0, none⟩) (withoutM n m).length cap) ∧
      ∃ cur', w'.heap[g]? = some (.cells cur' 38 (0, 0)) ∧ ∀ (i : Nat) (u : Value), (memCells (withoutM n m) (withoutC n m cm))[i]? = some u → cur'[i]? = some u := by
  have hcell : ∀ (i : Nat) (u : Value), (memCells m cm)[i]? = some u → cur[i]? = some u := fun i u hu => by
    rw [← htk, List.getElem?_take] at hu
    split at hu
    · simpa using hu
    · cases hu
  have h3 : RdO ok w (some ⟨g, 0, none⟩) (memCells m cm) := .inr ⟨g, 0, rfl, hok, fun i u hu => by rw [Nat.zero_add, Lib.cell_of_heap hg]; exact hcell i u hu⟩
  have HIX := Lib.hid (oix_any n q ok (some ⟨g, 0, none⟩) cap m cm w h3 h4 hq (by omega))
  have HG := Lib.hid hg
  have HCELL := Lib.hid hcell
  have H3 := Lib.hid h3
  have H4 := Lib.hid h4
  have HQ := Lib.hid hq
  have hql := World.block_lt_of_cell? _ _ hq
  have hgl : g < w.heap.size := (Array.getElem?_eq_some_iff.1 hg).1
  obtain ⟨R, hR⟩ : ∃ R : Int, (if idxM n m < m.length then (idxM n m : Int) else -1) = R := ⟨_, rfl⟩
  rw [hR] at HIX
  have HR := Lib.hid hR
  clear htk hcell h3 h4 hq hg hR hok
  obtain ⟨W, hW⟩ : ∃ k, (withoutM n m).length = k := ⟨_, rfl⟩
  rw [hW]
  have HW := Lib.hid hW
  clear hW
  go_enter Try.func37, Try.ntmps37
  go_wp2_with fail
  refine HIX.out.mono ?_
  rintro e w2 ⟨hb2, rfl⟩
  have HB2 := Lib.hid hb2
  clear hb2 HIX
  by_cases hi : idxM n m < m.length
  case neg =>
    have hRi : R = -1 := by rw [← HR.out, if_neg hi]
    subst hRi
    go_wp2_with fail
    refine bodyPost_ret (results_tmp rfl _ _ _) rfl ?_
    have hile := idxM_le n m
    have hie : idxM n m = m.length := by omega
    have e1 : withoutM n m = m := by
      have h := without_idx n m
      rw [hie, List.take_length] at h
      exact h
    have e2 : withoutC n m cm = cm := by
      have h := withoutC_idx n m cm H4.out.1
      rw [hie, List.take_length, show cm.take m.length = cm by rw [← H4.out.1, List.take_length]] at h
      exact h
    have hWm : W = m.length := by rw [← HW.out, e1]
    refine ⟨but_below ⟨rfl, rfl, rfl, Nat.le_refl _, fun _ _ _ => rfl⟩ HB2.out, by rw [hWm]; rfl, cur, (HB2.out.block _ hgl).trans HG.out, ?_⟩
    rw [e1, e2]
    exact HCELL.out
  have hRi : R = (idxM n m : Int) := by rw [← HR.out, if_pos hi]
  subst hRi
  obtain ⟨j0, hj0⟩ : ∃ j, idxM n m = j := ⟨_, rfl⟩
  have HJ0 := Lib.hid hj0
  rw [hj0] at hi ⊢
  clear hj0
  have hj1 : ¬ ((j0 : Nat) : Int) = -1 := by omega
  go_wp2_with fail
  have hg2 := (HB2.out.block _ hgl).trans HG.out
  have hsz : cur.size = cap * 6 := hcs
  go_loopg [5, 6] m.length (fun k x5 x6 wr => ∃ (i j : Nat) (cur' : Array Value), x5 = .int .i64 (i : Int) ∧ x6 = .int .i64 (j : Int) ∧ i < j ∧ j + k = m.length + j0 + 1 ∧ j ≤ m.length ∧ Hid (i = (withoutM n (m.take j)).length) ∧ Hid (wr.heap[g]? = some (.cells cur' 38 (0, 0)) ∧ cur'.size = cap * 6) ∧
    Hid (∀ (q : Nat) (u : Value), (memCells (withoutM n (m.take j)) (withoutC n (m.take j) (cm.take j)))[q]? = some u → cur'[q]? = some u) ∧ Hid (∀ q : Nat, j * 6 ≤ q → cur'[q]? = cur[q]?) ∧ Hid (But g w wr))
  case atStart =>
    have hnm : (m[j0]'hi).1 = n := by
      have h := idxM_name n m (by rw [HJ0.out]; exact hi)
      simp only [HJ0.out] at h
      exact h
    have e1 : withoutM n (m.take (j0 + 1)) = m.take j0 := by
      rw [withoutM_snoc n m j0 hi, if_pos hnm, ← HJ0.out, without_idx]
    have e2 : withoutC n (m.take (j0 + 1)) (cm.take (j0 + 1)) = cm.take j0 := by
      rw [withoutC_snoc n m cm j0 hi H4.out.1, if_pos hnm, ← HJ0.out, withoutC_idx n m cm H4.out.1]
    refine ⟨j0, j0 + 1, cur, rfl, by first | rfl | (congr 1), by omega, by omega, by omega, Lib.hid ?_, Lib.hid ⟨hg2, hsz⟩, Lib.hid ?_, Lib.hid (fun _ _ => rfl), Lib.hid (but_below ⟨rfl, rfl, rfl, Nat.le_refl _, fun _ _ _ => rfl⟩ HB2.out)⟩
    · rw [e1, List.length_take]; omega
    · rw [e1, e2]
      exact fun q u hu => HCELL.out q u (memCells_taken m cm j0 q u hu)
  case round =>
    obtain ⟨i, j, cur', rfl, rfl, hij, hk, hj, HI, HGR, HPRE, HTAIL, HBT⟩ := hrel
    by_cases hlt : j < m.length
    · have hltI : (j : Int) < (m.length : Int) := by omega
      obtain ⟨b, off, k2, y2, t2, a2, l2, c2, a3, l3, c3, ea, -, i0, i1, i2, i3, i4, i5⟩ := mem_cells' H3.out H4.out j hlt
      cases ea
      have hnow : ∀ (o : Nat) (u : Value), o < 6 → w.cell? ⟨g, 0 + (j * 6 + o), none⟩ = some u → wr.cell? ⟨g, j * 6 + o, none⟩ = some u := fun o u ho h => by
        rw [Nat.zero_add, Lib.cell_of_heap HG.out] at h
        rw [Lib.cell_of_heap HGR.out.1, HTAIL.out (j * 6 + o) (by omega)]
        exact h
      have d0 := hnow 0 _ (by decide) i0
      have d1 := hnow 1 _ (by decide) i1
      have d2 := hnow 2 _ (by decide) i2
      have d3 := hnow 3 _ (by decide) i3
      have d4 := hnow 4 _ (by decide) i4
      have d5 := hnow 5 _ (by decide) i5
      simp only [Nat.add_zero] at d0
      clear i0 i1 i2 i3 i4 i5 hnow
      obtain ⟨nm, hnm⟩ : ∃ x, (m[j]'hlt).1 = x := ⟨_, rfl⟩
      rw [hnm] at d0
      have HNM := Lib.hid hnm
      clear hnm
      have hgw : g < wr.heap.size := (Array.getElem?_eq_some_iff.1 HGR.out.1).1
      have hqr : wr.cell? q = some (.string ⟨n.toArray⟩) := (World.cell?_of_block (HBT.out.block q.block hql hqg)).trans HQ.out
      have hqw := World.block_lt_of_cell? _ _ hqr
      have HD := Lib.hid (And.intro d0 (And.intro d1 (And.intro d2 (And.intro d3 (And.intro d4 d5)))))
      go_upto_region 8 with (fail)
      generalize hw5 : wr.alloc _ = w5
      obtain ⟨vb, hvb⟩ : ∃ b, wr.heap.size = b := ⟨_, rfl⟩
      have hb5 : Below wr.heap.size wr w5 := by rw [← hw5]; exact (Below.refl _ _).alloc (Nat.le_refl _) _
      have hx5 : w5.heap[vb]? = some (.cells #[.string ⟨nm.toArray⟩, .int .i64 k2, .bool y2, .string ⟨t2⟩, .slice a2 l2 c2, .slice a3 l3 c3] 38 (0, 0)) := by rw [← hw5, ← hvb]; exact heap_alloc_new _ _
      have HB5 := Lib.hid hb5
      have HX5 := Lib.hid hx5
      have hvl : vb < w5.heap.size := (Array.getElem?_eq_some_iff.1 hx5).1
      rw [hvb]
      have HC := Lib.hid (ocl_any n nm (.int .i64 k2) (.bool y2) (.string ⟨t2⟩) (.slice a2 l2 c2) (.slice a3 l3 c3) q w5 ((hb5.cell hqw).trans hqr))
      have v0 : w5.cell? ⟨vb, 0, none⟩ = some (.string ⟨nm.toArray⟩) := by rw [Lib.cell_of_heap hx5]; rfl
      have v1 : w5.cell? ⟨vb, 1, none⟩ = some (.int .i64 k2) := by rw [Lib.cell_of_heap hx5]; rfl
      have v2 : w5.cell? ⟨vb, 2, none⟩ = some (.bool y2) := by rw [Lib.cell_of_heap hx5]; rfl
      have v3 : w5.cell? ⟨vb, 3, none⟩ = some (.string ⟨t2⟩) := by rw [Lib.cell_of_heap hx5]; rfl
      have v4 : w5.cell? ⟨vb, 4, none⟩ = some (.slice a2 l2 c2) := by rw [Lib.cell_of_heap hx5]; rfl
      have v5 : w5.cell? ⟨vb, 5, none⟩ = some (.slice a3 l3 c3) := by rw [Lib.cell_of_heap hx5]; rfl
      clear hw5 hvb hb5 hx5 d0 d1 d2 d3 d4 d5 hqr
      by_cases hn : nm = n
      · have hb1 : (nm == n) = true := by rw [hn]; simp
        rw [hb1] at HC
        have HN := Lib.hid hn
        clear hn hb1
        go_wp2_with fail
        refine HC.out.mono ?_
        rintro e w6 ⟨rfl, hb6⟩
        have HB6 := Lib.hid (HB5.out.trans (hb6.mono HB5.out.size))
        clear hb6 v0 v1 v2 v3 v4 v5
        go_wp2_with fail
        go_roundg (gk - 1)
        case measure => omega
        case rel =>
          have e1 : withoutM n (m.take (j + 1)) = withoutM n (m.take j) := by rw [withoutM_snoc n m j hlt, if_pos (by rw [HNM.out, HN.out])]
          have e2 : withoutC n (m.take (j + 1)) (cm.take (j + 1)) = withoutC n (m.take j) (cm.take j) := by rw [withoutC_snoc n m cm j hlt H4.out.1, if_pos (by rw [HNM.out, HN.out])]
          refine ⟨i, j + 1, cur', rfl, by first | rfl | (congr 1), by omega, by omega, by omega, Lib.hid ?_, Lib.hid ⟨(HB6.out.block _ hgw).trans HGR.out.1, HGR.out.2⟩, Lib.hid ?_, Lib.hid (fun q hq => HTAIL.out q (by omega)), Lib.hid (but_below HBT.out HB6.out)⟩
          · rw [e1]; exact HI.out
          · rw [e1, e2]; exact HPRE.out
      · have hb1 : (nm == n) = false := beq_false_of_ne hn
        rw [hb1] at HC
        have HN := Lib.hid hn
        clear hn hb1
        go_wp2_with fail
        refine HC.out.mono ?_
        rintro e w6 ⟨rfl, hb6⟩
        have HB6 := Lib.hid (HB5.out.trans (hb6.mono HB5.out.size))
        have hx6 := (hb6.block _ hvl).trans HX5.out
        have hg6 := (HB6.out.block _ hgw).trans HGR.out.1
        have HG6 := Lib.hid hg6
        have w0 : w6.cell? ⟨vb, 0, none⟩ = some (.string ⟨nm.toArray⟩) := by rw [Lib.cell_of_heap hx6]; rfl
        have w1 : w6.cell? ⟨vb, 1, none⟩ = some (.int .i64 k2) := by rw [Lib.cell_of_heap hx6]; rfl
        have w2 : w6.cell? ⟨vb, 2, none⟩ = some (.bool y2) := by rw [Lib.cell_of_heap hx6]; rfl
        have w3 : w6.cell? ⟨vb, 3, none⟩ = some (.string ⟨t2⟩) := by rw [Lib.cell_of_heap hx6]; rfl
        have w4 : w6.cell? ⟨vb, 4, none⟩ = some (.slice a2 l2 c2) := by rw [Lib.cell_of_heap hx6]; rfl
        have w5' : w6.cell? ⟨vb, 5, none⟩ = some (.slice a3 l3 c3) := by rw [Lib.cell_of_heap hx6]; rfl
        have hsz6 := HGR.out.2
        have dd : ∀ q, q < 6 → ∃ u, w6.cell? ⟨g, i * 6 + q, none⟩ = some u := fun q hq => by
          rw [Lib.cell_of_heap hg6]
          exact ⟨_, Array.getElem?_eq_getElem (by omega)⟩
        obtain ⟨u0, d0⟩ := dd 0 (by decide)
        obtain ⟨u1, d1⟩ := dd 1 (by decide)
        obtain ⟨u2, d2⟩ := dd 2 (by decide)
        obtain ⟨u3, d3⟩ := dd 3 (by decide)
        obtain ⟨u4, d4⟩ := dd 4 (by decide)
        obtain ⟨u5, d5⟩ := dd 5 (by decide)
        simp only [Nat.add_zero] at d0
        have f0 := Lib.frozen_of_heap hg6 (i * 6)
        have f1 := Lib.frozen_of_heap hg6 (i * 6 + 1)
        have f2 := Lib.frozen_of_heap hg6 (i * 6 + 2)
        have f3 := Lib.frozen_of_heap hg6 (i * 6 + 3)
        have f4 := Lib.frozen_of_heap hg6 (i * 6 + 4)
        have f5 := Lib.frozen_of_heap hg6 (i * 6 + 5)
        have hil : (i : Int) < (m.length : Int) := by omega
        clear hb6 v0 v1 v2 v3 v4 v5 dd hx6 hg6 hsz6
        go_upto_region 10 with (fail)
        obtain ⟨cur7, hg7, hs7, hold7, hnew7⟩ := six_put HG6.out (p := i * 6) (by rw [HGR.out.2]; omega) (.string ⟨nm.toArray⟩) (.int .i64 k2) (.bool y2) (.string ⟨t2⟩) (.slice a2 l2 c2) (.slice a3 l3 c3)
        have hbt7 := six_but w6 g (i * 6) (.string ⟨nm.toArray⟩) (.int .i64 k2) (.bool y2) (.string ⟨t2⟩) (.slice a2 l2 c2) (.slice a3 l3 c3)
        clear w0 w1 w2 w3 w4 w5' d0 d1 d2 d3 d4 d5 f0 f1 f2 f3 f4 f5
        generalize (((((w6.setCell ⟨g, i * 6, none⟩ (.string ⟨nm.toArray⟩)).setCell ⟨g, i * 6 + 1, none⟩ (.int .i64 k2)).setCell ⟨g, i * 6 + 2, none⟩ (.bool y2)).setCell ⟨g, i * 6 + 3, none⟩ (.string ⟨t2⟩)).setCell ⟨g, i * 6 + 4, none⟩ (.slice a2 l2 c2)).setCell ⟨g, i * 6 + 5, none⟩ (.slice a3 l3 c3) = w7 at *
        have HG7 := Lib.hid hg7
        have HS7 := Lib.hid hs7
        have HO7 := Lib.hid hold7
        have HN7 := Lib.hid hnew7
        have HBT7 := Lib.hid hbt7
        clear hg7 hs7 hold7 hnew7 hbt7
        go_wp2_with fail
        go_roundg (gk - 1)
        case measure => omega
        case rel =>
          have hjc : j < cm.length := by rw [H4.out.1]; exact hlt
          have e1 : withoutM n (m.take (j + 1)) = withoutM n (m.take j) ++ [m[j]] := by rw [withoutM_snoc n m j hlt, if_neg (by rw [HNM.out]; exact HN.out)]
          have e2 : withoutC n (m.take (j + 1)) (cm.take (j + 1)) = withoutC n (m.take j) (cm.take j) ++ [cm[j]] := by rw [withoutC_snoc n m cm j hlt H4.out.1, if_neg (by rw [HNM.out]; exact HN.out)]
          have ht4 : RepsM ok w (cm.take j) (m.take j) := ⟨by simp [H4.out.1], fun a ha hb => by have := H4.out.2 a (by simp at ha; omega) (by simp at hb; omega); simpa using this⟩
          have hr4 := withoutC_reps n _ _ ht4
          have hlen := mem6_len hr4
          rw [← HI.out] at hlen
          refine ⟨i + 1, j + 1, cur7, by first | rfl | (congr 1), by first | rfl | (congr 1), by omega, by omega, by omega, Lib.hid ?_, Lib.hid ⟨HG7.out, HS7.out.trans HGR.out.2⟩, Lib.hid ?_, Lib.hid (fun q hq => (HO7.out q (by omega)).trans (HTAIL.out q (by omega))), Lib.hid ((but_below HBT.out HB6.out).trans HBT7.out)⟩
          · rw [e1, List.length_append, ← HI.out]; rfl
          · intro p u hu
            rw [e1, e2, show [m[j]] = [(m[j].1, m[j].2)] from rfl, memCells_snoc _ _ _ _ _ hr4.1] at hu
            by_cases hp : p < i * 6
            · rw [List.getElem?_append_left (by omega)] at hu
              rw [HO7.out p (by omega)]
              exact HPRE.out p u hu
            · rw [List.getElem?_append_right (by omega), hlen] at hu
              have ho : p - i * 6 < 6 := by
                have := (List.getElem?_eq_some_iff.1 hu).1
                simp only [List.length_cons, (H4.out.2 j hjc hlt).len] at this
                omega
              have h1 := mem6_get H4.out j hjc hlt (p - i * 6) ho
              have h2 := HCELL.out _ u (h1.trans hu)
              have h3 : wr.cell? ⟨g, j * 6 + (p - i * 6), none⟩ = some u := by
                rw [Lib.cell_of_heap HGR.out.1, HTAIL.out _ (by omega)]
                exact h2
              have h4 := HN7.out (p - i * 6) ho
              rw [show i * 6 + (p - i * 6) = p by omega] at h4
              rw [h4]
              obtain ⟨d0, d1, d2, d3, d4, d5⟩ := HD.out
              generalize p - i * 6 = o at *
              match o, ho with
              | 0, _ => rw [Nat.add_zero, d0] at h3; simpa using h3
              | 1, _ => rw [d1] at h3; simpa using h3
              | 2, _ => rw [d2] at h3; simpa using h3
              | 3, _ => rw [d3] at h3; simpa using h3
              | 4, _ => rw [d4] at h3; simpa using h3
              | 5, _ => rw [d5] at h3; simpa using h3
    · have hje : j = m.length := by omega
      subst hje
      have hge : ¬ ((m.length : Nat) : Int) < (m.length : Int) := by omega
      have hclr := clear_members wr 0 g (i * 6) (m.length - i) (cap - i) (by omega) (fun j hj => by
        rw [Lib.cell_of_heap HGR.out.1, Array.getElem?_eq_getElem (by rw [HGR.out.2]; omega)]
        rfl) (fun j _ => Lib.frozen_of_heap HGR.out.1 _)
      obtain ⟨hbt, hszc, hkeep⟩ := setCells_keep g (Builtin.zeroCells zeroM6 (m.length - i)).toList (i * 6) wr
      have HKEEP := Lib.hid hkeep
      have HBT2 := Lib.hid hbt
      have HSZ := Lib.hid hszc
      clear hbt hszc hkeep
      obtain ⟨cur2, hrow, hrq⟩ := setCells_row g (Builtin.zeroCells zeroM6 (m.length - i)).toList (i * 6) wr cur' _ _ HGR.out.1
      have HROW := Lib.hid hrow
      have HRQ := Lib.hid hrq
      have hiW : i = W := by
        have := HI.out
        rw [List.take_length, HW.out] at this
        exact this
      have HIW := Lib.hid hiW
      clear hrow hrq hiW
      go_wp2_with fail
      refine bodyPost_ret (results_tmp rfl _ _ _) rfl ?_
      refine ⟨HBT.out.trans HBT2.out, by rw [← HIW.out]; rfl, cur2, HROW.out, fun p u hu => ?_⟩
      have hpre := HPRE.out
      rw [List.take_length, show cm.take m.length = cm by rw [← H4.out.1, List.take_length]] at hpre
      have hlen : (memCells (withoutM n m) (withoutC n m cm)).length = W * 6 := by rw [mem6_len (withoutC_reps n m cm H4.out), HW.out]
      have hp : p < (memCells (withoutM n m) (withoutC n m cm)).length := (List.getElem?_eq_some_iff.1 hu).1
      rw [HRQ.out p (by rw [HIW.out]; omega)]
      exact hpre p u hu
end Go.Proofs.Ytfcokdkbjajohaa
/- json: Without. -/
set_option linter.unusedVariables false
namespace Go.Proofs.Ytfcokdkbjajohaa
open Go.RowKit

theorem without_len (n : List UInt8) (m : List (List UInt8 × JV)) : (withoutM n m).length ≤ m.length := by
  unfold withoutM
  exact List.length_filter_le _ _
set_option maxRecDepth 100000 in
set_option maxHeartbeats 4000000 in
theorem odel_nil (n : List UInt8) (q : Addr) (w : World) (hq : w.cell? q = some (.string ⟨n.toArray⟩)) :
    Calls Try.prog 37 #[.slice none 0 0, .func (.func 38) #[] #[.pointer (some q)]] w fun e w' => Below w.heap.size w w' ∧ e = .returned (.slice none 0 0) := by
  have HIX := Lib.hid (oix_any n q (fun _ => True) none 0 [] [] w (.inl rfl) (RepsM.nil _ _) hq (by decide))
  clear hq
  rw [show (if idxM n [] < ([] : List (List UInt8 × JV)).length then (idxM n [] : Int) else -1) = -1 from rfl] at HIX
  go_enter Try.func37, Try.ntmps37
  go_wp2_with fail
  refine HIX.out.mono ?_
  rintro e w2 ⟨hb2, rfl⟩
  have HB2 := Lib.hid hb2
  clear hb2 HIX
  go_wp2_with fail
  refine bodyPost_ret (results_tmp rfl _ _ _) rfl ?_
  exact ⟨HB2.out, rfl⟩
theorem odelr_any (n : List UInt8) (q : Addr) (ok : Nat → Prop) (B : Nat) (v : Value) (m : List (List UInt8 × JV)) (cm : List (List Value)) (w : World) (hown : w.ownsRow B 38 6 v m.length (memCells m cm)) (h4 : RepsM (fun b => ok b ∧ b < B) w cm m) (hq : w.cell? q = some (.string ⟨n.toArray⟩)) (hqB : q.block < B) (hB : B ≤ w.heap.size) (hl : m.length ≤ 1000000) :
    Calls Try.prog 37 #[v, .func (.func 38) #[] #[.pointer (some q)]] w fun e w' => Below B w w' ∧
      ∃ ra c', e = .returned (.slice ra (withoutM n m).length c') ∧ RdO (B ≤ ·) w' ra (memCells (withoutM n m) (withoutC n m cm)) ∧ (withoutM n m).length ≤ c' := by
  rcases hown.2 with ⟨rfl, h0⟩ | ⟨g, cap, cur, rfl, hgB, hg, hle, hcs, hsz, htk⟩
  · have hm : m = [] := List.eq_nil_of_length_eq_zero h0
    subst hm
    refine (odel_nil n q w hq).mono ?_
    rintro e w' ⟨hb, rfl⟩
    exact ⟨hb.mono hB, none, 0, rfl, .inl rfl, Nat.le_refl _⟩
  · refine (odel_any n q (fun b => (ok b ∧ b < B) ∨ b = g) g cap cur m cm w hg hle (by first | exact hcs | exact hsz | omega) htk (.inr rfl) (h4.mono fun b h => .inl h) hq (by omega) hl).mono ?_
    rintro e w' ⟨hb, rfl, cur', hg', hc⟩
    refine ⟨⟨hb.os, hb.tape, hb.output, hb.size, fun k hk => hb.block k (by omega) (by omega)⟩, some ⟨g, 0, none⟩, cap, rfl, .inr ⟨g, 0, rfl, hgB, fun i u hu => ?_⟩, Nat.le_trans (without_len n m) hle⟩
    rw [Nat.zero_add, Lib.cell_of_heap hg']
    exact hc i u hu
theorem three_alloc (w : World) (o0 o1 o2 : Obj) : Below w.heap.size w (((w.alloc o0).alloc o1).alloc o2) ∧ (((w.alloc o0).alloc o1).alloc o2).heap[w.heap.size]? = some o0 ∧ (((w.alloc o0).alloc o1).alloc o2).heap[w.heap.size + 1]? = some o1 ∧ (((w.alloc o0).alloc o1).alloc o2).heap[w.heap.size + 1 + 1]? = some o2 := by
  have s1 : (w.alloc o0).heap.size = w.heap.size + 1 := by simp
  have s2 : ((w.alloc o0).alloc o1).heap.size = w.heap.size + 1 + 1 := by simp
  have h1 := heap_alloc_new (w.alloc o0) o1
  have h2 := heap_alloc_new ((w.alloc o0).alloc o1) o2
  rw [s1] at h1
  rw [s2] at h2
  exact ⟨(((Below.refl _ _).alloc (Nat.le_refl _) _).alloc (by simp) _).alloc (by simp; omega) _, block_alloc (block_alloc (heap_alloc_new w _) _) _, block_alloc h1 _, h2⟩
set_option maxRecDepth 100000 in
set_option maxHeartbeats 16000000 in
theorem jwithout_any (k : Int) (y : Bool) (t : List UInt8) (l : List JV) (m : List (List UInt8 × JV)) (n : List UInt8) (ok : Nat → Prop) (cs : List Value) (w : World) (h : Rep ok w cs (.mk k y t l m)) (hl : m.length ≤ 900000) :
    Calls Try.prog 22 #[.agg cs.toArray, .string ⟨n.toArray⟩] w fun e w' => Below w.heap.size w w' ∧ ∃ cs', e = .returned (.agg cs'.toArray) ∧ Rep (fun b => (ok b ∧ b < w.heap.size) ∨ w.heap.size ≤ b) w' cs' (.mk k y t l (withoutM n m)) := by
  obtain ⟨a, c, a', c', cl, cm, rfl, h1, h2, h3, h4, hc, hc'⟩ := h.parts
  simp only [JV.kind, JV.yes, JV.text, JV.list, JV.mem] at h1 h2 h3 h4 hc hc' ⊢
  unfold strV at *
  clear h
  have hl6 := mem6_len h4
  have hone := h4.one
  have hnn := none_mem h3 h4
  have H1 := Lib.hid h1.lt
  have H2 := Lib.hid (show Reps (fun b => ok b ∧ b < w.heap.size) w cl l from Reps.lt h2)
  have H4 := Lib.hid (show RepsM (fun b => ok b ∧ b < w.heap.size) w cm m from RepsM.lt h4)
  have HC := Lib.hid hc
  have HRC := Lib.hid h3.rdc
  clear h1 h2 h3 h4 hc hc'
  obtain ⟨tt, htt⟩ : ∃ tt : ByteArray, (⟨t.toArray⟩ : ByteArray) = tt := ⟨_, rfl⟩
  have HTT := Lib.hid htt
  rw [htt]
  clear htt
  obtain ⟨ll, hll⟩ : ∃ ll : Nat, l.length = ll := ⟨_, rfl⟩
  have HLL := Lib.hid hll
  rw [hll]
  clear hll
  go_enter Try.func22, Try.ntmps22
  go_upto_region 1 with (fail)
  obtain ⟨hb, g0, g1, g2⟩ := three_alloc w (.cells #[.int .i64 k, .bool y, .string tt, .slice a ll c, .slice a' m.length c'] 28) (.cells #[.string ⟨n.toArray⟩] 9) (.cells #[.int .i64 0, .bool false, .string ⟨#[]⟩, .slice none 0 0, .slice none 0 0] 28)
  generalize ((w.alloc _).alloc _).alloc _ = w1 at *
  have hs1 : w.heap.size + 1 + 1 < w1.heap.size := (Array.getElem?_eq_some_iff.1 g2).1
  have HB1 := Lib.hid hb
  have HCL := Lib.hid (cloneM_any a' m.length c' (memCells m cm) w1 (HRC.out.below hb) hl6 hone (by omega) hnn)
  have G0 := Lib.hid g0
  have G1 := Lib.hid g1
  have G2 := Lib.hid g2
  have hmf : ∀ (fn : Fn) (first cap : Array Value) (w : World), (Instr.makeFunc fn first cap).run Try.prog w = .ok (.func fn first cap) w := fun _ _ _ _ => rfl
  obtain ⟨v0, v1, v2, v3, v4⟩ := five_at g0 (Below.refl w1.heap.size w1) (by omega)
  clear hb g0 g1 g2 hnn hone
  go_wp2_with fail
  refine HCL.out.mono ?_
  rintro e w2 ⟨v, rfl, hown, hb2⟩
  have HB2 := Lib.hid (HB1.out.trans (hb2.mono HB1.out.size))
  have K0 := Lib.hid ((hb2.block _ (by omega)).trans G0.out)
  have K1 := Lib.hid ((hb2.block _ (by omega)).trans G1.out)
  have K2 := Lib.hid ((hb2.block _ (by omega)).trans G2.out)
  have hs2 : w1.heap.size ≤ w2.heap.size := hb2.size
  have hq : w2.cell? ⟨w.heap.size + 1, 0, none⟩ = some (.string ⟨n.toArray⟩) := by rw [Lib.cell_of_heap K1.out]; rfl
  have HDF := Lib.hid (odelr_any n ⟨w.heap.size + 1, 0, none⟩ (fun b => ok b ∧ b < w.heap.size) w1.heap.size v m cm w2 hown ((H4.out.keep fun b hb _ => HB2.out.block b hb.2).mono fun b hb => ⟨hb, by have := hb.2; omega⟩) hq (by show w.heap.size + 1 < _; omega) hs2 (by omega))
  obtain ⟨W, hW⟩ : ∃ W, (withoutM n m).length = W := ⟨_, rfl⟩
  rw [hW] at HDF
  have HWW := Lib.hid hW
  clear hb2 hown hq hW v0 v1 v2 v3 v4 HCL G0 G1 G2
  go_wp2_with fail
  refine HDF.out.mono ?_
  rintro e w3 ⟨hb3, ra, rc, rfl, hrd, hle⟩
  have HB3 := Lib.hid (HB2.out.trans (hb3.mono (by omega)))
  have J0 := Lib.hid ((hb3.block _ (by omega)).trans K0.out)
  have J2 := Lib.hid ((hb3.block _ (by omega)).trans K2.out)
  have hs3 : w2.heap.size ≤ w3.heap.size := hb3.size
  have HRD := Lib.hid hrd
  have HLE := Lib.hid hle
  clear hb3 hrd hle HDF K0 K1 K2 hmf
  obtain ⟨v0, v1, v2, v3, v4⟩ := five_at J0.out (Below.refl w3.heap.size w3) (by omega)
  have f4 := Lib.frozen_of_heap J0.out 4
  go_upto_region 2 with (fail)
  have hN0 := field5 J0.out (.slice ra W rc)
  have hot : ∀ k, k ≠ w.heap.size → (w3.setCell ⟨w.heap.size, 4, none⟩ (.slice ra W rc)).heap[k]? = w3.heap[k]? := fun k hk => Below.heap_setCell _ _ _ _ hk
  have hb4 := HB3.out.setCell (p := ⟨w.heap.size, 4, none⟩) (Nat.le_refl _) (.slice ra W rc)
  have hsz4 : (w3.setCell ⟨w.heap.size, 4, none⟩ (.slice ra W rc)).heap.size = w3.heap.size := by simp [World.setCell]
  clear v0 v1 v2 v3 v4 f4
  generalize w3.setCell ⟨w.heap.size, 4, none⟩ (.slice ra W rc) = w4 at *
  have HB4 := Lib.hid hb4
  have N0 := Lib.hid hN0
  have N2 := Lib.hid ((hot _ (by omega)).trans J2.out)
  have HRD4 := Lib.hid (HRD.out.keep fun q hq _ => hot q (by omega))
  have hs4 : w3.heap.size = w4.heap.size := hsz4.symm
  clear hN0 hot hb4 hsz4 J0 J2 HRD HB3
  obtain ⟨v0, v1, v2, v3, v4⟩ := five_at N0.out (Below.refl w4.heap.size w4) (by omega)
  obtain ⟨r0, r1, r2, r3, r4⟩ := five_at N2.out (Below.refl w4.heap.size w4) (by omega)
  have f0 := Lib.frozen_of_heap N2.out 0
  have f1 := Lib.frozen_of_heap N2.out 1
  have f2 := Lib.frozen_of_heap N2.out 2
  have f3 := Lib.frozen_of_heap N2.out 3
  have f4 := Lib.frozen_of_heap N2.out 4
  go_wp2_with fail
  have hst := value_stored N2.out (.int .i64 k) (.bool y) (.string tt) (.slice a ll c) (.slice ra W rc)
  have hot := five_else w4 (w.heap.size + 1 + 1) (.int .i64 k) (.bool y) (.string tt) (.slice a ll c) (.slice ra W rc)
  have hbe := zero_stored (gv := w.heap.size + 1 + 1) HB4.out (by omega) (.int .i64 k) (.bool y) (.string tt) (.slice a ll c) (.slice ra W rc)
  clear v0 v1 v2 v3 v4 r0 r1 r2 r3 r4 f0 f1 f2 f3 f4
  generalize ((((w4.setCell _ _).setCell _ _).setCell _ _).setCell _ _).setCell _ _ = w5 at *
  have e0 := Lib.cell_of_heap hst 0
  have e1 := Lib.cell_of_heap hst 1
  have e2 := Lib.cell_of_heap hst 2
  have e3 := Lib.cell_of_heap hst 3
  have e4 := Lib.cell_of_heap hst 4
  simp only [List.getElem?_toArray] at e0 e1 e2 e3 e4
  refine bodyPost_ret (v := .agg #[.int .i64 k, .bool y, .string tt, .slice a ll c, .slice ra W rc]) (by simp [results, Try.results22, go_sem, e0, e1, e2, e3, e4]) rfl ?_
  refine ⟨hbe, [.int .i64 k, .bool y, .string tt, .slice a ll c, .slice ra W rc], rfl, ?_⟩
  have hrow : RdO (fun b => (ok b ∧ b < w.heap.size) ∨ w.heap.size ≤ b) w5 ra (memCells (withoutM n m) (withoutC n m cm)) := (HRD4.out.keep fun q hq _ => hot q (by omega)).mono fun q hq => .inr (by omega)
  have hreps : RepsM (fun b => (ok b ∧ b < w.heap.size) ∨ w.heap.size ≤ b) w5 (withoutC n m cm) (withoutM n m) := withoutC_reps n m cm ((H4.out.keep fun q hq _ => hbe.block q hq.2).mono fun q hq => .inl hq)
  have hres := rep_of (k := k) (y := y) (t := t) (l := l) (m := withoutM n m) (a := a) (a' := ra) (c := c) (c' := rc) ((H1.out.keep fun q hq _ => hbe.block q hq.2).mono fun q hq => .inl hq) ((Reps.keep H2.out fun q hq _ => hbe.block q hq.2).mono fun q hq => .inl hq) hrow hreps HC.out (by rw [HWW.out]; exact HLE.out)
  unfold strV at hres
  rw [HTT.out, HLL.out, HWW.out] at hres
  exact hres
end Go.Proofs.Ytfcokdkbjajohaa
/- json, plain: the members behind a merge: their names in order, and what stands at each. -/
set_option linter.unusedVariables false
namespace Go.Proofs.Ytfcokdkbjajohaa

/-- Does a name stay under a patch? -/
def keepM (m : List (List UInt8 × JV)) (k : List UInt8) : Bool := match getM k m with
  | some u => u.kind != 1
  | none => true
/-- Is a patch's member new? -/
def newM (o : List (List UInt8)) (p : List UInt8 × JV) : Bool := !(o.contains p.1) && p.2.kind != 1
theorem withM_names (n : List UInt8) (v : JV) : ∀ m, (withM n v m).map Prod.fst = if n ∈ m.map Prod.fst then m.map Prod.fst else m.map Prod.fst ++ [n]
  | [] => by simp [withM]
  | p :: m => by
    have ih := withM_names n v m
    rw [withM]
    by_cases hp : p.1 = n
    · rw [if_pos hp]
      have : n ∈ (p :: m).map Prod.fst := by simp [hp]
      rw [if_pos this]
      rfl
    · rw [if_neg hp]
      by_cases hm : n ∈ m.map Prod.fst
      · rw [if_pos hm] at ih
        have : n ∈ (p :: m).map Prod.fst := by rw [List.map_cons]; exact List.mem_cons_of_mem _ hm
        rw [if_pos this, List.map_cons, ih]
        rfl
      · rw [if_neg hm] at ih
        have : n ∉ (p :: m).map Prod.fst := by
          rw [List.map_cons]
          intro h
          rcases List.mem_cons.1 h with h | h
          · exact hp h.symm
          · exact hm h
        rw [if_neg this, List.map_cons, ih]
        rfl
theorem without_names (n : List UInt8) : ∀ m, (withoutM n m).map Prod.fst = (m.map Prod.fst).filter fun k => decide (k ≠ n)
  | [] => rfl
  | p :: m => by
    have ih := without_names n m
    unfold withoutM at ih ⊢
    rw [List.filter_cons, List.map_cons, List.filter_cons]
    by_cases hp : p.1 = n
    · rw [if_neg (by simpa using hp), if_neg (by simpa using hp), ih]
    · rw [if_pos (by simpa using hp), if_pos (by simpa using hp), List.map_cons, ih]
theorem get_iff (k : List UInt8) (m : List (List UInt8 × JV)) : getM k m = none ↔ k ∉ m.map Prod.fst := by
  have := getM_none k m
  cases h : getM k m with
  | none => rw [h] at this; simpa using this
  | some x => rw [h] at this; simpa using this
theorem keep_cons (n : List UInt8) (u : JV) (m : List (List UInt8 × JV)) (k : List UInt8) : keepM ((n, u) :: m) k = if n = k then u.kind != 1 else keepM m k := by
  unfold keepM
  simp only [getM]
  by_cases h : n = k
  · rw [if_pos h, if_pos h]
  · rw [if_neg h, if_neg h]
theorem keep_absent {n : List UInt8} {m : List (List UInt8 × JV)} (h : n ∉ m.map Prod.fst) : keepM m n = true := by
  unfold keepM
  rw [(get_iff n m).2 h]
theorem merge_names : ∀ (m o : List (List UInt8 × JV)), (m.map Prod.fst).Nodup →
    (mergeM o m).map Prod.fst = (o.map Prod.fst).filter (keepM m) ++ (m.filter (newM (o.map Prod.fst))).map Prod.fst
  | [], o, _ => by
    rw [mergeM, List.filter_nil, List.map_nil, List.append_nil, List.filter_eq_self.2]
    intro k _
    rfl
  | (n, u) :: m, o, hnd => by
    rw [List.map_cons, List.nodup_cons] at hnd
    obtain ⟨hn, hnd⟩ := hnd
    have ih := merge_names m
    have hnew : ∀ (ns : List (List UInt8)), (∀ k, k ≠ n → (k ∈ ns ↔ k ∈ o.map Prod.fst)) → m.filter (newM ns) = m.filter (newM (o.map Prod.fst)) := by
      intro ns h
      refine List.filter_congr fun p hp => ?_
      have hpn : p.1 ≠ n := fun e => hn (by rw [← e]; exact (List.mem_map_of_mem (f := Prod.fst) hp : p.1 ∈ m.map Prod.fst))
      unfold newM
      have : ns.contains p.1 = (o.map Prod.fst).contains p.1 := by
        rw [Bool.eq_iff_iff, List.contains_iff_mem, List.contains_iff_mem]
        exact h _ hpn
      rw [this]
    rw [mergeM]
    by_cases h1 : u.kind = 1
    · rw [if_pos h1, ih _ hnd, without_names, hnew _ (fun k hk => by simp [hk]), List.filter_filter]
      have e1 : ((n, u) :: m).filter (newM (o.map Prod.fst)) = m.filter (newM (o.map Prod.fst)) := by
        rw [List.filter_cons, if_neg]
        simp [newM, h1]
      rw [e1]
      congr 1
      refine List.filter_congr fun k _ => ?_
      rw [keep_cons]
      by_cases hk : n = k
      · subst hk
        simp [h1]
      · rw [if_neg hk]
        have : k ≠ n := fun e => hk e.symm
        simp [this]
    · have hk1 : (u.kind != 1) = true := by simpa using h1
      have hkeep : ∀ k, keepM ((n, u) :: m) k = keepM m k := by
        intro k
        rw [keep_cons]
        by_cases hk : n = k
        · subst hk
          rw [if_pos rfl, hk1, keep_absent hn]
        · rw [if_neg hk]
      rw [if_neg h1, ih _ hnd, withM_names]
      by_cases ho : n ∈ o.map Prod.fst
      · rw [if_pos ho]
        have e1 : ((n, u) :: m).filter (newM (o.map Prod.fst)) = m.filter (newM (o.map Prod.fst)) := by
          rw [List.filter_cons, if_neg]
          unfold newM
          rw [List.contains_iff_mem.2 ho]
          simp
        rw [e1]
        congr 1
        exact List.filter_congr fun k _ => (hkeep k).symm
      · rw [if_neg ho, hnew _ (fun k hk => by simp [hk]), List.filter_append]
        have e1 : ((n, u) :: m).filter (newM (o.map Prod.fst)) = (n, u) :: m.filter (newM (o.map Prod.fst)) := by
          rw [List.filter_cons, if_pos]
          unfold newM
          have : (o.map Prod.fst).contains n = false := by
            rw [Bool.eq_false_iff]
            exact fun h => ho (List.contains_iff_mem.1 h)
          rw [this, hk1]
          rfl
        have e2 : [n].filter (keepM m) = [n] := by
          rw [List.filter_cons, if_pos (keep_absent hn)]
          rfl
        rw [e1, e2, List.map_cons, List.append_assoc]
        congr 1
        exact List.filter_congr fun k _ => (hkeep k).symm
theorem merge_get : ∀ (m o : List (List UInt8 × JV)) (k : List UInt8), (m.map Prod.fst).Nodup →
    getM k (mergeM o m) = match getM k m with
      | some u => if u.kind = 1 then none else some (mergeJ ((getM k o).getD .zero) u)
      | none => getM k o
  | [], o, k, _ => by rw [mergeM]; rfl
  | (n, u) :: m, o, k, hnd => by
    rw [List.map_cons, List.nodup_cons] at hnd
    obtain ⟨hn, hnd⟩ := hnd
    rw [mergeM, merge_get m _ k hnd]
    simp only [getM]
    by_cases hk : n = k
    · subst hk
      rw [(get_iff n m).2 hn, if_pos rfl]
      by_cases h1 : u.kind = 1
      · simp only [if_pos h1]
        rw [without_none, if_pos rfl]
      · simp only [if_neg h1]
        rw [withM_get, if_pos rfl]
    · rw [if_neg hk]
      have hk' : ¬ k = n := fun e => hk e.symm
      have : getM k (if u.kind = 1 then withoutM n o else withM n (mergeJ ((getM n o).getD .zero) u) o) = getM k o := by
        by_cases h1 : u.kind = 1
        · rw [if_pos h1, without_none, if_neg hk']
        · rw [if_neg h1, withM_get, if_neg hk']
      rw [this]
theorem right_nodup {m : List (List UInt8 × JV)} (h : rightM m = true) : (m.map Prod.fst).Nodup := by
  rw [rightM_eq, Bool.and_eq_true] at h
  exact of_decide_eq_true h.2
theorem get_at {m : List (List UInt8 × JV)} (h : (m.map Prod.fst).Nodup) (i : Nat) (hi : i < m.length) : getM m[i].1 m = some m[i].2 := by
  induction m generalizing i with
  | nil => simp at hi
  | cons p m ih =>
    rw [List.map_cons, List.nodup_cons] at h
    simp only [getM]
    cases i with
    | zero => simp
    | succ i =>
      simp only [List.getElem_cons_succ]
      have hi' : i < m.length := by simpa using hi
      rw [if_neg, ih h.2 i hi']
      intro e
      exact h.1 (by rw [e]; exact List.mem_map_of_mem (f := Prod.fst) (List.getElem_mem hi'))
end Go.Proofs.Ytfcokdkbjajohaa
/- Numbers as decimal digits. Plain. -/
set_option linter.unusedVariables false
namespace Go.Proofs.Ytfcokdkbjajohaa
open Go.Lib

theorem digit_at : ∀ d : Fin 10, (UInt8.ofNat (48 + d.1)).toNat = 48 + d.1 := by decide
theorem digit_nat (d : Nat) (h : d < 10) : (UInt8.ofNat (48 + d)).toNat = 48 + d := digit_at ⟨d, h⟩
theorem digitVal_dig (d : Nat) (h : d < 10) : digitVal (UInt8.ofNat (48 + d)) = some d := by
  unfold digitVal
  rw [digit_nat d h, if_pos (by omega)]
  congr 1
  omega
theorem decFrom_snoc : ∀ (l : List UInt8) (acc : Nat) (d : UInt8), decFrom acc (l ++ [d]) = (decFrom acc l).bind fun v => (digitVal d).map fun k => v * 10 + k
  | [], acc, d => by
    simp only [List.nil_append, decFrom, Option.bind_some]
    cases digitVal d <;> rfl
  | b :: l, acc, d => by
    simp only [List.cons_append, decFrom]
    cases digitVal b with
    | none => rfl
    | some k => exact decFrom_snoc l _ d
theorem dec_small (u : Nat) (h : u < 10) : decDigits u = [UInt8.ofNat (48 + u)] := by rw [decDigits, dif_pos h]
theorem dec_big (u : Nat) (h : ¬ u < 10) : decDigits u = decDigits (u / 10) ++ [UInt8.ofNat (48 + u % 10)] := by rw [decDigits, dif_neg h]
theorem dec_all (u : Nat) : ∀ c ∈ decDigits u, 48 ≤ c.toNat ∧ c.toNat ≤ 57 := by
  induction u using Nat.strongRecOn with
  | _ u ih =>
    intro c hc
    by_cases h : u < 10
    · rw [dec_small u h] at hc
      simp only [List.mem_singleton] at hc
      rw [hc, digit_nat u h]
      omega
    · rw [dec_big u h] at hc
      rcases List.mem_append.1 hc with hc | hc
      · exact ih (u / 10) (by omega) c hc
      · simp only [List.mem_singleton] at hc
        rw [hc, digit_nat (u % 10) (by omega)]
        omega
theorem dec_ne (u : Nat) : decDigits u ≠ [] := by
  by_cases h : u < 10
  · rw [dec_small u h]; simp
  · rw [dec_big u h]; simp
theorem decFrom_dec (u : Nat) : decFrom 0 (decDigits u) = some u := by
  induction u using Nat.strongRecOn with
  | _ u ih =>
    by_cases h : u < 10
    · rw [dec_small u h]
      simp only [decFrom, digitVal_dig u h]
      congr 1
      omega
    · rw [dec_big u h, decFrom_snoc, ih (u / 10) (by omega), digitVal_dig (u % 10) (by omega)]
      simp only [Option.bind_some, Option.map_some]
      congr 1
      omega
theorem dec_inj {u v : Nat} (h : decDigits u = decDigits v) : u = v := by
  have h1 := decFrom_dec u
  rw [h, decFrom_dec v] at h1
  exact (Option.some.inj h1).symm
theorem dec_head (u : Nat) (h : 1 ≤ u) : (decDigits u).head? ≠ some 48 := by
  induction u using Nat.strongRecOn with
  | _ u ih =>
    by_cases h10 : u < 10
    · rw [dec_small u h10]
      simp only [List.head?_cons, ne_eq, Option.some.injEq]
      intro e
      have h1 := digit_nat u h10
      rw [e] at h1
      have : (48 : UInt8).toNat = 48 := rfl
      omega
    · rw [dec_big u h10]
      have hi := ih (u / 10) (by omega) (by omega)
      have hne := dec_ne (u / 10)
      cases hd : decDigits (u / 10) with
      | nil => exact absurd hd hne
      | cons a r =>
        rw [hd] at hi
        simpa using hi
theorem dec_len (u k : Nat) (hk : 1 ≤ k) (h : u < 10 ^ k) : (decDigits u).length ≤ k := by
  induction k generalizing u with
  | zero => omega
  | succ k ih =>
    by_cases h10 : u < 10
    · rw [dec_small u h10]; simp
    · rw [dec_big u h10, List.length_append]
      have hk1 : 1 ≤ k := by
        rcases Nat.eq_zero_or_pos k with e | e
        · subst e; omega
        · exact e
      have := ih (u / 10) hk1 (by rw [Nat.pow_succ] at h; omega)
      simp only [List.length_cons, List.length_nil]
      omega
theorem digitVal_back {c : UInt8} {d : Nat} (h : digitVal c = some d) : d < 10 ∧ c = UInt8.ofNat (48 + d) := by
  unfold digitVal at h
  split at h
  · rename_i hc
    simp only [Option.some.injEq] at h
    refine ⟨by omega, UInt8.toNat_inj.1 ?_⟩
    rw [digit_nat d (by omega)]
    omega
  · cases h
theorem decFrom_pos : ∀ (l : List UInt8) (acc v : Nat), 1 ≤ acc → decFrom acc l = some v → 1 ≤ v
  | [], acc, v, h, e => by simp only [decFrom, Option.some.injEq] at e; omega
  | b :: l, acc, v, h, e => by
    simp only [decFrom] at e
    cases hd : digitVal b with
    | none => rw [hd] at e; cases e
    | some d => rw [hd] at e; exact decFrom_pos l _ v (by omega) e
/-- A row of digits that doesn't begin with 0 is its number's. -/
theorem dec_of : ∀ (n : Nat) (l : List UInt8) (u : Nat), l.length = n → l ≠ [] → l.head? ≠ some 48 → decFrom 0 l = some u → decDigits u = l ∧ 1 ≤ u := by
  intro n
  induction n with
  | zero => intro l u h hne; exact absurd (List.eq_nil_of_length_eq_zero h) hne
  | succ n ih =>
    intro l u h hne hh hd
    obtain ⟨r, d, rfl⟩ : ∃ r d, l = r ++ [d] := ⟨l.dropLast, l.getLast hne, (List.dropLast_concat_getLast hne).symm⟩
    rw [decFrom_snoc] at hd
    cases hr : decFrom 0 r with
    | none => rw [hr] at hd; cases hd
    | some v =>
      rw [hr] at hd
      simp only [Option.bind_some, Option.map_eq_some_iff] at hd
      obtain ⟨k, hk, rfl⟩ := hd
      obtain ⟨hk10, rfl⟩ := digitVal_back hk
      by_cases hrn : r = []
      · subst hrn
        simp only [decFrom, Option.some.injEq] at hr
        subst hr
        have hk0 : k ≠ 0 := by
          intro e
          subst e
          exact hh rfl
        rw [dec_small _ (by omega)]
        exact ⟨by simp, by omega⟩
      · have hrh : r.head? ≠ some 48 := by
          cases r with
          | nil => exact absurd rfl hrn
          | cons a t => simpa using hh
        obtain ⟨h1, h2⟩ := ih r v (by simp at h; omega) hrn hrh hr
        rw [dec_big _ (by omega)]
        rw [show (v * 10 + k) / 10 = v by omega, show (v * 10 + k) % 10 = k by omega, h1]
        exact ⟨rfl, by omega⟩
theorem atoi_dec (u : Nat) : atoi (decDigits u) = some (u : Int) := by
  have ha := dec_all u
  have hf := decFrom_dec u
  cases h : decDigits u with
  | nil => exact absurd h (dec_ne u)
  | cons b r =>
    rw [h] at ha hf
    have hb := ha b (by simp)
    have e1 : (b == 45) = false := by
      rw [beq_eq_false_iff_ne]
      rintro rfl
      have : (45 : UInt8).toNat = 45 := rfl
      omega
    have e2 : (b == 43) = false := by
      rw [beq_eq_false_iff_ne]
      rintro rfl
      have : (43 : UInt8).toNat = 43 := rfl
      omega
    unfold atoi
    simp only [e1, e2]
    unfold decNat
    simp only [List.isEmpty_cons, Bool.false_eq_true, if_false]
    rw [hf]
    rfl
theorem dec_no (u : Nat) (c : UInt8) (h : c.toNat < 48 ∨ 57 < c.toNat) : c ∉ decDigits u := by
  intro hm
  have := dec_all u c hm
  omega
end Go.Proofs.Ytfcokdkbjajohaa
/- json: whole numbers as texts. Plain. -/
set_option linter.unusedVariables false
namespace Go.Proofs.Ytfcokdkbjajohaa
open Go.Lib

theorem dv_digit {c : UInt8} (h : 48 ≤ c.toNat ∧ c.toNat ≤ 57) : digitVal c = some (c.toNat - 48) := by
  have : c = UInt8.ofNat (48 + (c.toNat - 48)) := by
    apply UInt8.toNat_inj.1
    rw [digit_nat _ (by omega)]
    omega
  rw [this, digitVal_dig _ (by omega), digit_nat _ (by omega)]
  congr 1
  omega
theorem dv_some {c : UInt8} {d : Nat} (h : digitVal c = some d) : (48 ≤ c.toNat ∧ c.toNat ≤ 57) ∧ d = c.toNat - 48 := by
  obtain ⟨h1, rfl⟩ := digitVal_back h
  rw [digit_nat _ h1]
  omega
theorem decFrom_cons (acc : Nat) (c : UInt8) (l : List UInt8) : decFrom acc (c :: l) = (digitVal c).bind fun d => decFrom (acc * 10 + d) l := by
  rw [decFrom]
  cases digitVal c <;> rfl
theorem decFrom_le : ∀ (l : List UInt8) (acc u : Nat), decFrom acc l = some u → acc ≤ u
  | [], acc, u, h => by
    simp only [decFrom, Option.some.injEq] at h
    omega
  | c :: l, acc, u, h => by
    rw [decFrom_cons] at h
    cases hd : digitVal c with
    | none => rw [hd] at h; cases h
    | some d =>
      rw [hd] at h
      have := decFrom_le l _ u h
      omega
theorem pu_ok : ∀ (l : List UInt8) (M acc u : Nat), parseUintM M acc l = .ok u → decFrom acc l = some u
  | [], M, acc, u, h => by
    simp only [parseUintM, NumEnd.ok.injEq] at h
    simp [decFrom, h]
  | c :: l, M, acc, u, h => by
    rw [parseUintM] at h
    split at h
    · rename_i hc
      split at h
      · cases h
      split at h
      · cases h
      · rw [decFrom_cons, dv_digit hc]
        exact pu_ok l M _ u h
    · cases h
theorem pu_of : ∀ (l : List UInt8) (M acc u : Nat), M < 18446744073709551616 → decFrom acc l = some u → u ≤ M → parseUintM M acc l = .ok u
  | [], M, acc, u, hM, h, hu => by
    simp only [decFrom, Option.some.injEq] at h
    rw [parseUintM, h]
  | c :: l, M, acc, u, hM, h, hu => by
    rw [decFrom_cons] at h
    cases hd : digitVal c with
    | none => rw [hd] at h; cases h
    | some d =>
      rw [hd] at h
      obtain ⟨h1, h2⟩ := dv_some hd
      have hle := decFrom_le l _ u h
      rw [parseUintM, if_pos h1, if_neg (by omega), if_neg (by omega), ← h2]
      exact pu_of l M _ u hM h hu
/-- What Int makes of a text. -/
def intJ (t : List UInt8) : Int × Bool :=
  if numericB t then (match parseIntB 64 t with
    | .ok n => if -9007199254740992 ≤ n ∧ n ≤ 9007199254740992 then (n, true) else (0, false)
    | _ => (0, false)) else (0, false)
theorem dec_digs (u : Nat) : (decDigits u).dropWhile digB = [] := by
  have key : ∀ l : List UInt8, (∀ c ∈ l, digB c = true) → l.dropWhile digB = [] := by
    intro l
    induction l with
    | nil => intro _; rfl
    | cons c l ih =>
      intro h
      rw [List.dropWhile_cons_of_pos (h c (by simp))]
      exact ih fun x hx => h x (by simp [hx])
  refine key _ fun c hc => ?_
  rw [show digB c = true ↔ 48 ≤ c.toNat ∧ c.toNat ≤ 57 by simp [digB]]
  exact dec_all u c hc
theorem head_dec (u : Nat) : ∃ c q, decDigits u = c :: q ∧ 48 ≤ c.toNat ∧ c.toNat ≤ 57 := by
  cases h : decDigits u with
  | nil => exact absurd h (dec_ne u)
  | cons c q => exact ⟨c, q, rfl, dec_all u c (by rw [h]; simp)⟩
theorem numR_dec (u : Nat) : (if (decDigits u).head? = some 48 then numFrac (decDigits u).tail else (digitsL (decDigits u)).bind fun _ r => numFrac r) = .ok () [] := by
  obtain ⟨c, q, hc, h1, h2⟩ := head_dec u
  by_cases h0 : u = 0
  · subst h0
    have : decDigits 0 = [48] := by rw [dec_small 0 (by decide)]; rfl
    rw [this]
    rfl
  · rw [if_neg (dec_head u (by omega))]
    unfold digitsL
    have hp : digB (peekL (decDigits u)) = true := by rw [hc]; simp [peekL, digB, h1, h2]
    rw [if_pos hp, dec_digs]
    rfl
theorem numeric_of {t : List UInt8} (h : numR t = .ok () []) : numericB t = true := by
  unfold numericB numberL
  rw [h, PR.bind_ok]
  simp
theorem numeric_itoa (n : Int) : numericB (itoa n) = true := by
  apply numeric_of
  unfold numR
  by_cases h : 0 ≤ n
  · obtain ⟨u, rfl⟩ : ∃ u : Nat, n = (u : Int) := ⟨n.toNat, by omega⟩
    rw [itoa_nonneg]
    obtain ⟨c, q, hc, h1, h2⟩ := head_dec u
    have hs : skipL 45 (decDigits u) = decDigits u := by
      unfold skipL
      rw [if_neg (by rw [hc]; simp only [List.head?_cons, Option.some.injEq]; rintro rfl; exact absurd h1 (by decide))]
    rw [hs]
    exact numR_dec u
  · obtain ⟨u, hu, rfl⟩ : ∃ u : Nat, 1 ≤ u ∧ n = -(u : Int) := ⟨(-n).toNat, by omega, by omega⟩
    rw [itoa_neg u hu]
    have hs : skipL 45 (45 :: decDigits u) = decDigits u := rfl
    rw [hs]
    exact numR_dec u
theorem parse_itoa (n : Int) (h0 : -9223372036854775808 ≤ n) (h1 : n ≤ 9223372036854775807) : parseIntB 64 (itoa n) = .ok n := by
  by_cases h : 0 ≤ n
  · obtain ⟨u, rfl⟩ : ∃ u : Nat, n = (u : Int) := ⟨n.toNat, by omega⟩
    rw [itoa_nonneg]
    obtain ⟨c, q, hc, h2, h3⟩ := head_dec u
    have hp : parseUintB 64 (decDigits u) = .ok u := by
      unfold parseUintB
      rw [if_neg (dec_ne u)]
      exact pu_of _ _ _ _ (by decide) (decFrom_dec u) (by
        show u ≤ 2 ^ 64 - 1
        omega)
    unfold parseIntB
    rw [hc]
    simp only
    rw [if_neg (by omega), ← hc, hp]
    simp only
    have h64 : (2 : Nat) ^ (64 - 1) = 9223372036854775808 := by decide
    rw [if_neg (by rintro ⟨_, e⟩; omega), if_neg (by omega), if_neg (by omega)]
  · obtain ⟨u, hu, rfl⟩ : ∃ u : Nat, 1 ≤ u ∧ n = -(u : Int) := ⟨(-n).toNat, by omega, by omega⟩
    rw [itoa_neg u hu]
    have hp : parseUintB 64 (decDigits u) = .ok u := by
      unfold parseUintB
      rw [if_neg (dec_ne u)]
      exact pu_of _ _ _ _ (by decide) (decFrom_dec u) (by
        show u ≤ 2 ^ 64 - 1
        omega)
    unfold parseIntB
    simp only
    rw [if_pos (.inr rfl), hp]
    simp only
    have h64 : (2 : Nat) ^ (64 - 1) = 9223372036854775808 := by decide
    rw [if_neg (by rintro ⟨e, _⟩; exact e rfl), if_neg (by rintro ⟨_, e⟩; omega)]
    rfl
theorem int_itoa (n : Int) (h0 : -9223372036854775808 ≤ n) (h1 : n ≤ 9223372036854775807) : intJ (itoa n) = if -9007199254740992 ≤ n ∧ n ≤ 9007199254740992 then (n, true) else (0, false) := by
  unfold intJ
  rw [if_pos (numeric_itoa n), parse_itoa n h0 h1]
/-- Digits alone: what is parsed is them. -/
theorem decFrom_digs : ∀ (l : List UInt8) (acc u : Nat), decFrom acc l = some u → ∀ c ∈ l, 48 ≤ c.toNat ∧ c.toNat ≤ 57
  | [], acc, u, h, c, hc => by simp at hc
  | x :: l, acc, u, h, c, hc => by
    rw [decFrom_cons] at h
    cases hd : digitVal x with
    | none => rw [hd] at h; cases h
    | some d =>
      rw [hd] at h
      rcases List.mem_cons.1 hc with rfl | hc
      · exact (dv_some hd).1
      · exact decFrom_digs l _ u h c hc
/-- A text that is a whole number's: its sign and its digits. -/
theorem parse_shape {s : List UInt8} {k : Int} (h : parseIntB 64 s = .ok k) : ∃ t u, decFrom 0 t = some u ∧ t ≠ [] ∧ ((s = t ∧ k = (u : Int)) ∨ (s = 43 :: t ∧ k = (u : Int)) ∨ (s = 45 :: t ∧ k = -(u : Int))) := by
  unfold parseIntB at h
  cases s with
  | nil => cases h
  | cons c r =>
    simp only at h
    obtain ⟨t, ht⟩ : ∃ t, (if c.toNat = 43 ∨ c.toNat = 45 then r else c :: r) = t := ⟨_, rfl⟩
    rw [ht] at h
    cases hp : parseUintB 64 t with
    | ok u =>
      rw [hp] at h
      simp only at h
      have hne : t ≠ [] := by
        rintro rfl
        unfold parseUintB at hp
        rw [if_pos rfl] at hp
        cases hp
      have hd : decFrom 0 t = some u := by
        unfold parseUintB at hp
        rw [if_neg hne] at hp
        exact pu_ok _ _ _ _ hp
      split at h
      · cases h
      split at h
      · cases h
      · simp only [NumEnd.ok.injEq] at h
        refine ⟨t, u, hd, hne, ?_⟩
        by_cases c3 : c.toNat = 43
        · rw [if_pos (.inl c3)] at ht
          rw [if_neg (by omega)] at h
          have : c = 43 := UInt8.toNat_inj.1 c3
          exact .inr (.inl ⟨by rw [this, ht], h.symm⟩)
        · by_cases c5 : c.toNat = 45
          · rw [if_pos (.inr c5)] at ht
            rw [if_pos c5] at h
            have : c = 45 := UInt8.toNat_inj.1 c5
            exact .inr (.inr ⟨by rw [this, ht], h.symm⟩)
          · rw [if_neg (by omega)] at ht
            rw [if_neg c5] at h
            exact .inl ⟨ht, h.symm⟩
    | _ => rw [hp] at h; cases h
def dotE (c : UInt8) : Bool := c == 46 || c == 101 || c == 69
theorem parse_dot {s : List UInt8} {c : UInt8} (hc : c ∈ s) (hd : dotE c = true) (k : Int) : parseIntB 64 s ≠ .ok k := by
  intro h
  have hnd : ¬ (48 ≤ c.toNat ∧ c.toNat ≤ 57) ∧ c ≠ 43 ∧ c ≠ 45 := by
    unfold dotE at hd
    simp only [Bool.or_eq_true, beq_iff_eq] at hd
    rcases hd with (rfl | rfl) | rfl <;> exact ⟨by decide, by decide, by decide⟩
  obtain ⟨t, u, h1, _, (⟨rfl, _⟩ | ⟨rfl, _⟩ | ⟨rfl, _⟩)⟩ := parse_shape h
  · exact hnd.1 (decFrom_digs _ _ _ h1 c hc)
  · rcases List.mem_cons.1 hc with e | hc
    · exact hnd.2.1 e
    · exact hnd.1 (decFrom_digs _ _ _ h1 c hc)
  · rcases List.mem_cons.1 hc with e | hc
    · exact hnd.2.2 e
    · exact hnd.1 (decFrom_digs _ _ _ h1 c hc)
theorem int_dot {s : List UInt8} {c : UInt8} (hc : c ∈ s) (hd : dotE c = true) : intJ s = (0, false) := by
  unfold intJ
  split
  · split
    · rename_i n hn
      exact absurd hn (parse_dot hc hd n)
    · rfl
  · rfl
theorem int_not {s : List UInt8} (h : numericB s = false) : intJ s = (0, false) := by unfold intJ; rw [h]; rfl
/-- A number's text without point and power, behind its sign: 0, or digits of which the first is none. -/
theorem whole_tail {t : List UInt8} (h : (if t.head? = some 48 then numFrac t.tail else (digitsL t).bind fun _ r => numFrac r) = .ok () []) (hd : ∀ c ∈ t, dotE c = false) : t = [48] ∨ t.head? ≠ some 48 := by
  by_cases h0 : t.head? = some 48
  · left
    rw [if_pos h0] at h
    cases t with
    | nil => cases h0
    | cons c r =>
      simp only [List.head?_cons, Option.some.injEq] at h0
      subst h0
      simp only [List.tail_cons] at h
      cases r with
      | nil => rfl
      | cons x r =>
        have hx := hd x (by simp)
        unfold dotE at hx
        simp only [Bool.or_eq_false_iff, beq_eq_false_iff_ne] at hx
        unfold numFrac numTail at h
        simp only [List.head?_cons, Option.some.injEq] at h
        rw [if_neg hx.1.1, if_neg (by rintro (e | e); exact hx.1.2 e; exact hx.2 e)] at h
        cases h
  · exact .inr h0
theorem int_back {s : List UInt8} {k : Int} (hn : numericB s = true) (hd : ∀ c ∈ s, dotE c = false) (hi : intJ s = (k, true)) : (s = [45, 48] ∧ k = 0) ∨ itoa k = s := by
  unfold intJ at hi
  rw [if_pos hn] at hi
  cases hp : parseIntB 64 s with
  | ok n =>
    rw [hp] at hi
    simp only at hi
    split at hi
    case isFalse => cases hi
    simp only [Prod.mk.injEq, and_true] at hi
    subst hi
    have hr := numeric_spec hn
    obtain ⟨t, u, h1, hne, (⟨rfl, rfl⟩ | ⟨rfl, rfl⟩ | ⟨rfl, rfl⟩)⟩ := parse_shape hp
    · right
      have hdg := decFrom_digs _ _ _ h1
      unfold numR at hr
      have hs : skipL 45 s = s := by
        unfold skipL
        rw [if_neg]
        intro e
        cases s with
        | nil => cases e
        | cons c r =>
          simp only [List.head?_cons, Option.some.injEq] at e
          subst e
          exact absurd (hdg 45 (by simp)).1 (by decide)
      rw [hs] at hr
      rw [itoa_nonneg]
      rcases whole_tail hr hd with rfl | h0
      · have : u = 0 := by
          have := h1
          simp only [decFrom_cons] at this
          have e : digitVal 48 = some 0 := dv_digit (c := 48) (by decide)
          rw [e] at this
          simp [decFrom] at this
          omega
        subst this
        rw [dec_small 0 (by decide)]
        rfl
      · exact (dec_of _ _ _ rfl hne h0 h1).1
    · exfalso
      obtain ⟨c, q, hc, h2⟩ := num_head hn
      simp only [List.cons.injEq] at hc
      rw [← hc.1] at h2
      exact absurd h2 (by decide)
    · unfold numR at hr
      have hs : skipL 45 (45 :: t) = t := rfl
      rw [hs] at hr
      rcases whole_tail hr (fun c hc => hd c (by simp [hc])) with rfl | h0
      · left
        have : u = 0 := by
          have := h1
          simp only [decFrom_cons] at this
          have e : digitVal 48 = some 0 := dv_digit (c := 48) (by decide)
          rw [e] at this
          simp [decFrom] at this
          omega
        subst this
        exact ⟨rfl, rfl⟩
      · right
        obtain ⟨h3, h4⟩ := dec_of _ _ _ rfl hne h0 h1
        rw [itoa_neg u h4, h3]
  | _ => rw [hp] at hi; cases hi
def intV (v : JV) : Int × Bool := if v.kind = 3 then intJ v.text else (0, false)
theorem itoa_len (n : Int) (h0 : -9223372036854775808 ≤ n) (h1 : n ≤ 9223372036854775807) : (Lib.itoa n).length ≤ 30 := by
  by_cases h : 0 ≤ n
  · obtain ⟨u, rfl⟩ : ∃ u : Nat, n = (u : Int) := ⟨n.toNat, by omega⟩
    rw [Lib.itoa_nonneg]
    have := dec_len u 20 (by decide) (by have : (10 : Nat) ^ 20 = 100000000000000000000 := by decide
                                         omega)
    omega
  · obtain ⟨u, hu, rfl⟩ : ∃ u : Nat, 1 ≤ u ∧ n = -(u : Int) := ⟨(-n).toNat, by omega, by omega⟩
    rw [Lib.itoa_neg u hu, List.length_cons]
    have := dec_len u 20 (by decide) (by have : (10 : Nat) ^ 20 = 100000000000000000000 := by decide
                                         omega)
    omega
end Go.Proofs.Ytfcokdkbjajohaa
/- JsonMembers, JsonWith: members of names, each with its number. Plain. -/
set_option linter.unusedVariables false
namespace Go.Proofs.Ytfcokdkbjajohaa

/-- Names, each with its place as its value; the first one's place is k. -/
def numF (k : Nat) : List (List UInt8) → List (List UInt8 × JV)
  | [] => []
  | s :: l => (s, jnum (Lib.itoa (k : Int))) :: numF (k + 1) l
theorem numF_len : ∀ (l : List (List UInt8)) (k : Nat), (numF k l).length = l.length
  | [], _ => rfl
  | s :: l, k => by rw [numF, List.length_cons, List.length_cons, numF_len l]
theorem numF_snoc : ∀ (l : List (List UInt8)) (k : Nat) (s : List UInt8), numF k (l ++ [s]) = numF k l ++ [(s, jnum (Lib.itoa ((k + l.length : Nat) : Int)))]
  | [], k, s => rfl
  | t :: l, k, s => by
    rw [List.cons_append, numF, numF_snoc l (k + 1) s, numF, List.cons_append, List.length_cons, show k + 1 + l.length = k + (l.length + 1) by omega]
theorem numF_names : ∀ (l : List (List UInt8)) (k : Nat), (numF k l).map Prod.fst = l
  | [], _ => rfl
  | s :: l, k => by rw [numF, List.map_cons, numF_names l]
theorem numF_at : ∀ (l : List (List UInt8)) (k i : Nat) (h : i < (numF k l).length), (numF k l)[i] = (l[i]'(by rw [numF_len] at h; exact h), jnum (Lib.itoa ((k + i : Nat) : Int)))
  | [], _, i, h => absurd h (by simp [numF])
  | s :: l, k, 0, h => rfl
  | s :: l, k, i + 1, h => by
    have := numF_at l (k + 1) i (by simp only [numF, List.length_cons] at h; omega)
    simp only [numF, List.getElem_cons_succ]
    rw [this, show k + 1 + i = k + (i + 1) by omega]
/-- The place of a name; none: below 0. -/
def wantI (n : List UInt8) (l : List (List UInt8)) : Int := if n ∈ l then (l.idxOf n : Int) else -1
theorem want_nil (n : List UInt8) : wantI n [] = -1 := rfl
theorem want_snoc (n : List UInt8) (l : List (List UInt8)) (s : List UInt8) : wantI n (l ++ [s]) = if s = n ∧ wantI n l < 0 then (l.length : Int) else wantI n l := by
  unfold wantI
  by_cases h : n ∈ l
  · have h1 : n ∈ l ++ [s] := List.mem_append_left _ h
    rw [if_pos h1, if_pos h, List.idxOf_append, if_pos h, if_neg (by omega)]
  · by_cases e : s = n
    · have h1 : n ∈ l ++ [s] := by simp [e]
      rw [if_pos h1, if_neg h, List.idxOf_append, if_neg h, if_pos ⟨e, by omega⟩]
      subst e
      simp
    · have h1 : n ∉ l ++ [s] := by
        intro hm
        rcases List.mem_append.1 hm with hm | hm
        · exact h hm
        · exact e (List.mem_singleton.1 hm).symm
      rw [if_neg h1, if_neg h, if_neg (fun q => e q.1)]
theorem want_range (n : List UInt8) (l : List (List UInt8)) : -1 ≤ wantI n l ∧ wantI n l < (l.length : Int) ∨ wantI n l = -1 := by
  unfold wantI
  split
  · next h =>
    have := List.idxOf_lt_length_of_mem h
    exact .inl ⟨by omega, by omega⟩
  · exact .inr rfl
theorem numF_get (n : List UInt8) : ∀ (l : List (List UInt8)) (k : Nat), getM n (numF k l) = if n ∈ l then some (jnum (Lib.itoa ((k + l.idxOf n : Nat) : Int))) else none
  | [], k => rfl
  | s :: l, k => by
    rw [numF, getM]
    by_cases e : s = n
    · rw [if_pos e, if_pos (by simp [e])]
      subst e
      simp
    · rw [if_neg e, numF_get n l (k + 1)]
      by_cases h : n ∈ l
      · rw [if_pos h, if_pos (List.mem_cons_of_mem _ h), List.idxOf_cons, show (s == n) = false from by simp [e], cond_false, show k + 1 + l.idxOf n = k + (l.idxOf n + 1) by omega]
      · rw [if_neg h, if_neg (by intro q; rcases List.mem_cons.1 q with q | q; exact e q.symm; exact h q)]
theorem right_snoc : ∀ (m : List (List UInt8 × JV)) (s : List UInt8) (v : JV), rightM (m ++ [(s, v)]) = (rightM m && (toldB s && rightJ v && decide (s ∉ m.map Prod.fst)))
  | [], s, v => by
    simp [rightM, getM]
  | (n, u) :: m, s, v => by
    have h : (getM n (m ++ [(s, v)])).isNone = ((getM n m).isNone && decide (s ≠ n)) := by
      have e1 := get_iff n (m ++ [(s, v)])
      have e2 := get_iff n m
      rw [Bool.eq_iff_iff]
      simp only [Option.isNone_iff_eq_none, Bool.and_eq_true, decide_eq_true_eq]
      rw [e1, e2, List.map_append, List.mem_append, not_or]
      simp only [List.map_cons, List.map_nil, List.mem_singleton]
      exact ⟨fun q => ⟨q.1, fun e => q.2 e.symm⟩, fun q => ⟨q.1, fun e => q.2 e.symm⟩⟩
    rw [List.cons_append, rightM, rightM, right_snoc m s v, h, List.map_cons]
    have e3 : decide (s ∉ n :: m.map Prod.fst) = (decide (s ≠ n) && decide (s ∉ m.map Prod.fst)) := by
      rw [Bool.eq_iff_iff]
      simp [not_or]
    rw [e3]
    cases toldB n <;> cases rightJ u <;> cases (getM n m).isNone <;> cases rightM m <;> cases toldB s <;> cases rightJ v <;> cases decide (s ≠ n) <;> cases decide (s ∉ m.map Prod.fst) <;> rfl
theorem num_right (k : Nat) : rightJ (jnum (Lib.itoa (k : Int))) = true := by simp [jnum, rightJ, numeric_itoa]
/-- Are all names told, and unlike? -/
def unlikeB (l : List (List UInt8)) : Bool := rightM (numF 0 l)
theorem unlike_snoc (l : List (List UInt8)) (s : List UInt8) : unlikeB (l ++ [s]) = (unlikeB l && toldB s && decide (s ∉ l)) := by
  unfold unlikeB
  rw [numF_snoc, right_snoc, num_right, numF_names]
  cases rightM (numF 0 l) <;> cases toldB s <;> rfl
theorem in_snoc (s : List UInt8) (l : List (List UInt8)) (t : List UInt8) : decide (s ∉ l ++ [t]) = (decide (s ∉ l) && decide (t ≠ s)) := by
  rw [Bool.eq_iff_iff]
  simp only [List.mem_append, List.mem_singleton, Bool.and_eq_true, decide_eq_true_eq, not_or]
  exact ⟨fun q => ⟨q.1, fun e => q.2 e.symm⟩, fun q => ⟨q.1, fun e => q.2 e.symm⟩⟩
theorem get_num (n : List UInt8) (l : List (List UInt8)) : getM n (numF 0 l) = if wantI n l < 0 then none else some (jnum (Lib.itoa (wantI n l))) := by
  rw [numF_get, Nat.zero_add]
  unfold wantI
  split
  · rw [if_neg (by omega)]
  · rfl
end Go.Proofs.Ytfcokdkbjajohaa
/- JsonWith: where the members stand, with one put or dropped. Plain. -/
set_option linter.unusedVariables false
namespace Go.Proofs.Ytfcokdkbjajohaa

theorem idx_lt_iff (n : List UInt8) : ∀ m : List (List UInt8 × JV), idxM n m < m.length ↔ n ∈ m.map Prod.fst
  | [] => by simp
  | p :: m => by
    have ih := idx_lt_iff n m
    rw [idxM]
    by_cases e : p.1 = n
    · rw [if_pos e]
      simp [e]
    · rw [if_neg e, List.length_cons, List.map_cons, List.mem_cons]
      constructor
      · intro h
        exact .inr (ih.1 (by omega))
      · intro h
        rcases h with h | h
        · exact absurd h.symm e
        · have := ih.2 h
          omega
theorem with_len (n : List UInt8) (v : JV) (m : List (List UInt8 × JV)) : (withM n v m).length = if n ∈ m.map Prod.fst then m.length else m.length + 1 := by
  by_cases h : idxM n m < m.length
  · rw [withM_at n v m h, if_pos ((idx_lt_iff n m).1 h), List.length_set]
  · rw [withM_new n v m h, if_neg (fun q => h ((idx_lt_iff n m).2 q)), List.length_append]
    rfl
theorem with_le (n : List UInt8) (v : JV) (m : List (List UInt8 × JV)) : m.length ≤ (withM n v m).length ∧ (withM n v m).length ≤ m.length + 1 := by
  rw [with_len]
  split <;> omega
theorem with_at (n : List UInt8) (v : JV) (m : List (List UInt8 × JV)) (i : Nat) (h : i < m.length) (h' : i < (withM n v m).length) : (withM n v m)[i].1 = m[i].1 ∧ (m[i].1 ≠ n → (withM n v m)[i] = m[i]) := by
  by_cases hi : idxM n m < m.length
  · have hn := idxM_name n m hi
    simp only [withM_at n v m hi, List.getElem_set]
    by_cases e : idxM n m = i
    · subst e
      simp [hn]
    · simp [e]
  · simp only [withM_new n v m hi]
    rw [List.getElem_append_left h]
    exact ⟨rfl, fun _ => rfl⟩
theorem without_at (n : List UInt8) (m : List (List UInt8 × JV)) (i : Nat) (h : i < m.length) (hn : m[i].1 ≠ n) : (withoutM n m)[(withoutM n (m.take i)).length]? = some m[i] := by
  have e : withoutM n m = withoutM n (m.take i) ++ (m[i] :: withoutM n (m.drop (i + 1))) := by
    have h1 : m = m.take i ++ (m[i] :: m.drop (i + 1)) := by rw [← List.drop_eq_getElem_cons h, List.take_append_drop]
    unfold withoutM
    conv => lhs; rw [h1]
    rw [List.filter_append, List.filter_cons_of_pos (by simpa using hn)]
  rw [e, List.getElem?_append_right (Nat.le_refl _), Nat.sub_self]
  rfl
theorem numF_right_at {l : List (List UInt8)} {x : List UInt8 × JV} : ∀ {k : Nat}, x ∈ numF k l → rightJ x.2 = true := by
  induction l with
  | nil => intro k h; simp [numF] at h
  | cons s l ih =>
    intro k h
    simp only [numF, List.mem_cons] at h
    rcases h with rfl | h
    · exact num_right k
    · exact ih h
end Go.Proofs.Ytfcokdkbjajohaa
/- Rows of names; the members of numbers, in cells. -/
set_option linter.unusedVariables false
namespace Go.Proofs.Ytfcokdkbjajohaa
open Go.RowKit

/-- The cells of numbers. -/
def cellsF (k : Nat) : List (List UInt8) → List (List Value)
  | [] => []
  | s :: l => [.int .i64 3, .bool false, strV (Lib.itoa (k : Int)), .slice none 0 0, .slice none 0 0] :: cellsF (k + 1) l
theorem cellsF_len : ∀ (l : List (List UInt8)) (k : Nat), (cellsF k l).length = (numF k l).length
  | [], _ => rfl
  | s :: l, k => by rw [cellsF, numF, List.length_cons, List.length_cons, cellsF_len l]
theorem cellsF_snoc : ∀ (l : List (List UInt8)) (k : Nat) (s : List UInt8), cellsF k (l ++ [s]) = cellsF k l ++ [[.int .i64 3, .bool false, strV (Lib.itoa ((k + l.length : Nat) : Int)), .slice none 0 0, .slice none 0 0]]
  | [], k, s => rfl
  | t :: l, k, s => by
    rw [List.cons_append, cellsF, cellsF_snoc l (k + 1) s, cellsF, List.cons_append, List.length_cons, show k + 1 + l.length = k + (l.length + 1) by omega]
theorem cellsF_reps (ok : Nat → Prop) (w : World) : ∀ (l : List (List UInt8)) (k : Nat), RepsM ok w (cellsF k l) (numF k l)
  | [], k => RepsM.nil ok w
  | s :: l, k => by
    have ih := cellsF_reps ok w l (k + 1)
    refine ⟨cellsF_len (s :: l) k, fun i hi hj => ?_⟩
    cases i with
    | zero => exact Rep.leaf ok w 3 false _
    | succ i =>
      simp only [cellsF, numF, List.getElem_cons_succ]
      exact ih.2 i (by simp only [cellsF, List.length_cons] at hi; omega) (by simp only [numF, List.length_cons] at hj; omega)
set_option maxRecDepth 100000 in
theorem slice_hs (b off n c j : Nat) (hc : n ≤ c) (hj : j ≤ n) (h0 : 0 < c) (w : World) : (Instr.slice 36 (.slice (some ⟨b, off, none⟩) n c) none (some (.int .i64 (j : Int))) none).run Try.prog w = .ok (.slice (some ⟨b, off, none⟩) j c) w := by
  rw [run_slice_h w 36 (some ⟨b, off, none⟩) n c Try.underlying36 .i64 j (by omega) (by omega)]
  have : ¬ c = 0 := by omega
  simp [go_sem, this, Addr.add]
theorem none_rd {ok ok' : Nat → Prop} {w : World} {a : Option Addr} {m : List (List UInt8 × JV)} {cm : List (List Value)} (h3 : RdO ok w a (memCells m cm)) (h4 : RepsM ok' w cm m) (ha : a = none) : m.length = 0 := by
  have hl := mem6_len h4
  rcases h3 with h | ⟨b, off, e, _⟩
  · rw [h] at hl
    simp only [List.length_nil] at hl
    omega
  · rw [ha] at e
    cases e
theorem numF_mem : ∀ (l : List (List UInt8)) (k : Nat) (x : List UInt8 × JV), x ∈ numF k l → x.1 ∈ l
  | [], _, x, h => by simp [numF] at h
  | s :: l, k, x, h => by
    simp only [numF, List.mem_cons] at h ⊢
    rcases h with rfl | h
    · exact .inl rfl
    · exact .inr (numF_mem l (k + 1) x h)
theorem numF_val : ∀ (l : List (List UInt8)) (k : Nat) (x : List UInt8 × JV), x ∈ numF k l → ∃ i, i < k + l.length ∧ x.2 = jnum (Lib.itoa ((i : Nat) : Int))
  | [], _, x, h => by simp [numF] at h
  | s :: l, k, x, h => by
    simp only [numF, List.mem_cons] at h
    rcases h with rfl | h
    · exact ⟨k, by rw [List.length_cons]; omega, rfl⟩
    · obtain ⟨i, hi, e⟩ := numF_val l (k + 1) x h
      exact ⟨i, by rw [List.length_cons]; omega, e⟩
theorem one_rd {w : World} {g : Nat} {cs : List Value} {A : Array Value} {T : TypeId} {fr : Nat × Nat} (h : w.heap[g]? = some (.cells A T fr)) (hA : A = cs.toArray) : RdO (fun _ => True) w (some ⟨g, 0, none⟩) [cs].flatten := by
  subst hA
  refine .inr ⟨g, 0, rfl, trivial, fun i u hu => ?_⟩
  rw [Lib.cell_of_heap h]
  simpa using hu
theorem one_reps {ok : Nat → Prop} {w : World} {cs : List Value} {v : JV} (h : Rep ok w cs v) : Reps ok w [cs] [v] := by
  refine ⟨rfl, fun i hi hj => ?_⟩
  match i, hi with
  | 0, _ => exact h
  | k + 1, h => exact absurd h (by simp)
end Go.Proofs.Ytfcokdkbjajohaa
/- JsonWith: objects in cells. -/
set_option linter.unusedVariables false
namespace Go.Proofs.Ytfcokdkbjajohaa
open Go.RowKit

theorem rep_obj {ok : Nat → Prop} {w : World} {cs : List Value} {M : List (List UInt8 × JV)} {N : Nat} (h : Rep ok w cs (jobj M)) (hN : M.length = N) :
    ∃ a c a' c' cm, cs = [.int .i64 6, .bool false, .string ⟨#[]⟩, .slice a 0 c, .slice a' N c'] ∧ RdO ok w a' (memCells M cm) ∧ RepsM ok w cm M ∧ N ≤ c' := by
  subst hN
  obtain ⟨a, c, a', c', cl, cm, rfl, -, -, h3, h4, -, h6⟩ := h.parts
  exact ⟨a, c, a', c', cm, rfl, h3, h4, h6⟩
/-- An object of values that have no rows: only its own row matters. -/
theorem rep_leafs {ok ok' : Nat → Prop} {w : World} {a a' : Option Addr} {c c' N : Nat} {M : List (List UInt8 × JV)} {cm : List (List Value)} (hN : M.length = N) (hl : ∀ x ∈ M, x.2.list = [] ∧ x.2.mem = []) (h3 : RdO ok w a' (memCells M cm)) (h4 : RepsM ok w cm M) (hc : N ≤ c')
    (hb : M ≠ [] → ∀ b off, a' = some ⟨b, off, none⟩ → ok' b) : RdO ok' w a' (memCells M cm) ∧ RepsM ok' w cm M := by
  subst hN
  constructor
  · cases M with
    | nil => exact .inl (by cases cm <;> rfl)
    | cons p M =>
      rcases h3 with h | ⟨b, off, e, _, h⟩
      · exact .inl h
      · exact .inr ⟨b, off, e, hb (by simp) b off e, h⟩
  · refine ⟨h4.1, fun i hi hj => ?_⟩
    have h5 := h4.2 i hi hj
    obtain ⟨h6, h7⟩ := hl M[i] (List.getElem_mem _)
    generalize hv : M[i].2 = v at *
    generalize hcs : cm[i] = cs at *
    obtain ⟨a, c, a', c', cl, cm', e, h1, h2, h8, h9, h10, h11⟩ := h5.parts
    obtain ⟨k, y, t, l, m⟩ := v
    simp only [JV.list, JV.mem] at h6 h7
    subst h6 h7
    subst e
    exact rep_of (l := []) (m := []) (cl := []) (cm := []) (.inl rfl) (Reps.nil _ _) (.inl rfl) (RepsM.nil _ _) (by simp) (by simp)
/-- A row of members is no block of one empty value. -/
theorem row_no_zero {ok : Nat → Prop} {w : World} {a' : Option Addr} {M : List (List UInt8 × JV)} {cm : List (List Value)} {T : TypeId} {fr : Nat × Nat} {g : Nat} (h3 : RdO ok w a' (memCells M cm)) (h4 : RepsM ok w cm M) (hM : M ≠ []) (hg : w.heap[g]? = some (.cells #[.int .i64 0, .bool false, .string ⟨#[]⟩, .slice none 0 0, .slice none 0 0] T fr)) :
    ∀ b off, a' = some ⟨b, off, none⟩ → b ≠ g := by
  intro b off e hbg
  subst hbg
  have h0 : 0 < M.length := List.length_pos_iff.2 hM
  obtain ⟨b', off', k2, y2, t2, a2, l2, c2, a3, l3, c3, e2, -, i0, i1, -⟩ := mem_cells' h3 h4 0 h0
  rw [e] at e2
  cases e2
  rw [Lib.cell_of_heap hg] at i0 i1
  simp only [Nat.zero_mul, Nat.add_zero] at i0 i1
  match off, i0, i1 with
  | 0, i0, _ => simp at i0
  | 1, i0, _ => simp at i0
  | 2, _, i1 => simp at i1
  | 3, i0, _ => simp at i0
  | 4, i0, _ => simp at i0
  | k + 5, i0, _ => simp at i0
theorem numF_leaf : ∀ (l : List (List UInt8)) (k : Nat) (x : List UInt8 × JV), x ∈ numF k l → x.2.list = [] ∧ x.2.mem = []
  | [], _, x, h => by simp [numF] at h
  | s :: l, k, x, h => by
    simp only [numF, List.mem_cons] at h
    rcases h with rfl | h
    · exact ⟨rfl, rfl⟩
    · exact numF_leaf l (k + 1) x h
theorem with_mem {n : List UInt8} {v : JV} : ∀ {m : List (List UInt8 × JV)} {x : List UInt8 × JV}, x ∈ withM n v m → x = (n, v) ∨ x ∈ m := by
  intro m x hx
  by_cases h : idxM n m < m.length
  · rw [withM_at n v m h] at hx
    rcases List.mem_or_eq_of_mem_set hx with h | h
    · exact .inr h
    · exact .inl h
  · rw [withM_new n v m h] at hx
    rcases List.mem_append.1 hx with h | h
    · exact .inr h
    · exact .inl (List.mem_singleton.1 h)
theorem without_mem {n : List UInt8} {m : List (List UInt8 × JV)} {x : List UInt8 × JV} (h : x ∈ withoutM n m) : x ∈ m := by
  unfold withoutM at h
  exact (List.mem_filter.1 h).1
end Go.Proofs.Ytfcokdkbjajohaa
