/- Package sha: a hash in memory; New, Write. -/
import Derived.Test.YtbblnlddiafkhaaDoorShaC
import Derived.Test.YtbblnlddiafkhaaDoorShaQ
import Derived.Test.YtbblnlddiafkhaaDoorTl
import Derived.Deep.MidRow
set_option linter.unusedVariables false
namespace Go.Proofs.YtbblnlddiafkhaaDoor
open Go.RowKit

/-- A hash's cells. -/
def hCells (st : List Nat) (v : Value) (n : Nat) : Array Value := (u32s st ++ [v, .int .i64 n]).toArray
theorem hCells_size {st : List Nat} (h : St8 st) (v : Value) (n : Nat) : (hCells st v n).size = 10 := by simp [hCells, u32s, h.1]
theorem hCells_8 {st : List Nat} (h : St8 st) (v : Value) (n : Nat) : (hCells st v n)[8]? = some v := by
  have := h.1
  simp [hCells, u32s, this]
theorem hCells_9 {st : List Nat} (h : St8 st) (v : Value) (n : Nat) : (hCells st v n)[9]? = some (.int .i64 n) := by
  have := h.1
  simp [hCells, u32s, this]
theorem hCells_set8 {st : List Nat} (h : St8 st) (v v' : Value) (n : Nat) : (hCells st v n).setIfInBounds 8 v' = hCells st v' n := by
  have := h.1
  simp [hCells, u32s, this]
theorem hCells_set9 {st : List Nat} (h : St8 st) (v : Value) (n n' : Nat) : (hCells st v n).setIfInBounds 9 (.int .i64 n') = hCells st v n' := by
  have := h.1
  simp [hCells, u32s, this]

/-- A hash at p. -/
structure HAt (B : Nat) (w : World) (p : Nat) (v : Value) (st : List Nat) (rest : List UInt8) (n : Nat) : Prop where
  blk : w.heap[p]? = some (.cells (hCells st v n) 113 (0, 0))
  st8 : St8 st
  tl : Tl B w v rest
  ge : B ≤ p

theorem HAt.range {B : Nat} {w : World} {p : Nat} {v : Value} {st : List Nat} {rest : List UInt8} {n : Nat} (h : HAt B w p v st rest n) : w.rangeAt p 0 (u32s st) := by
  intro j x hx
  rw [Nat.zero_add, Lib.cell_of_heap h.blk]
  have hj := (List.getElem?_eq_some_iff.1 hx).1
  simp only [hCells, List.getElem?_toArray]
  rw [List.getElem?_append_left hj, hx]
theorem HAt.there {B : Nat} {w : World} {p : Nat} {v : Value} {st : List Nat} {rest : List UInt8} {n : Nat} (h : HAt B w p v st rest n) : w.there p 0 8 := by
  intro j hj
  rw [Nat.zero_add, Lib.cell_of_heap h.blk]
  refine ⟨?_, Lib.frozen_of_heap h.blk _⟩
  have := hCells_size h.st8 v n
  rw [Array.getElem?_eq_getElem (by omega)]
  rfl
theorem HAt.cell8 {B : Nat} {w : World} {p : Nat} {v : Value} {st : List Nat} {rest : List UInt8} {n : Nat} (h : HAt B w p v st rest n) : w.cell? ⟨p, 8, none⟩ = some v := by
  rw [Lib.cell_of_heap h.blk, hCells_8 h.st8]
theorem HAt.cell9 {B : Nat} {w : World} {p : Nat} {v : Value} {st : List Nat} {rest : List UInt8} {n : Nat} (h : HAt B w p v st rest n) : w.cell? ⟨p, 9, none⟩ = some (.int .i64 n) := by
  rw [Lib.cell_of_heap h.blk, hCells_9 h.st8]
theorem HAt.frz {B : Nat} {w : World} {p : Nat} {v : Value} {st : List Nat} {rest : List UInt8} {n : Nat} (h : HAt B w p v st rest n) (j : Nat) : w.frozen? ⟨p, j, none⟩ = false := Lib.frozen_of_heap h.blk j
theorem HAt.apart {B : Nat} {w : World} {p : Nat} {v : Value} {st : List Nat} {rest : List UInt8} {n : Nat} (h : HAt B w p v st rest n) : v.ownBlock ≠ some p := by
  intro e
  obtain ⟨cur, hc⟩ := h.tl.kind p e
  rw [h.blk] at hc
  simp at hc
/-- Where the hash's own blocks stand as they stood. -/
theorem HAt.keep {B : Nat} {w w' : World} {p : Nat} {v : Value} {st : List Nat} {rest : List UInt8} {n : Nat} (h : HAt B w p v st rest n) (h1 : w'.heap[p]? = w.heap[p]?) (h2 : ∀ k, v.ownBlock = some k → w'.heap[k]? = w.heap[k]?) : HAt B w' p v st rest n :=
  ⟨by rw [h1]; exact h.blk, h.st8, h.tl.keep h2, h.ge⟩
theorem HAt.below {B : Nat} {w w' : World} {p : Nat} {v : Value} {st : List Nat} {rest : List UInt8} {n : Nat} (h : HAt B w p v st rest n) (hb : Below w.heap.size w w') : HAt B w' p v st rest n :=
  h.keep (hb.block p (Array.getElem?_eq_some_iff.1 h.blk).1) fun k hk => hb.block k (h.tl.lt k hk).2
theorem HAt.num {B : Nat} {w : World} {p : Nat} {v : Value} {st : List Nat} {rest : List UInt8} {n : Nat} (h : HAt B w p v st rest n) (n' : Nat) : HAt B (w.setCell ⟨p, 9, none⟩ (.int .i64 n')) p v st rest n' :=
  ⟨by rw [setCell_block h.blk, hCells_set9 h.st8], h.st8, h.tl.keep fun k hk => Below.heap_setCell _ _ _ _ (fun e => h.apart (by rw [hk, e])), h.ge⟩
theorem HAt.own {B : Nat} {w : World} {p : Nat} {v v' : Value} {st : List Nat} {rest rest' : List UInt8} {n : Nat} (h : HAt B w p v st rest n) (ht : Tl B w v' rest') : HAt B (w.setCell ⟨p, 8, none⟩ v') p v' st rest' n := by
  have hne : v'.ownBlock ≠ some p := by
    intro e
    obtain ⟨cur, hc⟩ := ht.kind p e
    rw [h.blk] at hc
    simp at hc
  exact ⟨by rw [setCell_block h.blk, hCells_set8 h.st8], h.st8, ht.keep fun k hk => Below.heap_setCell _ _ _ _ (fun e => hne (by rw [hk, e])), h.ge⟩
theorem HAt.state {B : Nat} {w : World} {p : Nat} {v : Value} {st st' : List Nat} {rest : List UInt8} {n : Nat} (h : HAt B w p v st rest n) (h8 : St8 st') : HAt B (w.setCells p 0 (u32s st')) p v st' rest n := by
  obtain ⟨cs', e1, e2, _, e4, e5⟩ := setCells_block (u32s st') 0 w _ h.blk
  have hl : (u32s st').length = 8 := by simp [u32s, h8.1]
  have hl0 : (u32s st).length = 8 := by simp [u32s, h.st8.1]
  have hsz := hCells_size h.st8 v n
  refine ⟨?_, h8, h.tl.keep fun k hk => World.heap_setCells_other _ _ _ _ (h.tl.lt k hk).2 (fun e => h.apart (by rw [hk, e])), h.ge⟩
  rw [e1]
  congr 2
  apply Array.ext_getElem?
  intro i
  by_cases hi : i < 8
  · have := e4 i (by omega) (by omega)
    rw [Nat.zero_add] at this
    rw [this]
    simp only [hCells, List.getElem?_toArray]
    rw [List.getElem?_append_left (by omega), List.getElem?_eq_getElem (by omega)]
  · rw [e5 i (by omega)]
    simp only [hCells, List.getElem?_toArray]
    rw [List.getElem?_append_right (by omega), List.getElem?_append_right (by omega), hl, hl0]

/-- A hash that was told m. -/
def HM (B : Nat) (w : World) (p : Nat) (v : Value) (m : List UInt8) : Prop := HAt B w p v (stOf m (m.length / 64)) (m.drop (64 * (m.length / 64))) m.length

theorem iv_cells : hCells iv (.slice none 0 0) 0 = #[.int .u32 1779033703, .int .u32 3144134277, .int .u32 1013904242, .int .u32 2773480762, .int .u32 1359893119, .int .u32 2600822924, .int .u32 528734635, .int .u32 1541459225, .slice none 0 0, .int .i64 0] := rfl

set_option maxHeartbeats 1000000 in
theorem new_any (w : World) : Calls Tryd.prog 54 #[] w fun e w' => e = .returned (.pointer (some ⟨w.heap.size, 0, none⟩)) ∧ w' = w.alloc (.cells (hCells iv (.slice none 0 0) 0) 113) := by
  rw [iv_cells]
  go_enter Tryd.func54, Tryd.ntmps54
  go_upto_region 1 with (fail)
  apply wp_region_lit
  refine wpList_buildTo rfl 111 _ rfl (some 1) rfl #[.int .u32 1779033703, .int .u32 3144134277, .int .u32 1013904242, .int .u32 2773480762, .int .u32 1359893119, .int .u32 2600822924, .int .u32 528734635, .int .u32 1541459225] (by kernel_rfl) ?_
  refine wpList_buildTo rfl 113 _ rfl (some 2) rfl #[.int .u32 1779033703, .int .u32 3144134277, .int .u32 1013904242, .int .u32 2773480762, .int .u32 1359893119, .int .u32 2600822924, .int .u32 528734635, .int .u32 1541459225, .slice none 0 0, .int .i64 0] (by kernel_rfl) ?_
  go_wp2_with fail
  go_ret
  exact ⟨rfl, rfl⟩
theorem new_hm (B : Nat) (w : World) (hB : B ≤ w.heap.size) : HM B (w.alloc (.cells (hCells iv (.slice none 0 0) 0) 113)) w.heap.size (.slice none 0 0) [] :=
  ⟨heap_alloc_new w _, iv_st8, Tl.nil _ _, hB⟩

set_option maxRecDepth 100000 in
set_option maxHeartbeats 4000000 in
theorem write_any (B p : Nat) (v : Value) (m l : List UInt8) (ad : Option Addr) (n c : Nat) (w : World) (h : HM B w p v m) (hB : B ≤ w.heap.size) (hr : Rd w ad l) (hn : n = l.length) (hap : l ≠ [] → ∀ b off s, ad = some ⟨b, off, s⟩ → b ≠ p) (hlen : m.length + l.length ≤ 1000000) :
    Calls Tryd.prog 55 #[.pointer (some ⟨p, 0, none⟩), .slice ad n c] w fun e w' => e = .returned (.tuple #[]) ∧ ∃ v', HM B w' p v' (m ++ l) ∧ Keeps (fun k => k = p ∨ v.ownBlock = some k) w w' ∧ (v'.ownBlock = v.ownBlock ∨ ∃ k, v'.ownBlock = some k ∧ w.heap.size ≤ k) := by
  subst hn
  obtain ⟨st, hst⟩ : ∃ x, stOf m (m.length / 64) = x := ⟨_, rfl⟩
  obtain ⟨rest, hrest⟩ : ∃ x, m.drop (64 * (m.length / 64)) = x := ⟨_, rfl⟩
  have hrl : rest.length = m.length % 64 := by rw [← hrest, List.length_drop]; omega
  unfold HM at h
  rw [hst, hrest] at h
  have HST := Lib.hid hst
  have HRE := Lib.hid hrest
  have HRL := Lib.hid hrl
  have c8 := HAt.cell8 h
  have c9 := HAt.cell9 h
  have f9 := HAt.frz h 9
  have hcount : IntKind.i64.wrap ((m.length : Int) + l.length) = ((m.length + l.length : Nat) : Int) := IntWalk.i64_in _ (by omega)
  obtain ⟨ml, hml⟩ : ∃ x, m.length + l.length = x := ⟨_, rfl⟩
  rw [hml] at hcount
  obtain ⟨a0, c0, hv⟩ : ∃ a c, v = .slice a rest.length c := by
    obtain ⟨a, c, h, _⟩ := h.tl.shape
    exact ⟨a, c, h⟩
  have H1 := HAt.num h ml
  have HML := Lib.hid hml
  clear hst hrest hrl hml
  have hr1 : Rd (w.setCell ⟨p, 9, none⟩ (.int .i64 ml)) ad l := by
    by_cases e : l = []
    · exact .inl e
    · exact hr.keeps (Keeps.setCell (f := fun k => k = p) w _ _ rfl) (hap e)
  have hk1 : Keeps (fun k => k = p ∨ v.ownBlock = some k) w (w.setCell ⟨p, 9, none⟩ (.int .i64 ml)) := Keeps.setCell _ _ _ (.inl rfl)
  clear h hr
  go_enter Tryd.func55, Tryd.ntmps55
  go_upto_region 1 with (fail)
  obtain ⟨w1, hw1⟩ : ∃ w1, w.setCell ⟨p, 9, none⟩ (.int .i64 ml) = w1 := ⟨_, rfl⟩
  rw [hw1] at H1 hr1 hk1 ⊢
  clear hw1 c8 c9 f9 hcount
  have c8 := HAt.cell8 H1
  subst hv
  have HM1 := Lib.hid H1
  have HR1 := Lib.hid hr1
  have HK1 := Lib.hid hk1
  clear H1 hr1 hk1
  go_wp2_with (at_builtin; go_loud (refine wpList_append_tl rfl (.tmp 17) (.tmp 18) rfl B _ _ rfl HM1.out.tl ad l l.length c rfl rfl HR1.out ?c1 ?c2 ?_))
  case c1 => have := HRL.out; omega
  case c2 => exact Nat.le_trans hB HK1.out.size
  intro a2 n2 c2 w2 hn2 ht2 hg2 how2
  have hp2 : w2.heap[p]? = w1.heap[p]? := hg2.block p (Array.getElem?_eq_some_iff.1 HM1.out.blk).1 (fun e => HM1.out.apart e.symm)
  have hb2 : w2.heap[p]? = some (.cells (hCells st (.slice a0 rest.length c0) ml) 113 (0, 0)) := by rw [hp2]; exact HM1.out.blk
  have c8' : w2.cell? ⟨p, 8, none⟩ = some (.slice a0 rest.length c0) := by rw [Lib.cell_of_heap hb2, hCells_8 HM1.out.st8]
  have f8' : w2.frozen? ⟨p, 8, none⟩ = false := Lib.frozen_of_heap hb2 8
  have H2 : HAt B (w2.setCell ⟨p, 8, none⟩ (.slice a2 n2 c2)) p (.slice a2 n2 c2) st (rest ++ l) ml := by
    have hne : Value.ownBlock (.slice a2 n2 c2) ≠ some p := by
      intro e
      obtain ⟨cur, hc⟩ := ht2.kind p e
      rw [hb2] at hc
      simp at hc
    exact ⟨by rw [setCell_block hb2, hCells_set8 HM1.out.st8], HM1.out.st8, ht2.keep fun k hk => Below.heap_setCell _ _ _ _ (fun e => hne (by rw [hk, e])), HM1.out.ge⟩
  have hk2 : Keeps (fun k => k = p ∨ Value.ownBlock (.slice a0 rest.length c0) = some k) w (w2.setCell ⟨p, 8, none⟩ (.slice a2 n2 c2)) :=
    (HK1.out.trans (Keeps.of_grown (f := fun k => k = p ∨ Value.ownBlock (.slice a0 rest.length c0) = some k) hg2 (fun k hk => .inr hk)) (fun k _ h => h)).trans (Keeps.setCell (f := fun k => k = p) _ _ _ rfl) (fun k _ h => .inl h)
  have how3 : Value.ownBlock (.slice a2 n2 c2) = Value.ownBlock (.slice a0 rest.length c0) ∨ ∃ k, Value.ownBlock (.slice a2 n2 c2) = some k ∧ w.heap.size ≤ k :=
    how2.imp id fun ⟨k, h1, h2⟩ => ⟨k, h1, Nat.le_trans HK1.out.size h2⟩
  have HM2 := Lib.hid H2
  have HK2 := Lib.hid hk2
  have HOW := Lib.hid how3
  clear H2 hk2 how3 how2 ht2 hg2 hp2 hb2 c8 HR1
  obtain ⟨rest2, hrest2⟩ : ∃ x, rest ++ l = x := ⟨_, rfl⟩
  obtain ⟨w3, hw3⟩ : ∃ w3, w2.setCell ⟨p, 8, none⟩ (.slice a2 n2 c2) = w3 := ⟨_, rfl⟩
  rw [hrest2] at HM2
  have HR2 := Lib.hid hrest2
  clear hrest2
  go_wp2_with fail
  rw [hw3] at HM2 HK2
  clear hw3 c8' f8'
  go_loopg [22] ((m ++ l).length / 64 - m.length / 64) (fun k x wr => ∃ j v', j + k = (m ++ l).length / 64 ∧ m.length / 64 ≤ j ∧ Hid (HAt B wr p v' (stOf (m ++ l) j) ((m ++ l).drop (64 * j)) ml) ∧
      Hid (Keeps (fun k => k = p ∨ Value.ownBlock (.slice a0 rest.length c0) = some k) w wr) ∧ Hid (v'.ownBlock = Value.ownBlock (.slice a0 rest.length c0) ∨ ∃ k, v'.ownBlock = some k ∧ w.heap.size ≤ k))
  case atStart =>
    have hle : m.length ≤ (m ++ l).length := by simp
    have hd : m.length / 64 ≤ (m ++ l).length / 64 := Nat.div_le_div_right hle
    refine ⟨m.length / 64, _, by omega, Nat.le_refl _, ?_, HK2, HOW⟩
    rw [stOf_app m l _ (by omega), List.drop_append_of_le_length (by omega), HST.out, HRE.out, HR2.out]
    exact HM2
  case round =>
    obtain ⟨j, v', hj, hj0, H, HK, HO⟩ := hrel
    have hML : (m ++ l).length = m.length + l.length := List.length_append
    have hLl : ((m ++ l).drop (64 * j)).length = (m ++ l).length - 64 * j := List.length_drop
    obtain ⟨L, hL⟩ : ∃ x, (m ++ l).drop (64 * j) = x := ⟨_, rfl⟩
    obtain ⟨s1, hs1⟩ : ∃ x, stOf (m ++ l) j = x := ⟨_, rfl⟩
    rw [hL] at hLl H
    rw [hs1] at H
    have HL := Lib.hid hL
    have HS1 := Lib.hid hs1
    obtain ⟨a3, c3, hv3⟩ : ∃ a c, v' = .slice a L.length c := by
      obtain ⟨a, c, h, _⟩ := H.out.tl.shape
      exact ⟨a, c, h⟩
    subst hv3
    have c8 := H.out.cell8
    have HLL := Lib.hid hLl
    have HMLL := Lib.hid hML
    clear hL hs1 hLl hML
    by_cases h64 : 64 ≤ L.length
    · have h64' : (64 : Int) ≤ (L.length : Int) := by omega
      have hl1 : (u32s s1).length = 8 := by simp [u32s, H.out.st8.1]
      have hc8 : (comp s1 L).length = 8 := (comp_st8 H.out.st8 L).1
      have hLm : L.length ≤ 1000000 := by have := HLL.out; have := HMLL.out; omega
      have hrdL : Rd wr a3 L := by
        obtain ⟨a, c, h, hr, _⟩ := H.out.tl.shape
        simp at h
        rw [h.1]
        exact hr
      go_upto_region 3 with (fail)
      refine wp_region_inv (by kernel_rfl) (by kernel_rfl) (fun b a' w' => ∃ v28 v29 v30 v31 v32 v33 v34 v35 v36 v37 v38 v39 : Value, ∃ wb : World, a' = { tmps := #[.pointer (some ⟨p, 0, none⟩), .slice ad l.length c, undef, undef, .pointer (some ⟨p, 0, none⟩), .pointer (some ⟨p, 0, none⟩), .pointer (some ⟨p, 9, none⟩), .int .i64 (m.length : Nat), .slice ad l.length c, .int .i64 (l.length : Nat), .int .i64 (ml : Nat), .pointer (some ⟨p, 0, none⟩), .pointer (some ⟨p, 9, none⟩), .pointer (some ⟨p, 0, none⟩), .pointer (some ⟨p, 0, none⟩), .pointer (some ⟨p, 0, none⟩), .pointer (some ⟨p, 8, none⟩), .slice a0 rest.length c0, .slice ad l.length c, .slice a2 n2 c2, .pointer (some ⟨p, 0, none⟩), .pointer (some ⟨p, 8, none⟩), .pointer (some ⟨p, 0, none⟩), .pointer (some ⟨p, 0, none⟩), .pointer (some ⟨p, 8, none⟩), .slice a3 L.length c3, .int .i64 (L.length : Nat), .bool true, v28, v29, v30, v31, v32, v33, v34, v35, v36, v37, v38, v39, u40, u41, u42, u43, u44, u45, u46, u47], defers := [] } ∧ Below wr.heap.size wr wb ∧ w' = (if b 12 then wb.setCells p 0 (u32s (comp s1 L)) else wb) ∧ (b 12 = true → b 0 = true ∧ b 1 = true ∧ b 2 = true ∧ b 3 = true ∧ b 4 = true ∧ b 5 = true ∧ b 6 = true ∧ b 7 = true ∧ b 8 = true ∧ b 9 = true ∧ b 10 = true ∧ b 11 = true) ∧ (b 11 = true → b 10 = true) ∧ (b 0 = true → v28 = .pointer (some ⟨p, 0, none⟩)) ∧ (b 1 = true → v29 = .pointer (some ⟨p, 0, none⟩)) ∧ (b 2 = true → v30 = .pointer (some ⟨p, 0, none⟩)) ∧ (b 3 = true → v31 = .pointer (some ⟨p, 0, none⟩)) ∧ (b 4 = true → v32 = .agg (u32s s1).toArray) ∧ (b 5 = true → v33 = .pointer (some ⟨p, 0, none⟩)) ∧ (b 6 = true → v34 = .pointer (some ⟨p, 0, none⟩)) ∧ (b 7 = true → v35 = .pointer (some ⟨p, 8, none⟩)) ∧ (b 8 = true → v36 = .slice a3 L.length c3) ∧ (b 9 = true → v37 = .agg (u32s (comp s1 L)).toArray) ∧ (b 10 = true → v38 = .pointer (some ⟨p, 0, none⟩)) ∧ (b 11 = true → v39 = .pointer (some ⟨p, 0, none⟩))) ?_ ?_ ?_
      · exact ⟨u28, u29, u30, u31, u32, u33, u34, u35, u36, u37, u38, u39, wr.drew, rfl, (Below.refl _ _).drew, rfl, by simp, by simp, by simp, by simp, by simp, by simp, by simp, by simp, by simp, by simp, by simp, by simp, by simp, by simp⟩
      · rintro b a' w' ⟨v28, v29, v30, v31, v32, v33, v34, v35, v36, v37, v38, v39, wb, rfl, hbel, hw, h12, h1110, h0, h1, h2, h3, h4, h5, h6, h7, h8, h9, h10, h11⟩ i o ho hbi hpre
        rcases i with _ | _ | _ | _ | _ | _ | _ | _ | _ | _ | _ | _ | _ | i
        · cases ho
          have n12 : b 12 = false := by
            cases e : b 12 with
            | false => rfl
            | true => exact absurd (h12 e).1 (by simp [hbi])
          rw [n12] at hw
          obtain rfl : w' = wb := hw
          refine wpOp_step rfl (fun K' hK => ?_)
          go_simp
          refine hK _ _ ⟨_, _, _, _, _, _, _, _, _, _, _, _, w', rfl, hbel, ?_, fun e => absurd (h12 e).1 (by simp [hbi]), h1110, fun _ => rfl, h1, h2, h3, h4, h5, h6, h7, h8, h9, h10, h11⟩
          simp [n12]
        · cases ho
          have n12 : b 12 = false := by
            cases e : b 12 with
            | false => rfl
            | true => exact absurd (h12 e).2.1 (by simp [hbi])
          rw [n12] at hw
          obtain rfl : w' = wb := hw
          refine wpOp_step rfl (fun K' hK => ?_)
          go_simp
          refine hK _ _ ⟨_, _, _, _, _, _, _, _, _, _, _, _, w', rfl, hbel, ?_, fun e => absurd (h12 e).2.1 (by simp [hbi]), h1110, h0, fun _ => rfl, h2, h3, h4, h5, h6, h7, h8, h9, h10, h11⟩
          simp [n12]
        · cases ho
          have n12 : b 12 = false := by
            cases e : b 12 with
            | false => rfl
            | true => exact absurd (h12 e).2.2.1 (by simp [hbi])
          rw [n12] at hw
          obtain rfl : w' = wb := hw
          simp [Region.binds] at hpre
          obtain rfl := h1 (by simp [hpre])
          refine wpOp_step rfl (fun K' hK => ?_)
          go_simp
          refine hK _ _ ⟨_, _, _, _, _, _, _, _, _, _, _, _, w', rfl, hbel, ?_, fun e => absurd (h12 e).2.2.1 (by simp [hbi]), h1110, h0, h1, fun _ => rfl, h3, h4, h5, h6, h7, h8, h9, h10, h11⟩
          simp [n12]
        · cases ho
          have n12 : b 12 = false := by
            cases e : b 12 with
            | false => rfl
            | true => exact absurd (h12 e).2.2.2.1 (by simp [hbi])
          rw [n12] at hw
          obtain rfl : w' = wb := hw
          simp [Region.binds] at hpre
          obtain rfl := h2 (by simp [hpre])
          refine wpOp_step rfl (fun K' hK => ?_)
          go_simp
          refine hK _ _ ⟨_, _, _, _, _, _, _, _, _, _, _, _, w', rfl, hbel, ?_, fun e => absurd (h12 e).2.2.2.1 (by simp [hbi]), h1110, h0, h1, h2, fun _ => rfl, h4, h5, h6, h7, h8, h9, h10, h11⟩
          simp [n12]
        · cases ho
          have n12 : b 12 = false := by
            cases e : b 12 with
            | false => rfl
            | true => exact absurd (h12 e).2.2.2.2.1 (by simp [hbi])
          rw [n12] at hw
          obtain rfl : w' = wb := hw
          simp [Region.binds] at hpre
          obtain rfl := h3 (by simp [hpre])
          refine wpOp_plain rfl rfl ?_
          refine wp_load_mid 111 (.tmp 31) rfl p 0 rfl (u32s s1) _ (H.out.below hbel).range Tryd.underlying111 rfl (by rw [hl1]; kernel_rfl) ?_
          refine ⟨_, _, _, _, _, _, _, _, _, _, _, _, w', rfl, hbel, ?_, fun e => absurd (h12 e).2.2.2.2.1 (by simp [hbi]), h1110, h0, h1, h2, h3, fun _ => rfl, h5, h6, h7, h8, h9, h10, h11⟩
          simp [n12]
        · cases ho
          have n12 : b 12 = false := by
            cases e : b 12 with
            | false => rfl
            | true => exact absurd (h12 e).2.2.2.2.2.1 (by simp [hbi])
          rw [n12] at hw
          obtain rfl : w' = wb := hw
          refine wpOp_step rfl (fun K' hK => ?_)
          go_simp
          refine hK _ _ ⟨_, _, _, _, _, _, _, _, _, _, _, _, w', rfl, hbel, ?_, fun e => absurd (h12 e).2.2.2.2.2.1 (by simp [hbi]), h1110, h0, h1, h2, h3, h4, fun _ => rfl, h6, h7, h8, h9, h10, h11⟩
          simp [n12]
        · cases ho
          have n12 : b 12 = false := by
            cases e : b 12 with
            | false => rfl
            | true => exact absurd (h12 e).2.2.2.2.2.2.1 (by simp [hbi])
          rw [n12] at hw
          obtain rfl : w' = wb := hw
          simp [Region.binds] at hpre
          obtain rfl := h5 (by simp [hpre])
          refine wpOp_step rfl (fun K' hK => ?_)
          go_simp
          refine hK _ _ ⟨_, _, _, _, _, _, _, _, _, _, _, _, w', rfl, hbel, ?_, fun e => absurd (h12 e).2.2.2.2.2.2.1 (by simp [hbi]), h1110, h0, h1, h2, h3, h4, h5, fun _ => rfl, h7, h8, h9, h10, h11⟩
          simp [n12]
        · cases ho
          have n12 : b 12 = false := by
            cases e : b 12 with
            | false => rfl
            | true => exact absurd (h12 e).2.2.2.2.2.2.2.1 (by simp [hbi])
          rw [n12] at hw
          obtain rfl : w' = wb := hw
          simp [Region.binds] at hpre
          obtain rfl := h6 (by simp [hpre])
          refine wpOp_step rfl (fun K' hK => ?_)
          go_simp
          refine hK _ _ ⟨_, _, _, _, _, _, _, _, _, _, _, _, w', rfl, hbel, ?_, fun e => absurd (h12 e).2.2.2.2.2.2.2.1 (by simp [hbi]), h1110, h0, h1, h2, h3, h4, h5, h6, fun _ => rfl, h8, h9, h10, h11⟩
          simp [n12]
        · cases ho
          have n12 : b 12 = false := by
            cases e : b 12 with
            | false => rfl
            | true => exact absurd (h12 e).2.2.2.2.2.2.2.2.1 (by simp [hbi])
          rw [n12] at hw
          obtain rfl : w' = wb := hw
          simp [Region.binds] at hpre
          obtain rfl := h7 (by simp [hpre])
          have c8' := (H.out.below hbel).cell8
          refine wpOp_step rfl (fun K' hK => ?_)
          go_simp
          refine hK _ _ ⟨_, _, _, _, _, _, _, _, _, _, _, _, w', rfl, hbel, ?_, fun e => absurd (h12 e).2.2.2.2.2.2.2.2.1 (by simp [hbi]), h1110, h0, h1, h2, h3, h4, h5, h6, h7, fun _ => rfl, h9, h10, h11⟩
          simp [n12]
        · cases ho
          have n12 : b 12 = false := by
            cases e : b 12 with
            | false => rfl
            | true => exact absurd (h12 e).2.2.2.2.2.2.2.2.2.1 (by simp [hbi])
          rw [n12] at hw
          obtain rfl : w' = wb := hw
          simp [Region.binds] at hpre
          obtain rfl := h4 (by simp [hpre])
          obtain rfl := h8 (by simp [hpre])
          refine wpOp_step rfl (fun K' hK => ?_)
          go_simp
          refine (compress_any s1 H.out.st8 a3 L L.length c3 _ (hrdL.below hbel) rfl h64 hLm).mono ?_
          rintro e w1 ⟨rfl, hb⟩
          refine hK _ _ ⟨_, _, _, _, _, _, _, _, _, _, _, _, w1, rfl, hbel.trans (hb.mono hbel.size), ?_, fun e => absurd (h12 e).2.2.2.2.2.2.2.2.2.1 (by simp [hbi]), h1110, h0, h1, h2, h3, h4, h5, h6, h7, h8, fun _ => rfl, h10, h11⟩
          simp [n12]
        · cases ho
          have n12 : b 12 = false := by
            cases e : b 12 with
            | false => rfl
            | true => exact absurd (h12 e).2.2.2.2.2.2.2.2.2.2.1 (by simp [hbi])
          rw [n12] at hw
          obtain rfl : w' = wb := hw
          simp [Region.binds] at hpre
          obtain rfl := h0 (by simp [hpre])
          refine wpOp_step rfl (fun K' hK => ?_)
          go_simp
          refine hK _ _ ⟨_, _, _, _, _, _, _, _, _, _, _, _, w', rfl, hbel, ?_, fun e => absurd (h12 e).2.2.2.2.2.2.2.2.2.2.1 (by simp [hbi]), fun _ => rfl, (by first | exact h0 | exact fun _ => rfl), (by first | exact h1 | exact fun _ => rfl), (by first | exact h2 | exact fun _ => rfl), (by first | exact h3 | exact fun _ => rfl), (by first | exact h4 | exact fun _ => rfl), (by first | exact h5 | exact fun _ => rfl), (by first | exact h6 | exact fun _ => rfl), (by first | exact h7 | exact fun _ => rfl), (by first | exact h8 | exact fun _ => rfl), (by first | exact h9 | exact fun _ => rfl), fun _ => rfl, (by first | exact h11 | exact fun _ => rfl)⟩
          simp [n12]
        · cases ho
          have n12 : b 12 = false := by
            cases e : b 12 with
            | false => rfl
            | true => exact absurd (h12 e).2.2.2.2.2.2.2.2.2.2.2 (by simp [hbi])
          rw [n12] at hw
          obtain rfl : w' = wb := hw
          simp [Region.binds] at hpre
          obtain rfl := h10 (by simp [hpre])
          refine wpOp_step rfl (fun K' hK => ?_)
          go_simp
          refine hK _ _ ⟨_, _, _, _, _, _, _, _, _, _, _, _, w', rfl, hbel, ?_, fun e => absurd (h12 e).2.2.2.2.2.2.2.2.2.2.2 (by simp [hbi]), fun _ => by simp [hpre], (by first | exact h0 | exact fun _ => rfl), (by first | exact h1 | exact fun _ => rfl), (by first | exact h2 | exact fun _ => rfl), (by first | exact h3 | exact fun _ => rfl), (by first | exact h4 | exact fun _ => rfl), (by first | exact h5 | exact fun _ => rfl), (by first | exact h6 | exact fun _ => rfl), (by first | exact h7 | exact fun _ => rfl), (by first | exact h8 | exact fun _ => rfl), (by first | exact h9 | exact fun _ => rfl), (by first | exact h10 | exact fun _ => rfl), fun _ => rfl⟩
          simp [n12]
        · cases ho
          simp [Region.binds] at hpre
          rw [hbi] at hw
          obtain rfl : w' = wb := hw
          obtain rfl := h9 (by simp [hpre])
          obtain rfl := h11 (by simp [hpre])
          refine wpOp_plain rfl rfl ?_
          refine wp_store_mid 111 (.tmp 39) (.tmp 37) rfl p 0 (u32s (comp s1 L)).toArray rfl rfl ?_ (by rw [u32s_size, hc8]; kernel_rfl) (u32s_one _) ?_
          · rw [u32s_size, hc8]; exact (H.out.below hbel).there
          · exact ⟨_, _, _, _, _, _, _, _, _, _, _, _, w', rfl, hbel, by simp, fun _ => by simp [hpre, h1110], h1110, h0, h1, h2, h3, h4, h5, h6, h7, h8, fun _ => rfl, h10, fun _ => rfl⟩
        · simp at ho
      · rintro b a' w' ⟨v28, v29, v30, v31, v32, v33, v34, v35, v36, v37, v38, v39, wb, rfl, hbel, hw, h12, h1110, h0, h1, h2, h3, h4, h5, h6, h7, h8, h9, h10, h11⟩ hall
        obtain rfl := h0 (hall 0 (by simp))
        obtain rfl := h1 (hall 1 (by simp))
        obtain rfl := h2 (hall 2 (by simp))
        obtain rfl := h3 (hall 3 (by simp))
        obtain rfl := h4 (hall 4 (by simp))
        obtain rfl := h5 (hall 5 (by simp))
        obtain rfl := h6 (hall 6 (by simp))
        obtain rfl := h7 (hall 7 (by simp))
        obtain rfl := h8 (hall 8 (by simp))
        obtain rfl := h9 (hall 9 (by simp))
        obtain rfl := h10 (hall 10 (by simp))
        obtain rfl := h11 (hall 11 (by simp))
        rw [hall 12 (by simp)] at hw
        obtain rfl : w' = wb.setCells p 0 (u32s (comp s1 L)) := hw
        have H4 := (H.out.below hbel).state (comp_st8 H.out.st8 L)
        have hk4 : Keeps (fun k => k = p ∨ Value.ownBlock (.slice a0 rest.length c0) = some k) w (wb.setCells p 0 (u32s (comp s1 L))) :=
          (HK.out.trans (Keeps.of_below hbel (Nat.le_refl _) (fun k => k = p)) (fun k _ h => .inl h)).trans (Keeps.setCells (f := fun k => k = p) wb p 0 _ rfl) (fun k _ h => .inl h)
        obtain ⟨w4, hw4⟩ : ∃ w4, wb.setCells p 0 (u32s (comp s1 L)) = w4 := ⟨_, rfl⟩
        rw [hw4] at H4 hk4 ⊢
        have ht5 := H4.tl.drop 64 h64
        obtain ⟨a5, n5, c5, hsl⟩ : ∃ a n c, sliced a3 64 L.length c3 1 = .slice a n c := ⟨_, _, _, rfl⟩
        have hrun : ∀ w' : World, (Instr.slice 28 (.slice a3 L.length c3) (some (.int .i64 64)) none none).run Tryd.prog w' = .ok (.slice a5 n5 c5) w' := by
          intro w'
          rw [← hsl, run_slice_l w' 28 a3 L.length c3 Tryd.underlying28 .i64 64 (by decide) h64']
          simp [go_sem]
        rw [hsl] at ht5
        have H5 := H4.own ht5
        have c8' := H4.cell8
        have f8' := H4.frz 8
        have hk5 : Keeps (fun k => k = p ∨ Value.ownBlock (.slice a0 rest.length c0) = some k) w (w4.setCell ⟨p, 8, none⟩ (.slice a5 n5 c5)) :=
          hk4.trans (Keeps.setCell (f := fun k => k = p) w4 _ _ rfl) (fun k _ h => .inl h)
        have how5 : Value.ownBlock (.slice a5 n5 c5) = Value.ownBlock (.slice a3 L.length c3) := by
          rw [← hsl]
          unfold sliced
          cases a3 with
          | none => split <;> rfl
          | some x => split <;> simp [Value.ownBlock, Addr.add] <;> split <;> rfl
        have HH5 := Lib.hid H5
        have HK5 := Lib.hid hk5
        have HO5 := Lib.hid how5
        clear hw4 H4 hk4 ht5 hsl H5 hk5 how5 hbel c8
        go_wp2_with fail
        go_roundg (gk - 1)
        case measure =>
          have := HLL.out
          omega
        case rel =>
          have e1 := HLL.out
          refine ⟨j + 1, .slice a5 n5 c5, by omega, by omega, Lib.hid ?_, HK5, Lib.hid ?_⟩
          · have e2 : stOf (m ++ l) (j + 1) = comp s1 L := by
              simp only [stOf]
              rw [HS1.out, HL.out]
            have e3 : (m ++ l).drop (64 * (j + 1)) = L.drop 64 := by
              rw [← HL.out, List.drop_drop]
              congr 1
            rw [e2, e3]
            exact HH5.out
          · rw [HO5.out]
            exact HO.out
    · have h64' : ¬ (64 : Int) ≤ (L.length : Int) := by omega
      go_wp2_with fail
      refine bodyPost_end (results_none rfl _ _ _) rfl ?_
      have e1 := HLL.out
      have e2 := HMLL.out
      have ej : j = (m ++ l).length / 64 := by omega
      refine ⟨rfl, _, ?_, HK.out, HO.out⟩
      have hH := H.out
      unfold HM
      rw [← ej, HS1.out, HL.out, e2, HML.out]
      exact hH
end Go.Proofs.YtbblnlddiafkhaaDoor
