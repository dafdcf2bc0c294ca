/- sha.compress: one block more. -/
import Derived.Test.YtbblnlddiafkhaaDoorShaB
import Derived.Test.YtbblnlddiafkhaaDoorReg
import Derived.Test.YtbblnlddiafkhaaDoorShaD
import Derived.Great.BuildSlice
import Derived.ScopeJumps
set_option linter.unusedVariables false
namespace Go.Proofs.YtbblnlddiafkhaaDoor
open Go.RowKit

theorem u32s_size (s : List Nat) : (u32s s).toArray.size = s.length := by simp [u32s]

theorem u32s_one (s : List Nat) : (u32s s).toArray.all (·.oneCell') = true := by simp [u32s, Value.oneCell']

/-- What a round finds: the block's numbers, the state in its turn. -/
structure CAt (B : Nat) (w wr : World) (ws : List Nat) (st : List Nat) (g5 g6 : Nat) (s : List Nat) : Prop where
  bel : Below B w wr
  inp : wr.heap[B]? = some (.cells (u32s st).toArray 111 (0, 0))
  out : ∃ cs, wr.heap[B + 1]? = some (.cells cs 111 (0, 0)) ∧ cs.size = 8
  num : wr.heap[g5]? = some (.cells (u32s ws).toArray 126 (0, 0))
  cur : wr.heap[g6]? = some (.cells (u32s s).toArray 111 (0, 0))
  ge5 : B + 2 ≤ g5
  ge6 : B + 2 ≤ g6

theorem CAt.store {B : Nat} {w wr : World} {ws st : List Nat} {g5 g6 : Nat} {s : List Nat} (h : CAt B w wr ws st g5 g6 s) (s' : List Nat) : CAt B w (wr.setRow g6 (u32s s').toArray) ws st g5 g6 s' := by
  have h5 := h.ge5
  have h6 := h.ge6
  refine ⟨below_setRow h.bel (by omega) _, by rw [setRow_other _ _ _ _ (by omega)]; exact h.inp, ?_, ?_, setRow_heap _ _ _ _ _ _ h.cur, h5, h6⟩
  · obtain ⟨cs, e1, e2⟩ := h.out
    exact ⟨cs, by rw [setRow_other _ _ _ _ (by omega)]; exact e1, e2⟩
  · rw [setRow_other _ _ _ _ (fun e => by have h1 := h.num; have h2 := h.cur; subst e; rw [h1] at h2; simp at h2)]
    exact h.num

/-- The first j numbers have had the block's own put to them. -/
def mix (R st : List Nat) (j : Nat) : List Nat := List.zipWith (fun x y => (x + y) % 4294967296) (R.take j) (st.take j) ++ R.drop j
theorem mix_zero (R st : List Nat) : mix R st 0 = R := by simp [mix]
theorem mix_all (R st : List Nat) (hR : St8 R) (hst : St8 st) : mix R st 8 = List.zipWith (fun x y => (x + y) % 4294967296) R st := by
  obtain ⟨a, b, c, d, e, f, g, i, rfl, _⟩ := hR.shape
  obtain ⟨a', b', c', d', e', f', g', i', rfl, _⟩ := hst.shape
  rfl
theorem mix_step (R st : List Nat) (hR : St8 R) (hst : St8 st) (j : Nat) (hj : j < 8) : ∃ r x, (mix R st j)[j]? = some r ∧ st[j]? = some x ∧ r < 4294967296 ∧ x < 4294967296 ∧ mix R st (j + 1) = (mix R st j).set j ((r + x) % 4294967296) := by
  obtain ⟨a, b, c, d, e, f, g, i, rfl, h1, h2, h3, h4, h5, h6, h7, h8⟩ := hR.shape
  obtain ⟨a', b', c', d', e', f', g', i', rfl, k1, k2, k3, k4, k5, k6, k7, k8⟩ := hst.shape
  match j, hj with
  | 0, _ => exact ⟨a, a', rfl, rfl, h1, k1, rfl⟩
  | 1, _ => exact ⟨b, b', rfl, rfl, h2, k2, rfl⟩
  | 2, _ => exact ⟨c, c', rfl, rfl, h3, k3, rfl⟩
  | 3, _ => exact ⟨d, d', rfl, rfl, h4, k4, rfl⟩
  | 4, _ => exact ⟨e, e', rfl, rfl, h5, k5, rfl⟩
  | 5, _ => exact ⟨f, f', rfl, rfl, h6, k6, rfl⟩
  | 6, _ => exact ⟨g, g', rfl, rfl, h7, k7, rfl⟩
  | 7, _ => exact ⟨i, i', rfl, rfl, h8, k8, rfl⟩
theorem CAt.set {B : Nat} {w wr : World} {ws st : List Nat} {g5 g6 : Nat} {s : List Nat} (h : CAt B w wr ws st g5 g6 s) (j x : Nat) : CAt B w (wr.setCell ⟨g6, j, none⟩ (.int .u32 x)) ws st g5 g6 (s.set j x) := by
  have h5 := h.ge5
  have h6 := h.ge6
  refine ⟨h.bel.setCell (by simp; omega) _, by rw [Below.heap_setCell _ _ _ _ (by simp; omega)]; exact h.inp, ?_, ?_, by rw [setCell_block h.cur, u32s_set], h5, h6⟩
  · obtain ⟨cs, e1, e2⟩ := h.out
    exact ⟨cs, by rw [Below.heap_setCell _ _ _ _ (by simp; omega)]; exact e1, e2⟩
  · rw [Below.heap_setCell _ _ _ _ (fun e => by simp at e; have h1 := h.num; have h2 := h.cur; subst e; rw [h1] at h2; simp at h2)]
    exact h.num

/-- How far the first statement is. -/
def R1 (w : World) (a : Option Addr) (l : List UInt8) (cp : Nat) (st ws : List Nat) (b : Nat → Bool) (a' : Act) (w' : World) : Prop :=
  ∃ v5 v6 v7 v12 v13 v14 : Value, ∃ g5 g6 : Nat, a' = { tmps := #[.agg (u32s st).toArray, .slice a l.length cp, .pointer (some ⟨w.heap.size, 0, none⟩), undef, .pointer (some ⟨w.heap.size + 1, 0, none⟩), v5, v6, v7, undef, undef, undef, undef, v12, v13, v14, undef, undef, undef, undef, undef, undef, undef, undef, undef, undef, undef, undef, undef, undef, undef, undef, undef, undef, undef, undef, undef, undef, undef, undef, undef, undef, undef, undef, undef, undef, undef, undef, undef, undef, undef, undef, undef, undef, undef, undef, undef, undef, undef, undef, undef, undef, undef, undef, undef, undef, undef, undef, undef, undef, undef, undef, undef, undef, undef, undef, undef, undef, undef, undef, undef, undef, undef, undef, undef, undef, undef, undef, undef, undef, undef, undef, undef, undef, undef, undef, undef, undef, undef, undef, undef, undef, undef, undef, undef, undef, undef, undef, undef, undef, undef, undef, undef, undef, undef, undef], defers := [] } ∧
    Below w.heap.size w w' ∧ w.heap.size + 2 ≤ w'.heap.size ∧ w'.heap[w.heap.size]? = some (.cells (u32s st).toArray 111 (0, 0)) ∧ (∃ cs, w'.heap[w.heap.size + 1]? = some (.cells cs 111 (0, 0)) ∧ cs.size = 8) ∧
    (b 0 = true → v12 = .slice a l.length cp) ∧ (b 1 = true → v13 = .agg (u32s ws).toArray) ∧ (b 2 = true → v14 = .agg (u32s st).toArray) ∧
    (b 3 = true → v5 = .pointer (some ⟨g5, 0, none⟩) ∧ w.heap.size + 2 ≤ g5 ∧ ∃ cs, w'.heap[g5]? = some (.cells cs 126 (0, 0)) ∧ cs.size = 64 ∧ (b 5 = true → cs = (u32s ws).toArray)) ∧
    (b 4 = true → v6 = .pointer (some ⟨g6, 0, none⟩) ∧ w.heap.size + 2 ≤ g6 ∧ ∃ cs, w'.heap[g6]? = some (.cells cs 111 (0, 0)) ∧ cs.size = 8 ∧ (b 6 = true → cs = (u32s st).toArray)) ∧
    (b 7 = true → v7 = .int .i64 0) ∧ (b 5 = true → b 3 = true) ∧ (b 6 = true → b 4 = true)

/-- What holds at the label. -/
def CJ (w : World) (st ws : List Nat) (a' : Act) (w' : World) : Prop :=
  ∃ t : Nat, ∃ g5 g6 : Nat, t < 64 ∧ CAt w.heap.size w w' ws st g5 g6 (rnds ws st t) ∧ a'.defers = [] ∧ a'.tmps.size = 115 ∧ a'.tmps.getD 2 undef = .pointer (some ⟨w.heap.size, 0, none⟩) ∧ a'.tmps.getD 4 undef = .pointer (some ⟨w.heap.size + 1, 0, none⟩) ∧
    a'.tmps.getD 5 undef = .pointer (some ⟨g5, 0, none⟩) ∧ a'.tmps.getD 6 undef = .pointer (some ⟨g6, 0, none⟩) ∧ a'.tmps.getD 7 undef = .int .i64 t

theorem CAt.drew {B : Nat} {w wr wq : World} {ws st : List Nat} {g5 g6 : Nat} {s : List Nat} (h : CAt B w wr ws st g5 g6 s) (e : wq = wr.drew) : CAt B w wq ws st g5 g6 s := by
  subst e
  exact ⟨h.bel.drew, h.inp, h.out, h.num, h.cur, h.ge5, h.ge6⟩
theorem list_range (L : List Value) : L = (List.range L.length).map fun i => L.getD i undef := by
  apply List.ext_getElem
  · simp
  · intro i h1 h2
    simp [List.getD, h1]
theorem range115 (f : Nat → Value) : (List.range 115).map f = [f 0, f 1, f 2, f 3, f 4, f 5, f 6, f 7, f 8, f 9, f 10, f 11, f 12, f 13, f 14, f 15, f 16, f 17, f 18, f 19, f 20, f 21, f 22, f 23, f 24, f 25, f 26, f 27, f 28, f 29, f 30, f 31, f 32, f 33, f 34, f 35, f 36, f 37, f 38, f 39, f 40, f 41, f 42, f 43, f 44, f 45, f 46, f 47, f 48, f 49, f 50, f 51, f 52, f 53, f 54, f 55, f 56, f 57, f 58, f 59, f 60, f 61, f 62, f 63, f 64, f 65, f 66, f 67, f 68, f 69, f 70, f 71, f 72, f 73, f 74, f 75, f 76, f 77, f 78, f 79, f 80, f 81, f 82, f 83, f 84, f 85, f 86, f 87, f 88, f 89, f 90, f 91, f 92, f 93, f 94, f 95, f 96, f 97, f 98, f 99, f 100, f 101, f 102, f 103, f 104, f 105, f 106, f 107, f 108, f 109, f 110, f 111, f 112, f 113, f 114] := rfl
theorem CJ.shape {w : World} {st ws : List Nat} {a' : Act} {w' : World} (h : CJ w st ws a' w') : ∃ t : Nat, ∃ g5 g6 : Nat, ∃ y : Nat → Value, t < 64 ∧ CAt w.heap.size w w' ws st g5 g6 (rnds ws st t) ∧
    a' = { tmps := #[y 0, y 1, .pointer (some ⟨w.heap.size, 0, none⟩), y 3, .pointer (some ⟨w.heap.size + 1, 0, none⟩), .pointer (some ⟨g5, 0, none⟩), .pointer (some ⟨g6, 0, none⟩), .int .i64 t, y 8, y 9, y 10, y 11, y 12, y 13, y 14, y 15, y 16, y 17, y 18, y 19, y 20, y 21, y 22, y 23, y 24, y 25, y 26, y 27, y 28, y 29, y 30, y 31, y 32, y 33, y 34, y 35, y 36, y 37, y 38, y 39, y 40, y 41, y 42, y 43, y 44, y 45, y 46, y 47, y 48, y 49, y 50, y 51, y 52, y 53, y 54, y 55, y 56, y 57, y 58, y 59, y 60, y 61, y 62, y 63, y 64, y 65, y 66, y 67, y 68, y 69, y 70, y 71, y 72, y 73, y 74, y 75, y 76, y 77, y 78, y 79, y 80, y 81, y 82, y 83, y 84, y 85, y 86, y 87, y 88, y 89, y 90, y 91, y 92, y 93, y 94, y 95, y 96, y 97, y 98, y 99, y 100, y 101, y 102, y 103, y 104, y 105, y 106, y 107, y 108, y 109, y 110, y 111, y 112, y 113, y 114], defers := [] } := by
  obtain ⟨t, g5, g6, ht, hC, hd, hs, h2, h4, h5, h6, h7⟩ := h
  refine ⟨t, g5, g6, fun i => a'.tmps.getD i undef, ht, hC, ?_⟩
  have hl := list_range a'.tmps.toList
  rw [show a'.tmps.toList.length = 115 by simpa using hs, range115] at hl
  have e : ∀ i, a'.tmps.toList.getD i undef = a'.tmps.getD i undef := fun i => by simp [Array.getD_eq_getD_getElem?, List.getD]
  simp only [e, h2, h4, h5, h6, h7] at hl
  cases a' with
  | mk tmps defers =>
    simp only at hd hl ⊢
    subst hd
    congr 1
    apply Array.ext'
    exact hl

set_option maxRecDepth 100000 in
set_option maxHeartbeats 4000000 in
theorem compress_any (st : List Nat) (hst : St8 st) (a : Option Addr) (l : List UInt8) (n cp : Nat) (w : World) (hr : Rd w a l) (hn : n = l.length) (hl : 64 ≤ l.length) (hm : l.length ≤ 1000000) :
    Calls Tryd.prog 74 #[.agg (u32s st).toArray, .slice a n cp] w fun e w' => e = .returned (.agg (u32s (comp st l)).toArray) ∧ Below w.heap.size w w' := by
  subst hn
  have hwlt : ∀ t, (schedU l 64).getD t 0 < 4294967296 := fun t => getD_lt l 64 t
  obtain ⟨ws, hws⟩ : ∃ ws, schedU l 64 = ws := ⟨_, rfl⟩
  rw [hws] at hwlt
  have HWL := Lib.hid hwlt
  clear hwlt
  have hwl : ws.length = 64 := by rw [← hws]; exact schedU_len l 64
  have hsch : ∀ (a : Option Addr) (n cp : Nat) (w : World), Rd w a l → n = l.length → Calls Tryd.prog 85 #[.slice a n cp] w fun e w' => e = .returned (.agg (u32s ws).toArray) ∧ Below w.heap.size w w' := by
    intro a n cp w hr hn
    rw [← hws]
    exact schedule_any a l n cp w hr hn hl hm
  have hfin : comp st l = List.zipWith (fun x y => (x + y) % 4294967296) (rnds ws st 64) st := by unfold comp; rw [hws]
  have HFIN := Lib.hid hfin
  have HSCH := Lib.hid hsch
  clear hws hfin hsch
  go_enter Tryd.func74, Tryd.ntmps74
  go_wp2_with fail
  refine wp_scope_again 0 (CJ w st ws) (fun a' _ => 64 - (intOf (a'.tmps.getD 7 undef)).toNat) rfl ?_ ?_
  rotate_left
  · intro hpass
    have HP := Lib.hid hpass
    clear hpass
    go_upto_region 1 with (fail)
    refine wp_region_inv (by kernel_rfl) (by kernel_rfl) (R1 w a l cp st ws) ?_ ?_ ?_
    · refine ⟨undef, undef, undef, undef, undef, undef, 0, 0, rfl, ((((Below.refl _ _).alloc (Nat.le_refl _) _).alloc (by simp) _).drew), by simp, ?_, ?_, by simp, by simp, by simp, by simp, by simp, by simp, by simp, by simp⟩
      · exact heap_alloc2_old w _ _
      · exact ⟨_, heap_alloc2_new w _ _, by simp⟩
    · rintro b a' w' ⟨v5, v6, v7, v12, v13, v14, g5, g6, rfl, hbel, hsz, hB0, hB1, h0, h1, h2, h3, h4, h7, h53, h64⟩ i o ho hbi hpre
      rcases i with _ | _ | _ | _ | _ | _ | _ | _ | i
      · cases ho
        refine wpOp_step rfl (fun K' hK => ?_)
        go_simp
        exact hK _ _ ⟨v5, v6, v7, _, v13, v14, g5, g6, rfl, hbel, hsz, hB0, hB1, fun _ => rfl, h1, h2, h3, h4, h7, h53, h64⟩
      · cases ho
        simp [Region.binds] at hpre
        obtain rfl := h0 hpre
        refine wpOp_step rfl (fun K' hK => ?_)
        go_simp
        refine (HSCH.out a _ cp _ (hr.below hbel) rfl).mono ?_
        rintro e w1 ⟨rfl, hb⟩
        refine hK _ _ ⟨v5, v6, v7, _, _, v14, g5, g6, rfl, hbel.trans (hb.mono hbel.size), Nat.le_trans hsz hb.size, block_below hB0 hb, ?_, fun _ => rfl, fun _ => rfl, h2, ?_, ?_, h7, h53, h64⟩
        · obtain ⟨cs, e1, e2⟩ := hB1
          exact ⟨cs, block_below e1 hb, e2⟩
        · intro hx
          obtain ⟨e1, e2, cs, e3, e4⟩ := h3 hx
          exact ⟨e1, e2, cs, block_below e3 hb, e4⟩
        · intro hx
          obtain ⟨e1, e2, cs, e3, e4⟩ := h4 hx
          exact ⟨e1, e2, cs, block_below e3 hb, e4⟩
      · cases ho
        refine wpOp_plain rfl rfl ?_
        refine wp_load_row 111 (.tmp 2) rfl w.heap.size rfl 111 _ (0, 0) _ hB0 Tryd.underlying111 rfl (by rw [u32s_size, hst.1]; kernel_rfl) ?_
        exact ⟨v5, v6, v7, v12, v13, _, g5, g6, rfl, hbel, hsz, hB0, hB1, h0, h1, fun _ => rfl, h3, h4, h7, h53, h64⟩
      · cases ho
        refine wpOp_step rfl (fun K' hK => ?_)
        go_simp
        refine hK _ _ ⟨_, v6, v7, v12, v13, v14, w'.heap.size, g6, rfl, hbel.alloc hbel.size _, by simp; omega, block_alloc hB0 _, ?_, h0, h1, h2, ?_, ?_, h7, fun _ => rfl, h64⟩
        · obtain ⟨cs, e1, e2⟩ := hB1
          exact ⟨cs, block_alloc e1 _, e2⟩
        · intro _
          refine ⟨rfl, hsz, _, heap_alloc_new w' _, by simp, ?_⟩
          intro h5
          have := h53 h5
          rw [hbi] at this
          cases this
        · intro hx
          obtain ⟨e1, e2, cs, e3, e4⟩ := h4 hx
          exact ⟨e1, e2, cs, block_alloc e3 _, e4⟩
      · cases ho
        refine wpOp_step rfl (fun K' hK => ?_)
        go_simp
        refine hK _ _ ⟨v5, _, v7, v12, v13, v14, g5, w'.heap.size, rfl, hbel.alloc hbel.size _, by simp; omega, block_alloc hB0 _, ?_, h0, h1, h2, ?_, ?_, h7, h53, fun _ => rfl⟩
        · obtain ⟨cs, e1, e2⟩ := hB1
          exact ⟨cs, block_alloc e1 _, e2⟩
        · intro hx
          obtain ⟨e1, e2, cs, e3, e4⟩ := h3 hx
          exact ⟨e1, e2, cs, block_alloc e3 _, e4⟩
        · intro _
          refine ⟨rfl, hsz, _, heap_alloc_new w' _, by simp, ?_⟩
          intro h5
          have := h64 h5
          rw [hbi] at this
          cases this
      · cases ho
        simp [Region.binds] at hpre
        obtain ⟨p3, p1, p0, p4⟩ := hpre
        obtain ⟨rfl, e2, cs, e3, e4, e5⟩ := h3 p3
        obtain rfl := h1 p1
        refine wpOp_plain rfl rfl ?_
        refine wp_store_row 126 (.tmp 5) (.tmp 13) rfl g5 _ rfl rfl 126 cs e3 (by rw [u32s_size, hwl]; kernel_rfl) (by rw [u32s_size, hwl, e4]) (u32s_one _) ?_
        refine ⟨_, v6, v7, v12, _, v14, g5, g6, rfl, below_setRow hbel (by omega) _, by simpa using hsz, ?_, ?_, h0, fun _ => rfl, h2, ?_, ?_, h7, fun _ => p3, h64⟩
        · rw [setRow_other _ _ _ _ (by omega)]; exact hB0
        · obtain ⟨cs, e1, e2⟩ := hB1
          exact ⟨cs, by rw [setRow_other _ _ _ _ (by omega)]; exact e1, e2⟩
        · intro _
          exact ⟨rfl, e2, _, setRow_heap _ _ _ _ _ _ e3, by rw [u32s_size, hwl], fun _ => rfl⟩
        · intro hx
          obtain ⟨f1, f2, cs6, f3, f4⟩ := h4 hx
          refine ⟨f1, f2, cs6, ?_, f4⟩
          rw [setRow_other _ _ _ _ (fun e => by subst e; rw [e3] at f3; simp at f3)]
          exact f3
      · cases ho
        simp [Region.binds] at hpre
        obtain ⟨p4, p2, p5, _⟩ := hpre
        obtain ⟨rfl, e2, cs, e3, e4, e5⟩ := h4 p4
        obtain rfl := h2 p2
        refine wpOp_plain rfl rfl ?_
        refine wp_store_row 111 (.tmp 6) (.tmp 14) rfl g6 _ rfl rfl 111 cs e3 (by rw [u32s_size, hst.1]; kernel_rfl) (by rw [u32s_size, hst.1, e4]) (u32s_one _) ?_
        refine ⟨v5, _, v7, v12, v13, _, g5, g6, rfl, below_setRow hbel (by omega) _, by simpa using hsz, ?_, ?_, h0, h1, fun _ => rfl, ?_, ?_, h7, h53, fun _ => p4⟩
        · rw [setRow_other _ _ _ _ (by omega)]; exact hB0
        · obtain ⟨cs, e1, e2⟩ := hB1
          exact ⟨cs, by rw [setRow_other _ _ _ _ (by omega)]; exact e1, e2⟩
        · intro hx
          obtain ⟨f1, f2, cs5, f3, f4⟩ := h3 hx
          refine ⟨f1, f2, cs5, ?_, f4⟩
          rw [setRow_other _ _ _ _ (fun e => by subst e; rw [e3] at f3; simp at f3)]
          exact f3
        · intro _
          exact ⟨rfl, e2, _, setRow_heap _ _ _ _ _ _ e3, by rw [u32s_size, hst.1], fun _ => rfl⟩
      · cases ho
        refine wpOp_step rfl (fun K' hK => ?_)
        go_simp
        exact hK _ _ ⟨v5, v6, _, v12, v13, v14, g5, g6, rfl, hbel, hsz, hB0, hB1, h0, h1, h2, h3, h4, fun _ => rfl, h53, h64⟩
      · simp at ho
    · rintro b a' w' ⟨v5, v6, v7, v12, v13, v14, g5, g6, rfl, hbel, hsz, hB0, hB1, h0, h1, h2, h3, h4, h7, h53, h64⟩ hall
      obtain rfl := h0 (hall 0 (by simp))
      obtain rfl := h1 (hall 1 (by simp))
      obtain rfl := h2 (hall 2 (by simp))
      obtain rfl := h7 (hall 7 (by simp))
      obtain ⟨rfl, q5, cs5, r5, s5, t5⟩ := h3 (hall 3 (by simp))
      obtain ⟨rfl, q6, cs6, r6, s6, t6⟩ := h4 (hall 4 (by simp))
      obtain rfl := t5 (hall 5 (by simp))
      obtain rfl := t6 (hall 6 (by simp))
      have hC : CAt w.heap.size w w' ws st g5 g6 st := ⟨hbel, hB0, hB1, r5, r6, q5, q6⟩
      clear hbel hsz hB0 hB1 h0 h1 h2 h3 h4 h7 h53 h64 q5 r5 s5 t5 q6 r6 s6 t6 hall
      go_wp2_with fail
      go_step3
      go_step
      refine (by assumption : ∀ _ _, _ → _) _ _ ?_
      refine HP.out _ _ ?_
      exact ⟨0, g5, g6, by decide, hC, rfl, rfl, rfl, rfl, rfl, rfl, rfl⟩
  · intro a' w' hJ
    obtain ⟨t, g5, g6, y, ht, hC, rfl⟩ := hJ.shape
    clear hJ
    obtain ⟨sa, sb, sc, sd, se, sf, sg, sh, hs, ba, bb, bc, bd, be, bf, bg, bh⟩ := (rnds_st8 ws hst t).shape
    rw [hs] at hC
    have HS := Lib.hid hs
    clear hs
    have hkt := kAt_lt t
    have hwt := HWL.out t
    obtain ⟨wt, ewt⟩ : ∃ x, ws.getD t 0 = x := ⟨_, rfl⟩
    obtain ⟨kt, ekt⟩ : ∃ x, kAt t = x := ⟨_, rfl⟩
    have hkc : ∀ w' : World, Calls Tryd.prog 87 #[.int .i64 t] w' fun e w'' => e = .returned (.int .u32 (kt : Nat)) ∧ w'' = w' := fun w' => by rw [← ekt]; exact k_any t w' ht
    have hcw : (ws[t]'(by omega)) = wt := by rw [← ewt, List.getD_eq_getElem?_getD, List.getElem?_eq_getElem (by omega)]; rfl
    rw [ewt] at hwt
    rw [ekt] at hkt
    have EWT := Lib.hid ewt
    have EKT := Lib.hid ekt
    clear ewt ekt
    obtain ⟨r6, r11, r25, v1, v2, s1, a1, ne, a2, ch, s2, s3, t1, C6, C11, C25, x1, x2, x3, x4, x5, x6, x7, x8, x9, x10, ht1, bt1⟩ := round1 se sf sg sh kt wt be bf bg bh hkt hwt
    have HK := Lib.hid hkc
    have HR6 := Lib.hid C6
    have HR11 := Lib.hid C11
    have HR25 := Lib.hid C25
    have HT1 := Lib.hid ht1
    clear C6 C11 C25 ht1
    have hcur := hC.cur
    have hnum := hC.num
    have c0 := cell_u32s hcur (j := 0) (by simp)
    have c1 := cell_u32s hcur (j := 1) (by simp)
    have c2 := cell_u32s hcur (j := 2) (by simp)
    have c3 := cell_u32s hcur (j := 3) (by simp)
    have c4 := cell_u32s hcur (j := 4) (by simp)
    have c5 := cell_u32s hcur (j := 5) (by simp)
    have c6 := cell_u32s hcur (j := 6) (by simp)
    have c7 := cell_u32s hcur (j := 7) (by simp)
    have cw := cell_u32s hnum (j := t) (by omega)
    simp only [List.getElem_cons_zero, List.getElem_cons_succ] at c0 c1 c2 c3 c4 c5 c6 c7
    rw [hcw] at cw
    clear hcur hnum hcw hkc
    have HC := Lib.hid hC
    clear hC
    have tn : ((t : Int)).toNat = t := by omega
    have t0 : 0 ≤ (t : Int) := by omega
    have t64 : (t : Int) < 64 := by omega
    go_upto_region 3 with (fail)
    have hux : (if IntKind.u32.signed = true then -1 else IntKind.u32.max) = 4294967295 := rfl
    refine still_named (by kernel_rfl) (by kernel_rfl) (fun wq hwq => ?_)
    repeat (refine wpStill_step (fun K hK => ?_); go_simp; (first | (with_reducible refine hK _ ?_) | (with_reducible refine ⟨_, HR6.out _, hK _ ?_⟩) | (with_reducible refine ⟨_, HR11.out _, hK _ ?_⟩) | (with_reducible refine ⟨_, HR25.out _, hK _ ?_⟩) | (with_reducible refine ⟨_, HK.out _, hK _ ?_⟩)); clear hK K)
    refine wpStill_nil ?_
    have HC2 := Lib.hid (HC.out.drew hwq.out)
    clear c0 c1 c2 c3 c4 c5 c6 c7 cw HC hwq x1 x2 x3 x4 x5 x6 x7 x8 x9 x10 HR6 HR11 HR25 HK tn t0 t64 hux
    obtain ⟨r2, r13, r22, v1', v2', b1, b2, b3, c1', mj, t2, C2, C13, C22, x1, x2, x3, x4, x5, x6, x7, x8, ht2, bt2⟩ := round2 sa sb sc ba bb bc
    have HR2 := Lib.hid C2
    have HR13 := Lib.hid C13
    have HR22 := Lib.hid C22
    have HT2 := Lib.hid ht2
    clear C2 C13 C22 ht2
    have hcur := HC2.out.cur
    have c0 := cell_u32s hcur (j := 0) (by simp)
    have c1 := cell_u32s hcur (j := 1) (by simp)
    have c2 := cell_u32s hcur (j := 2) (by simp)
    simp only [List.getElem_cons_zero, List.getElem_cons_succ] at c0 c1 c2
    clear hcur
    go_upto_region 4 with (fail)
    refine still_named (by kernel_rfl) (by kernel_rfl) (fun wq2 hwq2 => ?_)
    repeat (refine wpStill_step (fun K hK => ?_); go_simp; (first | (with_reducible refine hK _ ?_) | (with_reducible refine ⟨_, HR2.out _, hK _ ?_⟩) | (with_reducible refine ⟨_, HR13.out _, hK _ ?_⟩) | (with_reducible refine ⟨_, HR22.out _, hK _ ?_⟩)); clear hK K)
    refine wpStill_nil ?_
    have HC3 := Lib.hid (HC2.out.drew hwq2.out)
    clear c0 c1 c2 HC2 hwq2 x1 x2 x3 x4 x5 x6 x7 x8 HR2 HR13 HR22
    have y1 := wrap_sum t1 t2
    have y2 := wrap_sum sd t1
    obtain ⟨z1, hz1⟩ : ∃ z, (t1 + t2) % 4294967296 = z := ⟨_, rfl⟩
    obtain ⟨z2, hz2⟩ : ∃ z, (sd + t1) % 4294967296 = z := ⟨_, rfl⟩
    rw [hz1] at y1
    rw [hz2] at y2
    have HZ1 := Lib.hid hz1
    have HZ2 := Lib.hid hz2
    clear hz1 hz2
    have hcur := HC3.out.cur
    have c0 := cell_u32s hcur (j := 0) (by simp)
    have c1 := cell_u32s hcur (j := 1) (by simp)
    have c2 := cell_u32s hcur (j := 2) (by simp)
    have c3 := cell_u32s hcur (j := 3) (by simp)
    have c4 := cell_u32s hcur (j := 4) (by simp)
    have c5 := cell_u32s hcur (j := 5) (by simp)
    have c6 := cell_u32s hcur (j := 6) (by simp)
    simp only [List.getElem_cons_zero, List.getElem_cons_succ] at c0 c1 c2 c3 c4 c5 c6
    clear hcur
    go_upto_region 5 with (fail)
    apply wp_region_lit
    iterate 19 (refine wpList_plain rfl (fun K hK => ?_); go_simp; (with_reducible refine hK _ _ ?_); clear hK K)
    refine wpList_buildTo rfl 111 _ rfl (some 97) rfl #[.int .u32 (z1 : Nat), .int .u32 (sa : Nat), .int .u32 (sb : Nat), .int .u32 (sc : Nat), .int .u32 (z2 : Nat), .int .u32 (se : Nat), .int .u32 (sf : Nat), .int .u32 (sg : Nat)] (by kernel_rfl) ?_
    have hone : (#[Value.int .u32 (z1 : Nat), .int .u32 (sa : Nat), .int .u32 (sb : Nat), .int .u32 (sc : Nat), .int .u32 (z2 : Nat), .int .u32 (se : Nat), .int .u32 (sf : Nat), .int .u32 (sg : Nat)]).all (·.oneCell') = true := u32s_one [z1, sa, sb, sc, z2, se, sf, sg]
    refine wpList_store_rowTo rfl 111 (.tmp 6) (.tmp 97) rfl rfl g6 #[.int .u32 (z1 : Nat), .int .u32 (sa : Nat), .int .u32 (sb : Nat), .int .u32 (sc : Nat), .int .u32 (z2 : Nat), .int .u32 (se : Nat), .int .u32 (sf : Nat), .int .u32 (sg : Nat)] (by kernel_rfl) (by kernel_rfl) 111 _ HC3.out.cur (by kernel_rfl) (by simp [u32s]) hone ?_
    apply wpList_nil
    have hC5 : CAt w.heap.size w (wq2.setRow g6 #[.int .u32 (z1 : Nat), .int .u32 (sa : Nat), .int .u32 (sb : Nat), .int .u32 (sc : Nat), .int .u32 (z2 : Nat), .int .u32 (se : Nat), .int .u32 (sf : Nat), .int .u32 (sg : Nat)]) ws st g5 g6 (rnds ws st (t + 1)) := by
      have e : rnds ws st (t + 1) = [z1, sa, sb, sc, z2, se, sf, sg] := by
        simp only [rnds]
        rw [EKT.out, EWT.out, HS.out]
        simp only [rnd]
        rw [← HT1.out, ← HT2.out, HZ1.out, HZ2.out]
      rw [e]
      exact HC3.out.store [z1, sa, sb, sc, z2, se, sf, sg]
    obtain ⟨w5, hw5⟩ : ∃ w5, wq2.setRow g6 #[.int .u32 (z1 : Nat), .int .u32 (sa : Nat), .int .u32 (sb : Nat), .int .u32 (sc : Nat), .int .u32 (z2 : Nat), .int .u32 (se : Nat), .int .u32 (sf : Nat), .int .u32 (sg : Nat)] = w5 := ⟨_, rfl⟩
    rw [hw5] at hC5 ⊢
    have HC5 := Lib.hid hC5
    clear hw5 hC5 hone HC3 c0 c1 c2 c3 c4 c5 c6 y1 y2
    have hi : IntKind.i64.wrap ((t : Int) + 1) = (t : Int) + 1 := IntWalk.i64_in _ (by omega)
    by_cases hlt : t + 1 < 64
    · have hlt' : (t : Int) + 1 < 64 := by omega
      go_wp2_with fail
      go_step3
      refine ⟨rfl, ⟨t + 1, g5, g6, hlt, HC5.out, rfl, rfl, rfl, rfl, rfl, rfl, rfl⟩, ?_⟩
      show 64 - ((t : Int) + 1).toNat < 64 - (t : Int).toNat
      omega
    · have hlt' : ¬ (t : Int) + 1 < 64 := by omega
      have h64 : t + 1 = 64 := by omega
      rw [h64] at HC5
      have hR := rnds_st8 ws hst 64
      have hfin := HFIN.out
      obtain ⟨R, hR'⟩ : ∃ R, rnds ws st 64 = R := ⟨_, rfl⟩
      rw [hR'] at HC5 hR hfin
      rw [← mix_all R st hR hst] at hfin
      have HF := Lib.hid hfin
      have hmix := mix_zero R st
      rw [← hmix] at HC5
      clear hfin HFIN hR' hmix h64
      go_upto_region 8 with (fail)
      apply wp_region_lit
      have hix : ∀ (j x : Nat) (w' : World), j < 8 → st[j]? = some x → (Instr.index 111 (.agg (u32s st).toArray) (.int .i64 j)).run Tryd.prog w' = .ok (.int .u32 x) w' := fun j x w' h1 h2 =>
        run_index_agg 111 110 8 (u32s st).toArray j _ Tryd.underlying111 Tryd.sizeOf110 Tryd.isAgg110 h1 (by simp [u32s, h2])
      obtain ⟨S, hS⟩ : ∃ S, (u32s st).toArray = S := ⟨_, rfl⟩
      rw [hS] at hix
      have hinp := HC5.out.inp
      rw [hS] at hinp
      have HIX := Lib.hid hix
      have HSS := Lib.hid hS
      have hssz : S.size = 8 := by rw [← hS, u32s_size, hst.1]
      clear hix hS
      refine wpList_load_row rfl 111 (.tmp 2) rfl w.heap.size rfl 111 S (0, 0) _ hinp Tryd.underlying111 rfl (by rw [hssz]; kernel_rfl) ?_
      clear hinp
      go_wp2_with fail
      go_loopg [103] 8 (fun k i wr => ∃ j : Nat, j + k = 8 ∧ i = .int .i64 j ∧ Hid (CAt w.heap.size w wr ws st g5 g6 (mix R st j)))
      case atStart => exact ⟨0, rfl, rfl, HC5⟩
      case round =>
        obtain ⟨j, hj, rfl, HC⟩ := hrel
        by_cases hlt8 : j < 8
        · obtain ⟨r, x, m1, m2, hr1, hx1, m3⟩ := mix_step R st hR hst j hlt8
          have ix := fun w' => HIX.out j x w' hlt8 m2
          have hc : wr.cell? ⟨g6, j, none⟩ = some (.int .u32 r) := by
            rw [Lib.cell_of_heap HC.out.cur]
            simp [u32s, m1]
          have hfz : wr.frozen? ⟨g6, j, none⟩ = false := Lib.frozen_of_heap HC.out.cur j
          have hsum := wrap_sum r x
          obtain ⟨z, hz⟩ : ∃ z, (r + x) % 4294967296 = z := ⟨_, rfl⟩
          rw [hz] at hsum m3
          have HM := Lib.hid m3
          clear m1 m2 m3 hz
          have tn : ((j : Int)).toNat = j := by omega
          have t0 : 0 ≤ (j : Int) := by omega
          have t8 : (j : Int) < 8 := by omega
          go_wp2_with fail
          go_roundg (gk - 1)
          case measure => omega
          case rel =>
            refine ⟨j + 1, by omega, by go_num, Lib.hid ?_⟩
            rw [HM.out]
            exact HC.out.set j z
        · have hj8 : j = 8 := by omega
          subst hj8
          have hout := HC.out.out
          obtain ⟨co, ho1, ho2⟩ := hout
          have hcur := HC.out.cur
          rw [HF.out.symm] at hcur
          have hbel := HC.out.bel
          have hsz := comp_st8 hst l
          obtain ⟨S2, hS2⟩ : ∃ S2, (u32s (comp st l)).toArray = S2 := ⟨_, rfl⟩
          have h2sz : S2.size = 8 := by rw [← hS2, u32s_size, hsz.1]
          have h2one : S2.all (·.oneCell') = true := by rw [← hS2]; exact u32s_one _
          rw [hS2] at hcur
          have HCU := Lib.hid hcur
          have HOU := Lib.hid ho1
          have HS2 := Lib.hid hS2
          clear hcur ho1 hS2
          go_upto_region 13 with (fail)
          apply wp_region_lit
          refine wpList_load_row rfl 111 (.tmp 6) rfl g6 rfl 111 S2 (0, 0) _ HCU.out Tryd.underlying111 rfl (by rw [h2sz]; kernel_rfl) ?_
          refine wpList_store_row rfl 111 (.tmp 4) (.tmp 114) rfl (w.heap.size + 1) S2 rfl rfl 111 co HOU.out (by rw [h2sz]; kernel_rfl) (by rw [h2sz, ho2]) h2one ?_
          apply wpList_nil
          have hb2 := below_setRow hbel (by omega : w.heap.size ≤ w.heap.size + 1) S2
          have hg2 := setRow_heap wr (w.heap.size + 1) co S2 111 (0, 0) HOU.out
          have HG2 := Lib.hid hg2
          clear hg2
          go_wp2_with fail
          show bodyPost Tryd.prog Tryd.f74 (fun e w' => e = .returned (.agg (u32s (comp st l)).toArray) ∧ Below w.heap.size w w') Exit.ret _ _
          exact bodyPost_ret (results_cell_row rfl _ _ (w.heap.size + 1) 111 S2 (0, 0) _ rfl HG2.out Tryd.underlying111 rfl (by rw [h2sz]; kernel_rfl)) rfl ⟨by rw [HS2.out], hb2⟩
end Go.Proofs.YtbblnlddiafkhaaDoor
