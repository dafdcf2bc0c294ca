/- tuple.words and tuple.figures: a part read. -/
import Derived.Test.YtjofjgjocgooeaaDoorTupG
import Derived.Test.YtjofjgjocgooeaaDoorTupW
import Derived.Test.YtjofjgjocgooeaaDoorTupT
import Derived.Test.YtjofjgjocgooeaaDoorPut
set_option linter.unusedVariables false
namespace Go.Proofs.YtjofjgjocgooeaaDoor
open Go.RowKit

theorem ent_text : ∀ args w, (callFunc 21 args).run Tryd.prog w = .ok (.enter 21 args) w := run_enters Tryd.func21 (by kernel_rfl) rfl
theorem ent_num : ∀ args w, (callFunc 22 args).run Tryd.prog w = .ok (.enter 22 args) w := run_enters Tryd.func22 (by kernel_rfl) rfl

def wordsV (s : List UInt8) : Value := match wordsL s with
  | some x => .tuple #[.agg #[.bool false, .int .i64 0, .string ⟨x.1.toArray⟩], .string ⟨x.2.toArray⟩, .bool true]
  | none => .tuple #[.agg #[.bool false, .int .i64 0, .string ⟨#[]⟩], .string ⟨#[]⟩, .bool false]
theorem words_short (s : List UInt8) (h : s.length ≤ 1) : wordsL s = none := by
  match s, h with
  | [], _ => rfl
  | [b], _ => rfl
theorem words_drop (s : List UInt8) (i : Nat) (h : i + 1 < s.length) : wordsL (s.drop i) =
    if s[i] = 0 then (if s[i + 1] = 0 then some ([], s.drop (i + 2)) else if s[i + 1] = 255 then (wordsL (s.drop (i + 2))).map fun x => (0 :: x.1, x.2) else none) else (wordsL (s.drop (i + 1))).map fun x => (s[i] :: x.1, x.2) := by
  rw [List.drop_eq_getElem_cons (show i < s.length by omega), List.drop_eq_getElem_cons h]
  conv => lhs; unfold wordsL

theorem part_stored {w : World} {g : Nat} {x y z : Value} {T : TypeId} {fr : Nat × Nat} (h : w.heap[g]? = some (.cells #[x, y, z] T fr)) (a b c : Value) :
    (((w.setCell ⟨g, 0, none⟩ a).setCell ⟨g, 1, none⟩ b).setCell ⟨g, 2, none⟩ c).heap[g]? = some (.cells #[a, b, c] T fr) := by
  simp [World.setCell, Array.getElem?_modify, h]
theorem below_stored {B g : Nat} {a w : World} (h : Below B a w) (hg : B ≤ g) (x y z : Value) : Below B a (((w.setCell ⟨g, 0, none⟩ x).setCell ⟨g, 1, none⟩ y).setCell ⟨g, 2, none⟩ z) :=
  ((h.setCell (p := ⟨g, 0, none⟩) hg _).setCell (p := ⟨g, 1, none⟩) hg _).setCell (p := ⟨g, 2, none⟩) hg _

set_option maxRecDepth 100000 in
set_option maxHeartbeats 8000000 in
theorem words_any (s : List UInt8) (w : World) (hs : s.length ≤ 100000000) :
    Calls Tryd.prog 31 #[.string ⟨s.toArray⟩] w fun e w' => e = .returned (wordsV s) ∧ Below w.heap.size w w' := by
  have hbl := Bld.fresh (w.alloc (.cells #[.bool false, .int .i64 0, .string ⟨#[]⟩] 39))
  rw [show (w.alloc (.cells #[.bool false, .int .i64 0, .string ⟨#[]⟩] 39)).heap.size = w.heap.size + 1 by simp] at hbl
  have hbk : ((w.alloc (.cells #[.bool false, .int .i64 0, .string ⟨#[]⟩] 39)).alloc (.cells #[.pointer none, .slice none 0 0] 49)).heap[w.heap.size]? = some (.cells #[.bool false, .int .i64 0, .string ⟨#[]⟩] 39 (0, 0)) := block_alloc (heap_alloc_new _ _) _
  have HBL0 := Lib.hid hbl
  have HK0 := Lib.hid hbk
  clear hbl hbk
  go_enter Tryd.func31, Tryd.ntmps31
  go_wp2_with fail
  go_loopg [6] s.length (fun k y wr => ∃ (i : Nat) (o : List UInt8), y = .int .i64 (i : Int) ∧ i + k = s.length ∧ Hid (wordsL s = (wordsL (s.drop i)).map fun x => (o ++ x.1, x.2)) ∧ Hid (o.length ≤ i) ∧ Hid (Bld (w.heap.size + 1) o wr) ∧ Hid (wr.heap[w.heap.size]? = some (.cells #[.bool false, .int .i64 0, .string ⟨#[]⟩] 39 (0, 0))) ∧ Hid (Below w.heap.size w wr))
  case atStart => exact ⟨0, [], rfl, by omega, Lib.hid (by cases h : wordsL s <;> simp [h]), Lib.hid (Nat.le_refl _), HBL0, HK0, Lib.hid (((Below.refl _ _).alloc (Nat.le_refl _) _).alloc (by simp) _)⟩
  case round =>
    obtain ⟨i, o, rfl, hi, HWD, HOL, HBL, HK, HB⟩ := hrel
    by_cases hlt : i + 1 < s.length
    · have hltI : (i : Int) + 1 < (s.length : Int) := by omega
      have hwd := HWD.out
      rw [words_drop s i hlt] at hwd
      have hix := fun w => str_at s i (by omega) w
      have hix1 := fun w => str_at s (i + 1) hlt w
      rw [show ((i + 1 : Nat) : Int) = (i : Int) + 1 by omega] at hix1
      generalize s[i] = b at *
      generalize s[i + 1] = c at *
      have HWD1 := Lib.hid hwd
      clear hwd HWD
      go_wp2_with fail
      refine (WriteByte_any (w.heap.size + 1) o _ b rfl wr HBL.out (by have := HOL.out; omega)).mono ?_
      rintro e w1 ⟨rfl, hbl1, hb1, _⟩
      have HBL1 := Lib.hid hbl1
      have HK1 := Lib.hid ((hb1.block _ (Nat.lt_succ_self _)).trans HK.out)
      have HB1 := Lib.hid (HB.out.trans (hb1.mono (Nat.le_succ _)))
      clear hbl1 hb1 HBL HK HB
      by_cases hb0 : b = 0
      · subst hb0
        have hwd := HWD1.out
        rw [if_pos rfl] at hwd
        by_cases hc0 : c = 0
        · subst hc0
          rw [if_pos rfl] at hwd
          have HWD2 := Lib.hid hwd
          clear hwd HWD1
          go_wp2_with fail
          refine (BString_any (w.heap.size + 1) _ w1 HBL1.out).mono ?_
          rintro e w2 ⟨rfl, _, hb2, _⟩
          have HK2 := Lib.hid ((hb2.block _ (Nat.lt_succ_self _)).trans HK1.out)
          have HB2 := Lib.hid (HB1.out.trans (hb2.mono (Nat.le_succ _)))
          clear hb2 HK1 HB1 HBL1
          have hsl := fun w => str_head (o ++ [0]) o.length (by simp) (o.length : Int) rfl w
          have hsr := fun w => str_tail s (i + 2) (by omega) ((i : Int) + 1 + 1) (by omega) w
          rw [List.take_left] at hsl
          go_upto_region 10 with (fail)
          refine wp_region_put (by kernel_rfl) (by kernel_rfl) [some 30, some 31, some 32, some 33, some 34, some 35, some 36, some 37, some 38, some 39, none, some 3, some 4] rfl (by decide) (by kernel_rfl) (w.heap.size) 39 (#[Value.bool false, Value.int .i64 0, Value.string ⟨o.toArray⟩]) _ (HK2.out) rfl (w.heap.size) ?_ (fun iX => [VIs (.string ⟨(o ++ [0]).toArray⟩), VIs (.string ⟨(o ++ [0]).toArray⟩), VIs (.int .i64 ((o.length : Int) + 1)), VIs (.int .i64 (o.length : Int)), VIs (.string ⟨o.toArray⟩), VIs (.agg #[Value.bool false, Value.int .i64 0, Value.string ⟨o.toArray⟩]), VIs (.string ⟨s.toArray⟩), VIs (.int .i64 ((i : Int) + 1)), VIs (.int .i64 ((i : Int) + 1 + 1)), VIs (.string ⟨(s.drop (i + 2)).toArray⟩), VRowIs (w.heap.size) 39 (#[Value.bool false, Value.int .i64 0, Value.string ⟨o.toArray⟩]), VIs (.string ⟨(s.drop (i + 2)).toArray⟩), VIs (.bool true)].getD iX fun _ _ => True) ?_ ?_ ?_ ?_
          · first | omega | simp
          · refine stab_list _ ?_
            intro V hV
            simp only [List.mem_cons, List.mem_nil_iff, or_false] at hV
            rcases hV with rfl | rfl | rfl | rfl | rfl | rfl | rfl | rfl | rfl | rfl | rfl | rfl | rfl <;> first | exact VIs.stab _ | exact VBytes.stab _ | exact VStr.stab _ | exact VParts.stab _ | exact VRow.stab _ | exact VRow8.stab _ _ | exact VRowIs.stab _ _ _
          · refine stab2_list _ ?_
            intro V hV
            simp only [List.mem_cons, List.mem_nil_iff, or_false] at hV
            rcases hV with rfl | rfl | rfl | rfl | rfl | rfl | rfl | rfl | rfl | rfl | rfl | rfl | rfl <;> first | exact VIs.stab2 _ _ _ | exact VRowIs.stab2 _ _ _ | exact VStr.stab2 _ _ _
          · intro iX o ho a' w' hf hb hgo hd
            rcases iX with _ | _ | _ | _ | _ | _ | _ | _ | _ | _ | _ | _ | _ | iX
            · cases ho
              refine put_op rfl rfl rfl (grow_move rfl ?_)
              exact (hf.same 7 (by decide)).trans rfl
            · cases ho
              refine put_op rfl rfl rfl (grow_move rfl ?_)
              exact (hf.same 7 (by decide)).trans rfl
            · cases ho
              refine put_op rfl rfl rfl ?_
              have e1 : a'.tmps.getD 31 undef = .string ⟨(o ++ [0]).toArray⟩ := hd 1 (by kernel_rfl)
              refine grow_value (v := .int .i64 ((o.length : Int) + 1)) (w' := w') ?_ rfl (Below.refl _ _)
              simp only [execOp]
              go_simp
            · cases ho
              refine put_op rfl rfl rfl ?_
              have e2 : a'.tmps.getD 32 undef = .int .i64 ((o.length : Int) + 1) := hd 2 (by kernel_rfl)
              have hol := HOL.out
              refine grow_value (v := .int .i64 (o.length : Int)) (w' := w') ?_ rfl (Below.refl _ _)
              simp only [execOp, Act.eval, e2]
              go_simp
              exact IntWalk.i64_in _ (by omega)
            · cases ho
              refine put_op rfl rfl rfl ?_
              have e0 : a'.tmps.getD 30 undef = .string ⟨(o ++ [0]).toArray⟩ := hd 0 (by kernel_rfl)
              have e3 : a'.tmps.getD 33 undef = .int .i64 (o.length : Int) := hd 3 (by kernel_rfl)
              refine grow_value (v := .string ⟨o.toArray⟩) (w' := w') ?_ rfl (Below.refl _ _)
              simp only [execOp, Act.eval, e0]
              go_simp
            · cases ho
              refine put_op rfl rfl rfl ?_
              have e4 : a'.tmps.getD 34 undef = .string ⟨o.toArray⟩ := hd 4 (by kernel_rfl)
              refine grow_call ent_text rfl ?_
              simp only [List.map_toArray, List.map_cons, List.map_nil, Act.eval, e4]
              exact (text_any ⟨o.toArray⟩ w').mono (fun e w'' ⟨h1, h2⟩ => ⟨_, h1, rfl, h2⟩)
            · cases ho
              refine put_op rfl rfl rfl (grow_move rfl ?_)
              exact (hf.same 0 (by decide)).trans rfl
            · cases ho
              refine put_op rfl rfl rfl (grow_move rfl ?_)
              exact (hf.same 6 (by decide)).trans rfl
            · cases ho
              refine put_op rfl rfl rfl ?_
              have e7 : a'.tmps.getD 37 undef = .int .i64 ((i : Int) + 1) := hd 7 (by kernel_rfl)
              refine grow_value (v := .int .i64 ((i : Int) + 1 + 1)) (w' := w') ?_ rfl (Below.refl _ _)
              simp only [execOp, Act.eval, e7]
              go_simp
              exact IntWalk.i64_in _ (by omega)
            · cases ho
              refine put_op rfl rfl rfl ?_
              have e6 : a'.tmps.getD 36 undef = .string ⟨s.toArray⟩ := hd 6 (by kernel_rfl)
              have e8 : a'.tmps.getD 38 undef = .int .i64 ((i : Int) + 1 + 1) := hd 8 (by kernel_rfl)
              refine grow_value (v := .string ⟨(s.drop (i + 2)).toArray⟩) (w' := w') ?_ rfl (Below.refl _ _)
              simp only [execOp, Act.eval, e6]
              go_simp
            · cases ho
              exact put_store rfl rfl 39 (.tmp 2) (.tmp 35) rfl rfl (w.heap.size) (#[Value.bool false, Value.int .i64 0, Value.string ⟨o.toArray⟩]) ((hf.same 2 (by decide)).trans rfl) (hd 5 (by kernel_rfl)) 39 hgo (by kernel_rfl) (by simp [Value.oneCell']) (by obtain ⟨_, h1, _⟩ := hgo; exact setRow_at h1)
            · cases ho
              refine put_op rfl rfl rfl (grow_assign rfl ?_)
              exact hd 9 (by kernel_rfl)
            · cases ho
              refine put_op rfl rfl rfl ?_
              refine grow_value (v := .bool true) (w' := w') ?_ rfl (Below.refl _ _)
              simp only [execOp, Act.eval]
              go_simp
            · simp at ho
          · intro a' w' hf hb hd
            have h2 : a'.tmps.getD 2 undef = .pointer (some ⟨w.heap.size, 0, none⟩) := (hf.same 2 (by decide)).trans rfl
            have h3 : a'.tmps.getD 3 undef = .string ⟨(s.drop (i + 2)).toArray⟩ := hd 11 (by decide)
            have h4 : a'.tmps.getD 4 undef = .bool true := hd 12 (by decide)
            have hst : w'.heap[w.heap.size]? = some (.cells #[.bool false, .int .i64 0, .string ⟨o.toArray⟩] 39 (0, 0)) := hd 10 (by decide)
            have e0 := Lib.cell_of_heap hst 0
            have e1 := Lib.cell_of_heap hst 1
            have e2 := Lib.cell_of_heap hst 2
            have hdf : a'.defers = [] := hf.defers
            simp only [List.getElem?_toArray] at e0 e1 e2
            simp only [Array.getD_eq_getD_getElem?] at h2 h3 h4
            have HBx := Lib.hid (HB2.out.trans hb)
            clear hd hf hb hst hsl hsr
            go_wp2_with fail
            refine bodyPost_ret (v := .tuple #[.agg #[.bool false, .int .i64 0, .string ⟨o.toArray⟩], .string ⟨(s.drop (i + 2)).toArray⟩, .bool true]) (by simp [results, Tryd.results31, go_sem, h2, h3, h4, e0, e1, e2]) hdf ?_
            refine ⟨by unfold wordsV; rw [HWD2.out]; simp, HBx.out⟩
        · have hcI : ¬ ((c.toNat : Nat) : Int) = 0 := fun e => hc0 (UInt8.toNat_inj.1 (by show c.toNat = 0; omega))
          rw [if_neg hc0] at hwd
          by_cases hc1 : c = 255
          · subst hc1
            rw [if_pos rfl] at hwd
            have HWD2 := Lib.hid hwd
            clear hwd HWD1
            go_wp2_with fail
            go_roundg (gk - 2)
            case measure => omega
            case rel => exact ⟨i + 2, o ++ [0], by first | rfl | (congr 1; omega), by omega, Lib.hid (by rw [HWD2.out]; cases wordsL (s.drop (i + 2)) <;> simp), Lib.hid (by have := HOL.out; simp; omega), HBL1, HK1, HB1⟩
          · have hcI1 : ¬ ((c.toNat : Nat) : Int) = 255 := fun e => hc1 (UInt8.toNat_inj.1 (by show c.toNat = 255; omega))
            rw [if_neg hc1] at hwd
            have HWD2 := Lib.hid hwd
            clear hwd HWD1
            have d0 : w1.cell? ⟨w.heap.size, 0, none⟩ = some (.bool false) := by rw [Lib.cell_of_heap HK1.out]; rfl
            have d1 : w1.cell? ⟨w.heap.size, 1, none⟩ = some (.int .i64 0) := by rw [Lib.cell_of_heap HK1.out]; rfl
            have d2 : w1.cell? ⟨w.heap.size, 2, none⟩ = some (.string ⟨#[]⟩) := by rw [Lib.cell_of_heap HK1.out]; rfl
            have f0 : w1.frozen? ⟨w.heap.size, 0, none⟩ = false := Lib.frozen_of_heap HK1.out 0
            have f1 : w1.frozen? ⟨w.heap.size, 1, none⟩ = false := Lib.frozen_of_heap HK1.out 1
            have f2 : w1.frozen? ⟨w.heap.size, 2, none⟩ = false := Lib.frozen_of_heap HK1.out 2
            go_wp2_with fail
            have hst := part_stored HK1.out (.bool false) (.int .i64 0) (.string ⟨#[]⟩)
            have e0 := Lib.cell_of_heap hst 0
            have e1 := Lib.cell_of_heap hst 1
            have e2 := Lib.cell_of_heap hst 2
            simp only [List.getElem?_toArray] at e0 e1 e2
            refine bodyPost_ret (v := .tuple #[.agg #[.bool false, .int .i64 0, .string ⟨#[]⟩], .string ⟨#[]⟩, .bool false]) (by simp [results, Tryd.results31, go_sem, e0, e1, e2]) rfl ?_
            refine ⟨by unfold wordsV; rw [HWD2.out]; rfl, below_stored HB1.out (Nat.le_refl _) _ _ _⟩
      · have hbI : ¬ ((b.toNat : Nat) : Int) = 0 := fun e => hb0 (UInt8.toNat_inj.1 (by show b.toNat = 0; omega))
        have hwd := HWD1.out
        rw [if_neg hb0] at hwd
        have HWD2 := Lib.hid hwd
        clear hwd HWD1
        go_wp2_with fail
        go_roundg (gk - 1)
        case measure => omega
        case rel => exact ⟨i + 1, o ++ [b], by first | rfl | (congr 1; omega), by omega, Lib.hid (by rw [HWD2.out]; cases wordsL (s.drop (i + 1)) <;> simp), Lib.hid (by have := HOL.out; simp; omega), HBL1, HK1, HB1⟩
    · have hltI : ¬ (i : Int) + 1 < (s.length : Int) := by omega
      have hwd := HWD.out
      rw [words_short (s.drop i) (by rw [List.length_drop]; omega)] at hwd
      have HWD2 := Lib.hid hwd
      clear hwd HWD
      have d0 : wr.cell? ⟨w.heap.size, 0, none⟩ = some (.bool false) := by rw [Lib.cell_of_heap HK.out]; rfl
      have d1 : wr.cell? ⟨w.heap.size, 1, none⟩ = some (.int .i64 0) := by rw [Lib.cell_of_heap HK.out]; rfl
      have d2 : wr.cell? ⟨w.heap.size, 2, none⟩ = some (.string ⟨#[]⟩) := by rw [Lib.cell_of_heap HK.out]; rfl
      have f0 : wr.frozen? ⟨w.heap.size, 0, none⟩ = false := Lib.frozen_of_heap HK.out 0
      have f1 : wr.frozen? ⟨w.heap.size, 1, none⟩ = false := Lib.frozen_of_heap HK.out 1
      have f2 : wr.frozen? ⟨w.heap.size, 2, none⟩ = false := Lib.frozen_of_heap HK.out 2
      go_wp2_with fail
      have hst := part_stored HK.out (.bool false) (.int .i64 0) (.string ⟨#[]⟩)
      have e0 := Lib.cell_of_heap hst 0
      have e1 := Lib.cell_of_heap hst 1
      have e2 := Lib.cell_of_heap hst 2
      simp only [List.getElem?_toArray] at e0 e1 e2
      refine bodyPost_ret (v := .tuple #[.agg #[.bool false, .int .i64 0, .string ⟨#[]⟩], .string ⟨#[]⟩, .bool false]) (by simp [results, Tryd.results31, go_sem, e0, e1, e2]) rfl ?_
      refine ⟨by unfold wordsV; rw [HWD2.out]; rfl, below_stored HB.out (Nat.le_refl _) _ _ _⟩
end Go.Proofs.YtjofjgjocgooeaaDoor
