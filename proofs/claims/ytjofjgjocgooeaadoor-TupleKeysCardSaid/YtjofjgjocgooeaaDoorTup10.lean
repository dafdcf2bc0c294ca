/- The walk of the law TupleKeys. -/
import Derived.Test.YtjofjgjocgooeaaDoorTupJ
import Derived.Test.YtjofjgjocgooeaaDoorTup6
import Derived.Laws.StructEq
set_option linter.unusedVariables false
namespace Go.Proofs.YtjofjgjocgooeaaDoor
open Go.RowKit

def pval (p : TP) : Value := .agg #[.bool p.isNum, .int .i64 p.num, .string ⟨p.text.toArray⟩]
set_option maxRecDepth 100000 in
set_option maxHeartbeats 4000000 in
theorem clean_any (p : TP) (w : World) :
    Calls Tryd.prog 18 #[pval p] w fun e w' => e = .returned (pval (cleanP p)) ∧ Below w.heap.size w w' := by
  obtain ⟨k, x, t⟩ := p
  unfold pval cleanP
  cases k
  · have hk0 := heap_new2 w (.cells #[.bool false, .int .i64 x, .string ⟨t.toArray⟩] 39) (.cells #[.bool false, .int .i64 0, .string ⟨#[]⟩] 39)
    have hbw : Below w.heap.size w ((w.alloc (.cells #[.bool false, .int .i64 x, .string ⟨t.toArray⟩] 39)).alloc (.cells #[.bool false, .int .i64 0, .string ⟨#[]⟩] 39)) := ((Below.refl _ _).alloc (Nat.le_refl _) _).alloc (by simp) _
    have HK0 := Lib.hid hk0
    have HBW := Lib.hid hbw
    clear hk0 hbw
    go_enter Tryd.func18, Tryd.ntmps18
    go_wp2_with fail
    refine (text_any ⟨t.toArray⟩ _).mono ?_
    rintro e w1 ⟨rfl, hb1⟩
    have hk1 : w1.heap[w.heap.size + 1]? = some (.cells #[.bool false, .int .i64 0, .string ⟨#[]⟩] 39 (0, 0)) := (hb1.block _ (by simp)).trans HK0.out
    have d0 : w1.cell? ⟨w.heap.size + 1, 0, none⟩ = some (.bool false) := by rw [Lib.cell_of_heap hk1]; rfl
    have d1 : w1.cell? ⟨w.heap.size + 1, 1, none⟩ = some (.int .i64 0) := by rw [Lib.cell_of_heap hk1]; rfl
    have d2 : w1.cell? ⟨w.heap.size + 1, 2, none⟩ = some (.string ⟨#[]⟩) := by rw [Lib.cell_of_heap hk1]; rfl
    have f0 : w1.frozen? ⟨w.heap.size + 1, 0, none⟩ = false := Lib.frozen_of_heap hk1 0
    have f1 : w1.frozen? ⟨w.heap.size + 1, 1, none⟩ = false := Lib.frozen_of_heap hk1 1
    have f2 : w1.frozen? ⟨w.heap.size + 1, 2, none⟩ = false := Lib.frozen_of_heap hk1 2
    have HK1 := Lib.hid hk1
    have HB1 := Lib.hid (HBW.out.trans (hb1.mono HBW.out.size))
    clear hk1 hb1
    go_wp2_with fail
    have hst := part_stored HK1.out (.bool false) (.int .i64 0) (.string ⟨t.toArray⟩)
    have e0 := Lib.cell_of_heap hst 0
    have e1 := Lib.cell_of_heap hst 1
    have e2 := Lib.cell_of_heap hst 2
    simp only [List.getElem?_toArray] at e0 e1 e2
    refine bodyPost_ret (v := .agg #[.bool false, .int .i64 0, .string ⟨t.toArray⟩]) (by simp [results, Tryd.results18, go_sem, e0, e1, e2]) rfl ?_
    exact ⟨rfl, below_stored HB1.out (Nat.le_succ _) _ _ _⟩
  · have hk0 := heap_new2 w (.cells #[.bool true, .int .i64 x, .string ⟨t.toArray⟩] 39) (.cells #[.bool false, .int .i64 0, .string ⟨#[]⟩] 39)
    have hbw : Below w.heap.size w ((w.alloc (.cells #[.bool true, .int .i64 x, .string ⟨t.toArray⟩] 39)).alloc (.cells #[.bool false, .int .i64 0, .string ⟨#[]⟩] 39)) := ((Below.refl _ _).alloc (Nat.le_refl _) _).alloc (by simp) _
    have HK0 := Lib.hid hk0
    have HBW := Lib.hid hbw
    clear hk0 hbw
    go_enter Tryd.func18, Tryd.ntmps18
    go_wp2_with fail
    refine (num_any x _).mono ?_
    rintro e w1 ⟨rfl, hb1⟩
    have hk1 : w1.heap[w.heap.size + 1]? = some (.cells #[.bool false, .int .i64 0, .string ⟨#[]⟩] 39 (0, 0)) := (hb1.block _ (by simp)).trans HK0.out
    have d0 : w1.cell? ⟨w.heap.size + 1, 0, none⟩ = some (.bool false) := by rw [Lib.cell_of_heap hk1]; rfl
    have d1 : w1.cell? ⟨w.heap.size + 1, 1, none⟩ = some (.int .i64 0) := by rw [Lib.cell_of_heap hk1]; rfl
    have d2 : w1.cell? ⟨w.heap.size + 1, 2, none⟩ = some (.string ⟨#[]⟩) := by rw [Lib.cell_of_heap hk1]; rfl
    have f0 : w1.frozen? ⟨w.heap.size + 1, 0, none⟩ = false := Lib.frozen_of_heap hk1 0
    have f1 : w1.frozen? ⟨w.heap.size + 1, 1, none⟩ = false := Lib.frozen_of_heap hk1 1
    have f2 : w1.frozen? ⟨w.heap.size + 1, 2, none⟩ = false := Lib.frozen_of_heap hk1 2
    have HK1 := Lib.hid hk1
    have HB1 := Lib.hid (HBW.out.trans (hb1.mono HBW.out.size))
    clear hk1 hb1
    go_wp2_with fail
    have hst := part_stored HK1.out (.bool true) (.int .i64 x) (.string ⟨#[]⟩)
    have e0 := Lib.cell_of_heap hst 0
    have e1 := Lib.cell_of_heap hst 1
    have e2 := Lib.cell_of_heap hst 2
    simp only [List.getElem?_toArray] at e0 e1 e2
    refine bodyPost_ret (v := .agg #[.bool true, .int .i64 x, .string ⟨#[]⟩]) (by simp [results, Tryd.results18, go_sem, e0, e1, e2]) rfl ?_
    exact ⟨rfl, below_stored HB1.out (Nat.le_succ _) _ _ _⟩

theorem ent_clean : ∀ args w, (callFunc 18 args).run Tryd.prog w = .ok (.enter 18 args) w := run_enters Tryd.func18 (by kernel_rfl) rfl

set_option maxRecDepth 100000 in
set_option maxHeartbeats 8000000 in
theorem tupleKeys_walk (a : Option Addr) (c : Nat) (l : List TP) (w : World) (hr : RdP w a l ∧ (∀ p ∈ l, p.ok) ∧ l.length ≤ maxLen) (hm : ∃ m, w.cell? ⟨0, 0, none⟩ = some (.int .i64 m)) :
    Calls Tryd.prog 6 #[.slice a l.length c] w fun e w' => e = .returned (.bool true) ∧ Below w.heap.size w w' := by
  obtain ⟨ml, hm⟩ := hm
  obtain ⟨hrd, hok, hlm⟩ := hr
  have HM := Lib.hid hm
  have HR := Lib.hid hrd
  have HO := Lib.hid hok
  clear hm hrd hok
  go_enter Tryd.func6, Tryd.ntmps6
  go_wp2_with fail
  refine (anchor10_any ml _ HM.out).mono ?_
  rintro e w1 ⟨rfl, hb1⟩
  have HB1 := Lib.hid hb1
  clear hb1
  go_wp2_with fail
  refine (both_any a c l w1 (HR.out.below HB1.out) hlm).mono ?_
  rintro e w2 ⟨hx, hb2⟩
  have HB2 := Lib.hid (HB1.out.trans (hb2.mono HB1.out.size))
  clear hb2 HB1
  rcases hx with ⟨hy, ax, cx, rfl, hrx⟩ | ⟨hy, rfl⟩
  · have HRX := Lib.hid hrx.1
    have HY := Lib.hid (bothB_iff.1 hy)
    clear hrx hy
    go_wp2_with fail
    refine (key_any a c l ml w2 (HR.out.below HB2.out) (by rw [HB2.out.cell (World.block_lt_of_cell? _ _ HM.out)]; exact HM.out) HO.out (fun p hp => by have := HY.out.2 p hp; omega) (by have := HY.out.1; omega)).mono ?_
    rintro e w3 ⟨rfl, hb3⟩
    have HRX3 := Lib.hid (HRX.out.below hb3)
    have HB3 := Lib.hid (HB2.out.trans (hb3.mono HB2.out.size))
    clear hb3 HB2 HRX
    have hkl : (keyB l).length ≤ 1000000 := by
      have h1 := keyB_len l (fun p hp => by have := HY.out.2 p hp; omega)
      have h2 := HY.out.1
      omega
    go_wp2_with fail
    refine (read_any (keyB l) w3 hkl).mono ?_
    rintro e w4 ⟨hrd, hb4⟩
    have HRX4 := Lib.hid (HRX3.out.below hb4)
    have HB4 := Lib.hid (HB3.out.trans (hb4.mono HB3.out.size))
    clear hb4 HB3 HRX3
    have hrk := readL_key l HO.out
    obtain ⟨l', am, cm, hrl, rfl, hrc⟩ := hrd.resolve_right (fun h => by rw [h.1] at hrk; cases hrk)
    rw [hrk] at hrl
    simp only [Option.some.injEq] at hrl
    subst hrl
    rw [List.length_map]
    have HRM := Lib.hid (RdP.of_c hrc)
    clear hrk hrc hkl
    go_wp2_with fail
    refine (refkey_any ax cx l w4 (RdP.of_c HRX4.out) HO.out (fun p hp => by have := HY.out.2 p hp; omega) (by have := HY.out.1; omega)).mono ?_
    rintro e w5 ⟨rfl, hb5⟩
    have HRM5 := Lib.hid (HRM.out.below hb5)
    have HB5 := Lib.hid (HB4.out.trans (hb5.mono HB4.out.size))
    clear hb5 HB4 HRX4 HRM
    have hl12 : l.length ≤ 12 := HY.out.1
    go_wp2_with fail
    go_loopg [43] l.length (fun k y wr => ∃ j : Nat, y = .int .i64 (j : Int) ∧ j + k = l.length ∧ Hid (RdP wr am (l.map cleanP)) ∧ Hid (Below w.heap.size w wr))
    case atStart => exact ⟨0, rfl, by omega, HRM5, HB5⟩
    case round =>
      obtain ⟨j, rfl, hj, HMM, HB⟩ := hrel
      by_cases hlt : j < l.length
      · have hltI : (j : Int) < (l.length : Int) := by omega
        obtain ⟨b, off, rfl, c1, c2, c3⟩ := (HR.out.below HB.out).get hlt
        obtain ⟨bm, om, rfl, d1, d2, d3⟩ := HMM.out.get (show j < (l.map cleanP).length by simpa using hlt)
        simp only [List.getElem_map] at d1 d2 d3
        generalize l[j] = p at *
        go_upto_region 13 with (fail)
        have hal : Below wr.heap.size wr (wr.alloc (.cells #[.bool p.isNum, .int .i64 p.num, .string ⟨p.text.toArray⟩] 39)) := (Below.refl _ _).alloc (Nat.le_refl _) _
        have hk := heap_alloc_new wr (.cells #[.bool p.isNum, .int .i64 p.num, .string ⟨p.text.toArray⟩] 39)
        have C1 := Lib.hid (show World.cell? _ ⟨wr.heap.size, 0, none⟩ = some (.bool p.isNum) by rw [Lib.cell_of_heap hk]; rfl)
        have C2 := Lib.hid (show World.cell? _ ⟨wr.heap.size, 1, none⟩ = some (.int .i64 p.num) by rw [Lib.cell_of_heap hk]; rfl)
        have C3 := Lib.hid (show World.cell? _ ⟨wr.heap.size, 2, none⟩ = some (.string ⟨p.text.toArray⟩) by rw [Lib.cell_of_heap hk]; rfl)
        have D1 := Lib.hid (cell_now hal d1)
        have D2 := Lib.hid (cell_now hal d2)
        have D3 := Lib.hid (cell_now hal d3)
        have HBa := Lib.hid (HB.out.trans (hal.mono HB.out.size))
        have HMa := Lib.hid (HMM.out.below hal)
        clear hal hk c1 c2 c3 d1 d2 d3 HMM HB
        refine wp_region_grow (by kernel_rfl) (by kernel_rfl) [48, 49, 50, 51, 52, 53, 54] rfl (by decide) (by kernel_rfl) (fun iX => [VIs (.slice (some ⟨bm, om, none⟩) l.length cm), VIs (.int .i64 (j : Int)), VIs (.pointer (some ⟨bm, om + j * 3, none⟩)), VIs (.agg #[Value.bool (cleanP p).isNum, Value.int .i64 (cleanP p).num, Value.string ⟨(cleanP p).text.toArray⟩]), VIs (.agg #[Value.bool p.isNum, Value.int .i64 p.num, Value.string ⟨p.text.toArray⟩]), VIs (.agg #[Value.bool (cleanP p).isNum, Value.int .i64 (cleanP p).num, Value.string ⟨(cleanP p).text.toArray⟩]), VIs (.bool false)].getD iX fun _ _ => True) (stab_list _ ?_) ?_ ?_
        · skip
          intro V hV
          simp only [List.mem_cons, List.mem_nil_iff, or_false] at hV
          rcases hV with rfl | rfl | rfl | rfl | rfl | rfl | rfl <;> first | exact VIs.stab _ | exact VBytes.stab _ | exact VStr.stab _ | exact VParts.stab _ | exact VRow.stab _ | exact VRow8.stab _ _ | exact VRowIs.stab _ _ _
        · intro iX o ho a' w' hf hb hd
          rcases iX with _ | _ | _ | _ | _ | _ | _ | iX
          · cases ho
            refine grow_op rfl rfl rfl (grow_move rfl ?_)
            exact (hf.same 6 (by decide)).trans rfl
          · cases ho
            refine grow_op rfl rfl rfl (grow_move rfl ?_)
            exact (hf.same 8 (by decide)).trans rfl
          · cases ho
            refine grow_op rfl rfl rfl ?_
            have e0 : a'.tmps.getD 48 undef = .slice (some ⟨bm, om, none⟩) l.length cm := hd 0 (by kernel_rfl)
            have e1 : a'.tmps.getD 49 undef = .int .i64 (j : Int) := hd 1 (by kernel_rfl)
            refine grow_value (v := .pointer (some ⟨bm, om + j * 3, none⟩)) (w' := w') ?_ rfl (Below.refl _ _)
            simp only [execOp, Act.eval, e0, e1]
            go_simp
          · cases ho
            refine grow_op rfl rfl rfl ?_
            have e2 : a'.tmps.getD 50 undef = .pointer (some ⟨bm, om + j * 3, none⟩) := hd 2 (by kernel_rfl)
            have c1 := cell_now hb D1.out
            have c2 := cell_now hb D2.out
            have c3 := cell_now hb D3.out
            refine grow_value (v := .agg #[Value.bool (cleanP p).isNum, Value.int .i64 (cleanP p).num, Value.string ⟨(cleanP p).text.toArray⟩]) (w' := w') ?_ rfl (Below.refl _ _)
            simp only [execOp, Act.eval, e2]
            go_simp
          · cases ho
            refine grow_op rfl rfl rfl ?_
            have c1 := cell_now hb C1.out
            have c2 := cell_now hb C2.out
            have c3 := cell_now hb C3.out
            have e9 : a'.tmps.getD 9 undef = .pointer (some ⟨wr.heap.size, 0, none⟩) := (hf.same 9 (by decide)).trans rfl
            refine grow_value (v := .agg #[Value.bool p.isNum, Value.int .i64 p.num, Value.string ⟨p.text.toArray⟩]) (w' := w') ?_ rfl (Below.refl _ _)
            simp only [execOp, Act.eval]
            go_simp
          · cases ho
            refine grow_op rfl rfl rfl ?_
            have e4 : a'.tmps.getD 52 undef = .agg #[Value.bool p.isNum, Value.int .i64 p.num, Value.string ⟨p.text.toArray⟩] := hd 4 (by kernel_rfl)
            refine grow_call ent_clean rfl ?_
            simp only [List.map_toArray, List.map_cons, List.map_nil, Act.eval, e4]
            exact (clean_any p w').mono (fun e w'' ⟨h1, h2⟩ => ⟨_, h1, rfl, h2⟩)
          · cases ho
            refine grow_op rfl rfl rfl ?_
            have e3 : a'.tmps.getD 51 undef = .agg #[Value.bool (cleanP p).isNum, Value.int .i64 (cleanP p).num, Value.string ⟨(cleanP p).text.toArray⟩] := hd 3 (by kernel_rfl)
            have e5 : a'.tmps.getD 53 undef = .agg #[Value.bool (cleanP p).isNum, Value.int .i64 (cleanP p).num, Value.string ⟨(cleanP p).text.toArray⟩] := hd 5 (by kernel_rfl)
            refine grow_value (v := .bool false) (w' := w') ?_ rfl (Below.refl _ _)
            simp only [execOp, Act.eval, e3, e5]
            go_simp
          · simp at ho
        · intro a' w' hf hb hd
          obtain rfl := hf.eq [Value.slice (some ⟨bm, om, none⟩) l.length cm, Value.int IntKind.i64 (j : Int), Value.pointer (some ⟨bm, om + j * 3, none⟩), Value.agg #[Value.bool (cleanP p).isNum, Value.int IntKind.i64 (cleanP p).num, Value.string ⟨(cleanP p).text.toArray⟩], Value.agg #[Value.bool p.isNum, Value.int IntKind.i64 p.num, Value.string ⟨p.text.toArray⟩], Value.agg #[Value.bool (cleanP p).isNum, Value.int IntKind.i64 (cleanP p).num, Value.string ⟨(cleanP p).text.toArray⟩], Value.bool false] (fun j hj => match j, hj with
            | 0, _ => hd 0 (by decide)
            | 1, _ => hd 1 (by decide)
            | 2, _ => hd 2 (by decide)
            | 3, _ => hd 3 (by decide)
            | 4, _ => hd 4 (by decide)
            | 5, _ => hd 5 (by decide)
            | 6, _ => hd 6 (by decide)
            | k + 7, h => absurd h (by simp)) (by decide) (by kernel_rfl) rfl
          simp only [List.zip_cons_cons, List.zip_nil_right, List.foldl_cons, List.foldl_nil, Act.put, List.setIfInBounds_toArray, List.set_cons_succ, List.set_cons_zero]
          have HMx := Lib.hid (HMa.out.below hb)
          have HBx := Lib.hid (HBa.out.trans (hb.mono HBa.out.size))
          clear hf hd hb
          go_wp2_with fail
          go_roundg (gk - 1)
          case measure => omega
          case rel => exact ⟨j + 1, by first | rfl | (congr 1), by omega, HMx, HBx⟩
      · have hltI : ¬ (j : Int) < (l.length : Int) := by omega
        go_wp2_with fail
        refine bodyPost_ret (results_tmp rfl _ _ _) rfl ?_
        exact ⟨rfl, HB.out⟩
  · go_wp2_with fail
    refine bodyPost_ret (results_tmp rfl _ _ _) rfl ?_
    exact ⟨rfl, HB2.out⟩
end Go.Proofs.YtjofjgjocgooeaaDoor
