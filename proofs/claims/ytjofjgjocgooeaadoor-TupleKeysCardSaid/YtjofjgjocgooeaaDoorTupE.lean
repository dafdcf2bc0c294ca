/- tuple.Compare. -/
import Derived.Test.YtjofjgjocgooeaaDoorTupD
import Derived.Test.YtjofjgjocgooeaaDoorGrowB
import Derived.Deep.LoopGhost
import Derived.Deep.DeepCutAuto
set_option linter.unusedVariables false
namespace Go.Proofs.YtjofjgjocgooeaaDoor
open Go.RowKit

theorem ent_partcmp : ∀ args w, (callFunc 28 args).run Tryd.prog w = .ok (.enter 28 args) w := run_enters Tryd.func28 (by kernel_rfl) rfl
theorem RdP.get {w : World} {a : Option Addr} {l : List TP} (h : RdP w a l) {j : Nat} (hj : j < l.length) : ∃ b off, a = some ⟨b, off, none⟩ ∧ w.cell? ⟨b, off + j * 3, none⟩ = some (.bool l[j].isNum) ∧ w.cell? ⟨b, off + j * 3 + 1, none⟩ = some (.int .i64 l[j].num) ∧ w.cell? ⟨b, off + j * 3 + 2, none⟩ = some (.string ⟨l[j].text.toArray⟩) := by
  rcases h with rfl | ⟨b, off, rfl, h⟩
  · simp at hj
  · exact ⟨b, off, rfl, h j hj⟩
theorem cmpK_drop (a b : List TP) (j : Nat) (ha : j < a.length) (hb : j < b.length) : cmpK (a.drop j) (b.drop j) = if cmpP a[j] b[j] = 0 then cmpK (a.drop (j + 1)) (b.drop (j + 1)) else cmpP a[j] b[j] := by
  rw [List.drop_eq_getElem_cons ha, List.drop_eq_getElem_cons hb]
  rfl
theorem cmpK_end (a b : List TP) (j : Nat) (h : j = min a.length b.length) : cmpK (a.drop j) (b.drop j) = cmpI a.length b.length := by
  subst h
  unfold cmpI
  rcases Nat.lt_trichotomy a.length b.length with h | h | h
  · rw [Nat.min_eq_left (by omega), List.drop_length, List.drop_eq_getElem_cons h, if_pos (by omega)]
    rfl
  · rw [h, Nat.min_self, List.drop_length, ← h, List.drop_length, if_neg (by omega), if_neg (by omega)]
    rfl
  · rw [Nat.min_eq_right (by omega), List.drop_length, List.drop_eq_getElem_cons h, if_neg (by omega), if_pos (by omega)]
    rfl

set_option maxRecDepth 100000 in
set_option maxHeartbeats 4000000 in
theorem compare_any (a a' : Option Addr) (c c' : Nat) (l m : List TP) (w : World) (hr : RdP w a l) (hr' : RdP w a' m) (hl : l.length ≤ 1000) (hl' : m.length ≤ 1000) :
    Calls Tryd.prog 14 #[.slice a l.length c, .slice a' m.length c'] w fun e w' => e = .returned (.int .i64 (cmpK l m)) ∧ Below w.heap.size w w' := by
  have HR := Lib.hid hr
  have HR' := Lib.hid hr'
  clear hr hr'
  go_enter Tryd.func14, Tryd.ntmps14
  go_wp2_with fail
  go_loopg [12] l.length (fun k y wr => ∃ j : Nat, y = .int .i64 (j : Int) ∧ j + k = l.length ∧ j ≤ m.length ∧ Hid (cmpK (l.drop j) (m.drop j) = cmpK l m) ∧ Hid (Below w.heap.size w wr))
  case atStart => exact ⟨0, rfl, by omega, by omega, Lib.hid rfl, Lib.hid (Below.refl _ _)⟩
  case round =>
    obtain ⟨j, rfl, hj, hjm, HC, HB⟩ := hrel
    by_cases hlt : j < l.length ∧ j < m.length
    · obtain ⟨h1, h2⟩ := hlt
      have hmin : (j : Int) < min (l.length : Int) (m.length : Int) := by omega
      obtain ⟨b, off, rfl, hc1, hc2, hc3⟩ := (HR.out.below HB.out).get h1
      obtain ⟨b', off', rfl, hd1, hd2, hd3⟩ := (HR'.out.below HB.out).get h2
      have C1 := Lib.hid hc1
      have C2 := Lib.hid hc2
      have C3 := Lib.hid hc3
      have D1 := Lib.hid hd1
      have D2 := Lib.hid hd2
      have D3 := Lib.hid hd3
      clear hc1 hc2 hc3 hd1 hd2 hd3
      have hck := HC.out
      rw [cmpK_drop l m j h1 h2] at hck
      have HCK := Lib.hid hck
      clear hck HC
      go_upto_region 4 with (fail)
      refine wp_region_grow (by kernel_rfl) (by kernel_rfl) [15, 16, 17, 18, 19, 20, 21, 22, 23, 6] rfl (by decide) (by kernel_rfl) (fun i => [VIs (.slice (some ⟨b, off, none⟩) l.length c), VIs (.int .i64 (j : Int)), VIs (.pointer (some ⟨b, off + j * 3, none⟩)), VIs (.agg #[Value.bool l[j].isNum, Value.int .i64 l[j].num, Value.string ⟨l[j].text.toArray⟩]), VIs (.slice (some ⟨b', off', none⟩) m.length c'), VIs (.int .i64 (j : Int)), VIs (.pointer (some ⟨b', off' + j * 3, none⟩)), VIs (.agg #[Value.bool m[j].isNum, Value.int .i64 m[j].num, Value.string ⟨m[j].text.toArray⟩]), VIs (.int .i64 (cmpP l[j] m[j])), VIs (.int .i64 (cmpP l[j] m[j]))].getD i fun _ _ => True) (stab_list _ ?_) ?_ ?_
      · intro V hV
        simp only [List.mem_cons, List.mem_nil_iff, or_false] at hV
        rcases hV with rfl | rfl | rfl | rfl | rfl | rfl | rfl | rfl | rfl | rfl <;> first | exact VIs.stab _ | exact VBytes.stab _ | exact VStr.stab _ | exact VParts.stab _ | exact VRow.stab _ | exact VRow8.stab _ _
      · intro i o ho a' w' hf hb hd
        rcases i with _ | _ | _ | _ | _ | _ | _ | _ | _ | _ | i
        · cases ho
          refine grow_op rfl rfl rfl (grow_move rfl ?_)
          exact (hf.same 0 (by decide)).trans rfl
        · cases ho
          refine grow_op rfl rfl rfl (grow_move rfl ?_)
          exact (hf.same 5 (by decide)).trans rfl
        · cases ho
          refine grow_op rfl rfl rfl ?_
          have e0 : a'.tmps.getD 15 undef = .slice (some ⟨b, off, none⟩) l.length c := hd 0 (by kernel_rfl)
          have e1 : a'.tmps.getD 16 undef = .int .i64 (j : Int) := hd 1 (by kernel_rfl)
          refine grow_value (v := .pointer (some ⟨b, off + j * 3, none⟩)) (w' := w') ?_ rfl (Below.refl _ _)
          simp only [execOp, Act.eval, e0, e1]
          go_simp
        · cases ho
          refine grow_op rfl rfl rfl ?_
          have e2 : a'.tmps.getD 17 undef = .pointer (some ⟨b, off + j * 3, none⟩) := hd 2 (by kernel_rfl)
          have c1 := cell_now hb C1.out
          have c2 := cell_now hb C2.out
          have c3 := cell_now hb C3.out
          refine grow_value (v := .agg #[Value.bool l[j].isNum, Value.int .i64 l[j].num, Value.string ⟨l[j].text.toArray⟩]) (w' := w') ?_ rfl (Below.refl _ _)
          simp only [execOp, Act.eval, e2]
          go_simp
        · cases ho
          refine grow_op rfl rfl rfl (grow_move rfl ?_)
          exact (hf.same 1 (by decide)).trans rfl
        · cases ho
          refine grow_op rfl rfl rfl (grow_move rfl ?_)
          exact (hf.same 5 (by decide)).trans rfl
        · cases ho
          refine grow_op rfl rfl rfl ?_
          have e4 : a'.tmps.getD 19 undef = .slice (some ⟨b', off', none⟩) m.length c' := hd 4 (by kernel_rfl)
          have e5 : a'.tmps.getD 20 undef = .int .i64 (j : Int) := hd 5 (by kernel_rfl)
          refine grow_value (v := .pointer (some ⟨b', off' + j * 3, none⟩)) (w' := w') ?_ rfl (Below.refl _ _)
          simp only [execOp, Act.eval, e4, e5]
          go_simp
        · cases ho
          refine grow_op rfl rfl rfl ?_
          have e6 : a'.tmps.getD 21 undef = .pointer (some ⟨b', off' + j * 3, none⟩) := hd 6 (by kernel_rfl)
          have c1 := cell_now hb D1.out
          have c2 := cell_now hb D2.out
          have c3 := cell_now hb D3.out
          refine grow_value (v := .agg #[Value.bool m[j].isNum, Value.int .i64 m[j].num, Value.string ⟨m[j].text.toArray⟩]) (w' := w') ?_ rfl (Below.refl _ _)
          simp only [execOp, Act.eval, e6]
          go_simp
        · cases ho
          refine grow_op rfl rfl rfl ?_
          have e3 : a'.tmps.getD 18 undef = .agg #[Value.bool l[j].isNum, Value.int .i64 l[j].num, Value.string ⟨l[j].text.toArray⟩] := hd 3 (by kernel_rfl)
          have e7 : a'.tmps.getD 22 undef = .agg #[Value.bool m[j].isNum, Value.int .i64 m[j].num, Value.string ⟨m[j].text.toArray⟩] := hd 7 (by kernel_rfl)
          refine grow_call ent_partcmp rfl ?_
          simp only [List.map_toArray, List.map_cons, List.map_nil, Act.eval, e3, e7]
          exact (partcmp_any l[j] m[j] w').mono (fun e w'' ⟨h1, h2⟩ => ⟨_, h1, rfl, h2⟩)
        · cases ho
          refine grow_op rfl rfl rfl (grow_assign rfl ?_)
          exact hd 8 (by kernel_rfl)
        · simp at ho
      · intro a' w' hf hb hd
        obtain rfl := hf.eq [Value.slice (some ⟨b, off, none⟩) l.length c, Value.int IntKind.i64 (j : Int), Value.pointer (some ⟨b, off + j * 3, none⟩), Value.agg #[Value.bool l[j].isNum, Value.int IntKind.i64 l[j].num, Value.string ⟨l[j].text.toArray⟩], Value.slice (some ⟨b', off', none⟩) m.length c', Value.int IntKind.i64 (j : Int), Value.pointer (some ⟨b', off' + j * 3, none⟩), Value.agg #[Value.bool m[j].isNum, Value.int IntKind.i64 m[j].num, Value.string ⟨m[j].text.toArray⟩], Value.int IntKind.i64 (cmpP l[j] m[j]), Value.int IntKind.i64 (cmpP l[j] m[j])] (fun j hj => match j, hj with
          | 0, _ => hd 0 (by decide)
          | 1, _ => hd 1 (by decide)
          | 2, _ => hd 2 (by decide)
          | 3, _ => hd 3 (by decide)
          | 4, _ => hd 4 (by decide)
          | 5, _ => hd 5 (by decide)
          | 6, _ => hd 6 (by decide)
          | 7, _ => hd 7 (by decide)
          | 8, _ => hd 8 (by decide)
          | 9, _ => hd 9 (by decide)
          | k + 10, h => absurd h (by simp)) (by decide) (by kernel_rfl) rfl
        simp only [List.zip_cons_cons, List.zip_nil_right, List.foldl_cons, List.foldl_nil, Act.put, List.setIfInBounds_toArray, List.set_cons_succ, List.set_cons_zero]
        have HBx := Lib.hid (HB.out.trans (hb.mono HB.out.size))
        clear hf hd hb
        by_cases hz : cmpP l[j] m[j] = 0
        · have hck := HCK.out
          rw [if_pos hz] at hck
          have HC1 := Lib.hid hck
          clear hck HCK
          go_wp2_with fail
          go_roundg (gk - 1)
          case measure => omega
          case rel => exact ⟨j + 1, by first | rfl | (congr 1), by omega, by omega, HC1, HBx⟩
        · have hck := HCK.out
          rw [if_neg hz] at hck
          have HC1 := Lib.hid hck
          clear hck HCK
          go_wp2_with fail
          refine bodyPost_ret (results_tmp rfl _ _ _) rfl ?_
          exact ⟨by rw [← HC1.out]; rfl, HBx.out⟩
    · have hmin : ¬ (j : Int) < min (l.length : Int) (m.length : Int) := by omega
      have hck := HC.out
      rw [cmpK_end l m j (by omega)] at hck
      have HC1 := Lib.hid hck
      clear hck HC hlt
      go_wp2_with fail
      refine (Tryd.cmp_Compare_int _ _ _).mono ?_
      rintro e w1 ⟨rfl, rfl⟩
      go_wp2_with fail
      refine bodyPost_ret (results_tmp rfl _ _ _) rfl ?_
      exact ⟨by rw [← HC1.out, ← compareInt_cmpI]; rfl, HB.out⟩
end Go.Proofs.YtjofjgjocgooeaaDoor
