/- Merged: JsPz. -/
import Derived.Test.YtgcfikiajingcaaGreatMg1
import Derived.Test.YtgcfikiajingcaaGreatMg2
import Derived.Test.YtgcfikiajingcaaGreatMg3
import Derived.Test.YtgcfikiajingcaaGreatMg4
import Derived.Test.YtgcfikiajingcaaGreatMg5
import Derived.Test.YtgcfikiajingcaaGreatMg6
import Derived.Test.YtgcfikiajingcaaGreatMg7
/- The walk of the law JsonPrints. -/
set_option linter.unusedVariables false
namespace Go.Proofs.YtgcfikiajingcaaGreat
open Go.RowKit

theorem ent_jright : ∀ args w, (callFunc 10 args).run Tryz.prog w = .ok (.enter 10 args) w := run_enters Tryz.func10 (by kernel_rfl) rfl
theorem ent_mright : ∀ args w, (callFunc 11 args).run Tryz.prog w = .ok (.enter 11 args) w := run_enters Tryz.func11 (by kernel_rfl) rfl
theorem ent_depth : ∀ args w, (callFunc 12 args).run Tryz.prog w = .ok (.enter 12 args) w := run_enters Tryz.func12 (by kernel_rfl) rfl
theorem ent_leaf : ∀ args w, (callFunc 13 args).run Tryz.prog w = .ok (.enter 13 args) w := run_enters Tryz.func13 (by kernel_rfl) rfl
theorem bool_ne_self (b : Bool) : (b != b) = false := by cases b <;> rfl
set_option maxRecDepth 100000 in
set_option maxHeartbeats 64000000 in
theorem jsonPrints_walk (a : Option Addr) (c : Nat) (l : List ND) (w : World) (hrl : RdC w a (l.flatMap ndCell) ∧ l.length ≤ maxLen) :
    Calls Tryz.prog 3 #[.slice a l.length c] w fun e w' => e = .returned (.bool true) ∧ Below w.heap.size w w' := by
  obtain ⟨hr, hlen⟩ := hrl
  unfold maxLen at hlen
  have HR := Lib.hid hr
  have HL := Lib.hid hlen
  clear hr hlen
  go_enter Tryz.func3, Tryz.ntmps3
  go_wp2_with fail
  refine (anchor06_any w).mono ?_
  rintro e w1 ⟨rfl, hb1⟩
  have HB1 := Lib.hid hb1
  have HR1 := Lib.hid (HR.out.below hb1)
  clear hb1
  go_wp2_with fail
  refine (treeval_any a c l w1 HR1.out (by have := HL.out; omega)).mono ?_
  rintro e w2 ⟨hb2, cs, rfl, hrep⟩
  have HB2 := Lib.hid (HB1.out.trans (hb2.mono HB1.out.size))
  have hsz : ∀ v, treeV l = some v → sizeJ v ≤ 6500 := fun v h => tree_size h
  generalize treeV l = tv at *
  clear hb2
  cases tv with
  | none =>
    obtain ⟨xa, xc, xa', xc', _, _, rfl, -⟩ := hrep.parts
    simp only [Option.isSome_none, Option.getD_none, JV.zero, JV.kind, JV.yes, JV.text, JV.list, JV.mem, strV, List.length_nil] at *
    clear hrep hsz
    go_upto_region 4 with (fail)
    have HB3 := Lib.hid (HB2.out.trans (((Below.refl _ _).alloc (Nat.le_refl _) (.cells #[.int .i64 0, .bool false, .string ⟨#[]⟩, .slice xa 0 xc, .slice xa' 0 xc'] 28)).mono HB2.out.size))
    go_wp2_with fail
    refine bodyPost_ret (results_tmp rfl _ _ _) rfl ?_
    exact ⟨rfl, HB3.out⟩
  | some v =>
  have hs := hsz v rfl
  obtain ⟨xa, xc, xa', xc', _, _, rfl, -⟩ := hrep.parts
  simp only [Option.isSome_some, Option.getD_some] at *
  unfold strV at *
  obtain ⟨k, y, t, n1, n2, hk, hy, ht, hn1, hn2⟩ : ∃ k y t n1 n2, v.kind = k ∧ v.yes = y ∧ (⟨v.text.toArray⟩ : ByteArray) = t ∧ v.list.length = n1 ∧ v.mem.length = n2 := ⟨_, _, _, _, _, rfl, rfl, rfl, rfl, rfl⟩
  rw [hk, hy, ht, hn1, hn2] at hrep
  rw [hk, hy, ht, hn1, hn2]
  clear hk hy ht hn1 hn2 hsz
  have HREP2 := Lib.hid hrep.lt
  go_upto_region 4 with (fail)
  obtain ⟨CS, hCS⟩ : ∃ CS : List Value, [.int .i64 k, .bool y, .string t, .slice xa n1 xc, .slice xa' n2 xc'] = CS := ⟨_, rfl⟩
  generalize hw3 : w2.alloc _ = w3
  have hb3 : Below w2.heap.size w2 w3 := by rw [← hw3]; exact (Below.refl _ _).alloc (Nat.le_refl _) _
  have hx3 : w3.heap[w2.heap.size]? = some (.cells #[.int .i64 k, .bool y, .string t, .slice xa n1 xc, .slice xa' n2 xc'] 28 (0, 0)) := by rw [← hw3]; exact heap_alloc_new _ _
  have HB3 := Lib.hid (HB2.out.trans (hb3.mono HB2.out.size))
  have HX3 := Lib.hid hx3
  have HREP3 := Lib.hid (HREP2.out.under hb3)
  have hs3 : w2.heap.size < w3.heap.size := (Array.getElem?_eq_some_iff.1 hx3).1
  have v0 : w3.cell? ⟨w2.heap.size, 0, none⟩ = some (.int .i64 k) := by rw [Lib.cell_of_heap hx3]; rfl
  have v1 : w3.cell? ⟨w2.heap.size, 1, none⟩ = some (.bool y) := by rw [Lib.cell_of_heap hx3]; rfl
  have v2 : w3.cell? ⟨w2.heap.size, 2, none⟩ = some (.string t) := by rw [Lib.cell_of_heap hx3]; rfl
  have v3 : w3.cell? ⟨w2.heap.size, 3, none⟩ = some (.slice xa n1 xc) := by rw [Lib.cell_of_heap hx3]; rfl
  have v4 : w3.cell? ⟨w2.heap.size, 4, none⟩ = some (.slice xa' n2 xc') := by rw [Lib.cell_of_heap hx3]; rfl
  clear hw3 hb3 hx3 hrep hCS CS
  have HPL := Lib.hid (show (plainJ v).length ≤ 52000 by have := plain_size v; omega)
  go_wp2_with fail
  refine (jprint_any v (jright v (by omega)) _ [.int .i64 k, .bool y, .string t, .slice xa n1 xc, .slice xa' n2 xc'] w3 HREP3.out (by have := HPL.out; omega)).mono ?_
  rintro e w4 ⟨rfl, hb4⟩
  have HB4 := Lib.hid (HB3.out.trans (hb4.mono HB3.out.size))
  have HX4 := Lib.hid ((hb4.block _ hs3).trans HX3.out)
  have HREP4 := Lib.hid (HREP3.out.under hb4)
  have hs4 : w2.heap.size < w4.heap.size := Nat.lt_of_lt_of_le hs3 hb4.size
  clear hb4 v0 v1 v2 v3 v4 HX3 HREP2
  obtain ⟨P, hP⟩ : ∃ P, (if rightJ v then plainJ v else []) = P := ⟨_, rfl⟩
  obtain ⟨E, hE⟩ : ∃ E : Int, (if rightJ v then 0 else 10) = E := ⟨_, rfl⟩
  obtain ⟨r, hr⟩ : ∃ r, rightJ v = r := ⟨_, rfl⟩
  have HRR := Lib.hid hr
  have HRC : Hid (∀ w', Below w4.heap.size w4 w' → Calls Tryz.prog 10 #[.agg #[.int .i64 k, .bool y, .string t, .slice xa n1 xc, .slice xa' n2 xc']] w' fun e w'' => e = .returned (.bool r) ∧ Below w'.heap.size w' w'') := Lib.hid fun w' hb => by
    have := jright v (by omega) _ [.int .i64 k, .bool y, .string t, .slice xa n1 xc, .slice xa' n2 xc'] w' (HREP4.out.under hb)
    rw [hr] at this
    exact this
  have HMC : Hid (∀ w', Below w4.heap.size w4 w' → Calls Tryz.prog 11 #[.agg #[.int .i64 k, .bool y, .string t, .slice xa n1 xc, .slice xa' n2 xc']] w' fun e w'' => e = .returned (.bool r) ∧ Below w'.heap.size w' w'') := Lib.hid fun w' hb => by
    have := mright v (by omega) _ [.int .i64 k, .bool y, .string t, .slice xa n1 xc, .slice xa' n2 xc'] w' (HREP4.out.under hb)
    rw [hr] at this
    exact this
  have HLD : Hid (∀ w', Below w4.heap.size w4 w' → w'.heap[w2.heap.size]? = some (.cells #[.int .i64 k, .bool y, .string t, .slice xa n1 xc, .slice xa' n2 xc'] 28 (0, 0))) := Lib.hid fun w' hb => (hb.block _ hs4).trans HX4.out
  rw [hr] at hP hE
  have HP := Lib.hid hP
  have hEr : (E == 0) = r := by rw [← hE]; cases r <;> rfl
  have HE := Lib.hid hE
  simp only [hr, hP, hE]
  clear hP hE hr
  go_upto_region 7 with (fail)
  refine wp_region_grow (by kernel_rfl) (by kernel_rfl) [30, 31, 32, 33, 34, 35, 36, 37, 38, 39, 40, 41] rfl (by decide) (by kernel_rfl) (fun i => [VIs (.agg #[.int .i64 k, .bool y, .string t, .slice xa n1 xc, .slice xa' n2 xc']), VIs (.bool r), VIs (.agg #[.int .i64 k, .bool y, .string t, .slice xa n1 xc, .slice xa' n2 xc']), VIs (.bool r), VIs (.bool false), VIs (.bool false), VIs (.agg #[.int .i64 k, .bool y, .string t, .slice xa n1 xc, .slice xa' n2 xc']), VIs (.bool r), VIs (.int .i64 E), VIs (.bool r), VIs (.bool false), VIs (.bool false)].getD i fun _ _ => True) (stab_list _ ?_) ?_ ?_
  · intro V hV
    simp only [List.mem_cons, List.mem_nil_iff, or_false] at hV
    rcases hV with rfl | rfl | rfl | rfl | rfl | rfl | rfl | rfl | rfl | rfl | rfl | rfl <;> exact VIs.stab _
  · intro i o ho ax w' hf hb hd
    rcases i with _ | _ | _ | _ | _ | _ | _ | _ | _ | _ | _ | _ | i
    · cases ho
      refine grow_op rfl rfl rfl ?_
      have q0 : w'.cell? ⟨w2.heap.size, 0, none⟩ = some (.int .i64 k) := by rw [Lib.cell_of_heap (HLD.out w' hb)]; rfl
      have q1 : w'.cell? ⟨w2.heap.size, 1, none⟩ = some (.bool y) := by rw [Lib.cell_of_heap (HLD.out w' hb)]; rfl
      have q2 : w'.cell? ⟨w2.heap.size, 2, none⟩ = some (.string t) := by rw [Lib.cell_of_heap (HLD.out w' hb)]; rfl
      have q3 : w'.cell? ⟨w2.heap.size, 3, none⟩ = some (.slice xa n1 xc) := by rw [Lib.cell_of_heap (HLD.out w' hb)]; rfl
      have q4 : w'.cell? ⟨w2.heap.size, 4, none⟩ = some (.slice xa' n2 xc') := by rw [Lib.cell_of_heap (HLD.out w' hb)]; rfl
      have e3 : ax.tmps.getD 3 undef = .pointer (some ⟨w2.heap.size, 0, none⟩) := (hf.same 3 (by decide)).trans rfl
      refine grow_value (v := .agg #[.int .i64 k, .bool y, .string t, .slice xa n1 xc, .slice xa' n2 xc']) (w' := w') ?_ rfl (Below.refl _ _)
      simp only [execOp, Act.eval, e3]
      go_simp
    · cases ho
      refine grow_op rfl rfl rfl ?_
      have ea : ax.tmps.getD 30 undef = .agg #[.int .i64 k, .bool y, .string t, .slice xa n1 xc, .slice xa' n2 xc'] := hd 0 (by kernel_rfl)
      refine grow_call ent_jright rfl ?_
      simp only [List.map_toArray, List.map_cons, List.map_nil, Act.eval, ea]
      exact (HRC.out w' hb).mono fun e w'' ⟨h1, h2⟩ => ⟨_, h1, rfl, h2⟩
    · cases ho
      refine grow_op rfl rfl rfl ?_
      have q0 : w'.cell? ⟨w2.heap.size, 0, none⟩ = some (.int .i64 k) := by rw [Lib.cell_of_heap (HLD.out w' hb)]; rfl
      have q1 : w'.cell? ⟨w2.heap.size, 1, none⟩ = some (.bool y) := by rw [Lib.cell_of_heap (HLD.out w' hb)]; rfl
      have q2 : w'.cell? ⟨w2.heap.size, 2, none⟩ = some (.string t) := by rw [Lib.cell_of_heap (HLD.out w' hb)]; rfl
      have q3 : w'.cell? ⟨w2.heap.size, 3, none⟩ = some (.slice xa n1 xc) := by rw [Lib.cell_of_heap (HLD.out w' hb)]; rfl
      have q4 : w'.cell? ⟨w2.heap.size, 4, none⟩ = some (.slice xa' n2 xc') := by rw [Lib.cell_of_heap (HLD.out w' hb)]; rfl
      have e3 : ax.tmps.getD 3 undef = .pointer (some ⟨w2.heap.size, 0, none⟩) := (hf.same 3 (by decide)).trans rfl
      refine grow_value (v := .agg #[.int .i64 k, .bool y, .string t, .slice xa n1 xc, .slice xa' n2 xc']) (w' := w') ?_ rfl (Below.refl _ _)
      simp only [execOp, Act.eval, e3]
      go_simp
    · cases ho
      refine grow_op rfl rfl rfl ?_
      have ea : ax.tmps.getD 32 undef = .agg #[.int .i64 k, .bool y, .string t, .slice xa n1 xc, .slice xa' n2 xc'] := hd 2 (by kernel_rfl)
      refine grow_call ent_mright rfl ?_
      simp only [List.map_toArray, List.map_cons, List.map_nil, Act.eval, ea]
      exact (HMC.out w' hb).mono fun e w'' ⟨h1, h2⟩ => ⟨_, h1, rfl, h2⟩
    · cases ho
      refine grow_op rfl rfl rfl ?_
      have e1 : ax.tmps.getD 31 undef = .bool r := hd 1 (by kernel_rfl)
      have e3 : ax.tmps.getD 33 undef = .bool r := hd 3 (by kernel_rfl)
      refine grow_value (v := .bool false) (w' := w') ?_ rfl (Below.refl _ _)
      simp only [execOp, Act.eval, e1, e3]
      go_simp
      all_goals (cases r <;> rfl)
    · cases ho
      refine grow_op rfl rfl rfl ?_
      have e4 : ax.tmps.getD 34 undef = .bool false := hd 4 (by kernel_rfl)
      refine grow_value (v := .bool false) (w' := w') ?_ rfl (Below.refl _ _)
      simp only [execOp, Act.eval, e4]
      go_simp
    · cases ho
      have hg : ax.tmps.getD 35 undef = .bool false := hd 5 (by kernel_rfl)
      refine grow_op rfl (grow_wanted rfl rfl hg) rfl ?_
      have q0 : w'.cell? ⟨w2.heap.size, 0, none⟩ = some (.int .i64 k) := by rw [Lib.cell_of_heap (HLD.out w' hb)]; rfl
      have q1 : w'.cell? ⟨w2.heap.size, 1, none⟩ = some (.bool y) := by rw [Lib.cell_of_heap (HLD.out w' hb)]; rfl
      have q2 : w'.cell? ⟨w2.heap.size, 2, none⟩ = some (.string t) := by rw [Lib.cell_of_heap (HLD.out w' hb)]; rfl
      have q3 : w'.cell? ⟨w2.heap.size, 3, none⟩ = some (.slice xa n1 xc) := by rw [Lib.cell_of_heap (HLD.out w' hb)]; rfl
      have q4 : w'.cell? ⟨w2.heap.size, 4, none⟩ = some (.slice xa' n2 xc') := by rw [Lib.cell_of_heap (HLD.out w' hb)]; rfl
      have e3 : ax.tmps.getD 3 undef = .pointer (some ⟨w2.heap.size, 0, none⟩) := (hf.same 3 (by decide)).trans rfl
      refine grow_value (v := .agg #[.int .i64 k, .bool y, .string t, .slice xa n1 xc, .slice xa' n2 xc']) (w' := w') ?_ rfl (Below.refl _ _)
      simp only [execOp, Act.eval, e3]
      go_simp
    · cases ho
      have hg : ax.tmps.getD 35 undef = .bool false := hd 5 (by kernel_rfl)
      refine grow_op rfl (grow_wanted rfl rfl hg) rfl ?_
      have ea : ax.tmps.getD 36 undef = .agg #[.int .i64 k, .bool y, .string t, .slice xa n1 xc, .slice xa' n2 xc'] := hd 6 (by kernel_rfl)
      refine grow_call ent_jright rfl ?_
      simp only [List.map_toArray, List.map_cons, List.map_nil, Act.eval, ea]
      exact (HRC.out w' hb).mono fun e w'' ⟨h1, h2⟩ => ⟨_, h1, rfl, h2⟩
    · cases ho
      have hg : ax.tmps.getD 35 undef = .bool false := hd 5 (by kernel_rfl)
      refine grow_op rfl (grow_wanted rfl rfl hg) rfl ?_
      refine grow_move rfl ?_
      exact (hf.same 6 (by decide)).trans rfl
    · cases ho
      have hg : ax.tmps.getD 35 undef = .bool false := hd 5 (by kernel_rfl)
      refine grow_op rfl (grow_wanted rfl rfl hg) rfl ?_
      have e8 : ax.tmps.getD 38 undef = .int .i64 E := hd 8 (by kernel_rfl)
      refine grow_value (v := .bool r) (w' := w') ?_ rfl (Below.refl _ _)
      simp only [execOp, Act.eval, e8]
      go_simp
      all_goals exact hEr
    · cases ho
      have hg : ax.tmps.getD 35 undef = .bool false := hd 5 (by kernel_rfl)
      refine grow_op rfl (grow_wanted rfl rfl hg) rfl ?_
      have e7 : ax.tmps.getD 37 undef = .bool r := hd 7 (by kernel_rfl)
      have e9 : ax.tmps.getD 39 undef = .bool r := hd 9 (by kernel_rfl)
      refine grow_value (v := .bool false) (w' := w') ?_ rfl (Below.refl _ _)
      simp only [execOp, Act.eval, e7, e9]
      go_simp
      all_goals (cases r <;> rfl)
    · cases ho
      refine grow_op rfl rfl rfl ?_
      have e5 : ax.tmps.getD 35 undef = .bool false := hd 5 (by kernel_rfl)
      have e10 : ax.tmps.getD 40 undef = .bool false := hd 10 (by kernel_rfl)
      refine grow_value (v := .bool false) (w' := w') ?_ rfl (Below.refl _ _)
      simp only [execOp, Act.eval, e5, e10]
      go_simp
    · simp at ho
  · intro ax w5 hf hb hd
    obtain rfl := hf.eq [.agg #[.int .i64 k, .bool y, .string t, .slice xa n1 xc, .slice xa' n2 xc'], .bool r, .agg #[.int .i64 k, .bool y, .string t, .slice xa n1 xc, .slice xa' n2 xc'], .bool r, .bool false, .bool false, .agg #[.int .i64 k, .bool y, .string t, .slice xa n1 xc, .slice xa' n2 xc'], .bool r, .int .i64 E, .bool r, .bool false, .bool false] (fun j hj => match j, hj with
      | 0, _ => hd 0 (by decide)
      | 1, _ => hd 1 (by decide)
      | 2, _ => hd 2 (by decide)
      | 3, _ => hd 3 (by decide)
      | 4, _ => hd 4 (by decide)
      | 5, _ => hd 5 (by decide)
      | 6, _ => hd 6 (by decide)
      | 7, _ => hd 7 (by decide)
      | 8, _ => hd 8 (by decide)
      | 9, _ => hd 9 (by decide)
      | 10, _ => hd 10 (by decide)
      | 11, _ => hd 11 (by decide)
      | k + 12, h => absurd h (by simp)) (by decide) (by kernel_rfl) rfl
    simp only [List.zip_cons_cons, List.zip_nil_right, List.foldl_cons, List.foldl_nil, Act.put, List.setIfInBounds_toArray, List.set_cons_succ, List.set_cons_zero]
    have HB5 := Lib.hid (HB4.out.trans (hb.mono HB4.out.size))
    have HX5 := Lib.hid (HLD.out w5 hb)
    have HREP5 := Lib.hid (HREP4.out.under hb)
    have hs5 : w2.heap.size < w5.heap.size := Nat.lt_of_lt_of_le hs4 hb.size
    clear hd hf hb HRC HMC HLD HX4 HREP4
    cases r with
    | false =>
      have e1 : E = 10 := HE.out.symm
      have e2 : P = [] := HP.out.symm
      subst e1 e2
      go_wp2_with fail
      refine bodyPost_ret (results_tmp rfl _ _ _) rfl ?_
      exact ⟨rfl, HB5.out⟩
    | true =>
    have e1 : E = 0 := HE.out.symm
    have HPP : Hid (plainJ v = P) := HP
    subst e1
    clear HP HE hEr
    have hpl : P.length ≤ 52000 := by rw [← HPP.out]; exact HPL.out
    have hod := open_depth v
    have hdo := depth_open v
    have hds := depth_size v
    obtain ⟨DI, hDI⟩ : ∃ DI : Int, ((depthJ v : Nat) : Int) = DI := ⟨_, rfl⟩
    obtain ⟨LI, hLI⟩ : ∃ LI : Int, ((lfJ v : Nat) : Int) = LI := ⟨_, rfl⟩
    obtain ⟨NI, hNN⟩ : ∃ NI : Int, ((openJ v : Nat) : Int) = NI := ⟨_, rfl⟩
    have hNI : DI - LI = NI := by rw [← hDI, ← hLI, ← hNN]; unfold lfJ; omega
    have hD1 : 0 ≤ DI := by omega
    have hD2 : DI ≤ 7000 := by omega
    have hL1 : 0 ≤ LI := by omega
    have hL2 : LI ≤ 7000 := by rw [← hLI]; unfold lfJ; omega
    have hN1 : 0 ≤ NI := by omega
    have hN2 : NI ≤ 7000 := by omega
    have HNN := Lib.hid hNN
    have HDC : Hid (∀ w', Below w5.heap.size w5 w' → Calls Tryz.prog 12 #[.agg #[.int .i64 k, .bool y, .string t, .slice xa n1 xc, .slice xa' n2 xc']] w' fun e w'' => e = .returned (.int .i64 DI) ∧ Below w'.heap.size w' w'') := Lib.hid fun w' hb => by
      have := jdepth v (by omega) _ [.int .i64 k, .bool y, .string t, .slice xa n1 xc, .slice xa' n2 xc'] w' (HREP5.out.under hb)
      rw [hDI] at this
      exact this
    have HLC : Hid (∀ w', Below w5.heap.size w5 w' → Calls Tryz.prog 13 #[.agg #[.int .i64 k, .bool y, .string t, .slice xa n1 xc, .slice xa' n2 xc']] w' fun e w'' => e = .returned (.int .i64 LI) ∧ Below w'.heap.size w' w'') := Lib.hid fun w' hb => by
      have := mleaf v (by omega) HRR.out _ [.int .i64 k, .bool y, .string t, .slice xa n1 xc, .slice xa' n2 xc'] w' (HREP5.out.under hb)
      rw [hLI] at this
      exact this
    have HLD7 : Hid (∀ w', Below w5.heap.size w5 w' → w'.heap[w2.heap.size]? = some (.cells #[.int .i64 k, .bool y, .string t, .slice xa n1 xc, .slice xa' n2 xc'] 28 (0, 0))) := Lib.hid fun w' hb => (hb.block _ hs5).trans HX5.out
    clear hDI hLI hNN hod hdo hds
    go_wp2_with fail
    go_upto_region 11 with (fail)
    refine wp_region_grow (by kernel_rfl) (by kernel_rfl) [50, 51, 52, 53, 54, 7] rfl (by decide) (by kernel_rfl) (fun i => [VIs (.agg #[.int .i64 k, .bool y, .string t, .slice xa n1 xc, .slice xa' n2 xc']), VIs (.int .i64 DI), VIs (.agg #[.int .i64 k, .bool y, .string t, .slice xa n1 xc, .slice xa' n2 xc']), VIs (.int .i64 LI), VIs (.int .i64 NI), VIs (.int .i64 NI)].getD i fun _ _ => True) (stab_list _ ?_) ?_ ?_
    · intro V hV
      simp only [List.mem_cons, List.mem_nil_iff, or_false] at hV
      rcases hV with rfl | rfl | rfl | rfl | rfl | rfl <;> exact VIs.stab _
    · intro i o ho ax w' hf hb hd
      rcases i with _ | _ | _ | _ | _ | _ | i
      · cases ho
        refine grow_op rfl rfl rfl ?_
        have q0 : w'.cell? ⟨w2.heap.size, 0, none⟩ = some (.int .i64 k) := by rw [Lib.cell_of_heap (HLD7.out w' hb)]; rfl
        have q1 : w'.cell? ⟨w2.heap.size, 1, none⟩ = some (.bool y) := by rw [Lib.cell_of_heap (HLD7.out w' hb)]; rfl
        have q2 : w'.cell? ⟨w2.heap.size, 2, none⟩ = some (.string t) := by rw [Lib.cell_of_heap (HLD7.out w' hb)]; rfl
        have q3 : w'.cell? ⟨w2.heap.size, 3, none⟩ = some (.slice xa n1 xc) := by rw [Lib.cell_of_heap (HLD7.out w' hb)]; rfl
        have q4 : w'.cell? ⟨w2.heap.size, 4, none⟩ = some (.slice xa' n2 xc') := by rw [Lib.cell_of_heap (HLD7.out w' hb)]; rfl
        have e3 : ax.tmps.getD 3 undef = .pointer (some ⟨w2.heap.size, 0, none⟩) := (hf.same 3 (by decide)).trans rfl
        refine grow_value (v := .agg #[.int .i64 k, .bool y, .string t, .slice xa n1 xc, .slice xa' n2 xc']) (w' := w') ?_ rfl (Below.refl _ _)
        simp only [execOp, Act.eval, e3]
        go_simp
      · cases ho
        refine grow_op rfl rfl rfl ?_
        have ea : ax.tmps.getD 50 undef = .agg #[.int .i64 k, .bool y, .string t, .slice xa n1 xc, .slice xa' n2 xc'] := hd 0 (by kernel_rfl)
        refine grow_call ent_depth rfl ?_
        simp only [List.map_toArray, List.map_cons, List.map_nil, Act.eval, ea]
        exact (HDC.out w' hb).mono fun e w'' ⟨h1, h2⟩ => ⟨_, h1, rfl, h2⟩
      · cases ho
        refine grow_op rfl rfl rfl ?_
        have q0 : w'.cell? ⟨w2.heap.size, 0, none⟩ = some (.int .i64 k) := by rw [Lib.cell_of_heap (HLD7.out w' hb)]; rfl
        have q1 : w'.cell? ⟨w2.heap.size, 1, none⟩ = some (.bool y) := by rw [Lib.cell_of_heap (HLD7.out w' hb)]; rfl
        have q2 : w'.cell? ⟨w2.heap.size, 2, none⟩ = some (.string t) := by rw [Lib.cell_of_heap (HLD7.out w' hb)]; rfl
        have q3 : w'.cell? ⟨w2.heap.size, 3, none⟩ = some (.slice xa n1 xc) := by rw [Lib.cell_of_heap (HLD7.out w' hb)]; rfl
        have q4 : w'.cell? ⟨w2.heap.size, 4, none⟩ = some (.slice xa' n2 xc') := by rw [Lib.cell_of_heap (HLD7.out w' hb)]; rfl
        have e3 : ax.tmps.getD 3 undef = .pointer (some ⟨w2.heap.size, 0, none⟩) := (hf.same 3 (by decide)).trans rfl
        refine grow_value (v := .agg #[.int .i64 k, .bool y, .string t, .slice xa n1 xc, .slice xa' n2 xc']) (w' := w') ?_ rfl (Below.refl _ _)
        simp only [execOp, Act.eval, e3]
        go_simp
      · cases ho
        refine grow_op rfl rfl rfl ?_
        have ea : ax.tmps.getD 52 undef = .agg #[.int .i64 k, .bool y, .string t, .slice xa n1 xc, .slice xa' n2 xc'] := hd 2 (by kernel_rfl)
        refine grow_call ent_leaf rfl ?_
        simp only [List.map_toArray, List.map_cons, List.map_nil, Act.eval, ea]
        exact (HLC.out w' hb).mono fun e w'' ⟨h1, h2⟩ => ⟨_, h1, rfl, h2⟩
      · cases ho
        refine grow_op rfl rfl rfl ?_
        have e1 : ax.tmps.getD 51 undef = .int .i64 DI := hd 1 (by kernel_rfl)
        have e3 : ax.tmps.getD 53 undef = .int .i64 LI := hd 3 (by kernel_rfl)
        refine grow_value (v := .int .i64 NI) (w' := w') ?_ rfl (Below.refl _ _)
        simp only [execOp, Act.eval, e1, e3]
        go_simp
        all_goals first | exact hNI | (rw [hNI]) | (rw [IntWalk.i64_in _ (by omega)]) | (rw [IntWalk.i64_in _ (by omega)]; exact hNI) | (rw [IntWalk.i64_in _ (by omega)]; omega)
      · cases ho
        refine grow_op rfl rfl rfl ?_
        refine grow_assign rfl ?_
        exact hd 4 (by kernel_rfl)
      · simp at ho
    intro ax w6 hf hb hd
    obtain rfl := hf.eq [.agg #[.int .i64 k, .bool y, .string t, .slice xa n1 xc, .slice xa' n2 xc'], .int .i64 DI, .agg #[.int .i64 k, .bool y, .string t, .slice xa n1 xc, .slice xa' n2 xc'], .int .i64 LI, .int .i64 NI, .int .i64 NI] (fun j hj => match j, hj with
      | 0, _ => hd 0 (by decide)
      | 1, _ => hd 1 (by decide)
      | 2, _ => hd 2 (by decide)
      | 3, _ => hd 3 (by decide)
      | 4, _ => hd 4 (by decide)
      | 5, _ => hd 5 (by decide)
      | k + 6, h => absurd h (by simp)) (by decide) (by kernel_rfl) rfl
    simp only [List.zip_cons_cons, List.zip_nil_right, List.foldl_cons, List.foldl_nil, Act.put, List.setIfInBounds_toArray, List.set_cons_succ, List.set_cons_zero]
    have HB6 := Lib.hid (HB5.out.trans (hb.mono HB5.out.size))
    have HX6 := Lib.hid (HLD7.out w6 hb)
    have HREP6 := Lib.hid (HREP5.out.under hb)
    have hs6 : w2.heap.size < w6.heap.size := Nat.lt_of_lt_of_le hs5 hb.size
    clear hd hf hb HDC HLC HLD7 HX5 HREP5
    obtain ⟨cc, w7, hcv, hb7, hrd7, -⟩ := bytes_of_str P w6
    have hp7 := parse_any P (some ⟨w6.heap.size, 0, none⟩) cc (max NI 1) w7 hrd7 (by omega)
    have hpe : P.length ≤ 16384 → NI ≤ 32 → (parseL P (max NI 1)).1 = v ∧ (parseL P (max NI 1)).2 = 0 := fun h1 h2 => by
      have := parse_plain v HRR.out (by rw [HPP.out]; exact h1) (max NI 1) (by omega) (by omega)
      rw [HPP.out, if_pos (by have := HNN.out; omega)] at this
      rw [this]
      exact ⟨rfl, rfl⟩
    have HB7 := Lib.hid (HB6.out.trans (hb7.mono HB6.out.size))
    have HX7 := Lib.hid ((hb7.block _ hs6).trans HX6.out)
    have HREP7 := Lib.hid (HREP6.out.under hb7)
    have hs7 : w2.heap.size < w7.heap.size := Nat.lt_of_lt_of_le hs6 hb7.size
    generalize (parseL P (max NI 1)).1 = pv at *
    generalize (parseL P (max NI 1)).2 = pe at *
    have HP7 := Lib.hid hp7
    have HPE := Lib.hid hpe
    clear hb7 hrd7 hp7 hpe HX6 HREP6
    go_wp2_with fail
    refine HP7.out.mono ?_
    rintro e w8 ⟨hb8, cs8, A8, rfl, hrep8⟩
    have HB8 := Lib.hid (HB7.out.trans (hb8.mono HB7.out.size))
    have HX8 := Lib.hid ((hb8.block _ hs7).trans HX7.out)
    have HREP8 := Lib.hid (HREP7.out.under hb8)
    have hs8 : w2.heap.size < w8.heap.size := Nat.lt_of_lt_of_le hs7 hb8.size
    obtain ⟨ya, yc, ya', yc', _, _, rfl, -⟩ := hrep8.parts
    unfold strV at *
    obtain ⟨k2, y2, t2, n3, n4, hk, hy, ht, hn1, hn2⟩ : ∃ k y t n1 n2, pv.kind = k ∧ pv.yes = y ∧ (⟨pv.text.toArray⟩ : ByteArray) = t ∧ pv.list.length = n1 ∧ pv.mem.length = n2 := ⟨_, _, _, _, _, rfl, rfl, rfl, rfl, rfl⟩
    rw [hk, hy, ht, hn1, hn2] at hrep8
    rw [hk, hy, ht, hn1, hn2]
    have HW8 := Lib.hid hrep8
    clear hk hy ht hn1 hn2 hrep8 hb8 hcv HP7 HX7 HREP7
    go_upto_region 13 with (fail)
    generalize hw9 : w8.alloc _ = w9
    have hb9 : Below w8.heap.size w8 w9 := by rw [← hw9]; exact (Below.refl _ _).alloc (Nat.le_refl _) _
    have hx9 : w9.heap[w8.heap.size]? = some (.cells #[.int .i64 k2, .bool y2, .string t2, .slice ya n3 yc, .slice ya' n4 yc'] 28 (0, 0)) := by rw [← hw9]; exact heap_alloc_new _ _
    have HB9 := Lib.hid (HB8.out.trans (hb9.mono HB8.out.size))
    have HX9 := Lib.hid ((hb9.block _ hs8).trans HX8.out)
    have HREP9 := Lib.hid (HREP8.out.under hb9)
    have HW9 := Lib.hid (HW8.out.under hb9)
    have HY9 := Lib.hid hx9
    have hs9 : w8.heap.size < w9.heap.size := (Array.getElem?_eq_some_iff.1 hx9).1
    clear hw9 hb9 hx9 HX8 HREP8 HW8
    by_cases h1 : P.length ≤ 16384
    case neg =>
      have h1I : (16384 : Int) < (P.length : Int) := by omega
      go_wp2_with fail
      refine bodyPost_ret (results_tmp rfl _ _ _) rfl ?_
      exact ⟨rfl, HB9.out⟩
    have h1I : ¬ (16384 : Int) < (P.length : Int) := by omega
    by_cases h2 : NI ≤ 32
    case neg =>
      have h2I : (32 : Int) < NI := by omega
      go_wp2_with fail
      refine bodyPost_ret (results_tmp rfl _ _ _) rfl ?_
      exact ⟨rfl, HB9.out⟩
    have h2I : ¬ (32 : Int) < NI := by omega
    obtain ⟨e1, e2⟩ := HPE.out h1 h2
    rw [e1] at HW9
    subst e2
    clear e1 HPE pv
    by_cases h3 : 1 < NI
    · obtain ⟨cq, wA, hcvA, hbA, hrdA, -⟩ := bytes_of_str P w9
      have hpA := parse_any P (some ⟨w9.heap.size, 0, none⟩) cq (NI - 1) wA hrdA (by omega)
      have hpf : parseL P (NI - 1) = (.zero, 32) := by
        have := parse_plain v HRR.out (by rw [HPP.out]; exact h1) (NI - 1) (by omega) (by omega)
        rwa [HPP.out, if_neg (by have := HNN.out; omega)] at this
      rw [hpf] at hpA
      have HPA := Lib.hid hpA
      have HBA := Lib.hid (HB9.out.trans (hbA.mono HB9.out.size))
      have hsA : w8.heap.size < wA.heap.size := Nat.lt_of_lt_of_le hs9 hbA.size
      have HXA := Lib.hid ((hbA.block _ (by omega)).trans HX9.out)
      have HYA := Lib.hid ((hbA.block _ hs9).trans HY9.out)
      have HREPA := Lib.hid (HREP9.out.under hbA)
      have HWA := Lib.hid (HW9.out.under hbA)
      clear hpf hpA hbA hrdA HX9 HY9 HREP9 HW9
      go_wp2_with fail
      refine HPA.out.mono ?_
      rintro e wB ⟨hbB, csB, AB, rfl, hrepB⟩
      have HBB := Lib.hid (HBA.out.trans (hbB.mono HBA.out.size))
      have hsB : w8.heap.size < wB.heap.size := Nat.lt_of_lt_of_le hsA hbB.size
      have HXB := Lib.hid ((hbB.block _ (by omega)).trans HXA.out)
      have HYB := Lib.hid ((hbB.block _ hsA).trans HYA.out)
      have HREPB := Lib.hid (HREPA.out.under hbB)
      have HWB := Lib.hid (HWA.out.under hbB)
      obtain ⟨za, zc, za', zc', _, _, rfl, -⟩ := hrepB.parts
      simp only [JV.zero, JV.kind, JV.yes, JV.text, JV.list, JV.mem, strV, List.length_nil] at hrepB ⊢
      clear hbB hrepB hcvA HPA HXA HYA HREPA HWA
      go_upto_region 17 with (fail)
      generalize hwY : wB.alloc _ = wY
      have hbY : Below wB.heap.size wB wY := by rw [← hwY]; exact (Below.refl _ _).alloc (Nat.le_refl _) _
      have HBY := Lib.hid (HBB.out.trans (hbY.mono HBB.out.size))
      have hsY : w8.heap.size < wY.heap.size := Nat.lt_of_lt_of_le hsB hbY.size
      have HXY := Lib.hid ((hbY.block _ (by omega)).trans HXB.out)
      have HYY := Lib.hid ((hbY.block _ hsB).trans HYB.out)
      have HREPY := Lib.hid (HREPB.out.under hbY)
      have HWY := Lib.hid (HWB.out.under hbY)
      clear hwY hbY HXB HYB HREPB HWB
      have c0 : wY.cell? ⟨w8.heap.size, 0, none⟩ = some (.int .i64 k2) := by rw [Lib.cell_of_heap HYY.out]; rfl
      have c1 : wY.cell? ⟨w8.heap.size, 1, none⟩ = some (.bool y2) := by rw [Lib.cell_of_heap HYY.out]; rfl
      have c2 : wY.cell? ⟨w8.heap.size, 2, none⟩ = some (.string t2) := by rw [Lib.cell_of_heap HYY.out]; rfl
      have c3 : wY.cell? ⟨w8.heap.size, 3, none⟩ = some (.slice ya n3 yc) := by rw [Lib.cell_of_heap HYY.out]; rfl
      have c4 : wY.cell? ⟨w8.heap.size, 4, none⟩ = some (.slice ya' n4 yc') := by rw [Lib.cell_of_heap HYY.out]; rfl
      go_wp2_with fail
      refine (jprint_any v (jright v (by omega)) _ [.int .i64 k2, .bool y2, .string t2, .slice ya n3 yc, .slice ya' n4 yc'] wY HWY.out (by rw [HPP.out]; omega)).mono ?_
      rw [HRR.out, HPP.out]
      simp only [if_true]
      rintro e wZ ⟨rfl, hbZ⟩
      have HBZ := Lib.hid (HBY.out.trans (hbZ.mono HBY.out.size))
      have xz := (hbZ.block _ (by omega)).trans HXY.out
      have yz := (hbZ.block _ hsY).trans HYY.out
      have HREPZ := Lib.hid (HREPY.out.under hbZ)
      have HWZ := Lib.hid (HWY.out.under hbZ)
      clear hbZ c0 c1 c2 c3 c4
      have d0 : wZ.cell? ⟨w2.heap.size, 0, none⟩ = some (.int .i64 k) := by rw [Lib.cell_of_heap xz]; rfl
      have d1 : wZ.cell? ⟨w2.heap.size, 1, none⟩ = some (.bool y) := by rw [Lib.cell_of_heap xz]; rfl
      have d2 : wZ.cell? ⟨w2.heap.size, 2, none⟩ = some (.string t) := by rw [Lib.cell_of_heap xz]; rfl
      have d3 : wZ.cell? ⟨w2.heap.size, 3, none⟩ = some (.slice xa n1 xc) := by rw [Lib.cell_of_heap xz]; rfl
      have d4 : wZ.cell? ⟨w2.heap.size, 4, none⟩ = some (.slice xa' n2 xc') := by rw [Lib.cell_of_heap xz]; rfl
      have e0 : wZ.cell? ⟨w8.heap.size, 0, none⟩ = some (.int .i64 k2) := by rw [Lib.cell_of_heap yz]; rfl
      have e1 : wZ.cell? ⟨w8.heap.size, 1, none⟩ = some (.bool y2) := by rw [Lib.cell_of_heap yz]; rfl
      have e2 : wZ.cell? ⟨w8.heap.size, 2, none⟩ = some (.string t2) := by rw [Lib.cell_of_heap yz]; rfl
      have e3 : wZ.cell? ⟨w8.heap.size, 3, none⟩ = some (.slice ya n3 yc) := by rw [Lib.cell_of_heap yz]; rfl
      have e4 : wZ.cell? ⟨w8.heap.size, 4, none⟩ = some (.slice ya' n4 yc') := by rw [Lib.cell_of_heap yz]; rfl
      clear xz yz
      go_wp2_with fail
      refine (jsame_any v v _ _ [.int .i64 k, .bool y, .string t, .slice xa n1 xc, .slice xa' n2 xc'] [.int .i64 k2, .bool y2, .string t2, .slice ya n3 yc, .slice ya' n4 yc'] wZ HREPZ.out HWZ.out (by omega) (by omega)).mono ?_
      rw [same_self HRR.out]
      rintro e wE ⟨rfl, hbE⟩
      have HBE := Lib.hid (HBZ.out.trans (hbE.mono HBZ.out.size))
      clear hbE
      go_wp2_with fail
      refine bodyPost_ret (results_tmp rfl _ _ _) rfl ?_
      exact ⟨rfl, HBE.out⟩
    · obtain ⟨wY, rfl⟩ : ∃ x : World, x = w9 := ⟨_, rfl⟩
      have HBY := HB9
      have hsY := hs9
      have HXY := HX9
      have HYY := HY9
      have HREPY := HREP9
      have HWY := HW9
      clear HX9 HY9 HREP9 HW9
      have c0 : wY.cell? ⟨w8.heap.size, 0, none⟩ = some (.int .i64 k2) := by rw [Lib.cell_of_heap HYY.out]; rfl
      have c1 : wY.cell? ⟨w8.heap.size, 1, none⟩ = some (.bool y2) := by rw [Lib.cell_of_heap HYY.out]; rfl
      have c2 : wY.cell? ⟨w8.heap.size, 2, none⟩ = some (.string t2) := by rw [Lib.cell_of_heap HYY.out]; rfl
      have c3 : wY.cell? ⟨w8.heap.size, 3, none⟩ = some (.slice ya n3 yc) := by rw [Lib.cell_of_heap HYY.out]; rfl
      have c4 : wY.cell? ⟨w8.heap.size, 4, none⟩ = some (.slice ya' n4 yc') := by rw [Lib.cell_of_heap HYY.out]; rfl
      go_wp2_with fail
      refine (jprint_any v (jright v (by omega)) _ [.int .i64 k2, .bool y2, .string t2, .slice ya n3 yc, .slice ya' n4 yc'] wY HWY.out (by rw [HPP.out]; omega)).mono ?_
      rw [HRR.out, HPP.out]
      simp only [if_true]
      rintro e wZ ⟨rfl, hbZ⟩
      have HBZ := Lib.hid (HBY.out.trans (hbZ.mono HBY.out.size))
      have xz := (hbZ.block _ (by omega)).trans HXY.out
      have yz := (hbZ.block _ hsY).trans HYY.out
      have HREPZ := Lib.hid (HREPY.out.under hbZ)
      have HWZ := Lib.hid (HWY.out.under hbZ)
      clear hbZ c0 c1 c2 c3 c4
      have d0 : wZ.cell? ⟨w2.heap.size, 0, none⟩ = some (.int .i64 k) := by rw [Lib.cell_of_heap xz]; rfl
      have d1 : wZ.cell? ⟨w2.heap.size, 1, none⟩ = some (.bool y) := by rw [Lib.cell_of_heap xz]; rfl
      have d2 : wZ.cell? ⟨w2.heap.size, 2, none⟩ = some (.string t) := by rw [Lib.cell_of_heap xz]; rfl
      have d3 : wZ.cell? ⟨w2.heap.size, 3, none⟩ = some (.slice xa n1 xc) := by rw [Lib.cell_of_heap xz]; rfl
      have d4 : wZ.cell? ⟨w2.heap.size, 4, none⟩ = some (.slice xa' n2 xc') := by rw [Lib.cell_of_heap xz]; rfl
      have e0 : wZ.cell? ⟨w8.heap.size, 0, none⟩ = some (.int .i64 k2) := by rw [Lib.cell_of_heap yz]; rfl
      have e1 : wZ.cell? ⟨w8.heap.size, 1, none⟩ = some (.bool y2) := by rw [Lib.cell_of_heap yz]; rfl
      have e2 : wZ.cell? ⟨w8.heap.size, 2, none⟩ = some (.string t2) := by rw [Lib.cell_of_heap yz]; rfl
      have e3 : wZ.cell? ⟨w8.heap.size, 3, none⟩ = some (.slice ya n3 yc) := by rw [Lib.cell_of_heap yz]; rfl
      have e4 : wZ.cell? ⟨w8.heap.size, 4, none⟩ = some (.slice ya' n4 yc') := by rw [Lib.cell_of_heap yz]; rfl
      clear xz yz
      go_wp2_with fail
      refine (jsame_any v v _ _ [.int .i64 k, .bool y, .string t, .slice xa n1 xc, .slice xa' n2 xc'] [.int .i64 k2, .bool y2, .string t2, .slice ya n3 yc, .slice ya' n4 yc'] wZ HREPZ.out HWZ.out (by omega) (by omega)).mono ?_
      rw [same_self HRR.out]
      rintro e wE ⟨rfl, hbE⟩
      have HBE := Lib.hid (HBZ.out.trans (hbE.mono HBZ.out.size))
      clear hbE
      go_wp2_with fail
      refine bodyPost_ret (results_tmp rfl _ _ _) rfl ?_
      exact ⟨rfl, HBE.out⟩
end Go.Proofs.YtgcfikiajingcaaGreat
