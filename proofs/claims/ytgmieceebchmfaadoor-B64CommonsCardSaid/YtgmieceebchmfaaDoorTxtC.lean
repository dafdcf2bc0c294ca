/- text.character, text.Wrong, text.Told. -/
import Derived.Test.YtgmieceebchmfaaDoorTxtB
set_option linter.unusedVariables false
namespace Go.Proofs.YtgmieceebchmfaaDoor
open Go.RowKit

theorem ent_has : ∀ args w, (callFunc 49 args).run Tryd.prog w = .ok (.enter 49 args) w := run_enters Tryd.func49 (by kernel_rfl) rfl
theorem spansOK_drop (l : List (Nat × Nat)) (r : List UInt8) (j : Nat) (h1 : j < l.length) (h2 : j < r.length) : spansOK (l.drop j) (r.drop j) = (hasB l[j] r[j].toNat && spansOK (l.drop (j + 1)) (r.drop (j + 1))) := by
  rw [List.drop_eq_getElem_cons h1, List.drop_eq_getElem_cons h2]
  rfl

set_option maxRecDepth 100000 in
set_option maxHeartbeats 8000000 in
theorem char_any (s : List UInt8) (hne : s ≠ []) (w : World) (hs : s.length ≤ 1000000) :
    Calls Tryd.prog 28 #[.string ⟨s.toArray⟩] w fun e w' => e = .returned (.int .i64 (chr s : Nat)) ∧ Below w.heap.size w w' := by
  have hl : 0 < s.length := List.length_pos_iff.2 hne
  have hix0 : ∀ w, (Instr.index 9 (.string ⟨s.toArray⟩) (.int .i64 0)).run Tryd.prog w = .ok (.int .u8 (s[0].toNat : Nat)) w := fun w => str_at s 0 hl w
  have hsp := chr_spans s
  have hg : s.getD 0 0 = s[0] := by simp [List.getD_eq_getElem?_getD, hl]
  rw [hg] at hsp
  have hlt := UInt8.toNat_lt s[0]
  generalize s[0].toNat = c at *
  have HSP := Lib.hid hsp
  clear hsp hg
  go_enter Tryd.func28, Tryd.ntmps28
  go_wp2_with fail
  refine (behind_any c hlt w).mono ?_
  rintro e w1 ⟨hbi, hb1⟩
  have HB1 := Lib.hid hb1
  clear hb1
  rcases hbi with ⟨l, a, cp, hbl, rfl, hrc⟩ | ⟨hbl, rfl⟩
  · have hsp := HSP.out
    rw [hbl] at hsp
    simp only at hsp
    have HS1 := Lib.hid hsp
    have HRC := Lib.hid hrc
    have hl3 : l.length ≤ 3 := by
      unfold behindL at hbl
      repeat' split at hbl
      all_goals first | cases hbl | skip
      all_goals simp_all
      all_goals subst hbl; simp
    clear hsp HSP hrc hbl
    by_cases hsh : s.length ≤ l.length
    · have hshI : (s.length : Int) ≤ (l.length : Int) := by omega
      have hz : chr s = 0 := by
        rw [HS1.out, spansOK_short l (s.drop 1) (by rw [List.length_drop]; omega)]
        rfl
      have HZ := Lib.hid hz
      clear hz HS1
      go_wp2_with fail
      refine bodyPost_ret (results_tmp rfl _ _ _) rfl ?_
      exact ⟨by rw [HZ.out]; rfl, HB1.out⟩
    have hshI : ¬ (s.length : Int) ≤ (l.length : Int) := by omega
    go_wp2_with fail
    go_loopg [24] l.length (fun k y wr => ∃ j : Nat, y = .int .i64 (j : Int) ∧ j + k = l.length ∧ Hid (spansOK l (s.drop 1) = spansOK (l.drop j) ((s.drop 1).drop j)) ∧ Hid (RdC wr a (l.flatMap spcell)) ∧ Hid (Below w.heap.size w wr))
    case atStart => exact ⟨0, rfl, by omega, Lib.hid (by rw [List.drop_zero, List.drop_zero]), HRC, HB1⟩
    case round =>
    obtain ⟨j, rfl, hj, HSO, HR, HB⟩ := hrel
    by_cases hlt2 : j < l.length
    · have hltI : (j : Int) < (l.length : Int) := by omega
      obtain ⟨bk, off, rfl, hcl⟩ := HR.out.at (by intro h; have h2 := flat_len spcell 2 spcell_len l; rw [h] at h2; simp at h2; omega)
      have g0 := flat_get spcell 2 spcell_len l j 0 hlt2 (by omega)
      have g1 := flat_get spcell 2 spcell_len l j 1 hlt2 (by omega)
      have c1 := hcl _ _ (g0.trans rfl)
      have c2 := hcl _ _ (g1.trans rfl)
      rw [Nat.add_zero] at c1
      rw [← Nat.add_assoc] at c2
      have hso := HSO.out
      rw [spansOK_drop l (s.drop 1) j hlt2 (by rw [List.length_drop]; omega)] at hso
      have hix := fun w => str_at s (j + 1) (by omega) w
      rw [show ((j + 1 : Nat) : Int) = (j : Int) + 1 by omega] at hix
      have hget : (s.drop 1)[j]'(by rw [List.length_drop]; omega) = s[j + 1]'(by omega) := by
        rw [List.getElem_drop]; congr 1; omega
      rw [hget] at hso
      generalize s[j + 1].toNat = b at *
      generalize hpq : l[j] = pq at *
      obtain ⟨p, q⟩ := pq
      simp only at c1 c2
      have HSO1 := Lib.hid hso
      have HIX := Lib.hid hix
      clear g0 g1 hcl hso hget hix hpq HSO
      go_upto_region 7 with (fail)
      have hal : Below wr.heap.size wr (wr.alloc (.cells #[.int .u8 (p : Int), .int .u8 (q : Int)] 80)) := (Below.refl _ _).alloc (Nat.le_refl _) _
      have hk := heap_alloc_new wr (.cells #[.int .u8 (p : Int), .int .u8 (q : Int)] 80)
      have C1 := Lib.hid (show World.cell? _ ⟨wr.heap.size, 0, none⟩ = some (.int .u8 (p : Int)) by rw [Lib.cell_of_heap hk]; rfl)
      have C2 := Lib.hid (show World.cell? _ ⟨wr.heap.size, 1, none⟩ = some (.int .u8 (q : Int)) by rw [Lib.cell_of_heap hk]; rfl)
      have HBa := Lib.hid (HB.out.trans (hal.mono HB.out.size))
      have HRa := Lib.hid (HR.out.below hal)
      clear hal hk c1 c2 HR HB
      refine wp_region_grow (by kernel_rfl) (by kernel_rfl) [29, 30, 31, 32, 33, 34, 35] rfl (by decide) (by kernel_rfl) (fun iX => [VIs (.agg #[Value.int .u8 (p : Int), Value.int .u8 (q : Int)]), VIs (.string ⟨s.toArray⟩), VIs (.int .i64 (j : Int)), VIs (.int .i64 ((j : Int) + 1)), VIs (.int .u8 (b : Int)), VIs (.bool (hasB (p, q) b)), VIs (.bool (!hasB (p, q) b))].getD iX fun _ _ => True) (stab_list _ ?_) ?_ ?_
      · skip
        intro V hV
        simp only [List.mem_cons, List.mem_nil_iff, or_false] at hV
        rcases hV with rfl | rfl | rfl | rfl | rfl | rfl | rfl <;> first | exact VIs.stab _ | exact VBytes.stab _ | exact VStr.stab _ | exact VParts.stab _ | exact VRow.stab _ | exact VRow8.stab _ _ | exact VRowIs.stab _ _ _
      · intro iX o ho a' w' hf hb hd
        rcases iX with _ | _ | _ | _ | _ | _ | _ | iX
        · cases ho
          refine grow_op rfl rfl rfl ?_
          have c1 := cell_now hb C1.out
          have c2 := cell_now hb C2.out
          have e6 : a'.tmps.getD 6 undef = .pointer (some ⟨wr.heap.size, 0, none⟩) := (hf.same 6 (by decide)).trans rfl
          refine grow_value (v := .agg #[Value.int .u8 (p : Int), Value.int .u8 (q : Int)]) (w' := w') ?_ rfl (Below.refl _ _)
          simp only [execOp, Act.eval]
          go_simp
        · cases ho
          refine grow_op rfl rfl rfl (grow_move rfl ?_)
          exact (hf.same 0 (by decide)).trans rfl
        · cases ho
          refine grow_op rfl rfl rfl (grow_move rfl ?_)
          exact (hf.same 5 (by decide)).trans rfl
        · cases ho
          refine grow_op rfl rfl rfl ?_
          have e2 : a'.tmps.getD 31 undef = .int .i64 (j : Int) := hd 2 (by kernel_rfl)
          refine grow_value (v := .int .i64 ((j : Int) + 1)) (w' := w') ?_ rfl (Below.refl _ _)
          simp only [execOp, Act.eval, e2]
          go_simp
          exact IntWalk.i64_in _ (by omega)
        · cases ho
          refine grow_op rfl rfl rfl ?_
          have e1 : a'.tmps.getD 30 undef = .string ⟨s.toArray⟩ := hd 1 (by kernel_rfl)
          have e3 : a'.tmps.getD 32 undef = .int .i64 ((j : Int) + 1) := hd 3 (by kernel_rfl)
          have hx := HIX.out w'
          refine grow_value (v := .int .u8 (b : Int)) (w' := w') ?_ rfl (Below.refl _ _)
          simp only [execOp, Act.eval, e1, e3]
          go_simp
        · cases ho
          refine grow_op rfl rfl rfl ?_
          have e0 : a'.tmps.getD 29 undef = .agg #[Value.int .u8 (p : Int), Value.int .u8 (q : Int)] := hd 0 (by kernel_rfl)
          have e4 : a'.tmps.getD 33 undef = .int .u8 (b : Int) := hd 4 (by kernel_rfl)
          refine grow_call ent_has rfl ?_
          simp only [List.map_toArray, List.map_cons, List.map_nil, Act.eval, e0, e4]
          exact (has_any p q b w').mono (fun e w'' ⟨h1, h2⟩ => ⟨_, h1, rfl, h2⟩)
        · cases ho
          refine grow_op rfl rfl rfl ?_
          have e5 : a'.tmps.getD 34 undef = .bool (hasB (p, q) b) := hd 5 (by kernel_rfl)
          refine grow_value (v := .bool (!hasB (p, q) b)) (w' := w') ?_ rfl (Below.refl _ _)
          simp only [execOp, Act.eval, e5]
          go_simp
        · simp at ho
      · intro a' w' hf hb hd
        obtain rfl := hf.eq [Value.agg #[Value.int IntKind.u8 (p : Int), Value.int IntKind.u8 (q : Int)], Value.string ⟨s.toArray⟩, Value.int IntKind.i64 (j : Int), Value.int IntKind.i64 ((j : Int) + 1), Value.int IntKind.u8 (b : Int), Value.bool (hasB (p, q) b), Value.bool (!hasB (p, q) b)] (fun j hj => match j, hj with
          | 0, _ => hd 0 (by decide)
          | 1, _ => hd 1 (by decide)
          | 2, _ => hd 2 (by decide)
          | 3, _ => hd 3 (by decide)
          | 4, _ => hd 4 (by decide)
          | 5, _ => hd 5 (by decide)
          | 6, _ => hd 6 (by decide)
          | k + 7, h => absurd h (by simp)) (by decide) (by kernel_rfl) rfl
        simp only [List.zip_cons_cons, List.zip_nil_right, List.foldl_cons, List.foldl_nil, Act.put, List.setIfInBounds_toArray, List.set_cons_succ, List.set_cons_zero]
        have HRx := Lib.hid (HRa.out.below hb)
        have HBx := Lib.hid (HBa.out.trans (hb.mono HBa.out.size))
        clear hf hd hb
        cases hh : hasB (p, q) b with
        | true =>
          have hso := HSO1.out
          rw [hh, Bool.true_and] at hso
          have HSO2 := Lib.hid hso
          clear hso HSO1 hh
          go_wp2_with fail
          go_roundg (gk - 1)
          case measure => omega
          case rel => exact ⟨j + 1, by first | rfl | (congr 1), by omega, HSO2, HRx, HBx⟩
        | false =>
          have hz : chr s = 0 := by rw [HS1.out, HSO1.out, hh]; rfl
          have HZ := Lib.hid hz
          clear hz HS1 HSO1 hh
          go_wp2_with fail
          refine bodyPost_ret (results_tmp rfl _ _ _) rfl ?_
          exact ⟨by rw [HZ.out]; rfl, HBx.out⟩
    · have hltI : ¬ (j : Int) < (l.length : Int) := by omega
      have hso := HSO.out
      rw [List.drop_of_length_le (show l.length ≤ j by omega)] at hso
      have hz : chr s = 1 + l.length := by rw [HS1.out, hso]; rfl
      have HZ := Lib.hid hz
      clear hz HS1 hso HSO
      go_wp2_with fail
      refine bodyPost_ret (results_tmp rfl _ _ _) rfl ?_
      exact ⟨by rw [HZ.out]; simp [Array.getD], HB.out⟩
  · have hz : chr s = 0 := by rw [HSP.out, hbl]
    have HZ := Lib.hid hz
    clear hz HSP hbl
    go_wp2_with fail
    refine bodyPost_ret (results_tmp rfl _ _ _) rfl ?_
    exact ⟨by rw [HZ.out]; rfl, HB1.out⟩
end Go.Proofs.YtgmieceebchmfaaDoor
