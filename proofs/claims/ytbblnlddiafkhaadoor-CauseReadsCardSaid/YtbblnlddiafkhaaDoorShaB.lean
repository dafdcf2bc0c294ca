/- sha.schedule: a block's numbers. -/
import Derived.Test.YtbblnlddiafkhaaDoorShaA
import Derived.Test.YtbblnlddiafkhaaDoorShaP
import Derived.Test.YtbblnlddiafkhaaDoorRd
import Derived.Deep.LoopGhost
import Derived.Deep.DeepCutAuto
import Derived.StillTailTactics
set_option linter.unusedVariables false
namespace Go.Proofs.YtbblnlddiafkhaaDoor
open Go.RowKit

theorem getD_at (l : List UInt8) (j : Nat) (h : j < l.length) : l.getD j 0 = l[j] := by
  rw [List.getD_eq_getElem?_getD, List.getElem?_eq_getElem h]; rfl
theorem cell_zero {w : World} {g t : Nat} {l : List UInt8} {T : TypeId} {fr : Nat × Nat} (h : w.heap[g]? = some (.cells (u32s (schedU l t ++ List.replicate (64 - t) 0)).toArray T fr)) (ht : t < 64) : w.cell? ⟨g, t, none⟩ = some (.int .u32 0) := by
  have hl := schedU_len l t
  have := cell_u32s h (j := t) (by simp [hl]; omega)
  rw [this, List.getElem_append_right (by omega)]
  simp
theorem setCell_block {w : World} {g o : Nat} {cs : Array Value} {T : TypeId} {fr : Nat × Nat} (h : w.heap[g]? = some (.cells cs T fr)) (v : Value) :
    (w.setCell ⟨g, o, none⟩ v).heap[g]? = some (.cells (cs.setIfInBounds o v) T fr) := by
  simp [World.setCell, Array.getElem?_modify, h]

theorem below_setRow {B g : Nat} {a w : World} (h : Below B a w) (hg : B ≤ g) (cs : Array Value) : Below B a (w.setRow g cs) :=
  h.trans ⟨rfl, rfl, rfl, by simp, fun k hk => setRow_other w g k cs (by omega)⟩
theorem u32s_zeros (l : List UInt8) : (u32s (schedU l 0 ++ List.replicate (64 - 0) 0)).toArray = (List.replicate 64 (Value.int .u32 0)).toArray := by
  simp [u32s, schedU]

set_option maxRecDepth 100000 in
set_option maxHeartbeats 2000000 in
theorem schedule_any (a : Option Addr) (l : List UInt8) (n cp : Nat) (w : World) (hr : Rd w a l) (hn : n = l.length) (hl : 64 ≤ l.length) (hm : l.length ≤ 1000000) :
    Calls Tryd.prog 85 #[.slice a n cp] w fun e w' => e = .returned (.agg (u32s (schedU l 64)).toArray) ∧ Below w.heap.size w w' := by
  subst hn
  go_enter Tryd.func85, Tryd.ntmps85
  go_wp2
  go_loopg [7] 64 (fun k i wr => ∃ t : Nat, t + k = 64 ∧ i = .int .i64 t ∧ Below w.heap.size w wr ∧ Hid (wr.heap[w.heap.size + 1]? = some (.cells (u32s (schedU l t ++ List.replicate (64 - t) 0)).toArray 126 (0, 0))) ∧ Hid (∃ cs, wr.heap[w.heap.size]? = some (.cells cs 126 (0, 0)) ∧ cs.size = 64))
  case atStart =>
    refine ⟨0, by omega, rfl, ((Below.refl _ _).alloc (Nat.le_refl _) _).alloc (by simp) _, Lib.hid ?_, Lib.hid ?_⟩
    · rw [u32s_zeros]
      exact heap_alloc2_new w _ _
    · exact ⟨_, heap_alloc2_old w _ _, by simp⟩
  case round =>
    obtain ⟨t, ht, rfl, hbel, hblk, hblk0⟩ := hrel
    by_cases hlt : t < 64
    · by_cases h16 : t < 16
      · obtain ⟨b, off, rfl, hc⟩ := hr.at (show 0 < l.length by omega)
        have hc0 := cell_now hbel (hc (4 * t) (by omega))
        have hc1 := cell_now hbel (hc (4 * t + 1) (by omega))
        have hc2 := cell_now hbel (hc (4 * t + 2) (by omega))
        have hc3 := cell_now hbel (hc (4 * t + 3) (by omega))
        have hb0 := (l[4 * t]'(by omega)).toNat_lt
        have hb1 := (l[4 * t + 1]'(by omega)).toNat_lt
        have hb2 := (l[4 * t + 2]'(by omega)).toNat_lt
        have hb3 := (l[4 * t + 3]'(by omega)).toNat_lt
        have hnext : word l t = nextW l (schedU l t) := by unfold nextW; rw [schedU_len, if_pos h16]
        have hword : word l t = (l[4 * t]'(by omega)).toNat * 16777216 + (l[4 * t + 1]'(by omega)).toNat * 65536 + (l[4 * t + 2]'(by omega)).toNat * 256 + (l[4 * t + 3]'(by omega)).toNat := by
          unfold word
          rw [getD_at l (4 * t) (by omega), getD_at l (4 * t + 1) (by omega), getD_at l (4 * t + 2) (by omega), getD_at l (4 * t + 3) (by omega)]
        have HN := Lib.hid hnext
        obtain ⟨x0, hx0⟩ : ∃ x, (l[4 * t]'(by omega)).toNat = x := ⟨_, rfl⟩
        obtain ⟨x1, hx1⟩ : ∃ x, (l[4 * t + 1]'(by omega)).toNat = x := ⟨_, rfl⟩
        obtain ⟨x2, hx2⟩ : ∃ x, (l[4 * t + 2]'(by omega)).toNat = x := ⟨_, rfl⟩
        obtain ⟨x3, hx3⟩ : ∃ x, (l[4 * t + 3]'(by omega)).toNat = x := ⟨_, rfl⟩
        rw [hx0] at hc0 hb0 hword
        rw [hx1] at hc1 hb1 hword
        rw [hx2] at hc2 hb2 hword
        rw [hx3] at hc3 hb3 hword
        clear hx0 hx1 hx2 hx3 hnext hc
        have c0 : IntKind.u32.wrap (x0 : Int) = x0 := by rw [IntKind.wrap_u32]; omega
        have c1 : IntKind.u32.wrap (x1 : Int) = x1 := by rw [IntKind.wrap_u32]; omega
        have c2 : IntKind.u32.wrap (x2 : Int) = x2 := by rw [IntKind.wrap_u32]; omega
        have c3 : IntKind.u32.wrap (x3 : Int) = x3 := by rw [IntKind.wrap_u32]; omega
        have d0 : IntKind.u32.wrap ((x0 : Int) * 16777216) = ((x0 * 16777216 : Nat) : Int) := by rw [IntKind.wrap_u32]; omega
        have d1 : IntKind.u32.wrap ((x1 : Int) * 65536) = ((x1 * 65536 : Nat) : Int) := by rw [IntKind.wrap_u32]; omega
        have d2 : IntKind.u32.wrap ((x2 : Int) * 256) = ((x2 * 256 : Nat) : Int) := by rw [IntKind.wrap_u32]; omega
        have o1 : bits .or .u32 ((x0 * 16777216 : Nat) : Int) ((x1 * 65536 : Nat) : Int) = ((x0 * 16777216 + x1 * 65536 : Nat) : Int) := by
          rw [u32_or_nat _ _ (by omega) (by omega), show x0 * 16777216 = (x0) * 2 ^ 24 by rfl, or_add x0 (x1 * 65536) 24 (by omega)]
        have o2 : bits .or .u32 ((x0 * 16777216 + x1 * 65536 : Nat) : Int) ((x2 * 256 : Nat) : Int) = ((x0 * 16777216 + x1 * 65536 + x2 * 256 : Nat) : Int) := by
          rw [u32_or_nat _ _ (by omega) (by omega), show x0 * 16777216 + x1 * 65536 = (x0 * 256 + x1) * 2 ^ 16 by omega, or_add (x0 * 256 + x1) (x2 * 256) 16 (by omega)]
        have o3 : bits .or .u32 ((x0 * 16777216 + x1 * 65536 + x2 * 256 : Nat) : Int) (x3 : Int) = ((word l t : Nat) : Int) := by
          rw [u32_or_nat _ _ (by omega) (by omega), show x0 * 16777216 + x1 * 65536 + x2 * 256 = (x0 * 65536 + x1 * 256 + x2) * 2 ^ 8 by omega, or_add (x0 * 65536 + x1 * 256 + x2) x3 8 (by omega), hword]
          omega
        obtain ⟨a0, ha0⟩ : ∃ a : Nat, x0 * 16777216 = a := ⟨_, rfl⟩
        obtain ⟨a1, ha1⟩ : ∃ a : Nat, x1 * 65536 = a := ⟨_, rfl⟩
        obtain ⟨a2, ha2⟩ : ∃ a : Nat, x2 * 256 = a := ⟨_, rfl⟩
        rw [ha0, ha1] at o1
        rw [ha0, ha1, ha2] at o2 o3
        rw [ha0] at d0
        rw [ha1] at d1
        rw [ha2] at d2
        obtain ⟨a3, ha3⟩ : ∃ a : Nat, a0 + a1 = a := ⟨_, rfl⟩
        rw [ha3] at o1 o2 o3
        obtain ⟨a4, ha4⟩ : ∃ a : Nat, a3 + a2 = a := ⟨_, rfl⟩
        rw [ha4] at o2 o3
        obtain ⟨a5, ha5⟩ : ∃ a : Nat, word l t = a := ⟨_, rfl⟩
        rw [ha5] at o3
        have HO := Lib.hid ha5.symm
        clear ha0 ha1 ha2 ha3 ha4 ha5 hword
        have i0 : IntKind.i64.wrap (4 * (t : Int)) = 4 * (t : Int) := IntWalk.i64_in _ (by omega)
        have i1 : IntKind.i64.wrap (4 * (t : Int) + 1) = 4 * (t : Int) + 1 := IntWalk.i64_in _ (by omega)
        have i2 : IntKind.i64.wrap (4 * (t : Int) + 2) = 4 * (t : Int) + 2 := IntWalk.i64_in _ (by omega)
        have i3 : IntKind.i64.wrap (4 * (t : Int) + 3) = 4 * (t : Int) + 3 := IntWalk.i64_in _ (by omega)
        have n0 : (4 * (t : Int)).toNat = 4 * t := by omega
        have n1 : (4 * (t : Int) + 1).toNat = 4 * t + 1 := by omega
        have n2 : (4 * (t : Int) + 2).toNat = 4 * t + 2 := by omega
        have n3 : (4 * (t : Int) + 3).toNat = 4 * t + 3 := by omega
        have p0 : 0 ≤ 4 * (t : Int) := by omega
        have p1 : 0 ≤ 4 * (t : Int) + 1 := by omega
        have p2 : 0 ≤ 4 * (t : Int) + 2 := by omega
        have p3 : 0 ≤ 4 * (t : Int) + 3 := by omega
        have q0 : 4 * (t : Int) < l.length := by omega
        have q1 : 4 * (t : Int) + 1 < l.length := by omega
        have q2 : 4 * (t : Int) + 2 < l.length := by omega
        have q3 : 4 * (t : Int) + 3 < l.length := by omega
        go_upto_region 6 with (fail)
        refine wp_region_still_tail 35 (by kernel_rfl) (by kernel_rfl) ?_
        simp only [List.take_succ_cons, List.take_zero, List.drop_succ_cons, List.drop_zero]
        repeat still_step
        refine wpStill_nil ?_
        change wpList _ _ _ _ _ wr.drew
        have hcell : wr.drew.cell? ⟨w.heap.size + 1, t, none⟩ = some (.int .u32 0) := cell_zero hblk.out hlt
        have hfz : wr.drew.frozen? ⟨w.heap.size + 1, t, none⟩ = false := Lib.frozen_of_heap hblk.out t
        have hbl2 : wr.drew.heap[w.heap.size + 1]? = _ := hblk.out
        have HBL := Lib.hid hbl2
        have hbel2 := hbel.drew
        have hblk02 : ∃ cs, wr.drew.heap[w.heap.size]? = some (.cells cs 126 (0, 0)) ∧ cs.size = 64 := hblk0.out
        have HB0 := Lib.hid hblk02
        clear hbl2 hblk02 hbel hblk hblk0
        obtain ⟨w2, hw2⟩ : ∃ w2, wr.drew = w2 := ⟨_, rfl⟩
        rw [hw2] at hcell hfz HBL hbel2 HB0
        rw [hw2]
        clear hw2
        go_wp2
        go_roundg (gk - 1)
        case measure => omega
        case rel =>
          refine ⟨t + 1, by omega, by go_num, hbel2.setCell (by simp) _, Lib.hid ?_, Lib.hid ?_⟩
          · rw [setCell_block HBL.out, HO.out, u32s_set, HN.out, sched_set l t hlt]
          · obtain ⟨cs, h1, h2⟩ := HB0.out
            exact ⟨cs, by rw [Below.heap_setCell _ _ _ _ (by simp)]; exact h1, h2⟩
      · have hlen : (schedU l t ++ List.replicate (64 - t) 0).length = 64 := by simp [schedU_len]; omega
        have hc2 := cell_u32s hblk.out (j := t - 2) (by omega)
        have hc7 := cell_u32s hblk.out (j := t - 7) (by omega)
        have hc15 := cell_u32s hblk.out (j := t - 15) (by omega)
        have hc16 := cell_u32s hblk.out (j := t - 16) (by omega)
        rw [sched_at l t (t - 2) (by omega) (by omega)] at hc2
        rw [sched_at l t (t - 7) (by omega) (by omega)] at hc7
        rw [sched_at l t (t - 15) (by omega) (by omega)] at hc15
        rw [sched_at l t (t - 16) (by omega) (by omega)] at hc16
        have hnext : nextW l (schedU l t) = (sg1 ((schedU l t).getD (t - 2) 0) + (schedU l t).getD (t - 7) 0 + sg0 ((schedU l t).getD (t - 15) 0) + (schedU l t).getD (t - 16) 0) % 4294967296 := by
          unfold nextW; rw [schedU_len, if_neg (by omega)]
        have b2 := getD_lt l t (t - 2)
        have b7 := getD_lt l t (t - 7)
        have b15 := getD_lt l t (t - 15)
        have b16 := getD_lt l t (t - 16)
        generalize (schedU l t).getD (t - 2) 0 = y at *
        generalize (schedU l t).getD (t - 7) 0 = s7 at *
        generalize (schedU l t).getD (t - 15) 0 = x at *
        generalize (schedU l t).getD (t - 16) 0 = s16 at *
        have e1 := u32_xor_nat (rot y 17) (rot y 19) (rot_lt _ _ b2 (by decide)) (rot_lt _ _ b2 (by decide))
        have e2 := u32_xor_nat (rot y 17 ^^^ rot y 19) (y / 1024) (xor_lt _ _ (rot_lt _ _ b2 (by decide)) (rot_lt _ _ b2 (by decide))) (by omega)
        have e3 := u32_xor_nat (rot x 7) (rot x 18) (rot_lt _ _ b15 (by decide)) (rot_lt _ _ b15 (by decide))
        have e4 := u32_xor_nat (rot x 7 ^^^ rot x 18) (x / 8) (xor_lt _ _ (rot_lt _ _ b15 (by decide)) (rot_lt _ _ b15 (by decide))) (by omega)
        have hs1 : (rot y 17 ^^^ rot y 19) ^^^ (y / 1024) = sg1 y := rfl
        have hs0 : (rot x 7 ^^^ rot x 18) ^^^ (x / 8) = sg0 x := rfl
        have l1 := sg1_lt y b2
        have l0 := sg0_lt x b15
        rw [hs1] at e2
        rw [hs0] at e4
        have R17 := fun w => rt_17 y w b2
        have R19 := fun w => rt_19 y w b2
        have R7 := fun w => rt_7 x w b15
        have R18 := fun w => rt_18 x w b15
        rw [show ((y / 1024 : Nat) : Int) = (y : Int) / 1024 by simp] at e2
        rw [show ((x / 8 : Nat) : Int) = (x : Int) / 8 by simp] at e4
        generalize rot y 17 ^^^ rot y 19 = v1 at *
        generalize rot x 7 ^^^ rot x 18 = v0 at *
        generalize rot y 17 = r17 at *
        generalize rot y 19 = r19 at *
        generalize rot x 7 = r7 at *
        generalize rot x 18 = r18 at *
        clear hs1 hs0
        generalize sg1 y = g1 at *
        generalize sg0 x = g0 at *
        have f1 : IntKind.u32.wrap ((g1 : Int) + s7) = (((g1 + s7) % 4294967296 : Nat) : Int) := by rw [IntKind.wrap_u32]; omega
        have f2 : IntKind.u32.wrap ((((g1 + s7) % 4294967296 : Nat) : Int) + g0) = (((g1 + s7 + g0) % 4294967296 : Nat) : Int) := by rw [IntKind.wrap_u32]; omega
        have f3 : IntKind.u32.wrap ((((g1 + s7 + g0) % 4294967296 : Nat) : Int) + s16) = (((g1 + s7 + g0 + s16) % 4294967296 : Nat) : Int) := by rw [IntKind.wrap_u32]; omega
        generalize (g1 + s7) % 4294967296 = m1 at *
        generalize (g1 + s7 + g0) % 4294967296 = m2 at *
        generalize (g1 + s7 + g0 + s16) % 4294967296 = m3 at *
        have HN := Lib.hid hnext
        have HR17 := Lib.hid R17
        have HR19 := Lib.hid R19
        have HR7 := Lib.hid R7
        have HR18 := Lib.hid R18
        clear hnext R17 R19 R7 R18 hlen l1 l0
        have i2 : IntKind.i64.wrap ((t : Int) - 2) = (t : Int) - 2 := IntWalk.i64_in _ (by omega)
        have i7 : IntKind.i64.wrap ((t : Int) - 7) = (t : Int) - 7 := IntWalk.i64_in _ (by omega)
        have i15 : IntKind.i64.wrap ((t : Int) - 15) = (t : Int) - 15 := IntWalk.i64_in _ (by omega)
        have i16 : IntKind.i64.wrap ((t : Int) - 16) = (t : Int) - 16 := IntWalk.i64_in _ (by omega)
        have p2 : 0 ≤ (t : Int) - 2 := by omega
        have p7 : 0 ≤ (t : Int) - 7 := by omega
        have p15 : 0 ≤ (t : Int) - 15 := by omega
        have p16 : 0 ≤ (t : Int) - 16 := by omega
        have q2 : (t : Int) - 2 < 64 := by omega
        have q7 : (t : Int) - 7 < 64 := by omega
        have q15 : (t : Int) - 15 < 64 := by omega
        have q16 : (t : Int) - 16 < 64 := by omega
        have u2 : 2 ≤ (t : Int) := by omega
        have u7 : 7 ≤ (t : Int) := by omega
        have u15 : 15 ≤ (t : Int) := by omega
        have u16 : 16 ≤ (t : Int) := by omega
        have n2 : ((t : Int) - 2).toNat = t - 2 := by omega
        have n7 : ((t : Int) - 7).toNat = t - 7 := by omega
        have n15 : ((t : Int) - 15).toNat = t - 15 := by omega
        have n16 : ((t : Int) - 16).toNat = t - 16 := by omega
        go_upto_region 7 with (fail)
        go_quiet (fail)
        have hc7' : (wr.drewN nq).cell? _ = _ := hc7
        have hc16' : (wr.drewN nq).cell? _ = _ := hc16
        have hblk' : (wr.drewN nq).heap[w.heap.size + 1]? = _ := hblk.out
        have hblk0' : ∃ cs, (wr.drewN nq).heap[w.heap.size]? = some (.cells cs 126 (0, 0)) ∧ cs.size = 64 := hblk0.out
        have hbel' := Below.trans hbel (⟨rfl, rfl, rfl, Nat.le_refl _, fun _ _ => rfl⟩ : Below w.heap.size wr (wr.drewN nq))
        have HBK := Lib.hid hblk'
        have HB0 := Lib.hid hblk0'
        clear hc2 hc7 hc15 hc16 hblk hblk0 hbel hblk' hblk0'
        obtain ⟨wq, hwq⟩ : ∃ wq, wr.drewN nq = wq := ⟨_, rfl⟩
        rw [hwq] at hc7' hc16' HBK HB0 hbel'
        rw [hwq]
        clear hwq
        go_upto_region 8 with (fail)
        refine wp_region_still_tail 29 (by kernel_rfl) (by kernel_rfl) ?_
        simp only [List.take_succ_cons, List.take_zero, List.drop_succ_cons, List.drop_zero]
        repeat (refine wpStill_step (fun K hK => ?_); go_simp; (first | (with_reducible refine hK _ ?_) | (with_reducible refine ⟨_, HR17.out _, hK _ ?_⟩) | (with_reducible refine ⟨_, HR19.out _, hK _ ?_⟩) | (with_reducible refine ⟨_, HR7.out _, hK _ ?_⟩) | (with_reducible refine ⟨_, HR18.out _, hK _ ?_⟩)); clear hK K)
        refine wpStill_nil ?_
        change wpList _ _ _ _ _ wq.drew
        have hcell : wq.drew.cell? ⟨w.heap.size + 1, t, none⟩ = some (.int .u32 0) := cell_zero HBK.out hlt
        have hfz : wq.drew.frozen? ⟨w.heap.size + 1, t, none⟩ = false := Lib.frozen_of_heap HBK.out t
        have hbl2 : wq.drew.heap[w.heap.size + 1]? = _ := HBK.out
        have HBL := Lib.hid hbl2
        have hbel2 := hbel'.drew
        have hblk02 : ∃ cs, wq.drew.heap[w.heap.size]? = some (.cells cs 126 (0, 0)) ∧ cs.size = 64 := HB0.out
        have HB02 := Lib.hid hblk02
        clear hbl2 hblk02 hbel' HBK HB0 hc7' hc16'
        obtain ⟨w2, hw2⟩ : ∃ w2, wq.drew = w2 := ⟨_, rfl⟩
        rw [hw2] at hcell hfz HBL hbel2 HB02
        rw [hw2]
        clear hw2
        go_wp2
        go_roundg (gk - 1)
        case measure => omega
        case rel =>
          refine ⟨t + 1, by omega, by go_num, hbel2.setCell (by simp) _, Lib.hid ?_, Lib.hid ?_⟩
          · rw [setCell_block HBL.out, u32s_set, ← HN.out, sched_set l t hlt]
          · obtain ⟨cs, h1, h2⟩ := HB02.out
            exact ⟨cs, by rw [Below.heap_setCell _ _ _ _ (by simp)]; exact h1, h2⟩
    · have ht64 : t = 64 := by omega
      subst ht64
      have hb1 : wr.heap[w.heap.size + 1]? = some (.cells (u32s (schedU l 64)).toArray 126 (0, 0)) := by have := hblk.out; simpa using this
      obtain ⟨cs, hb0, hcs⟩ := hblk0.out
      have HB1 := Lib.hid hb1
      have HB0 := Lib.hid hb0
      have hsz : (u32s (schedU l 64)).toArray.size = 64 := by simp [u32s, schedU_len]
      have HSZ := Lib.hid hsz
      clear hb1 hb0 hsz hblk hblk0
      obtain ⟨S, hS⟩ : ∃ S, (u32s (schedU l 64)).toArray = S := ⟨_, rfl⟩
      have hone : S.all (·.oneCell') = true := by rw [← hS]; simp [u32s, Value.oneCell']
      rw [hS] at HB1 HSZ
      have HS := Lib.hid hS
      clear hS
      go_upto_region 10 with (fail)
      apply wp_region_lit
      refine wpList_load_row rfl 126 (.tmp 3) rfl (w.heap.size + 1) rfl 126 S (0, 0) _ HB1.out Tryd.underlying126 rfl (by rw [HSZ.out]; kernel_rfl) ?_
      refine wpList_store_row rfl 126 (.tmp 2) (.tmp 85) rfl (w.heap.size) S rfl rfl 126 cs HB0.out (by rw [HSZ.out]; kernel_rfl) (by rw [HSZ.out, hcs]) hone ?_
      apply wpList_nil
      have hb2 := below_setRow hbel (Nat.le_refl w.heap.size) S
      have hg2 := setRow_heap wr w.heap.size cs S 126 (0, 0) HB0.out
      have HG2 := Lib.hid hg2
      clear hg2
      go_wp2
      rw [HS.out]
      exact bodyPost_ret (results_cell_row rfl _ _ w.heap.size 126 S (0, 0) _ rfl HG2.out Tryd.underlying126 rfl (by rw [HSZ.out]; kernel_rfl)) rfl ⟨rfl, hb2⟩
end Go.Proofs.YtbblnlddiafkhaaDoor
