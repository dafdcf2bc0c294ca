/- ShaEdges. -/
import Derived.Test.YtofoadpnfeamoaaShaH
import Derived.Test.YtofoadpnfeamoaaRefE
import Derived.Deep.OwnRows
import Derived.Deep.LoopGhost
set_option linter.unusedVariables false
namespace Go.Proofs.Ytofoadpnfeamoaa
open Go.RowKit

/-- The first j bytes are c, the others noughts. -/
def edge (n j : Nat) (c : UInt8) : List UInt8 := List.replicate j c ++ List.replicate (n - j) 0
theorem edge_made (n : Nat) (c : UInt8) : madeCells #[.int .u8 0] n = (Lib.byteCells (edge n 0 c)).toArray := by
  apply Array.ext
  · simp [madeCells, Lib.byteCells, edge]
  · intro i h1 h2
    simp [madeCells, Lib.byteCells, edge, Nat.mod_one]
theorem edge_set (n j : Nat) (c : UInt8) (h : j < n) : (Lib.byteCells (edge n j c)).toArray.setIfInBounds j (.int .u8 (c.toNat : Nat)) = (Lib.byteCells (edge n (j + 1) c)).toArray := by
  simp only [List.setIfInBounds_toArray]
  congr 1
  unfold edge
  rw [show n - j = (n - (j + 1)) + 1 by omega, List.replicate_succ, byteCells_app, byteCells_app, List.set_append_right _ _ (by simp [Lib.byteCells])]
  simp [Lib.byteCells, List.replicate_succ']

set_option maxRecDepth 100000 in
set_option maxHeartbeats 4000000 in
theorem shaEdges_walk (n0 c0 : Int) (w : World) (hn : (Lit.int .i64 n0).wf = true) (hc : (Lit.int .u8 c0).wf = true) :
    Calls Try.prog 7 #[.int .i64 n0, .int .u8 c0] w fun e w' => e = .returned (.bool true) ∧ Below w.heap.size w w' := by
  obtain ⟨cb, rfl⟩ : ∃ cb : UInt8, c0 = ((cb.toNat : Nat) : Int) := by
    simp [Lit.wf, IntKind.min, IntKind.max, IntKind.signed, IntKind.bits] at hc
    exact ⟨UInt8.ofNat c0.toNat, by rw [UInt8.toNat_ofNat']; omega⟩
  clear hn hc
  go_enter Try.func7, Try.ntmps7
  go_wp2_with fail
  refine (anchor01_any w).mono ?_
  rintro e w1 ⟨rfl, hb1⟩
  have HB1 := Lib.hid hb1
  clear hb1
  by_cases h0 : 0 ≤ n0
  · by_cases h200 : n0 ≤ 200
    · obtain ⟨N, rfl⟩ : ∃ N : Nat, n0 = (N : Int) := ⟨n0.toNat, by omega⟩
      obtain ⟨i0, hi, hz0, hz1, hz2⟩ := info_u8'
      have hN : N ≤ 200 := by omega
      go_upto_region 5 with (fail)
      apply wp_region_lit
      refine wpList_plain rfl (fun K hK => ?_)
      go_simp
      with_reducible refine hK _ _ ?_
      clear hK K
      refine wpList_make_row w1 rfl (.tmp 15) (.tmp 15) 22 rfl 5 i0 (.int .u8 0) Try.underlying22 hi hz0 hz1 rfl .i64 .i64 N rfl rfl (by rw [hz2]; omega) (by omega) ?_
      rw [edge_made N cb]
      have hnew := heap_alloc_new w1 (.cells (Lib.byteCells (edge N 0 cb)).toArray 5)
      have hb2 : Below w1.heap.size w1 (w1.alloc (.cells (Lib.byteCells (edge N 0 cb)).toArray 5)) := (Below.refl _ _).alloc (Nat.le_refl _) _
      obtain ⟨w2, hw2⟩ : ∃ w2, w1.alloc (.cells (Lib.byteCells (edge N 0 cb)).toArray 5) = w2 := ⟨_, rfl⟩
      rw [hw2] at hnew hb2 ⊢
      obtain ⟨g, hg⟩ : ∃ g, w1.heap.size = g := ⟨_, rfl⟩
      rw [hg] at hnew hb2 ⊢
      have HN := Lib.hid hnew
      have HB2 := Lib.hid hb2
      have HG := Lib.hid hg
      clear hw2 hnew hb2 hg hi hz0 hz1 hz2
      go_wp2_with fail
      go_loopg [19] N (fun k y wr => ∃ j : Nat, y = .int .i64 j ∧ j + k = N ∧ Hid (wr.heap[g]? = some (.cells (Lib.byteCells (edge N j cb)).toArray 5 (0, 0))) ∧ Hid (Below g w1 wr))
      case atStart => exact ⟨0, rfl, by omega, HN, HB2⟩
      case round =>
        clear HN HB2
        obtain ⟨j, rfl, hj, HE, HB⟩ := hrel
        by_cases hlt : j < N
        · have hcx : wr.cell? ⟨g, j, none⟩ = some (.int .u8 (0 : Int)) := by
            rw [Lib.cell_of_heap HE.out]
            simp only [List.getElem?_toArray, Lib.byteCells, List.getElem?_map, edge]
            rw [List.getElem?_append_right (by simp)]
            simp only [List.length_replicate, Nat.sub_self, List.getElem?_replicate]
            rw [if_pos (by omega)]
            rfl
          have hfz : wr.frozen? ⟨g, j, none⟩ = false := Lib.frozen_of_heap HE.out j
          have j0 : 0 ≤ (j : Int) := by omega
          have jn : ((j : Int)).toNat = j := by omega
          have jlt : (j : Int) < (N : Int) := by omega
          go_wp2_with fail
          go_roundg (gk - 1)
          case measure => omega
          case rel =>
            refine ⟨j + 1, by go_num, by omega, Lib.hid ?_, Lib.hid (HB.out.setCell (by simp) _)⟩
            rw [setCell_block HE.out, edge_set N j cb hlt]
        · obtain rfl : j = N := by omega
          obtain ⟨B, hB⟩ : ∃ B, edge j j cb = B := ⟨_, rfl⟩
          have hBl : B.length = j := by rw [← hB]; simp [edge]
          have he := HE.out
          rw [hB] at he
          have hrd0 : Rd wr (some ⟨g, 0, none⟩) B := Rd.of_lit B he
          have hBw := HB1.out.trans ((show Below w1.heap.size w1 wr by rw [HG.out]; exact HB.out).mono HB1.out.size)
          have HRD := Lib.hid hrd0
          have HBW := Lib.hid hBw
          clear hB he hrd0 hBw HE HB hlt hj
          subst hBl
          go_upto_region 11 with (fail)
          have hrd := HRD.out
          refine wp_region_grow (by kernel_rfl) (by kernel_rfl) [27, 28, 29, 30, 31, 32, 33, 34, 35, 36, 37, 38, 39, 40, 41, 4] rfl (by decide) (by kernel_rfl) (fun i => [VIs (.slice (some ⟨g, 0, none⟩) B.length B.length), VParts [B], VBytes (sha (B)), VStr (sha B), VIs (.slice (some ⟨g, 0, none⟩) B.length B.length), VBytes (sha (B)), VStr (sha B), VIs (.bool true), VIs (.bool true), VIs (.slice (some ⟨g, 0, none⟩) B.length B.length), VParts [B], VBytes (sha (B)), VIs (.int .i64 32), VIs (.bool true), VIs (.bool true), VIs (.bool true)].getD i fun _ _ => True) (stab_list _ ?_) ?_ ?_
          · intro V hV
            simp only [List.mem_cons, List.mem_nil_iff, or_false] at hV
            rcases hV with rfl | rfl | rfl | rfl | rfl | rfl | rfl | rfl | rfl | rfl | rfl | rfl | rfl | rfl | rfl | rfl <;> first | exact VIs.stab _ | exact VBytes.stab _ | exact VStr.stab _ | exact VParts.stab _ | exact VRow.stab _ | exact VRow8.stab _ _
          · intro i o ho a' w' hf hb hd
            rcases i with _ | _ | _ | _ | _ | _ | _ | _ | _ | _ | _ | _ | _ | _ | _ | _ | i
            · cases ho
              refine grow_op rfl rfl rfl (grow_move rfl ?_)
              exact (hf.same 5 (by decide)).trans rfl
            · cases ho
              refine grow_op rfl rfl rfl ?_
              exact grow_part rfl (hd 0 (by kernel_rfl)) (hrd.below hb)
            · cases ho
              refine grow_op rfl rfl rfl ?_
              exact grow_sum (by simp) rfl (hd 1 (by kernel_rfl)) (by simp) (by omega)
            · cases ho
              refine grow_op rfl rfl rfl ?_
              exact grow_str rfl (hd 2 (by kernel_rfl))
            · cases ho
              refine grow_op rfl rfl rfl (grow_move rfl ?_)
              exact (hf.same 5 (by decide)).trans rfl
            · cases ho
              refine grow_op rfl rfl rfl ?_
              exact grow_rsum rfl (hd 4 (by kernel_rfl)) (hrd.below hb) (by omega)
            · cases ho
              refine grow_op rfl rfl rfl ?_
              exact grow_str rfl (hd 5 (by kernel_rfl))
            · cases ho
              refine grow_op rfl rfl rfl ?_
              exact grow_eq_same rfl (hd 3 (by kernel_rfl)) (hd 6 (by kernel_rfl))
            · cases ho
              refine grow_op rfl rfl rfl (grow_move rfl ?_)
              exact hd 7 (by kernel_rfl)
            · cases ho
              have hg : a'.tmps.getD 35 undef = .bool true := hd 8 (by kernel_rfl)
              refine grow_op rfl (grow_wanted rfl rfl hg) rfl (grow_move rfl ?_)
              exact (hf.same 5 (by decide)).trans rfl
            · cases ho
              have hg : a'.tmps.getD 35 undef = .bool true := hd 8 (by kernel_rfl)
              refine grow_op rfl (grow_wanted rfl rfl hg) rfl ?_
              exact grow_part rfl (hd 9 (by kernel_rfl)) (hrd.below hb)
            · cases ho
              have hg : a'.tmps.getD 35 undef = .bool true := hd 8 (by kernel_rfl)
              refine grow_op rfl (grow_wanted rfl rfl hg) rfl ?_
              exact grow_sum (by simp) rfl (hd 10 (by kernel_rfl)) (by simp) (by omega)
            · cases ho
              have hg : a'.tmps.getD 35 undef = .bool true := hd 8 (by kernel_rfl)
              refine grow_op rfl (grow_wanted rfl rfl hg) rfl ?_
              obtain ⟨ad, cc, e, _⟩ : VBytes (sha B) (a'.tmps.getD 38 undef) w' := hd 11 (by kernel_rfl)
              rw [sha_len] at e
              refine grow_value (v := .int .i64 32) (w' := w') ?_ rfl (Below.refl _ _)
              simp only [execOp, resolve, invoke, builtin, List.map_toArray, List.map_cons, List.map_nil, Act.eval, e]
              go_simp
            · cases ho
              have hg : a'.tmps.getD 35 undef = .bool true := hd 8 (by kernel_rfl)
              refine grow_op rfl (grow_wanted rfl rfl hg) rfl ?_
              have e12 : a'.tmps.getD 39 undef = .int .i64 32 := hd 12 (by kernel_rfl)
              refine grow_value (v := .bool true) (w' := w') ?_ rfl (Below.refl _ _)
              simp only [execOp, Act.eval, e12]
              go_simp
            · cases ho
              refine grow_op rfl rfl rfl (grow_pick (b := true) rfl (hd 8 (by kernel_rfl)) ?_)
              exact hd 13 (by kernel_rfl)
            · cases ho
              refine grow_op rfl rfl rfl (grow_assign rfl ?_)
              exact hd 14 (by kernel_rfl)
            · simp at ho
          · intro a' w' hf hb hd
            have h4 : a'.tmps.getD 4 undef = .bool true := hd 15 (by decide)
            have hdf : a'.defers = [] := hf.defers
            have HBx := Lib.hid (HBW.out.trans (hb.mono HBW.out.size))
            have H4 := Lib.hid h4
            clear h4 hd hf hb hrd
            go_wp2_with fail
            refine bodyPost_ret (results_tmp rfl _ _ _) hdf ?_
            exact ⟨by rw [H4.out], HBx.out⟩
    · go_wp2_with fail
      go_ret
      exact ⟨rfl, HB1.out⟩
  · go_wp2_with fail
    go_ret
    exact ⟨rfl, HB1.out⟩
end Go.Proofs.Ytofoadpnfeamoaa
