/- tuple.figures: a number's part read. -/
import Derived.Test.YtjofjgjocgooeaaDoorTupH
set_option linter.unusedVariables false
namespace Go.Proofs.YtjofjgjocgooeaaDoor
open Go.RowKit

def figuresV (s : List UInt8) : Value := match figuresL s with
  | some x => .tuple #[.agg #[.bool true, .int .i64 x.1, .string ⟨#[]⟩], .string ⟨x.2.toArray⟩, .bool true]
  | none => .tuple #[.agg #[.bool false, .int .i64 0, .string ⟨#[]⟩], .string ⟨#[]⟩, .bool false]

theorem or_low (N d : Nat) (hN : N < 72057594037927936) (hd : d < 256) : bits .or .u64 ((N : Int) * 256) (d : Int) = ((N * 256 + d : Nat) : Int) := by
  have h := u64_or_nat (N * 256) d (by omega) (by omega)
  have e : N * 256 + d = N * 256 ||| d := by
    have := Nat.shiftLeft_add_eq_or_of_lt (show d < 2 ^ 8 by omega) N
    rw [Nat.shiftLeft_eq] at this
    exact this
  rw [← e] at h
  rw [← h]
  congr 1

set_option maxRecDepth 100000 in
set_option maxHeartbeats 8000000 in
theorem figures_any (s : List UInt8) (w : World) (hs : s.length ≤ 100000000) :
    Calls Tryd.prog 32 #[.string ⟨s.toArray⟩] w fun e w' => e = .returned (figuresV s) ∧ Below w.heap.size w w' := by
  by_cases hl : s.length < 8
  · have hlI : (s.length : Int) < 8 := by omega
    have hv : figuresV s = .tuple #[.agg #[.bool false, .int .i64 0, .string ⟨#[]⟩], .string ⟨#[]⟩, .bool false] := by unfold figuresV figuresL; rw [if_pos hl]
    have HV := Lib.hid hv
    clear hv
    go_enter Tryd.func32, Tryd.ntmps32
    go_wp2_with fail
    refine bodyPost_ret (v := .tuple #[.agg #[.bool false, .int .i64 0, .string ⟨#[]⟩], .string ⟨#[]⟩, .bool false]) (by simp [results, Tryd.results32, go_sem]) rfl ?_
    exact ⟨by rw [HV.out], (Below.refl _ _).alloc (Nat.le_refl _) _⟩
  · have hlI : ¬ (s.length : Int) < 8 := by omega
    have hsl := fun w => str_head s 8 (by omega) 8 rfl w
    have hsr := fun w => str_tail s 8 (by omega) 8 rfl w
    have hD : (s.take 8).length = 8 := by rw [List.length_take]; omega
    have hv : figuresV s = .tuple #[.agg #[.bool true, .int .i64 ((fromBE (s.take 8) : Int) - 9223372036854775808), .string ⟨#[]⟩], .string ⟨(s.drop 8).toArray⟩, .bool true] := by unfold figuresV figuresL; rw [if_neg hl]
    have hN := fromBE_lt (s.take 8)
    rw [hD] at hN
    generalize s.take 8 = D at *
    have HV := Lib.hid hv
    clear hv
    obtain ⟨cD, w1, hcv, hb1, hrd, hz1⟩ := bytes_of_str D (w.alloc (.cells #[.bool false, .int .i64 0, .string ⟨#[]⟩] 39))
    rw [show (w.alloc (.cells #[.bool false, .int .i64 0, .string ⟨#[]⟩] 39)).heap.size = w.heap.size + 1 by simp] at hcv hb1 hrd hz1
    have hbk : w1.heap[w.heap.size]? = some (.cells #[.bool false, .int .i64 0, .string ⟨#[]⟩] 39 (0, 0)) := (hb1.block _ (Nat.lt_succ_self _)).trans (heap_alloc_new _ _)
    have hbb : Below w.heap.size w w1 := ((Below.refl _ _).alloc (Nat.le_refl _) _).trans (hb1.mono (Nat.le_succ _))
    have HRD := Lib.hid hrd
    have HBK := Lib.hid hbk
    have HB1 := Lib.hid hbb
    clear hb1 hrd hz1 hbk hbb
    go_enter Tryd.func32, Tryd.ntmps32
    go_wp2_with fail
    go_loopg [5, 16] 8 (fun k n y wr => ∃ i : Nat, y = .int .i64 (i : Int) ∧ i + k = 8 ∧ n = .int .u64 ((fromBE (D.take i) : Nat) : Int) ∧ wr = w1)
    case atStart => exact ⟨0, rfl, rfl, rfl, rfl⟩
    case round =>
      obtain ⟨i, rfl, hi, rfl, rfl⟩ := hrel
      by_cases hlt : i < 8
      · have hltI : (i : Int) < 8 := by omega
        have hiD : i < D.length := by omega
        have hltD : (i : Int) < (D.length : Int) := by omega
        obtain ⟨b, off, hadr, hcl⟩ := HRD.out.at hiD
        simp only [Option.some.injEq, Addr.mk.injEq] at hadr
        obtain ⟨rfl, rfl, _⟩ := hadr
        have c1 := hcl i hiD
        rw [Nat.zero_add] at c1
        have hsn := fromBE_snoc (D.take i) D[i]
        rw [← List.take_succ_eq_append_getElem hiD] at hsn
        have hlt256 := UInt8.toNat_lt D[i]
        have hb := fromBE_lt (D.take i)
        have hb2 : fromBE (D.take i) < 72057594037927936 := by
          have e : (D.take i).length ≤ 7 := by rw [List.length_take]; omega
          have := Nat.pow_le_pow_right (show 0 < 256 by decide) e
          omega
        clear hcl hb
        generalize D[i] = d at *
        have HSN := Lib.hid hsn
        clear hsn
        generalize fromBE (D.take i) = N at *
        have hor := or_low N d.toNat hb2 hlt256
        go_wp2_with fail
        go_roundg (gk - 1)
        case measure => omega
        case rel => exact ⟨i + 1, by first | rfl | (congr 1), by omega, by rw [HSN.out]; congr 1, rfl⟩
      · have hltI : ¬ (i : Int) < 8 := by omega
        have hltD : ¬ (i : Int) < (D.length : Int) := by omega
        have htk : D.take i = D := List.take_of_length_le (by omega)
        rw [htk]
        clear htk
        generalize fromBE D = N at *
        have hN2 : N < 18446744073709551616 := hN
        clear hN
        go_upto_region 9 with (fail)
        refine wp_region_put (by kernel_rfl) (by kernel_rfl) [some 26, some 27, some 28, some 29, some 30, some 31, none, some 3, some 4] rfl (by decide) (by kernel_rfl) (w.heap.size) 39 (#[Value.bool true, Value.int .i64 ((N : Int) - 9223372036854775808), Value.string ⟨#[]⟩]) _ (HBK.out) rfl (w.heap.size) ?_ (fun iX => [VIs (.int .u64 ((N : Nat) : Int)), VIs (.int .u64 (IntKind.u64.wrap ((N : Int) - 9223372036854775808))), VIs (.int .i64 ((N : Int) - 9223372036854775808)), VIs (.agg #[Value.bool true, Value.int .i64 ((N : Int) - 9223372036854775808), Value.string ⟨#[]⟩]), VIs (.string ⟨s.toArray⟩), VIs (.string ⟨(s.drop 8).toArray⟩), VRowIs (w.heap.size) 39 (#[Value.bool true, Value.int .i64 ((N : Int) - 9223372036854775808), Value.string ⟨#[]⟩]), VIs (.string ⟨(s.drop 8).toArray⟩), VIs (.bool true)].getD iX fun _ _ => True) ?_ ?_ ?_ ?_
        · first | omega | simp
        · refine stab_list _ ?_
          intro V hV
          simp only [List.mem_cons, List.mem_nil_iff, or_false] at hV
          rcases hV with rfl | rfl | rfl | rfl | rfl | rfl | rfl | rfl | rfl <;> first | exact VIs.stab _ | exact VBytes.stab _ | exact VStr.stab _ | exact VParts.stab _ | exact VRow.stab _ | exact VRow8.stab _ _ | exact VRowIs.stab _ _ _
        · refine stab2_list _ ?_
          intro V hV
          simp only [List.mem_cons, List.mem_nil_iff, or_false] at hV
          rcases hV with rfl | rfl | rfl | rfl | rfl | rfl | rfl | rfl | rfl <;> first | exact VIs.stab2 _ _ _ | exact VRowIs.stab2 _ _ _ | exact VStr.stab2 _ _ _
        · intro iX o ho a' w' hf hb hgo hd
          rcases iX with _ | _ | _ | _ | _ | _ | _ | _ | _ | iX
          · cases ho
            refine put_op rfl rfl rfl (grow_move rfl ?_)
            exact (hf.same 5 (by decide)).trans rfl
          · cases ho
            refine put_op rfl rfl rfl ?_
            have e0 : a'.tmps.getD 26 undef = .int .u64 ((N : Nat) : Int) := hd 0 (by kernel_rfl)
            refine grow_value (v := .int .u64 (IntKind.u64.wrap ((N : Int) - 9223372036854775808))) (w' := w') ?_ rfl (Below.refl _ _)
            simp only [execOp, Act.eval, e0]
            go_simp
          · cases ho
            refine put_op rfl rfl rfl ?_
            have e1 : a'.tmps.getD 27 undef = .int .u64 (IntKind.u64.wrap ((N : Int) - 9223372036854775808)) := hd 1 (by kernel_rfl)
            refine grow_value (v := .int .i64 ((N : Int) - 9223372036854775808)) (w' := w') ?_ rfl (Below.refl _ _)
            simp only [execOp, Act.eval, e1]
            go_simp
            rw [IntKind.wrap_u64, IntKind.wrap_i64]; omega
          · cases ho
            refine put_op rfl rfl rfl ?_
            have e2 : a'.tmps.getD 28 undef = .int .i64 ((N : Int) - 9223372036854775808) := hd 2 (by kernel_rfl)
            refine grow_call ent_num rfl ?_
            simp only [List.map_toArray, List.map_cons, List.map_nil, Act.eval, e2]
            exact (num_any ((N : Int) - 9223372036854775808) w').mono (fun e w'' ⟨h1, h2⟩ => ⟨_, h1, rfl, h2⟩)
          · cases ho
            refine put_op rfl rfl rfl (grow_move rfl ?_)
            exact (hf.same 0 (by decide)).trans rfl
          · cases ho
            refine put_op rfl rfl rfl ?_
            have e4 : a'.tmps.getD 30 undef = .string ⟨s.toArray⟩ := hd 4 (by kernel_rfl)
            refine grow_value (v := .string ⟨(s.drop 8).toArray⟩) (w' := w') ?_ rfl (Below.refl _ _)
            simp only [execOp, Act.eval, e4]
            go_simp
          · cases ho
            exact put_store rfl rfl 39 (.tmp 2) (.tmp 29) rfl rfl (w.heap.size) (#[Value.bool true, Value.int .i64 ((N : Int) - 9223372036854775808), Value.string ⟨#[]⟩]) ((hf.same 2 (by decide)).trans rfl) (hd 3 (by kernel_rfl)) 39 hgo (by kernel_rfl) (by simp [Value.oneCell']) (by obtain ⟨_, h1, _⟩ := hgo; exact setRow_at h1)
          · cases ho
            refine put_op rfl rfl rfl (grow_assign rfl ?_)
            exact hd 5 (by kernel_rfl)
          · cases ho
            refine put_op rfl rfl rfl ?_
            refine grow_value (v := .bool true) (w' := w') ?_ rfl (Below.refl _ _)
            simp only [execOp, Act.eval]
            go_simp
          · simp at ho
        · intro a' w' hf hb hd
          have h2 : a'.tmps.getD 2 undef = .pointer (some ⟨w.heap.size, 0, none⟩) := (hf.same 2 (by decide)).trans rfl
          have h3 : a'.tmps.getD 3 undef = .string ⟨(s.drop 8).toArray⟩ := hd 7 (by decide)
          have h4 : a'.tmps.getD 4 undef = .bool true := hd 8 (by decide)
          have hst : w'.heap[w.heap.size]? = some (.cells #[.bool true, .int .i64 ((N : Int) - 9223372036854775808), .string ⟨#[]⟩] 39 (0, 0)) := hd 6 (by decide)
          have e0 := Lib.cell_of_heap hst 0
          have e1 := Lib.cell_of_heap hst 1
          have e2 := Lib.cell_of_heap hst 2
          have hdf : a'.defers = [] := hf.defers
          simp only [List.getElem?_toArray] at e0 e1 e2
          simp only [Array.getD_eq_getD_getElem?] at h2 h3 h4
          have HBx := Lib.hid (HB1.out.trans hb)
          clear hd hf hb hst hsl hsr
          go_wp2_with fail
          refine bodyPost_ret (v := .tuple #[.agg #[.bool true, .int .i64 ((N : Int) - 9223372036854775808), .string ⟨#[]⟩], .string ⟨(s.drop 8).toArray⟩, .bool true]) (by simp [results, Tryd.results32, go_sem, h2, h3, h4, e0, e1, e2]) hdf ?_
          exact ⟨by rw [HV.out], HBx.out⟩
end Go.Proofs.YtjofjgjocgooeaaDoor
