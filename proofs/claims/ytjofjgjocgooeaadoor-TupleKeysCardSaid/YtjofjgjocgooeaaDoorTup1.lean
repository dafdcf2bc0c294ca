/- tuple.Next. -/
import Derived.Test.YtjofjgjocgooeaaDoorTupN
import Derived.Test.YtjofjgjocgooeaaDoorGrowB
import Derived.Test.YtjofjgjocgooeaaDoorSl
import Derived.Deep.LoopGhost
import Derived.Deep.DeepCutAuto
set_option linter.unusedVariables false
namespace Go.Proofs.YtjofjgjocgooeaaDoor
open Go.RowKit

set_option maxRecDepth 100000 in
set_option maxHeartbeats 4000000 in
theorem next_any (s : ByteArray) (w : World) (hs : s.size ≤ 1000000) :
    Calls Tryd.prog 12 #[.string s] w fun e w' => ∃ x : List UInt8, e = .returned (.string ⟨x.toArray⟩) ∧ IsNext s.data.toList x ∧ Below w.heap.size w w' := by
  go_enter Tryd.func12, Tryd.ntmps12
  go_wp2_with fail
  go_loopg [3] s.size (fun k v wr => v = .int .i64 (k : Int) ∧ k ≤ s.size ∧ wr = w ∧ Hid (∀ i (h : i < s.size), k ≤ i → s[i] = 255))
  case atStart => exact ⟨rfl, Nat.le_refl _, rfl, Lib.hid (fun i h h' => absurd h (by omega))⟩
  case round =>
    obtain ⟨rfl, hk, rfl, HF⟩ := hrel
    have hlen : s.data.toList.length = s.size := by simp
    have HLEN := Lib.hid hlen
    clear hlen
    by_cases h0 : gk = 0
    · subst h0
      have hnx : IsNext s.data.toList [] := isNext_of (n := 0) (Nat.zero_le _) (fun i h _ => HF.out i (by rw [← HLEN.out]; exact h) (Nat.zero_le _)) (.inl rfl) _ rfl
      have HNX := Lib.hid hnx
      clear hnx
      go_wp2_with fail
      refine bodyPost_ret (results_tmp rfl _ _ _) rfl ?_
      exact ⟨[], rfl, HNX.out, Below.refl _ _⟩
    · obtain ⟨n, rfl⟩ : ∃ n, n = gk := ⟨_, rfl⟩
      have hn1 : n - 1 < s.size := by omega
      have hn0 : 0 < (n : Int) := by omega
      obtain ⟨c, hc⟩ : ∃ c, s[n - 1] = c := ⟨_, rfl⟩
      have hix : ∀ w, (Instr.index 9 (.string s) (.int .i64 ((n : Int) - 1))).run Tryd.prog w = .ok (.int .u8 (c.toNat : Nat)) w := by
        intro w
        rw [run_index_string w 9 s .i64 _ Tryd.underlying9, dif_pos (by omega)]
        have e : ((n : Int) - 1).toNat = n - 1 := by omega
        simp only [e, hc]
      have HIX := Lib.hid hix
      have HC := Lib.hid hc
      clear hix hc
      by_cases hb : c = 255
      · subst hb
        have hix' := HIX.out
        go_wp2_with fail
        go_roundg (n - 1)
        case measure => omega
        case rel => exact ⟨by congr 1; omega, by omega, rfl, Lib.hid (fun i h h' => by
          by_cases e : i = n - 1
          · subst e; exact HC.out
          · exact HF.out i h (by omega))⟩
      · have hcI : ¬ ((c.toNat : Nat) : Int) = 255 := fun e => hb (UInt8.toNat_inj.1 (by show c.toNat = 255; omega))
        have hix' := HIX.out
        obtain ⟨P, hP⟩ : ∃ P, s.data.toList.take (n - 1) = P := ⟨_, rfl⟩
        have hsl : ∀ w, (Instr.slice 9 (.string s) none (some (.int .i64 ((n : Int) - 1))) none).run Tryd.prog w = .ok (.string ⟨P.toArray⟩) w := by
          intro w
          rw [run_slice_string_h w 9 s Tryd.underlying9 .i64 _ (by omega) (by omega)]
          congr 2
          have e : ((n : Int) - 1).toNat = n - 1 := by omega
          rw [e, ← hP]
          apply ByteArray.ext
          apply Array.ext'
          simp [ByteArray.data_extract]
        have hnx : IsNext s.data.toList (P ++ [c + 1]) := isNext_of (n := n) (by rw [HLEN.out]; exact hk) (fun i h h' => HF.out i (by rw [← HLEN.out]; exact h) h') (.inr ⟨by rw [HLEN.out]; exact hn1, by omega, fun e => hb (by rw [← HC.out]; exact e)⟩) _ (by
          rw [if_neg h0, hP]
          congr 3
          rw [← HC.out]
          simp [List.getD_eq_getElem?_getD, hn1]
          rfl)
        have hPl : P.length ≤ 1000000 := by rw [← hP, List.length_take]; omega
        have hcat : (⟨P.toArray⟩ : ByteArray) ++ (⟨#[c + 1]⟩ : ByteArray) = ⟨(P ++ [c + 1]).toArray⟩ := by
          apply ByteArray.ext
          simp
        have HCAT := Lib.hid hcat
        have HNX := Lib.hid hnx
        have HSL := Lib.hid hsl
        clear hP hsl hnx hcat HF HC
        go_upto_region 6 with (fail)
        clear hix'
        refine wp_region_grow (by kernel_rfl) (by kernel_rfl) [19, 20, 21, 22, 23, 24, 25, 26, 27, 28, 29, 30, 2] rfl (by decide) (by kernel_rfl) (fun i => [VIs (.string s), VIs (.int .i64 (n : Int)), VIs (.int .i64 ((n : Int) - 1)), VIs (.string ⟨P.toArray⟩), VIs (.string s), VIs (.int .i64 (n : Int)), VIs (.int .i64 ((n : Int) - 1)), VIs (.int .u8 (c.toNat : Nat)), VIs (.int .u8 ((c + 1).toNat : Nat)), VBytes [c + 1], VStr ([c + 1]), VIs (.string ⟨(P ++ [c + 1]).toArray⟩), VIs (.string ⟨(P ++ [c + 1]).toArray⟩)].getD i fun _ _ => True) (stab_list _ ?_) ?_ ?_
        · intro V hV
          simp only [List.mem_cons, List.mem_nil_iff, or_false] at hV
          rcases hV with rfl | rfl | rfl | rfl | rfl | rfl | rfl | rfl | rfl | rfl | rfl | rfl | rfl <;> first | exact VIs.stab _ | exact VBytes.stab _ | exact VStr.stab _
        · intro i o ho a' w' hf hb hd
          rcases i with _ | _ | _ | _ | _ | _ | _ | _ | _ | _ | _ | _ | _ | i
          · cases ho
            refine grow_op rfl rfl rfl (grow_move rfl ?_)
            exact (hf.same 0 (by decide)).trans rfl
          · cases ho
            refine grow_op rfl rfl rfl (grow_move rfl ?_)
            exact (hf.same 3 (by decide)).trans rfl
          · cases ho
            refine grow_op rfl rfl rfl ?_
            have e1 : a'.tmps.getD 20 undef = .int .i64 (n : Int) := hd 1 (by kernel_rfl)
            refine grow_value (v := .int .i64 ((n : Int) - 1)) (w' := w') ?_ rfl (Below.refl _ _)
            simp only [execOp, Act.eval, e1]
            go_simp
            exact IntWalk.i64_in _ (by omega)
          · cases ho
            refine grow_op rfl rfl rfl ?_
            have e0 : a'.tmps.getD 19 undef = .string s := hd 0 (by kernel_rfl)
            have e2 : a'.tmps.getD 21 undef = .int .i64 ((n : Int) - 1) := hd 2 (by kernel_rfl)
            refine grow_value (v := .string ⟨P.toArray⟩) (w' := w') ?_ rfl (Below.refl _ _)
            simp only [execOp, Act.eval, e0, e2, Option.map_some, Option.map_none, Sem.run_bind]
            rw [run_sliceAt_string _ 9 _ _ _ _ Tryd.underlying9, HSL.out w']
            rfl
          · cases ho
            refine grow_op rfl rfl rfl (grow_move rfl ?_)
            exact (hf.same 0 (by decide)).trans rfl
          · cases ho
            refine grow_op rfl rfl rfl (grow_move rfl ?_)
            exact (hf.same 3 (by decide)).trans rfl
          · cases ho
            refine grow_op rfl rfl rfl ?_
            have e5 : a'.tmps.getD 24 undef = .int .i64 (n : Int) := hd 5 (by kernel_rfl)
            refine grow_value (v := .int .i64 ((n : Int) - 1)) (w' := w') ?_ rfl (Below.refl _ _)
            simp only [execOp, Act.eval, e5]
            go_simp
            exact IntWalk.i64_in _ (by omega)
          · cases ho
            refine grow_op rfl rfl rfl ?_
            have e0 : a'.tmps.getD 23 undef = .string s := hd 4 (by kernel_rfl)
            have e2 : a'.tmps.getD 25 undef = .int .i64 ((n : Int) - 1) := hd 6 (by kernel_rfl)
            refine grow_value (v := .int .u8 (c.toNat : Nat)) (w' := w') ?_ rfl (Below.refl _ _)
            simp only [execOp, Act.eval, e0, e2, Sem.run_bind, HIX.out w']
            rfl
          · cases ho
            refine grow_op rfl rfl rfl ?_
            have e7 : a'.tmps.getD 26 undef = _ := hd 7 (by kernel_rfl)
            refine grow_value (v := .int .u8 ((c + 1).toNat : Nat)) (w' := w') ?_ rfl (Below.refl _ _)
            simp only [execOp, Act.eval, e7]
            go_simp
            rw [IntKind.wrap_u8]
          · cases ho
            refine grow_op rfl rfl rfl ?_
            exact grow_byte1 rfl (hd 8 (by kernel_rfl))
          · cases ho
            refine grow_op rfl rfl rfl ?_
            exact grow_str rfl (hd 9 (by kernel_rfl))
          · cases ho
            refine grow_op rfl rfl rfl ?_
            have e3 : a'.tmps.getD 22 undef = .string ⟨P.toArray⟩ := hd 3 (by kernel_rfl)
            have e10 : a'.tmps.getD 29 undef = .string ⟨[c + 1].toArray⟩ := hd 10 (by kernel_rfl)
            refine grow_value (v := .string ⟨(P ++ [c + 1]).toArray⟩) (w' := w') ?_ rfl (Below.refl _ _)
            simp only [execOp, Act.eval, e3, e10]
            go_simp
            rw [if_neg (by omega), HCAT.out]
          · cases ho
            refine grow_op rfl rfl rfl (grow_assign rfl ?_)
            exact hd 11 (by kernel_rfl)
          · simp at ho
        · intro a' w' hf hb hd
          have h4 : a'.tmps.getD 2 undef = .string ⟨(P ++ [c + 1]).toArray⟩ := hd 12 (by decide)
          have hdf : a'.defers = [] := hf.defers
          have HBx := Lib.hid hb
          have H4 := Lib.hid h4
          clear h4 hd hf hb
          go_wp2_with fail
          refine bodyPost_ret (results_tmp rfl _ _ _) hdf ?_
          exact ⟨_, by rw [H4.out], HNX.out, HBx.out⟩
end Go.Proofs.YtjofjgjocgooeaaDoor
