/- strconv.Itoa; token.front. -/
import Derived.Test.YtbblnlddiafkhaaDoorTok2
import Derived.Lib.AppendIntMem
import Derived.Lib.ItoaMem
set_option linter.unusedVariables false
namespace Go.Proofs.YtbblnlddiafkhaaDoor
open Go.RowKit

def Pow (w : World) : Prop := Lib.TabIs Tryd.prog w "internal/strconv.uint64pow10" .u64 Lib.pow10Tab
theorem Pow.below {w w' : World} (h : Pow w) (hb : Below w.heap.size w w') : Pow w' := by
  unfold Pow Lib.TabIs at h ⊢
  unfold World.var? at h ⊢
  cases hg : Tryd.prog.globalNamed "internal/strconv.uint64pow10" with
  | none => simp [hg] at h
  | some g =>
    simp only [hg, Option.bind_some] at h ⊢
    have hlt : g < w.heap.size := by
      rcases Nat.lt_or_ge g w.heap.size with h' | h'
      · exact h'
      · simp [Array.getElem?_eq_none h'] at h
    rw [hb.block g hlt]
    exact h
theorem itoa_any (n : Nat) (w : World) (hn : n ≤ 1099511627776) (hp : Pow w) :
    Calls Tryd.prog 39 #[.int .i64 (n : Int)] w fun e w' => e = .returned (.string ⟨(Lib.decDigits n).toArray⟩) ∧ Below w.heap.size w w' := by
  refine (Tryd.strconv_Itoa (n : Int) (by omega) (by omega) w hp).mono ?_
  rintro e w' ⟨rfl, k, os, rfl⟩
  rw [Lib.itoa_nonneg]
  exact ⟨rfl, Lib.below_grow _ _ (Nat.le_refl _) k os⟩
theorem ent_itoa : ∀ args w, (callFunc 39 args).run Tryd.prog w = .ok (.enter 39 args) w := run_enters Tryd.func39 (by kernel_rfl) rfl
set_option maxRecDepth 100000 in
set_option maxHeartbeats 4000000 in
theorem front_any (k : UInt8) (n : Nat) (w : World) (hn : n ≤ 1099511627776) (hp : Pow w) :
    Calls Tryd.prog 29 #[.int .u8 (k.toNat : Int), .int .i64 (n : Int)] w fun e w' => e = .returned (.string ⟨(k :: Lib.decDigits n).toArray⟩) ∧ Below w.heap.size w w' := by
  have HP := Lib.hid hp
  clear hp
  have hlen := dec_len n 13 (by decide) (by have : (10 : Nat) ^ 13 = 10000000000000 := by decide
                                            omega)
  have hcat : (⟨#[k]⟩ : ByteArray) ++ (⟨(Lib.decDigits n).toArray⟩ : ByteArray) = ⟨(k :: Lib.decDigits n).toArray⟩ := by
    apply ByteArray.ext
    simp
  have HCAT := Lib.hid hcat
  clear hcat
  go_enter Tryd.func29, Tryd.ntmps29
  go_upto_region 1 with (fail)
  refine wp_region_grow (by kernel_rfl) (by kernel_rfl) [5, 6, 7, 8, 9, 10, 4] rfl (by decide) (by kernel_rfl) (fun iX => [VIs (.int .u8 (k.toNat : Int)), VBytes [k], VStr [k], VIs (.int .i64 (n : Int)), VIs (.string ⟨(Lib.decDigits n).toArray⟩), VIs (.string ⟨(k :: Lib.decDigits n).toArray⟩), VIs (.string ⟨(k :: Lib.decDigits n).toArray⟩)].getD iX fun _ _ => True) (stab_list _ ?_) ?_ ?_
  · skip
    intro V hV
    simp only [List.mem_cons, List.mem_nil_iff, or_false] at hV
    rcases hV with rfl | rfl | rfl | rfl | rfl | rfl | rfl <;> first | exact VIs.stab _ | exact VBytes.stab _ | exact VStr.stab _ | exact VParts.stab _ | exact VRow.stab _ | exact VRow8.stab _ _ | exact VRowIs.stab _ _ _
  · intro iX o ho a' w' hf hb hd
    rcases iX with _ | _ | _ | _ | _ | _ | _ | iX
    · cases ho
      refine grow_op rfl rfl rfl (grow_move rfl ?_)
      exact (hf.same 0 (by decide)).trans rfl
    · cases ho
      refine grow_op rfl rfl rfl ?_
      exact grow_byte1 rfl (hd 0 (by kernel_rfl))
    · cases ho
      refine grow_op rfl rfl rfl ?_
      exact grow_str rfl (hd 1 (by kernel_rfl))
    · cases ho
      refine grow_op rfl rfl rfl (grow_move rfl ?_)
      exact (hf.same 1 (by decide)).trans rfl
    · cases ho
      refine grow_op rfl rfl rfl ?_
      have e3 : a'.tmps.getD 8 undef = .int .i64 (n : Int) := hd 3 (by kernel_rfl)
      refine grow_call ent_itoa rfl ?_
      simp only [List.map_toArray, List.map_cons, List.map_nil, Act.eval, e3]
      exact (itoa_any n w' hn (HP.out.below hb)).mono (fun e w'' ⟨h1, h2⟩ => ⟨_, h1, rfl, h2⟩)
    · cases ho
      refine grow_op rfl rfl rfl ?_
      have e2 : a'.tmps.getD 7 undef = .string ⟨[k].toArray⟩ := hd 2 (by kernel_rfl)
      have e4 : a'.tmps.getD 9 undef = .string ⟨(Lib.decDigits n).toArray⟩ := hd 4 (by kernel_rfl)
      refine grow_value (v := .string ⟨(k :: Lib.decDigits n).toArray⟩) (w' := w') ?_ rfl (Below.refl _ _)
      simp only [execOp, Act.eval, e2, e4]
      go_simp
      rw [if_neg (by omega), HCAT.out]
    · cases ho
      refine grow_op rfl rfl rfl (grow_assign rfl ?_)
      exact hd 5 (by kernel_rfl)
    · simp at ho
  · intro a' w' hf hb hd
    obtain ⟨a6, c6, hv6, _⟩ := hd 1 (by decide)
    obtain rfl := hf.eq [Value.int IntKind.u8 (k.toNat : Int), Value.slice a6 [k].length c6, Value.string ⟨[k].toArray⟩, Value.int IntKind.i64 (n : Int), Value.string ⟨(Lib.decDigits n).toArray⟩, Value.string ⟨(k :: Lib.decDigits n).toArray⟩, Value.string ⟨(k :: Lib.decDigits n).toArray⟩] (fun j hj => match j, hj with
      | 0, _ => hd 0 (by decide)
      | 1, _ => hv6
      | 2, _ => hd 2 (by decide)
      | 3, _ => hd 3 (by decide)
      | 4, _ => hd 4 (by decide)
      | 5, _ => hd 5 (by decide)
      | 6, _ => hd 6 (by decide)
      | k + 7, h => absurd h (by simp)) (by decide) (by kernel_rfl) rfl
    simp only [List.zip_cons_cons, List.zip_nil_right, List.foldl_cons, List.foldl_nil, Act.put, List.setIfInBounds_toArray, List.set_cons_succ, List.set_cons_zero]
    have HB := Lib.hid hb
    clear hd hf hb hv6
    go_wp2_with fail
    go_ret
    exact ⟨rfl, HB.out⟩
end Go.Proofs.YtbblnlddiafkhaaDoor
