/- sha.compress: a round's sums, step by step. -/
import Derived.Test.YtbblnlddiafkhaaDoorShaB
import Derived.Test.YtbblnlddiafkhaaDoorReg
set_option linter.unusedVariables false
namespace Go.Proofs.YtbblnlddiafkhaaDoor
open Go.RowKit

/-- As wp_region_still_lit: the world behind the region has a name of its own. -/
theorem still_named {P : Program} {id : Nat} {Q : Exit → Act → World → Prop} {a : Act} {w : World} {l : List Oper} (hm : P.follows .mixedOrders = true) (hB : Region.lexB .any l.toArray = true)
    (h : ∀ wq, Hid (wq = w.drew) → wpStill P l.toArray w.drew (fun a' => Q .normal a' wq) l a) : (Code.region id l.toArray true).wp P Q a w :=
  wp_region_still_lit hm hB (h _ (Lib.hid rfl))

theorem bits_not (e : Nat) (he : e < 4294967296) : bits .xor .u32 4294967295 (e : Int) = ((4294967295 - e : Nat) : Int) := by
  have h := u32_xor_nat 4294967295 e (by decide) he
  rw [show ((4294967295 : Nat) : Int) = 4294967295 by rfl] at h
  rw [h]
  congr 1
  have h2 : ∀ x : BitVec 32, BitVec.allOnes 32 ^^^ x = ~~~ x := fun x => BitVec.allOnes_xor
  have h3 := congrArg BitVec.toNat (h2 (BitVec.ofNat 32 e))
  rw [BitVec.toNat_xor, BitVec.toNat_not, BitVec.toNat_allOnes, BitVec.toNat_ofNat, Nat.mod_eq_of_lt (by omega : e < 2 ^ 32)] at h3
  exact h3

theorem wrap_sum (x y : Nat) : IntKind.u32.wrap ((x : Int) + (y : Int)) = (((x + y) % 4294967296 : Nat) : Int) := by rw [IntKind.wrap_u32]; omega

theorem round1 (e f g h k w : Nat) (he : e < 4294967296) (hf : f < 4294967296) (hg : g < 4294967296) (hh : h < 4294967296) (hk : k < 4294967296) (hw : w < 4294967296) :
    ∃ r6 r11 r25 v1 v2 s1 a1 ne a2 ch s2 s3 t1 : Nat,
      (∀ w', Calls Tryd.prog 86 #[.int .u32 e, .int .i64 6] w' fun x w'' => x = .returned (.int .u32 (r6 : Nat)) ∧ w'' = w') ∧
      (∀ w', Calls Tryd.prog 86 #[.int .u32 e, .int .i64 11] w' fun x w'' => x = .returned (.int .u32 (r11 : Nat)) ∧ w'' = w') ∧
      (∀ w', Calls Tryd.prog 86 #[.int .u32 e, .int .i64 25] w' fun x w'' => x = .returned (.int .u32 (r25 : Nat)) ∧ w'' = w') ∧
      bits .xor .u32 (r6 : Int) (r11 : Int) = (v1 : Int) ∧ bits .xor .u32 (v1 : Int) (r25 : Int) = (v2 : Int) ∧
      IntKind.u32.wrap ((h : Int) + (v2 : Int)) = (s1 : Int) ∧ bits .and .u32 (e : Int) (f : Int) = (a1 : Int) ∧
      bits .xor .u32 4294967295 (e : Int) = (ne : Int) ∧ bits .and .u32 (ne : Int) (g : Int) = (a2 : Int) ∧ bits .xor .u32 (a1 : Int) (a2 : Int) = (ch : Int) ∧
      IntKind.u32.wrap ((s1 : Int) + (ch : Int)) = (s2 : Int) ∧ IntKind.u32.wrap ((s2 : Int) + (k : Int)) = (s3 : Int) ∧ IntKind.u32.wrap ((s3 : Int) + (w : Int)) = (t1 : Int) ∧
      t1 = t1F e f g h k w ∧ t1 < 4294967296 := by
  have l6 := rot_lt e 6 he (by decide)
  have l11 := rot_lt e 11 he (by decide)
  have l25 := rot_lt e 25 he (by decide)
  have lv := xor_lt _ _ l6 l11
  have la := and_lt e f he
  have ln : 4294967295 - e < 4294967296 := by omega
  have lb := and_lt (4294967295 - e) g ln
  refine ⟨rot e 6, rot e 11, rot e 25, _, _, _, _, _, _, _, _, _, _, fun w' => rt_6 e w' he, fun w' => rt_11 e w' he, fun w' => rt_25 e w' he,
    u32_xor_nat _ _ l6 l11, u32_xor_nat _ _ lv l25, wrap_sum _ _, u32_and_nat _ _ he hf, bits_not _ he, u32_and_nat _ _ ln hg, u32_xor_nat _ _ la lb, wrap_sum _ _, wrap_sum _ _, wrap_sum _ _, ?_, Nat.mod_lt _ (by decide)⟩
  unfold t1F bs1 chF
  simp only [Nat.add_mod, Nat.mod_mod]

theorem round2 (a b c : Nat) (ha : a < 4294967296) (hb : b < 4294967296) (hc : c < 4294967296) :
    ∃ r2 r13 r22 v1 v2 b1 b2 b3 c1 mj t2 : Nat,
      (∀ w', Calls Tryd.prog 86 #[.int .u32 a, .int .i64 2] w' fun x w'' => x = .returned (.int .u32 (r2 : Nat)) ∧ w'' = w') ∧
      (∀ w', Calls Tryd.prog 86 #[.int .u32 a, .int .i64 13] w' fun x w'' => x = .returned (.int .u32 (r13 : Nat)) ∧ w'' = w') ∧
      (∀ w', Calls Tryd.prog 86 #[.int .u32 a, .int .i64 22] w' fun x w'' => x = .returned (.int .u32 (r22 : Nat)) ∧ w'' = w') ∧
      bits .xor .u32 (r2 : Int) (r13 : Int) = (v1 : Int) ∧ bits .xor .u32 (v1 : Int) (r22 : Int) = (v2 : Int) ∧
      bits .and .u32 (a : Int) (b : Int) = (b1 : Int) ∧ bits .and .u32 (a : Int) (c : Int) = (b2 : Int) ∧ bits .xor .u32 (b1 : Int) (b2 : Int) = (c1 : Int) ∧
      bits .and .u32 (b : Int) (c : Int) = (b3 : Int) ∧ bits .xor .u32 (c1 : Int) (b3 : Int) = (mj : Int) ∧ IntKind.u32.wrap ((v2 : Int) + (mj : Int)) = (t2 : Int) ∧
      t2 = t2F a b c ∧ t2 < 4294967296 := by
  have l6 := rot_lt a 2 ha (by decide)
  have l11 := rot_lt a 13 ha (by decide)
  have l25 := rot_lt a 22 ha (by decide)
  have lv := xor_lt _ _ l6 l11
  have l1 := and_lt a b ha
  have l2 := and_lt a c ha
  have l3 := and_lt b c hb
  have l4 := xor_lt _ _ l1 l2
  exact ⟨rot a 2, rot a 13, rot a 22, _, _, _, _, _, _, _, _, fun w' => rt_2 a w' ha, fun w' => rt_13 a w' ha, fun w' => rt_22 a w' ha,
    u32_xor_nat _ _ l6 l11, u32_xor_nat _ _ lv l25, u32_and_nat _ _ ha hb, u32_and_nat _ _ ha hc, u32_xor_nat _ _ l1 l2, u32_and_nat _ _ hb hc, u32_xor_nat _ _ l4 l3, wrap_sum _ _, rfl, Nat.mod_lt _ (by decide)⟩

theorem build8 (a b c d e f g h : Int) : Tryd.prog.built 111 [(0, .int .u32 a), (1, .int .u32 b), (2, .int .u32 c), (3, .int .u32 d), (4, .int .u32 e), (5, .int .u32 f), (6, .int .u32 g), (7, .int .u32 h)] = some #[.int .u32 a, .int .u32 b, .int .u32 c, .int .u32 d, .int .u32 e, .int .u32 f, .int .u32 g, .int .u32 h] := by kernel_rfl
theorem wpList_built {P : Program} {Q : Exit → Act → World → Prop} {ops : Array Oper} {rest : List Oper} {o : Oper} {a : Act} {w : World} (hg : o.guard = none) (t : TypeId) (parts : Array (Nat × Operand)) (ho : o.op = .build t parts)
    (cells : Array Value) (hf : P.built t (parts.map fun (i, x) => (i, a.eval x)).toList = some cells)
    (h : wpList P ops Q rest (a.put o.dst (.agg cells)) w) : wpList P ops Q (o :: rest) a w :=
  wpList_build hg t parts ho (by rw [hf]; rfl) (by rw [hf]; exact h)

theorem kAt_lt (t : Nat) : kAt t < 4294967296 := by
  unfold kAt
  by_cases h : t < 64
  · have : ∀ i : Fin 64, kTab.getD i.val 0 < 4294967296 := by decide +kernel
    exact this ⟨t, h⟩
  · rw [List.getD_eq_getElem?_getD, List.getElem?_eq_none (by simp [kTab]; omega)]
    decide
end Go.Proofs.YtbblnlddiafkhaaDoor
