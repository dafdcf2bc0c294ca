/- Package klaxonref01: a round's numbers. -/
import Derived.Test.YtofoadpnfeamoaaRefB
import Derived.Test.YtofoadpnfeamoaaShaD
set_option linter.unusedVariables false
namespace Go.Proofs.Ytofoadpnfeamoaa
open Go.RowKit

theorem ent_turn : ∀ args w, (callFunc 46 args).run Try.prog w = .ok (.enter 46 args) w := run_enters Try.func46 (by kernel_rfl) rfl
theorem turn_grew {f : FuncId} {args : Array Value} {w : World} {x : Value} (h : Calls Try.prog f args w fun e w' => e = .returned x ∧ ∃ n, w' = w.drewN n) : Calls Try.prog f args w fun e w' => ∃ v, e = .returned v ∧ VIs x v w' ∧ Below w.heap.size w w' :=
  h.mono fun e w' ⟨h1, n, h2⟩ => ⟨_, h1, rfl, by rw [h2]; exact ⟨rfl, rfl, rfl, Nat.le_refl _, fun _ _ => rfl⟩⟩
theorem same_grew {f : FuncId} {args : Array Value} {w : World} {x : Value} (h : Calls Try.prog f args w fun e w' => e = .returned x ∧ w' = w) : Calls Try.prog f args w fun e w' => ∃ v, e = .returned v ∧ VIs x v w' ∧ Below w.heap.size w w' :=
  h.mono fun e w' ⟨h1, h2⟩ => ⟨_, h1, rfl, by rw [h2]; exact Below.refl _ _⟩

theorem i64_and_nat (a b : Nat) (ha : a < 4294967296) (hb : b < 4294967296) : bits .and .i64 (a : Int) (b : Int) = ((a &&& b : Nat) : Int) := i64_and a b (by omega) (by omega)

theorem ref_round1 (e f g h k w : Nat) (he : e < 4294967296) (hf : f < 4294967296) (hg : g < 4294967296) (hh : h < 4294967296) (hk : k < 4294967296) (hw : w < 4294967296) :
    ∃ r6 r11 r25 v1 v2 s1 a1 ne a2 ch s2 s3 s4 : Nat,
      (∀ w', Calls Try.prog 46 #[.int .i64 (e : Nat), .int .i64 6] w' fun x w'' => x = .returned (.int .i64 (r6 : Nat)) ∧ ∃ n, w'' = w'.drewN n) ∧
      (∀ w', Calls Try.prog 46 #[.int .i64 (e : Nat), .int .i64 11] w' fun x w'' => x = .returned (.int .i64 (r11 : Nat)) ∧ ∃ n, w'' = w'.drewN n) ∧
      (∀ w', Calls Try.prog 46 #[.int .i64 (e : Nat), .int .i64 25] w' fun x w'' => x = .returned (.int .i64 (r25 : Nat)) ∧ ∃ n, w'' = w'.drewN n) ∧
      bits .xor .i64 (r6 : Int) (r11 : Int) = (v1 : Int) ∧ bits .xor .i64 (v1 : Int) (r25 : Int) = (v2 : Int) ∧
      IntKind.i64.wrap ((h : Int) + (v2 : Int)) = (s1 : Int) ∧ bits .and .i64 (e : Int) (f : Int) = (a1 : Int) ∧
      IntKind.i64.wrap (4294967295 - (e : Int)) = (ne : Int) ∧ bits .and .i64 (ne : Int) (g : Int) = (a2 : Int) ∧ bits .xor .i64 (a1 : Int) (a2 : Int) = (ch : Int) ∧
      IntKind.i64.wrap ((s1 : Int) + (ch : Int)) = (s2 : Int) ∧ IntKind.i64.wrap ((s2 : Int) + (k : Int)) = (s3 : Int) ∧ IntKind.i64.wrap ((s3 : Int) + (w : Int)) = (s4 : Int) ∧
      s4 % 4294967296 = t1F e f g h k w ∧ s4 < 9223372036854775808 := by
  have l6 := rot_lt e 6 he (by decide)
  have l11 := rot_lt e 11 he (by decide)
  have l25 := rot_lt e 25 he (by decide)
  have lv := xor_lt _ _ l6 l11
  have lv2 := xor_lt _ _ lv l25
  have la := and_lt e f he
  have ln : 4294967295 - e < 4294967296 := by omega
  have lb := and_lt (4294967295 - e) g ln
  have lc := xor_lt _ _ la lb
  refine ⟨rot e 6, rot e 11, rot e 25, rot e 6 ^^^ rot e 11, bs1 e, h + bs1 e, e &&& f, 4294967295 - e, (4294967295 - e) &&& g, chF e f g, h + bs1 e + chF e f g, h + bs1 e + chF e f g + k, h + bs1 e + chF e f g + k + w,
    fun w' => turn_6 e w' he, fun w' => turn_11 e w' he, fun w' => turn_25 e w' he,
    i64_xor_nat _ _ l6 l11, i64_xor_nat _ _ lv l25, ?_, i64_and_nat _ _ he hf, ?_, i64_and_nat _ _ ln hg, i64_xor_nat _ _ la lb, ?_, ?_, ?_, rfl, ?_⟩
  · exact wr_nat (h + bs1 e) (by unfold bs1; omega)
  · have := wr_nat (4294967295 - e) (by omega)
    rw [← this]
    congr 1
    omega
  · exact wr_nat (h + bs1 e + chF e f g) (by unfold bs1 chF; omega)
  · exact wr_nat (h + bs1 e + chF e f g + k) (by unfold bs1 chF; omega)
  · exact wr_nat (h + bs1 e + chF e f g + k + w) (by unfold bs1 chF; omega)
  · unfold bs1 chF; omega

theorem ref_round2 (a b c : Nat) (ha : a < 4294967296) (hb : b < 4294967296) (hc : c < 4294967296) :
    ∃ r2 r13 r22 v1 v2 b1 b2 b3 c1 mj t2 : Nat,
      (∀ w', Calls Try.prog 46 #[.int .i64 (a : Nat), .int .i64 2] w' fun x w'' => x = .returned (.int .i64 (r2 : Nat)) ∧ ∃ n, w'' = w'.drewN n) ∧
      (∀ w', Calls Try.prog 46 #[.int .i64 (a : Nat), .int .i64 13] w' fun x w'' => x = .returned (.int .i64 (r13 : Nat)) ∧ ∃ n, w'' = w'.drewN n) ∧
      (∀ w', Calls Try.prog 46 #[.int .i64 (a : Nat), .int .i64 22] w' fun x w'' => x = .returned (.int .i64 (r22 : Nat)) ∧ ∃ n, w'' = w'.drewN n) ∧
      bits .xor .i64 (r2 : Int) (r13 : Int) = (v1 : Int) ∧ bits .xor .i64 (v1 : Int) (r22 : Int) = (v2 : Int) ∧
      bits .and .i64 (a : Int) (b : Int) = (b1 : Int) ∧ bits .and .i64 (a : Int) (c : Int) = (b2 : Int) ∧ bits .xor .i64 (b1 : Int) (b2 : Int) = (c1 : Int) ∧
      bits .and .i64 (b : Int) (c : Int) = (b3 : Int) ∧ bits .xor .i64 (c1 : Int) (b3 : Int) = (mj : Int) ∧ IntKind.i64.wrap ((v2 : Int) + (mj : Int)) = (t2 : Int) ∧
      t2 % 4294967296 = t2F a b c ∧ t2 < 9223372036854775808 := by
  have l6 := rot_lt a 2 ha (by decide)
  have l11 := rot_lt a 13 ha (by decide)
  have l25 := rot_lt a 22 ha (by decide)
  have lv := xor_lt _ _ l6 l11
  have lv2 := xor_lt _ _ lv l25
  have l1 := and_lt a b ha
  have l2 := and_lt a c ha
  have l3 := and_lt b c hb
  have l4 := xor_lt _ _ l1 l2
  have l5 := xor_lt _ _ l4 l3
  refine ⟨rot a 2, rot a 13, rot a 22, rot a 2 ^^^ rot a 13, bs0 a, a &&& b, a &&& c, b &&& c, (a &&& b) ^^^ (a &&& c), majF a b c, bs0 a + majF a b c, fun w' => turn_2 a w' ha, fun w' => turn_13 a w' ha, fun w' => turn_22 a w' ha,
    i64_xor_nat _ _ l6 l11, i64_xor_nat _ _ lv l25, i64_and_nat _ _ ha hb, i64_and_nat _ _ ha hc, i64_xor_nat _ _ l1 l2, i64_and_nat _ _ hb hc, i64_xor_nat _ _ l4 l3, ?_, rfl, ?_⟩
  · exact wr_nat (bs0 a + majF a b c) (by unfold bs0 majF; omega)
  · unfold bs0 majF; omega

theorem schedU_take (l : List UInt8) (t : Nat) : schedU (l.take 64) t = schedU l t :=
  schedU_congr _ _ (fun i hi => by simp [List.getD_eq_getElem?_getD, hi]) t
/-- The first j numbers have had the block's own put to them (the other way round). -/
theorem mix_step' (R st : List Nat) (hR : St8 R) (hst : St8 st) (j : Nat) (hj : j < 8) : ∃ r x, (mix st R j)[j]? = some r ∧ R[j]? = some x ∧ r < 4294967296 ∧ x < 4294967296 ∧ mix st R (j + 1) = (mix st R j).set j ((r + x) % 4294967296) := mix_step st R hst hR j hj
theorem mix_comm (R st : List Nat) (hR : St8 R) (hst : St8 st) : mix st R 8 = List.zipWith (fun x y => (x + y) % 4294967296) R st := by
  rw [mix_all st R hst hR]
  obtain ⟨a, b, c, d, e, f, g, i, rfl, _⟩ := hR.shape
  obtain ⟨a', b', c', d', e', f', g', i', rfl, _⟩ := hst.shape
  simp [Nat.add_comm]
end Go.Proofs.Ytofoadpnfeamoaa
