/- As wp_region_grow, of a statement whose order is told. -/
import Derived.Test.YtofoadpnfeamoaaGrow
set_option linter.unusedVariables false
namespace Go.Proofs.Ytofoadpnfeamoaa
open Go.RowKit

theorem wp_region_grow_lit {P : Program} {id : Nat} {l : List Oper} {Q : Exit → Act → World → Prop} {a : Act} {w : World}
    (hac : ((List.range l.length).all fun i => ((l[i]?).map fun o => o.after.all fun e => !Region.binds .any e || decide (e.on < i)).getD true) = true)
    (ds : List Nat) (hds : (l.map (·.dst)) = ds.map some) (hnd : ds.Nodup) (hlt : ds.all (fun d => decide (d < a.tmps.size)) = true)
    (V : Nat → Value → World → Prop) (hV : ∀ i v w1 w2, V i v w1 → Below w1.heap.size w1 w2 → V i v w2)
    (step : ∀ i o, l[i]? = some o → ∀ a' w', Fr ds a a' → Below w.heap.size w w' → (∀ j, (o.after.any fun e => Region.binds .any e && e.on == j) = true → V j (a'.tmps.getD (ds.getD j 0) undef) w') →
      wpOp P l.toArray Q i (fun a'' w'' => ∃ v, a'' = a'.put (some (ds.getD i 0)) v ∧ V i v w'' ∧ Below w'.heap.size w' w'') a' w')
    (done : ∀ a' w', Fr ds a a' → Below w.heap.size w w' → (∀ j, j < l.length → V j (a'.tmps.getD (ds.getD j 0) undef) w') → Q .normal a' w') :
    (Code.region id l.toArray false).wp P Q a w := by
  have hlen : l.length = ds.length := by have := congrArg List.length hds; simpa using this
  have hmem : ∀ j, j < l.length → ds.getD j 0 ∈ ds := by
    intro j hj
    rw [List.getD_eq_getElem?_getD, List.getElem?_eq_getElem (by omega)]
    exact List.getElem_mem _
  have hinj : ∀ i j, i < l.length → j < l.length → ds.getD i 0 = ds.getD j 0 → i = j := by
    intro i j hi hj e
    rw [List.getD_eq_getElem?_getD, List.getElem?_eq_getElem (by omega), List.getD_eq_getElem?_getD, List.getElem?_eq_getElem (by omega)] at e
    exact (List.getElem_inj hnd).1 e
  have key : ∀ n i, i + n = l.length → ∀ a' w', Fr ds a a' → Below w.heap.size w w' → (∀ j, j < i → V j (a'.tmps.getD (ds.getD j 0) undef) w') → wpList P l.toArray Q (l.drop i) a' w' := by
    intro n
    induction n with
    | zero =>
      intro i hi a' w' hf hb hall
      rw [List.drop_eq_nil_of_le (by omega)]
      exact done a' w' hf hb fun j hj => hall j (by omega)
    | succ n ih =>
      intro i hi a' w' hf hb hall
      have hil : i < l.length := by omega
      have ho : l[i]? = some l[i] := List.getElem?_eq_getElem hil
      rw [List.drop_eq_getElem_cons hil]
      have hst := step i l[i] ho a' w' hf hb ?_
      · have h2 : wpOp P l.toArray Q i (fun a' w' => wpList P l.toArray Q (l.drop (i + 1)) a' w') a' w' := by
          refine wpOp_mono ?_ hst
          rintro a'' w'' ⟨v, rfl, hv, hb'⟩
          refine ih (i + 1) (by omega) _ _ (hf.put (hmem i hil) v) (hb.trans (hb'.mono hb.size)) fun j hj => ?_
          by_cases e : j = i
          · subst e
            rw [put_at]
            · exact hv
            · rw [hf.size]
              have := (List.all_eq_true.1 hlt) _ (hmem j hil)
              simpa using this
          · rw [put_other _ _ _ _ (fun e' => e (hinj _ _ (by omega) hil e'))]
            exact hV _ _ _ _ (hall j (by omega)) hb'
        unfold wpOp at h2
        rw [show l.toArray[i]? = some l[i] by simp] at h2
        exact h2
      · intro j hj
        rw [← depsAt_mem ho] at hj
        refine hall j ?_
        rw [depsAt_mem ho] at hj
        obtain ⟨k, hk, hj2⟩ := Array.any_eq_true.1 hj
        simp only [Bool.and_eq_true, beq_iff_eq] at hj2
        have hac' := (List.all_eq_true.1 hac) i (List.mem_range.2 hil)
        simp only [ho, Option.map_some, Option.getD_some] at hac'
        have := (Array.all_eq_true.1 hac') k hk
        rw [hj2.1, hj2.2] at this
        simpa using this
  apply wp_region_lit
  have h0 := key l.length 0 (by omega) a w (Fr.refl _ _) (Below.refl _ _) (fun j hj => by omega)
  rw [List.drop_zero] at h0
  exact h0
end Go.Proofs.Ytofoadpnfeamoaa
