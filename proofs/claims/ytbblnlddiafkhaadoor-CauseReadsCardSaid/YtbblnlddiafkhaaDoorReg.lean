/- A statement whose order is open, by what holds whatever has been done of it: no order is gone through. -/
import Derived.RegionTactic
import Derived.ScopeJumps
import Derived.WalkKit
set_option linter.unusedVariables false
namespace Go.Proofs.YtbblnlddiafkhaaDoor
open Go.RowKit

theorem wp_region_inv {P : Program} {id : Nat} {l : List Oper} {Q : Exit → Act → World → Prop} {a : Act} {w : World} (hm : P.follows .mixedOrders = true)
    (hac : ((List.range l.length).all fun i => ((l[i]?).map fun o => o.after.all fun e => !Region.binds .any e || decide (e.on < i)).getD true) = true)
    (I : (Nat → Bool) → Act → World → Prop) (h0 : I (fun _ => false) a w.drew)
    (step : ∀ b a w, I b a w → ∀ i o, l[i]? = some o → b i = false → (o.after.all fun e => !Region.binds .any e || b e.on) = true → wpOp P l.toArray Q i (I (fun j => if j = i then true else b j)) a w)
    (done : ∀ b a w, I b a w → (∀ i, i < l.length → b i = true) → Q .normal a w) : (Code.region id l.toArray true).wp P Q a w := by
  refine wp_region_any hm ?_
  have key : ∀ (fuel : Nat) (listed : Array Bool) (b : Nat → Bool) (a : Act) (w : World), listed.size = l.length → (∀ i, i < l.length → b i = listed.getD i false) → (∀ i, l.length ≤ i → b i = false) →
      ((List.range l.length).countP fun i => !b i) ≤ fuel → I b a w → wpAny P .any l.toArray Q fuel listed a w := by
    intro fuel
    induction fuel with
    | zero =>
      intro listed b a w hs hb hb2 hc hI
      have hall : ∀ i, i < l.length → b i = true := by
        intro i hi
        have h1 := List.countP_eq_zero.1 (Nat.le_zero.1 hc) i (List.mem_range.2 hi)
        simpa using h1
      refine ⟨?_, done b a w hI hall⟩
      rw [List.eq_nil_iff_forall_not_mem]
      intro j hj
      obtain ⟨h1, o, ho, _⟩ := mem_ready.1 hj
      have hj' : j < l.length := by
        have := (Array.getElem?_eq_some_iff.1 ho).1
        simpa using this
      have h2 := hall j hj'
      rw [hb j hj'] at h2
      have h3 : listed.getD j true = listed.getD j false := by
        have : j < listed.size := by omega
        simp [Array.getD, this]
      rw [h3, h2] at h1
      cases h1
    | succ fuel ih =>
      intro listed b a w hs hb hb2 hc hI
      refine ⟨?_, ?_⟩
      · intro hr
        refine done b a w hI ?_
        intro i
        induction i using Nat.strongRecOn with
        | _ i ihi =>
          intro hi
          cases hbi : b i with
          | true => rfl
          | false =>
            exfalso
            have hmem : i ∈ Region.ready .any l.toArray listed := by
              refine mem_ready.2 ⟨?_, l[i], by simp [hi], ?_⟩
              · have : i < listed.size := by omega
                have h2 := hb i hi
                rw [hbi] at h2
                simp [Array.getD, this] at h2 ⊢
                exact h2
              · have hac' := (List.all_eq_true.1 hac) i (List.mem_range.2 hi)
                simp only [List.getElem?_eq_getElem hi, Option.map_some, Option.getD_some, Array.all_eq_true_iff_forall_mem] at hac' ⊢
                intro e he
                have h1 := hac' e he
                cases hbd : Region.binds .any e with
                | false => simp
                | true =>
                  rw [hbd] at h1
                  simp at h1
                  have h4 := ihi e.on h1 (by omega)
                  rw [hb e.on (by omega)] at h4
                  simp [h4]
            rw [hr] at hmem
            cases hmem
      · intro i hi
        obtain ⟨h1, o, ho, hall⟩ := mem_ready.1 hi
        have hil : i < l.length := by
          have := (Array.getElem?_eq_some_iff.1 ho).1
          simpa using this
        have ho' : l[i]? = some o := by simpa using ho
        have his : i < listed.size := by omega
        have hbi : b i = false := by
          rw [hb i hil]
          simp [Array.getD, his] at h1 ⊢
          exact h1
        refine wpOp_mono ?_ (step b a w hI i o ho' hbi ?_)
        · intro a' w' hI'
          refine ih _ _ a' w' (by simp [hs]) ?_ ?_ ?_ hI'
          · intro j hj
            by_cases e : j = i
            · subst e
              simp [Array.getD, his]
            · rw [if_neg e, hb j hj]
              have hjs : j < listed.size := by omega
              simp [Array.getD, hjs, Ne.symm e]
          · intro j hj
            rw [if_neg (by omega)]
            exact hb2 j hj
          · have hlt : ((List.range l.length).countP fun j => !(if j = i then true else b j)) < ((List.range l.length).countP fun j => !b j) := by
              have h2 : ∀ (L : List Nat), i ∈ L → L.Nodup → (L.countP fun j => !(if j = i then true else b j)) + 1 = L.countP fun j => !b j := by
                intro L
                induction L with
                | nil => intro h; cases h
                | cons x L ihL =>
                  intro hm hn
                  obtain ⟨hx, hn⟩ := List.nodup_cons.1 hn
                  by_cases e : x = i
                  · subst e
                    have : (L.countP fun j => !(if j = x then true else b j)) = L.countP fun j => !b j := by
                      apply List.countP_congr
                      intro j hj
                      have : j ≠ x := fun e => hx (e ▸ hj)
                      simp [this]
                    rw [List.countP_cons, List.countP_cons, this]
                    simp [hbi]
                  · have hm' : i ∈ L := by
                      rcases List.mem_cons.1 hm with h | h
                      · exact absurd h.symm e
                      · exact h
                    have := ihL hm' hn
                    simp only [List.countP_cons, e, if_false]
                    omega
              have := h2 (List.range l.length) (List.mem_range.2 hil) List.nodup_range
              omega
            omega
        · simp only [Array.all_eq_true_iff_forall_mem] at hall ⊢
          intro e he
          have h2 := hall e he
          cases hbd : Region.binds .any e with
          | false => simp
          | true =>
            rw [hbd] at h2
            simp at h2
            have hac' := (List.all_eq_true.1 hac) i (List.mem_range.2 hil)
            simp only [ho', Option.map_some, Option.getD_some, Array.all_eq_true_iff_forall_mem] at hac'
            have h3 := hac' e he
            rw [hbd] at h3
            simp at h3
            rw [hb e.on (by omega)]
            simp
            have : e.on < listed.size := by omega
            simpa [this] using h2
  refine key _ _ (fun _ => false) a _ (by simp) ?_ (fun _ _ => rfl) ?_ h0
  · intro i hi
    simp [Array.getD, hi]
  · simp

theorem wpOp_plain {P : Program} {ops : Array Oper} {Q : Exit → Act → World → Prop} {i : Nat} {o : Oper} {K : Act → World → Prop} {a : Act} {w : World} (ho : ops[i]? = some o) (hg : o.guard = none)
    (h : Oper.wp P o a w K Q) : wpOp P ops Q i K a w := by
  unfold wpOp
  rw [ho]
  simp only [Region.wanted, hg, if_true]
  exact .inl h

/-- A scope with one label: the way to the label may use what a pass from the label does. -/
theorem wp_scope_again {P : Program} {c X : Code} {Q : Exit → Act → World → Prop} {a : Act} {w : World} (l : Nat) (J : Act → World → Prop) (μ : Act → World → Nat) (hf : findLabel c l = some (Code.skip.seq X))
    (pass : ∀ a w, J a w → X.wp P (Exit.jump l (fun a' w' => J a' w' ∧ μ a' w' < μ a w) Q) a w)
    (first : (∀ a w, J a w → X.wp P (Exit.jump l J Q) a w) → c.wp P (Exit.jump l J Q) a w) : (Code.scope c).wp P Q a w :=
  wp_scope_jumps l J μ hf (first fun a w h => Code.wp_mono (fun e a' w' q => by
    cases e with
    | goto l' => exact ⟨q.1, q.2.1⟩
    | normal => exact q
    | exit _ => exact q
    | ret => exact q
    | panic _ => exact q
    | outgrown => exact q) (pass a w h)) fun a w h => by
      apply wp_seq_k
      intro K hK
      apply wp_skip
      exact hK _ _ (pass a w h)
end Go.Proofs.YtbblnlddiafkhaaDoor
