/- Merged: JsMp, JsMq, JsMbp, JsWi, JsWk, JsWl, JsWm, JsWn, JsWq, JsWu, JsWv, JsWp, JsMbw, JsDf, JsDw, JsWq2, GrowN. -/
import Derived.Lib.SliceRun
import Derived.Test.YtfcokdkbjajohaaGreatDoorMg1
import Derived.Test.YtfcokdkbjajohaaGreatDoorMg2
import Derived.Test.YtfcokdkbjajohaaGreatDoorMg3
import Derived.Test.YtfcokdkbjajohaaGreatDoorMg4
import Derived.Test.YtfcokdkbjajohaaGreatDoorMg5
import Derived.Test.YtfcokdkbjajohaaGreatDoorMg6
import Derived.Test.YtfcokdkbjajohaaGreatDoorMg7
/- json, plain: a member set, a member dropped; what stays right. -/
set_option linter.unusedVariables false
namespace Go.Proofs.YtfcokdkbjajohaaGreatDoor

/-- A name set to a value: in its place, or at the end. -/
def withM (n : List UInt8) (v : JV) : List (List UInt8 × JV) → List (List UInt8 × JV)
  | [] => [(n, v)]
  | p :: m => if p.1 = n then (p.1, v) :: m else p :: withM n v m
/-- A name dropped, wherever it stands. -/
def withoutM (n : List UInt8) (m : List (List UInt8 × JV)) : List (List UInt8 × JV) := m.filter fun p => decide (p.1 ≠ n)
theorem withM_get (n k : List UInt8) (v : JV) : ∀ m, getM k (withM n v m) = if k = n then some v else getM k m
  | [] => by
    rw [withM]
    simp only [getM]
    by_cases h : k = n
    · rw [if_pos h.symm, if_pos h]
    · rw [if_neg (fun e => h e.symm), if_neg h]
  | p :: m => by
    have ih := withM_get n k v m
    rw [withM]
    by_cases hp : p.1 = n
    · rw [if_pos hp]
      simp only [getM]
      by_cases h : k = n
      · rw [if_pos (hp.trans h.symm), if_pos h]
      · have : ¬ p.1 = k := fun e => h (e.symm.trans hp)
        rw [if_neg this, if_neg h, if_neg this]
    · rw [if_neg hp]
      simp only [getM]
      by_cases h : p.1 = k
      · have hk : ¬ k = n := fun e => hp (h.trans e)
        rw [if_pos h, if_neg hk, if_pos h]
      · rw [if_neg h, ih, if_neg h]
theorem withM_right (n : List UInt8) (v : JV) (hn : toldB n = true) (hv : rightJ v = true) : ∀ m, rightM m = true → rightM (withM n v m) = true
  | [], _ => by simp [withM, rightM, hn, hv, getM]
  | p :: m, h => by
    have ih := withM_right n v hn hv m
    rw [rightM, Bool.and_eq_true, Bool.and_eq_true, Bool.and_eq_true] at h
    rw [withM]
    by_cases hp : p.1 = n
    · rw [if_pos hp, rightM]
      simp [h.1.1.1, hv, h.1.2, h.2]
    · rw [if_neg hp, rightM, withM_get, if_neg hp, ih h.2, h.1.1.1, h.1.1.2, h.1.2]
      rfl
theorem without_none (n k : List UInt8) : ∀ m, getM k (withoutM n m) = if k = n then none else getM k m
  | [] => by simp [withoutM, getM]
  | p :: m => by
    have ih := without_none n k m
    unfold withoutM at ih ⊢
    rw [List.filter_cons]
    by_cases hp : p.1 = n
    · rw [if_neg (by simpa using hp), ih]
      simp only [getM]
      by_cases h : k = n
      · rw [if_pos h, if_pos h]
      · rw [if_neg h, if_neg h, if_neg (fun e => h (e.symm.trans hp))]
    · rw [if_pos (by simpa using hp)]
      simp only [getM]
      by_cases h : p.1 = k
      · rw [if_pos h, if_neg (fun e => hp (h.trans e)), if_pos h]
      · rw [if_neg h, ih, if_neg h]
theorem without_right (n : List UInt8) : ∀ m, rightM m = true → rightM (withoutM n m) = true
  | [], _ => rfl
  | p :: m, h => by
    have ih := without_right n m
    rw [rightM, Bool.and_eq_true, Bool.and_eq_true, Bool.and_eq_true] at h
    have hg := without_none n p.1 m
    unfold withoutM at ih hg ⊢
    rw [List.filter_cons]
    by_cases hp : p.1 = n
    · rw [if_neg (by simpa using hp)]
      exact ih h.2
    · rw [if_pos (by simpa using hp), rightM, hg, if_neg hp, ih h.2, h.1.1.1, h.1.1.2, h.1.2]
      rfl
mutual
/-- A value patched by another. -/
def mergeJ : JV → JV → JV
  | v, .mk k y t l m => if k = 6 then jobj (mergeM (if v.kind = 6 then v.mem else []) m) else .mk k y t l m
/-- .. members, one behind the other. -/
def mergeM : List (List UInt8 × JV) → List (List UInt8 × JV) → List (List UInt8 × JV)
  | o, [] => o
  | o, (n, u) :: m => mergeM (if u.kind = 1 then withoutM n o else withM n (mergeJ ((getM n o).getD .zero) u) o) m
end
theorem get_right : ∀ {m : List (List UInt8 × JV)} {n : List UInt8} {v : JV}, rightM m = true → getM n m = some v → rightJ v = true
  | p :: m, n, v, h, hg => by
    rw [rightM, Bool.and_eq_true, Bool.and_eq_true, Bool.and_eq_true] at h
    rw [getM] at hg
    by_cases hp : p.1 = n
    · rw [if_pos hp] at hg
      rw [← Option.some.inj hg]
      exact h.1.1.2
    · rw [if_neg hp] at hg
      exact get_right h.2 hg
mutual
theorem mergeJ_right : ∀ (u v : JV), (rightJ v = true ∨ v.kind ≠ 6) → rightJ u = true → rightJ (mergeJ v u) = true
  | .mk k y t l m, v, hv, hu => by
    have hm := mergeM_right m
    rw [mergeJ]
    by_cases h6 : k = 6
    · rw [if_pos h6]
      subst h6
      have hmr : rightM m = true := by
        rcases right_cases hu with e | ⟨_, e⟩ | ⟨_, e, _⟩ | ⟨_, e, _⟩ | ⟨_, e, _⟩ | ⟨_, e, h⟩ <;> simp [jnull, jbool, jnum, jstr, jarr, jobj] at e
        rw [e.2.2.2]
        exact h
      have ho : rightM (if v.kind = 6 then v.mem else []) = true := by
        by_cases hk : v.kind = 6
        · rw [if_pos hk]
          have hv' := hv.resolve_right (fun e => e hk)
          rcases right_cases hv' with e | ⟨_, e⟩ | ⟨_, e, _⟩ | ⟨_, e, _⟩ | ⟨_, e, _⟩ | ⟨_, e, h⟩ <;> subst e <;> simp [jnull, jbool, jnum, jstr, jarr, jobj, JV.kind] at hk
          exact h
        · rw [if_neg hk]; rfl
      have := hm _ ho hmr
      simp [jobj, rightJ, this]
    · rw [if_neg h6]
      exact hu
theorem mergeM_right : ∀ (m o : List (List UInt8 × JV)), rightM o = true → rightM m = true → rightM (mergeM o m) = true
  | [], o, ho, _ => by rw [mergeM]; exact ho
  | (n, u) :: m, o, ho, hm => by
    have hj := mergeJ_right u
    have hr := mergeM_right m
    rw [rightM, Bool.and_eq_true, Bool.and_eq_true, Bool.and_eq_true] at hm
    rw [mergeM]
    refine hr _ ?_ hm.2
    by_cases h1 : u.kind = 1
    · rw [if_pos h1]
      exact without_right n o ho
    · rw [if_neg h1]
      refine withM_right n _ hm.1.1.1 (hj _ ?_ hm.1.1.2) o ho
      cases hg : getM n o with
      | none => exact .inr (by decide)
      | some x => exact .inl (get_right ho hg)
end
end Go.Proofs.YtfcokdkbjajohaaGreatDoor
/- json, plain: the members behind a merge: their names in order, and what stands at each. -/
set_option linter.unusedVariables false
namespace Go.Proofs.YtfcokdkbjajohaaGreatDoor

/-- Does a name stay under a patch? -/
def keepM (m : List (List UInt8 × JV)) (k : List UInt8) : Bool := match getM k m with
  | some u => u.kind != 1
  | none => true
/-- Is a patch's member new? -/
def newM (o : List (List UInt8)) (p : List UInt8 × JV) : Bool := !(o.contains p.1) && p.2.kind != 1
theorem withM_names (n : List UInt8) (v : JV) : ∀ m, (withM n v m).map Prod.fst = if n ∈ m.map Prod.fst then m.map Prod.fst else m.map Prod.fst ++ [n]
  | [] => by simp [withM]
  | p :: m => by
    have ih := withM_names n v m
    rw [withM]
    by_cases hp : p.1 = n
    · rw [if_pos hp]
      have : n ∈ (p :: m).map Prod.fst := by simp [hp]
      rw [if_pos this]
      rfl
    · rw [if_neg hp]
      by_cases hm : n ∈ m.map Prod.fst
      · rw [if_pos hm] at ih
        have : n ∈ (p :: m).map Prod.fst := by rw [List.map_cons]; exact List.mem_cons_of_mem _ hm
        rw [if_pos this, List.map_cons, ih]
        rfl
      · rw [if_neg hm] at ih
        have : n ∉ (p :: m).map Prod.fst := by
          rw [List.map_cons]
          intro h
          rcases List.mem_cons.1 h with h | h
          · exact hp h.symm
          · exact hm h
        rw [if_neg this, List.map_cons, ih]
        rfl
theorem without_names (n : List UInt8) : ∀ m, (withoutM n m).map Prod.fst = (m.map Prod.fst).filter fun k => decide (k ≠ n)
  | [] => rfl
  | p :: m => by
    have ih := without_names n m
    unfold withoutM at ih ⊢
    rw [List.filter_cons, List.map_cons, List.filter_cons]
    by_cases hp : p.1 = n
    · rw [if_neg (by simpa using hp), if_neg (by simpa using hp), ih]
    · rw [if_pos (by simpa using hp), if_pos (by simpa using hp), List.map_cons, ih]
theorem get_iff (k : List UInt8) (m : List (List UInt8 × JV)) : getM k m = none ↔ k ∉ m.map Prod.fst := by
  have := getM_none k m
  cases h : getM k m with
  | none => rw [h] at this; simpa using this
  | some x => rw [h] at this; simpa using this
theorem keep_cons (n : List UInt8) (u : JV) (m : List (List UInt8 × JV)) (k : List UInt8) : keepM ((n, u) :: m) k = if n = k then u.kind != 1 else keepM m k := by
  unfold keepM
  simp only [getM]
  by_cases h : n = k
  · rw [if_pos h, if_pos h]
  · rw [if_neg h, if_neg h]
theorem keep_absent {n : List UInt8} {m : List (List UInt8 × JV)} (h : n ∉ m.map Prod.fst) : keepM m n = true := by
  unfold keepM
  rw [(get_iff n m).2 h]
theorem merge_names : ∀ (m o : List (List UInt8 × JV)), (m.map Prod.fst).Nodup →
    (mergeM o m).map Prod.fst = (o.map Prod.fst).filter (keepM m) ++ (m.filter (newM (o.map Prod.fst))).map Prod.fst
  | [], o, _ => by
    rw [mergeM, List.filter_nil, List.map_nil, List.append_nil, List.filter_eq_self.2]
    intro k _
    rfl
  | (n, u) :: m, o, hnd => by
    rw [List.map_cons, List.nodup_cons] at hnd
    obtain ⟨hn, hnd⟩ := hnd
    have ih := merge_names m
    have hnew : ∀ (ns : List (List UInt8)), (∀ k, k ≠ n → (k ∈ ns ↔ k ∈ o.map Prod.fst)) → m.filter (newM ns) = m.filter (newM (o.map Prod.fst)) := by
      intro ns h
      refine List.filter_congr fun p hp => ?_
      have hpn : p.1 ≠ n := fun e => hn (by rw [← e]; exact (List.mem_map_of_mem (f := Prod.fst) hp : p.1 ∈ m.map Prod.fst))
      unfold newM
      have : ns.contains p.1 = (o.map Prod.fst).contains p.1 := by
        rw [Bool.eq_iff_iff, List.contains_iff_mem, List.contains_iff_mem]
        exact h _ hpn
      rw [this]
    rw [mergeM]
    by_cases h1 : u.kind = 1
    · rw [if_pos h1, ih _ hnd, without_names, hnew _ (fun k hk => by simp [hk]), List.filter_filter]
      have e1 : ((n, u) :: m).filter (newM (o.map Prod.fst)) = m.filter (newM (o.map Prod.fst)) := by
        rw [List.filter_cons, if_neg]
        simp [newM, h1]
      rw [e1]
      congr 1
      refine List.filter_congr fun k _ => ?_
      rw [keep_cons]
      by_cases hk : n = k
      · subst hk
        simp [h1]
      · rw [if_neg hk]
        have : k ≠ n := fun e => hk e.symm
        simp [this]
    · have hk1 : (u.kind != 1) = true := by simpa using h1
      have hkeep : ∀ k, keepM ((n, u) :: m) k = keepM m k := by
        intro k
        rw [keep_cons]
        by_cases hk : n = k
        · subst hk
          rw [if_pos rfl, hk1, keep_absent hn]
        · rw [if_neg hk]
      rw [if_neg h1, ih _ hnd, withM_names]
      by_cases ho : n ∈ o.map Prod.fst
      · rw [if_pos ho]
        have e1 : ((n, u) :: m).filter (newM (o.map Prod.fst)) = m.filter (newM (o.map Prod.fst)) := by
          rw [List.filter_cons, if_neg]
          unfold newM
          rw [List.contains_iff_mem.2 ho]
          simp
        rw [e1]
        congr 1
        exact List.filter_congr fun k _ => (hkeep k).symm
      · rw [if_neg ho, hnew _ (fun k hk => by simp [hk]), List.filter_append]
        have e1 : ((n, u) :: m).filter (newM (o.map Prod.fst)) = (n, u) :: m.filter (newM (o.map Prod.fst)) := by
          rw [List.filter_cons, if_pos]
          unfold newM
          have : (o.map Prod.fst).contains n = false := by
            rw [Bool.eq_false_iff]
            exact fun h => ho (List.contains_iff_mem.1 h)
          rw [this, hk1]
          rfl
        have e2 : [n].filter (keepM m) = [n] := by
          rw [List.filter_cons, if_pos (keep_absent hn)]
          rfl
        rw [e1, e2, List.map_cons, List.append_assoc]
        congr 1
        exact List.filter_congr fun k _ => (hkeep k).symm
theorem merge_get : ∀ (m o : List (List UInt8 × JV)) (k : List UInt8), (m.map Prod.fst).Nodup →
    getM k (mergeM o m) = match getM k m with
      | some u => if u.kind = 1 then none else some (mergeJ ((getM k o).getD .zero) u)
      | none => getM k o
  | [], o, k, _ => by rw [mergeM]; rfl
  | (n, u) :: m, o, k, hnd => by
    rw [List.map_cons, List.nodup_cons] at hnd
    obtain ⟨hn, hnd⟩ := hnd
    rw [mergeM, merge_get m _ k hnd]
    simp only [getM]
    by_cases hk : n = k
    · subst hk
      rw [(get_iff n m).2 hn, if_pos rfl]
      by_cases h1 : u.kind = 1
      · simp only [if_pos h1]
        rw [without_none, if_pos rfl]
      · simp only [if_neg h1]
        rw [withM_get, if_pos rfl]
    · rw [if_neg hk]
      have hk' : ¬ k = n := fun e => hk e.symm
      have : getM k (if u.kind = 1 then withoutM n o else withM n (mergeJ ((getM n o).getD .zero) u) o) = getM k o := by
        by_cases h1 : u.kind = 1
        · rw [if_pos h1, without_none, if_neg hk']
        · rw [if_neg h1, withM_get, if_neg hk']
      rw [this]
theorem right_nodup {m : List (List UInt8 × JV)} (h : rightM m = true) : (m.map Prod.fst).Nodup := by
  rw [rightM_eq, Bool.and_eq_true] at h
  exact of_decide_eq_true h.2
theorem get_at {m : List (List UInt8 × JV)} (h : (m.map Prod.fst).Nodup) (i : Nat) (hi : i < m.length) : getM m[i].1 m = some m[i].2 := by
  induction m generalizing i with
  | nil => simp at hi
  | cons p m ih =>
    rw [List.map_cons, List.nodup_cons] at h
    simp only [getM]
    cases i with
    | zero => simp
    | succ i =>
      simp only [List.getElem_cons_succ]
      have hi' : i < m.length := by simpa using hi
      rw [if_neg, ih h.2 i hi']
      intro e
      exact h.1 (by rw [e]; exact List.mem_map_of_mem (f := Prod.fst) (List.getElem_mem hi'))
end Go.Proofs.YtfcokdkbjajohaaGreatDoor
/- JsonMembers, JsonWith: members of names, each with its number. Plain. -/
set_option linter.unusedVariables false
namespace Go.Proofs.YtfcokdkbjajohaaGreatDoor

/-- Names, each with its place as its value; the first one's place is k. -/
def numF (k : Nat) : List (List UInt8) → List (List UInt8 × JV)
  | [] => []
  | s :: l => (s, jnum (Lib.itoa (k : Int))) :: numF (k + 1) l
theorem numF_len : ∀ (l : List (List UInt8)) (k : Nat), (numF k l).length = l.length
  | [], _ => rfl
  | s :: l, k => by rw [numF, List.length_cons, List.length_cons, numF_len l]
theorem numF_snoc : ∀ (l : List (List UInt8)) (k : Nat) (s : List UInt8), numF k (l ++ [s]) = numF k l ++ [(s, jnum (Lib.itoa ((k + l.length : Nat) : Int)))]
  | [], k, s => rfl
  | t :: l, k, s => by
    rw [List.cons_append, numF, numF_snoc l (k + 1) s, numF, List.cons_append, List.length_cons, show k + 1 + l.length = k + (l.length + 1) by omega]
theorem numF_names : ∀ (l : List (List UInt8)) (k : Nat), (numF k l).map Prod.fst = l
  | [], _ => rfl
  | s :: l, k => by rw [numF, List.map_cons, numF_names l]
theorem numF_at : ∀ (l : List (List UInt8)) (k i : Nat) (h : i < (numF k l).length), (numF k l)[i] = (l[i]'(by rw [numF_len] at h; exact h), jnum (Lib.itoa ((k + i : Nat) : Int)))
  | [], _, i, h => absurd h (by simp [numF])
  | s :: l, k, 0, h => rfl
  | s :: l, k, i + 1, h => by
    have := numF_at l (k + 1) i (by simp only [numF, List.length_cons] at h; omega)
    simp only [numF, List.getElem_cons_succ]
    rw [this, show k + 1 + i = k + (i + 1) by omega]
/-- The place of a name; none: below 0. -/
def wantI (n : List UInt8) (l : List (List UInt8)) : Int := if n ∈ l then (l.idxOf n : Int) else -1
theorem want_nil (n : List UInt8) : wantI n [] = -1 := rfl
theorem want_snoc (n : List UInt8) (l : List (List UInt8)) (s : List UInt8) : wantI n (l ++ [s]) = if s = n ∧ wantI n l < 0 then (l.length : Int) else wantI n l := by
  unfold wantI
  by_cases h : n ∈ l
  · have h1 : n ∈ l ++ [s] := List.mem_append_left _ h
    rw [if_pos h1, if_pos h, List.idxOf_append, if_pos h, if_neg (by omega)]
  · by_cases e : s = n
    · have h1 : n ∈ l ++ [s] := by simp [e]
      rw [if_pos h1, if_neg h, List.idxOf_append, if_neg h, if_pos ⟨e, by omega⟩]
      subst e
      simp
    · have h1 : n ∉ l ++ [s] := by
        intro hm
        rcases List.mem_append.1 hm with hm | hm
        · exact h hm
        · exact e (List.mem_singleton.1 hm).symm
      rw [if_neg h1, if_neg h, if_neg (fun q => e q.1)]
theorem want_range (n : List UInt8) (l : List (List UInt8)) : -1 ≤ wantI n l ∧ wantI n l < (l.length : Int) ∨ wantI n l = -1 := by
  unfold wantI
  split
  · next h =>
    have := List.idxOf_lt_length_of_mem h
    exact .inl ⟨by omega, by omega⟩
  · exact .inr rfl
theorem numF_get (n : List UInt8) : ∀ (l : List (List UInt8)) (k : Nat), getM n (numF k l) = if n ∈ l then some (jnum (Lib.itoa ((k + l.idxOf n : Nat) : Int))) else none
  | [], k => rfl
  | s :: l, k => by
    rw [numF, getM]
    by_cases e : s = n
    · rw [if_pos e, if_pos (by simp [e])]
      subst e
      simp
    · rw [if_neg e, numF_get n l (k + 1)]
      by_cases h : n ∈ l
      · rw [if_pos h, if_pos (List.mem_cons_of_mem _ h), List.idxOf_cons, show (s == n) = false from by simp [e], cond_false, show k + 1 + l.idxOf n = k + (l.idxOf n + 1) by omega]
      · rw [if_neg h, if_neg (by intro q; rcases List.mem_cons.1 q with q | q; exact e q.symm; exact h q)]
theorem right_snoc : ∀ (m : List (List UInt8 × JV)) (s : List UInt8) (v : JV), rightM (m ++ [(s, v)]) = (rightM m && (toldB s && rightJ v && decide (s ∉ m.map Prod.fst)))
  | [], s, v => by
    simp [rightM, getM]
  | (n, u) :: m, s, v => by
    have h : (getM n (m ++ [(s, v)])).isNone = ((getM n m).isNone && decide (s ≠ n)) := by
      have e1 := get_iff n (m ++ [(s, v)])
      have e2 := get_iff n m
      rw [Bool.eq_iff_iff]
      simp only [Option.isNone_iff_eq_none, Bool.and_eq_true, decide_eq_true_eq]
      rw [e1, e2, List.map_append, List.mem_append, not_or]
      simp only [List.map_cons, List.map_nil, List.mem_singleton]
      exact ⟨fun q => ⟨q.1, fun e => q.2 e.symm⟩, fun q => ⟨q.1, fun e => q.2 e.symm⟩⟩
    rw [List.cons_append, rightM, rightM, right_snoc m s v, h, List.map_cons]
    have e3 : decide (s ∉ n :: m.map Prod.fst) = (decide (s ≠ n) && decide (s ∉ m.map Prod.fst)) := by
      rw [Bool.eq_iff_iff]
      simp [not_or]
    rw [e3]
    cases toldB n <;> cases rightJ u <;> cases (getM n m).isNone <;> cases rightM m <;> cases toldB s <;> cases rightJ v <;> cases decide (s ≠ n) <;> cases decide (s ∉ m.map Prod.fst) <;> rfl
theorem num_right (k : Nat) : rightJ (jnum (Lib.itoa (k : Int))) = true := by simp [jnum, rightJ, numeric_itoa]
/-- Are all names told, and unlike? -/
def unlikeB (l : List (List UInt8)) : Bool := rightM (numF 0 l)
theorem unlike_snoc (l : List (List UInt8)) (s : List UInt8) : unlikeB (l ++ [s]) = (unlikeB l && toldB s && decide (s ∉ l)) := by
  unfold unlikeB
  rw [numF_snoc, right_snoc, num_right, numF_names]
  cases rightM (numF 0 l) <;> cases toldB s <;> rfl
theorem in_snoc (s : List UInt8) (l : List (List UInt8)) (t : List UInt8) : decide (s ∉ l ++ [t]) = (decide (s ∉ l) && decide (t ≠ s)) := by
  rw [Bool.eq_iff_iff]
  simp only [List.mem_append, List.mem_singleton, Bool.and_eq_true, decide_eq_true_eq, not_or]
  exact ⟨fun q => ⟨q.1, fun e => q.2 e.symm⟩, fun q => ⟨q.1, fun e => q.2 e.symm⟩⟩
theorem get_num (n : List UInt8) (l : List (List UInt8)) : getM n (numF 0 l) = if wantI n l < 0 then none else some (jnum (Lib.itoa (wantI n l))) := by
  rw [numF_get, Nat.zero_add]
  unfold wantI
  split
  · rw [if_neg (by omega)]
  · rfl
end Go.Proofs.YtfcokdkbjajohaaGreatDoor
/- With's and Without's closures; IndexFunc over members. -/
set_option linter.unusedVariables false
namespace Go.Proofs.YtfcokdkbjajohaaGreatDoor
open Go.RowKit

/-- The first member of a name. -/
def idxM (n : List UInt8) : List (List UInt8 × JV) → Nat
  | [] => 0
  | (k, _) :: r => if k = n then 0 else idxM n r + 1
theorem idxM_le (n : List UInt8) : ∀ m, idxM n m ≤ m.length
  | [] => Nat.le_refl _
  | (k, v) :: r => by
    have := idxM_le n r
    unfold idxM
    split
    · simp
    · simp only [List.length_cons]; omega
theorem idxM_drop {n : List UInt8} {m : List (List UInt8 × JV)} {j : Nat} (hj : j < m.length) : idxM n (m.drop j) = if m[j].1 = n then 0 else idxM n (m.drop (j + 1)) + 1 := by
  rw [List.drop_eq_getElem_cons hj]
  rfl
set_option maxRecDepth 100000 in
set_option maxHeartbeats 8000000 in
theorem wcl_any (n nm : List UInt8) (x0 x1 x2 x3 x4 : Value) (q : Addr) (w : World) (hq : w.cell? q = some (.string ⟨n.toArray⟩)) :
    Calls Tryz.prog 82 #[.agg #[.string ⟨nm.toArray⟩, x0, x1, x2, x3, x4], .pointer (some q)] w fun e w' => e = .returned (.bool (nm == n)) ∧ Below w.heap.size w w' := by
  have hb : Below w.heap.size w (w.alloc (.cells #[.string ⟨nm.toArray⟩, x0, x1, x2, x3, x4] 35)) := (Below.refl _ _).alloc (Nat.le_refl _) _
  have HB := Lib.hid hb
  have hq2 := (hb.cell (World.block_lt_of_cell? _ _ hq)).trans hq
  clear hb hq
  go_enter Tryz.func82, Tryz.ntmps82
  go_wp2_with fail
  refine bodyPost_ret (results_tmp rfl _ _ _) rfl ?_
  exact ⟨by first | rfl | simp, HB.out⟩
set_option maxRecDepth 100000 in
set_option maxHeartbeats 8000000 in
theorem wix_any (n : List UInt8) (q : Addr) (ok : Nat → Prop) (a : Option Addr) (c : Nat) (m : List (List UInt8 × JV)) (cm : List (List Value)) (w : World) (h3 : RdO ok w a (memCells m cm)) (h4 : RepsM ok w cm m) (hq : w.cell? q = some (.string ⟨n.toArray⟩)) (hl : m.length ≤ 10000000) :
    Calls Tryz.prog 81 #[.slice a m.length c, .func (.func 82) #[] #[.pointer (some q)]] w fun e w' => Below w.heap.size w w' ∧ e = .returned (.int .i64 (if idxM n m < m.length then (idxM n m : Int) else -1)) := by
  have H3 := Lib.hid h3.lt
  have H4 := Lib.hid (RepsM.mono h4.lt fun b hb => hb)
  have HQ := Lib.hid hq
  have hql := World.block_lt_of_cell? _ _ hq
  obtain ⟨R, hR⟩ : ∃ R : Int, (if idxM n m < m.length then (idxM n m : Int) else -1) = R := ⟨_, rfl⟩
  rw [hR]
  have HR := Lib.hid hR
  clear h3 h4 hq hR
  go_enter Tryz.func81, Tryz.ntmps81
  go_wp2_with fail
  go_loopg [8] m.length (fun k iv wr => ∃ j : Nat, iv = .int .i64 (j : Int) ∧ j + k = m.length ∧ Hid (idxM n m = idxM n (m.drop j) + j) ∧ Hid (Below w.heap.size w wr))
  case atStart => exact ⟨0, rfl, by omega, Lib.hid rfl, Lib.hid (Below.refl _ _)⟩
  case round =>
    obtain ⟨j, rfl, hj, hd, HB⟩ := hrel
    by_cases hlt : j < m.length
    · have hltI : (j : Int) < (m.length : Int) := by omega
      obtain ⟨b, off, k2, y2, t2, a2, l2, c2, a3, l3, c3, ea, -, i0, i1, i2, i3, i4, i5⟩ := mem_cells' (RdO.keep H3.out fun b _ hb => HB.out.block b hb) (H4.out.under HB.out) j hlt
      subst ea
      have HGD := Lib.hid (idxM_drop (n := n) hlt)
      obtain ⟨nm, hnm⟩ : ∃ x, m[j].1 = x := ⟨_, rfl⟩
      rw [hnm] at i0 HGD
      clear hnm
      have HC := Lib.hid (wcl_any n nm (.int .i64 k2) (.bool y2) (.string ⟨t2⟩) (.slice a2 l2 c2) (.slice a3 l3 c3) q wr ((HB.out.cell hql).trans HQ.out))
      by_cases hn : nm = n
      · have HE : Hid (idxM n m = j) := Lib.hid (by rw [hd.out, HGD.out, if_pos hn]; omega)
        have hb1 : (nm == n) = true := by rw [hn]; simp
        have HRES : Hid (R = (j : Int)) := Lib.hid (by rw [← HR.out, HE.out, if_pos hlt])
        rw [hb1] at HC
        clear hn
        go_wp2_with fail
        refine HC.out.mono ?_
        rintro e w2 ⟨rfl, hb2⟩
        have HB2 := Lib.hid (HB.out.trans (hb2.mono HB.out.size))
        clear hb2
        go_wp2_with fail
        refine bodyPost_ret (results_tmp rfl _ _ _) rfl ?_
        exact ⟨HB2.out, by rw [HRES.out]; rfl⟩
      · have HE : Hid (idxM n m = idxM n (m.drop (j + 1)) + (j + 1)) := Lib.hid (by rw [hd.out, HGD.out, if_neg hn]; omega)
        have hb1 : (nm == n) = false := beq_false_of_ne hn
        rw [hb1] at HC
        clear hn
        go_wp2_with fail
        refine HC.out.mono ?_
        rintro e w2 ⟨rfl, hb2⟩
        have HB2 := Lib.hid (HB.out.trans (hb2.mono HB.out.size))
        clear hb2
        go_wp2_with fail
        go_roundg (gk - 1)
        case measure => omega
        case rel => exact ⟨j + 1, by first | rfl | (congr 1), by omega, HE, HB2⟩
    · have hge : ¬ (j : Int) < (m.length : Int) := by omega
      have HE : Hid (idxM n m = m.length) := Lib.hid (by rw [hd.out, List.drop_eq_nil_of_le (by omega)]; unfold idxM; omega)
      have HRES : Hid (R = -1) := Lib.hid (by rw [← HR.out, HE.out, if_neg (by omega)])
      go_wp2_with fail
      refine bodyPost_ret (results_tmp rfl _ _ _) rfl ?_
      exact ⟨HB.out, by rw [HRES.out]; rfl⟩
set_option maxRecDepth 100000 in
set_option maxHeartbeats 8000000 in
theorem ocl_any (n nm : List UInt8) (x0 x1 x2 x3 x4 : Value) (q : Addr) (w : World) (hq : w.cell? q = some (.string ⟨n.toArray⟩)) :
    Calls Tryz.prog 84 #[.agg #[.string ⟨nm.toArray⟩, x0, x1, x2, x3, x4], .pointer (some q)] w fun e w' => e = .returned (.bool (nm == n)) ∧ Below w.heap.size w w' := by
  have hb : Below w.heap.size w (w.alloc (.cells #[.string ⟨nm.toArray⟩, x0, x1, x2, x3, x4] 35)) := (Below.refl _ _).alloc (Nat.le_refl _) _
  have HB := Lib.hid hb
  have hq2 := (hb.cell (World.block_lt_of_cell? _ _ hq)).trans hq
  clear hb hq
  go_enter Tryz.func84, Tryz.ntmps84
  go_wp2_with fail
  refine bodyPost_ret (results_tmp rfl _ _ _) rfl ?_
  exact ⟨by first | rfl | simp, HB.out⟩
set_option maxRecDepth 100000 in
set_option maxHeartbeats 8000000 in
theorem oix_any (n : List UInt8) (q : Addr) (ok : Nat → Prop) (a : Option Addr) (c : Nat) (m : List (List UInt8 × JV)) (cm : List (List Value)) (w : World) (h3 : RdO ok w a (memCells m cm)) (h4 : RepsM ok w cm m) (hq : w.cell? q = some (.string ⟨n.toArray⟩)) (hl : m.length ≤ 10000000) :
    Calls Tryz.prog 81 #[.slice a m.length c, .func (.func 84) #[] #[.pointer (some q)]] w fun e w' => Below w.heap.size w w' ∧ e = .returned (.int .i64 (if idxM n m < m.length then (idxM n m : Int) else -1)) := by
  have H3 := Lib.hid h3.lt
  have H4 := Lib.hid (RepsM.mono h4.lt fun b hb => hb)
  have HQ := Lib.hid hq
  have hql := World.block_lt_of_cell? _ _ hq
  obtain ⟨R, hR⟩ : ∃ R : Int, (if idxM n m < m.length then (idxM n m : Int) else -1) = R := ⟨_, rfl⟩
  rw [hR]
  have HR := Lib.hid hR
  clear h3 h4 hq hR
  go_enter Tryz.func81, Tryz.ntmps81
  go_wp2_with fail
  go_loopg [8] m.length (fun k iv wr => ∃ j : Nat, iv = .int .i64 (j : Int) ∧ j + k = m.length ∧ Hid (idxM n m = idxM n (m.drop j) + j) ∧ Hid (Below w.heap.size w wr))
  case atStart => exact ⟨0, rfl, by omega, Lib.hid rfl, Lib.hid (Below.refl _ _)⟩
  case round =>
    obtain ⟨j, rfl, hj, hd, HB⟩ := hrel
    by_cases hlt : j < m.length
    · have hltI : (j : Int) < (m.length : Int) := by omega
      obtain ⟨b, off, k2, y2, t2, a2, l2, c2, a3, l3, c3, ea, -, i0, i1, i2, i3, i4, i5⟩ := mem_cells' (RdO.keep H3.out fun b _ hb => HB.out.block b hb) (H4.out.under HB.out) j hlt
      subst ea
      have HGD := Lib.hid (idxM_drop (n := n) hlt)
      obtain ⟨nm, hnm⟩ : ∃ x, m[j].1 = x := ⟨_, rfl⟩
      rw [hnm] at i0 HGD
      clear hnm
      have HC := Lib.hid (ocl_any n nm (.int .i64 k2) (.bool y2) (.string ⟨t2⟩) (.slice a2 l2 c2) (.slice a3 l3 c3) q wr ((HB.out.cell hql).trans HQ.out))
      by_cases hn : nm = n
      · have HE : Hid (idxM n m = j) := Lib.hid (by rw [hd.out, HGD.out, if_pos hn]; omega)
        have hb1 : (nm == n) = true := by rw [hn]; simp
        have HRES : Hid (R = (j : Int)) := Lib.hid (by rw [← HR.out, HE.out, if_pos hlt])
        rw [hb1] at HC
        clear hn
        go_wp2_with fail
        refine HC.out.mono ?_
        rintro e w2 ⟨rfl, hb2⟩
        have HB2 := Lib.hid (HB.out.trans (hb2.mono HB.out.size))
        clear hb2
        go_wp2_with fail
        refine bodyPost_ret (results_tmp rfl _ _ _) rfl ?_
        exact ⟨HB2.out, by rw [HRES.out]; rfl⟩
      · have HE : Hid (idxM n m = idxM n (m.drop (j + 1)) + (j + 1)) := Lib.hid (by rw [hd.out, HGD.out, if_neg hn]; omega)
        have hb1 : (nm == n) = false := beq_false_of_ne hn
        rw [hb1] at HC
        clear hn
        go_wp2_with fail
        refine HC.out.mono ?_
        rintro e w2 ⟨rfl, hb2⟩
        have HB2 := Lib.hid (HB.out.trans (hb2.mono HB.out.size))
        clear hb2
        go_wp2_with fail
        go_roundg (gk - 1)
        case measure => omega
        case rel => exact ⟨j + 1, by first | rfl | (congr 1), by omega, HE, HB2⟩
    · have hge : ¬ (j : Int) < (m.length : Int) := by omega
      have HE : Hid (idxM n m = m.length) := Lib.hid (by rw [hd.out, List.drop_eq_nil_of_le (by omega)]; unfold idxM; omega)
      have HRES : Hid (R = -1) := Lib.hid (by rw [← HR.out, HE.out, if_neg (by omega)])
      go_wp2_with fail
      refine bodyPost_ret (results_tmp rfl _ _ _) rfl ?_
      exact ⟨HB.out, by rw [HRES.out]; rfl⟩
end Go.Proofs.YtfcokdkbjajohaaGreatDoor
/- With, by the place of the name: plain data, no program. -/
set_option linter.unusedVariables false
namespace Go.Proofs.YtfcokdkbjajohaaGreatDoor
open Go.RowKit

theorem withM_at (n : List UInt8) (v : JV) : ∀ m, idxM n m < m.length → withM n v m = m.set (idxM n m) (n, v)
  | [], h => by simp at h
  | (k, u) :: r, h => by
    unfold idxM at h ⊢
    unfold withM
    by_cases e : k = n
    · rw [if_pos e, if_pos e, List.set_cons_zero]
      show (k, v) :: r = (n, v) :: r
      rw [e]
    · rw [if_neg e] at h ⊢
      rw [if_neg e, List.set_cons_succ, withM_at n v r (by simpa using h)]
theorem withM_new (n : List UInt8) (v : JV) : ∀ m, ¬ idxM n m < m.length → withM n v m = m ++ [(n, v)]
  | [], _ => rfl
  | (k, u) :: r, h => by
    unfold idxM at h
    unfold withM
    by_cases e : k = n
    · rw [if_pos e] at h
      simp at h
    · rw [if_neg e] at h ⊢
      rw [withM_new n v r (by simpa using h)]
      rfl
theorem idxM_name (n : List UInt8) : ∀ m (h : idxM n m < m.length), (m[idxM n m]).1 = n
  | [], h => by simp at h
  | (k, u) :: r, h => by
    by_cases e : k = n
    · have h0 : idxM n ((k, u) :: r) = 0 := by unfold idxM; rw [if_pos e]
      simp only [h0, List.getElem_cons_zero]
      exact e
    · have h0 : idxM n ((k, u) :: r) = idxM n r + 1 := by conv => lhs; unfold idxM; rw [if_neg e]
      simp only [h0, List.getElem_cons_succ]
      exact idxM_name n r (by rw [h0] at h; simpa using h)
end Go.Proofs.YtfcokdkbjajohaaGreatDoor
/- A member's value replaced in its row: cells, no program. -/
set_option linter.unusedVariables false
namespace Go.Proofs.YtfcokdkbjajohaaGreatDoor
open Go.RowKit

theorem memCells_put (v : JV) (cs : List Value) (hc : cs.length = 5) : ∀ (m : List (List UInt8 × JV)) (cm : List (List Value)) (j : Nat) (hj : j < m.length), cm.length = m.length → (∀ r ∈ cm, r.length = 5) → ∀ q : Nat,
    (memCells (m.set j (m[j].1, v)) (cm.set j cs))[q]? = if j * 6 + 1 ≤ q ∧ q < j * 6 + 6 then cs[q - (j * 6 + 1)]? else (memCells m cm)[q]?
  | [], _, _, hj, _, _, _ => by simp at hj
  | _ :: _, [], _, _, hl, _, _ => by simp at hl
  | (k, u) :: m, r :: cm, 0, hj, hl, h5, q => by
    have hr := h5 r (by simp)
    simp only [List.set_cons_zero, List.getElem_cons_zero, memCells]
    cases q with
    | zero => simp
    | succ q =>
      simp only [List.getElem?_cons_succ]
      by_cases hq : q < 5
      · rw [if_pos (by omega), List.getElem?_append_left (by omega)]
        congr 1
      · rw [if_neg (by omega), List.getElem?_append_right (by omega), List.getElem?_append_right (by omega), hc, hr]
  | (k, u) :: m, r :: cm, j + 1, hj, hl, h5, q => by
    have hr := h5 r (by simp)
    have ih := memCells_put v cs hc m cm j (by simpa using hj) (by simpa using hl) (fun x hx => h5 x (by simp [hx]))
    simp only [List.set_cons_succ, List.getElem_cons_succ, memCells]
    cases q with
    | zero =>
      rw [if_neg (by omega)]
      simp
    | succ q =>
      simp only [List.getElem?_cons_succ]
      by_cases hq : q < 5
      · rw [if_neg (by omega), List.getElem?_append_left (by omega), List.getElem?_append_left (by omega)]
      · rw [List.getElem?_append_right (by omega), List.getElem?_append_right (by omega), hr, ih (q - 5)]
        by_cases h2 : j * 6 + 1 ≤ q - 5 ∧ q - 5 < j * 6 + 6
        · rw [if_pos h2, if_pos (by omega)]
          congr 1
          omega
        · rw [if_neg h2, if_neg (by omega)]
/-- The members' values, one replaced. -/
theorem RepsM.put {ok : Nat → Prop} {w : World} {cm : List (List Value)} {m : List (List UInt8 × JV)} {j : Nat} {v : JV} {cs : List Value} (h : RepsM ok w cm m) (hj : j < m.length) (hv : Rep ok w cs v) : RepsM ok w (cm.set j cs) (m.set j (m[j].1, v)) := by
  refine ⟨by simp [h.1], fun i hi hi2 => ?_⟩
  by_cases e : i = j
  · subst e
    rw [List.getElem_set_self]
    have : (m.set i (m[i].1, v))[i] = (m[i].1, v) := List.getElem_set_self _
    rw [this]
    exact hv
  · have e1 : (cm.set j cs)[i] = cm[i]'(by simpa using hi) := List.getElem_set_ne (fun h => e h.symm) _
    have e2 : (m.set j (m[j].1, v))[i] = m[i]'(by simpa using hi2) := List.getElem_set_ne (fun h => e h.symm) _
    rw [e1, e2]
    exact h.2 i (by simpa using hi) (by simpa using hi2)
/-- The row behind such a store. -/
theorem rdo_put {ok : Nat → Prop} {w w' : World} {b : Nat} {off : Nat} {m : List (List UInt8 × JV)} {cm : List (List Value)} {j : Nat} {v : JV} {cs : List Value} (h3 : RdO ok w (some ⟨b, off, none⟩) (memCells m cm)) (hl : cm.length = m.length) (h5 : ∀ r ∈ cm, r.length = 5) (hj : j < m.length) (hc : cs.length = 5)
    (hold : ∀ q, ¬ (j * 6 + 1 ≤ q ∧ q < j * 6 + 6) → w'.cell? ⟨b, off + q, none⟩ = w.cell? ⟨b, off + q, none⟩) (hnew : ∀ i (h : i < 5), w'.cell? ⟨b, off + (j * 6 + 1 + i), none⟩ = cs[i]?) : RdO ok w' (some ⟨b, off, none⟩) (memCells (m.set j (m[j].1, v)) (cm.set j cs)) := by
  have hok : ok b ∧ ∀ (i : Nat) (u : Value), (memCells m cm)[i]? = some u → w.cell? ⟨b, off + i, none⟩ = some u := by
    rcases h3 with h | ⟨b', off', e, h1, h2⟩
    · cases m with
      | nil => simp at hj
      | cons p m =>
        cases cm with
        | nil => simp at hl
        | cons r cm => simp [memCells] at h
    · cases e
      exact ⟨h1, h2⟩
  refine .inr ⟨b, off, rfl, hok.1, fun i u hu => ?_⟩
  rw [memCells_put v cs hc m cm j hj hl h5 i] at hu
  by_cases h : j * 6 + 1 ≤ i ∧ i < j * 6 + 6
  · rw [if_pos h] at hu
    have := hnew (i - (j * 6 + 1)) (by omega)
    rw [show j * 6 + 1 + (i - (j * 6 + 1)) = i by omega] at this
    rw [this, hu]
  · rw [if_neg h] at hu
    rw [hold i h]
    exact hok.2 i u hu
end Go.Proofs.YtfcokdkbjajohaaGreatDoor
/- With. -/
set_option linter.unusedVariables false
namespace Go.Proofs.YtfcokdkbjajohaaGreatDoor
open Go.RowKit

theorem none_mem {ok : Nat → Prop} {w : World} {a : Option Addr} {m : List (List UInt8 × JV)} {cm : List (List Value)} (h3 : RdO ok w a (memCells m cm)) (h4 : RepsM ok w cm m) (ha : a = none) : m.length = 0 := by
  have hl := mem6_len h4
  rcases h3 with h | ⟨b, off, e, _⟩
  · rw [h] at hl
    simp only [List.length_nil] at hl
    omega
  · rw [ha] at e
    cases e
theorem four_alloc (w : World) (o0 o1 o2 o3 : Obj) : Below w.heap.size w ((((w.alloc o0).alloc o1).alloc o2).alloc o3) ∧ ((((w.alloc o0).alloc o1).alloc o2).alloc o3).heap[w.heap.size]? = some o0 ∧ ((((w.alloc o0).alloc o1).alloc o2).alloc o3).heap[w.heap.size + 1]? = some o1 ∧ ((((w.alloc o0).alloc o1).alloc o2).alloc o3).heap[w.heap.size + 1 + 1]? = some o2 ∧ ((((w.alloc o0).alloc o1).alloc o2).alloc o3).heap[w.heap.size + 1 + 1 + 1]? = some o3 := by
  have s1 : (w.alloc o0).heap.size = w.heap.size + 1 := by simp
  have s2 : ((w.alloc o0).alloc o1).heap.size = w.heap.size + 1 + 1 := by simp
  have s3 : (((w.alloc o0).alloc o1).alloc o2).heap.size = w.heap.size + 1 + 1 + 1 := by simp
  have h1 := heap_alloc_new (w.alloc o0) o1
  have h2 := heap_alloc_new ((w.alloc o0).alloc o1) o2
  have h3 := heap_alloc_new (((w.alloc o0).alloc o1).alloc o2) o3
  rw [s1] at h1
  rw [s2] at h2
  rw [s3] at h3
  exact ⟨((((Below.refl _ _).alloc (Nat.le_refl _) _).alloc (by simp) _).alloc (by simp; omega) _).alloc (by simp; omega) _, block_alloc (block_alloc (block_alloc (heap_alloc_new w _) _) _) _, block_alloc (block_alloc h1 _) _, block_alloc h2 _, h3⟩
theorem five_else (w : World) (gr : Nat) (a b c d e : Value) : ∀ k, k ≠ gr → (((((w.setCell ⟨gr, 0, none⟩ a).setCell ⟨gr, 1, none⟩ b).setCell ⟨gr, 2, none⟩ c).setCell ⟨gr, 3, none⟩ d).setCell ⟨gr, 4, none⟩ e).heap[k]? = w.heap[k]? := fun k hk => by
  rw [Below.heap_setCell _ _ _ _ hk, Below.heap_setCell _ _ _ _ hk, Below.heap_setCell _ _ _ _ hk, Below.heap_setCell _ _ _ _ hk, Below.heap_setCell _ _ _ _ hk]
theorem five_put {w : World} {g p : Nat} {cur : Array Value} {T : TypeId} {fr : Nat × Nat} (h : w.heap[g]? = some (.cells cur T fr)) (hp : p + 5 ≤ cur.size) (a b c d e : Value) :
    (∀ k, k ≠ g → (((((w.setCell ⟨g, p, none⟩ a).setCell ⟨g, p + 1, none⟩ b).setCell ⟨g, p + 2, none⟩ c).setCell ⟨g, p + 3, none⟩ d).setCell ⟨g, p + 4, none⟩ e).heap[k]? = w.heap[k]?) ∧
    (∀ q, ¬ (p ≤ q ∧ q < p + 5) → (((((w.setCell ⟨g, p, none⟩ a).setCell ⟨g, p + 1, none⟩ b).setCell ⟨g, p + 2, none⟩ c).setCell ⟨g, p + 3, none⟩ d).setCell ⟨g, p + 4, none⟩ e).cell? ⟨g, q, none⟩ = w.cell? ⟨g, q, none⟩) ∧
    (∀ i, i < 5 → (((((w.setCell ⟨g, p, none⟩ a).setCell ⟨g, p + 1, none⟩ b).setCell ⟨g, p + 2, none⟩ c).setCell ⟨g, p + 3, none⟩ d).setCell ⟨g, p + 4, none⟩ e).cell? ⟨g, p + i, none⟩ = [a, b, c, d, e][i]?) ∧
    (((((w.setCell ⟨g, p, none⟩ a).setCell ⟨g, p + 1, none⟩ b).setCell ⟨g, p + 2, none⟩ c).setCell ⟨g, p + 3, none⟩ d).setCell ⟨g, p + 4, none⟩ e).heap.size = w.heap.size := by
  have hh : (((((w.setCell ⟨g, p, none⟩ a).setCell ⟨g, p + 1, none⟩ b).setCell ⟨g, p + 2, none⟩ c).setCell ⟨g, p + 3, none⟩ d).setCell ⟨g, p + 4, none⟩ e).heap[g]? = some (.cells (((((cur.setIfInBounds p a).setIfInBounds (p + 1) b).setIfInBounds (p + 2) c).setIfInBounds (p + 3) d).setIfInBounds (p + 4) e) T fr) := by
    simp [World.setCell, Array.getElem?_modify, h]
  refine ⟨fun k hk => ?_, fun q hq => ?_, fun i hi => ?_, by simp [World.setCell]⟩
  · rw [Below.heap_setCell _ _ _ _ hk, Below.heap_setCell _ _ _ _ hk, Below.heap_setCell _ _ _ _ hk, Below.heap_setCell _ _ _ _ hk, Below.heap_setCell _ _ _ _ hk]
  · rw [Lib.cell_of_heap hh, Lib.cell_of_heap h, Array.getElem?_setIfInBounds_ne (by omega), Array.getElem?_setIfInBounds_ne (by omega), Array.getElem?_setIfInBounds_ne (by omega), Array.getElem?_setIfInBounds_ne (by omega), Array.getElem?_setIfInBounds_ne (by omega)]
  · rw [Lib.cell_of_heap hh]
    have q0 : p < cur.size := by omega
    have q1 : p + 1 < cur.size := by omega
    have q2 : p + 2 < cur.size := by omega
    have q3 : p + 3 < cur.size := by omega
    have q4 : p + 4 < cur.size := by omega
    match i, hi with
    | 0, _ =>
      rw [Array.getElem?_setIfInBounds_ne (by omega), Array.getElem?_setIfInBounds_ne (by omega), Array.getElem?_setIfInBounds_ne (by omega), Array.getElem?_setIfInBounds_ne (by omega)]
      simp [q0]
    | 1, _ =>
      rw [Array.getElem?_setIfInBounds_ne (by omega), Array.getElem?_setIfInBounds_ne (by omega), Array.getElem?_setIfInBounds_ne (by omega)]
      simp [q1]
    | 2, _ =>
      rw [Array.getElem?_setIfInBounds_ne (by omega), Array.getElem?_setIfInBounds_ne (by omega)]
      simp [q2]
    | 3, _ =>
      rw [Array.getElem?_setIfInBounds_ne (by omega)]
      simp [q3]
    | 4, _ => simp [q4]
theorem field5 {w : World} {g : Nat} {x0 x1 x2 x3 x4 : Value} {T : TypeId} {fr : Nat × Nat} (h : w.heap[g]? = some (.cells #[x0, x1, x2, x3, x4] T fr)) (e : Value) : (w.setCell ⟨g, 4, none⟩ e).heap[g]? = some (.cells #[x0, x1, x2, x3, e] T fr) := by
  simp [World.setCell, Array.getElem?_modify, h]
set_option maxRecDepth 100000 in
set_option maxHeartbeats 16000000 in
theorem jwith_any (k : Int) (y : Bool) (t : List UInt8) (l : List JV) (m : List (List UInt8 × JV)) (n : List UInt8) (x : JV) (ok : Nat → Prop) (cs cx : List Value) (w : World) (h : Rep ok w cs (.mk k y t l m)) (hx : Rep ok w cx x) (hl : m.length ≤ 900000) :
    Calls Tryz.prog 29 #[.agg cs.toArray, .string ⟨n.toArray⟩, .agg cx.toArray] w fun e w' => Below w.heap.size w w' ∧ ∃ cs', e = .returned (.agg cs'.toArray) ∧ Rep (fun b => (ok b ∧ b < w.heap.size) ∨ w.heap.size ≤ b) w' cs' (.mk k y t l (withM n x m)) := by
  have HX0 := Lib.hid hx.lt
  obtain ⟨xa, xc, xa', xc', _, _, rfl, -⟩ := hx.parts
  obtain ⟨a, c, a', c', cl, cm, rfl, h1, h2, h3, h4, hc, hc'⟩ := h.parts
  simp only [JV.list, JV.mem] at h1 h2 h3 h4 hc hc'
  obtain ⟨xk, xy, xt, xl, xm, e1, e2, e3, e4, e5⟩ : ∃ k y t l1 m1, x.kind = k ∧ x.yes = y ∧ (⟨x.text.toArray⟩ : ByteArray) = t ∧ x.list.length = l1 ∧ x.mem.length = m1 := ⟨_, _, _, _, _, rfl, rfl, rfl, rfl, rfl⟩
  unfold strV at *
  rw [e1, e2, e3, e4, e5] at HX0
  rw [e1, e2, e3, e4, e5]
  simp only [JV.kind, JV.yes, JV.text, JV.list, JV.mem]
  clear h hx e1 e2 e3 e4 e5
  have hl6 := mem6_len h4
  have hone := h4.one
  have hnn := none_mem h3 h4
  have H1 := Lib.hid h1.lt
  have H2 := Lib.hid (show Reps (fun b => ok b ∧ b < w.heap.size) w cl l from Reps.lt h2)
  have H4 := Lib.hid (show RepsM (fun b => ok b ∧ b < w.heap.size) w cm m from RepsM.lt h4)
  have HC := Lib.hid (And.intro hc hc')
  have HRC := Lib.hid h3.rdc
  clear h1 h2 h3 h4 hc hc'
  obtain ⟨tt, htt⟩ : ∃ tt : ByteArray, (⟨t.toArray⟩ : ByteArray) = tt := ⟨_, rfl⟩
  have HTT := Lib.hid htt
  rw [htt]
  clear htt
  obtain ⟨ll, hll⟩ : ∃ ll : Nat, l.length = ll := ⟨_, rfl⟩
  have HLL := Lib.hid hll
  rw [hll]
  clear hll
  go_enter Tryz.func29, Tryz.ntmps29
  go_upto_region 1 with (fail)
  obtain ⟨hb, g0, g1, g2, g3⟩ := four_alloc w (.cells #[.int .i64 k, .bool y, .string tt, .slice a ll c, .slice a' m.length c'] 26) (.cells #[.string ⟨n.toArray⟩] 9) (.cells #[.int .i64 xk, .bool xy, .string xt, .slice xa xl xc, .slice xa' xm xc'] 26) (.cells #[.int .i64 0, .bool false, .string ⟨#[]⟩, .slice none 0 0, .slice none 0 0] 26)
  generalize (((w.alloc _).alloc _).alloc _).alloc _ = w1 at *
  obtain ⟨b0, hb0⟩ : ∃ b, w.heap.size = b := ⟨_, rfl⟩
  have hs1 : w.heap.size + 1 + 1 + 1 < w1.heap.size := (Array.getElem?_eq_some_iff.1 g3).1
  have HB1 := Lib.hid hb
  have HCL := Lib.hid (cloneM_any a' m.length c' (memCells m cm) w1 (HRC.out.below hb) hl6 hone (by omega) hnn)
  have G0 := Lib.hid g0
  have G1 := Lib.hid g1
  have G2 := Lib.hid g2
  have G3 := Lib.hid g3
  obtain ⟨v0, v1, v2, v3, v4⟩ := five_at g0 (Below.refl w1.heap.size w1) (by omega)
  clear hb g0 g1 g2 g3 hnn hone hb0
  go_wp2_with fail
  refine HCL.out.mono ?_
  rintro e w2 ⟨v, rfl, hown, hb2⟩
  have HB2 := Lib.hid (HB1.out.trans (hb2.mono HB1.out.size))
  have K0 := Lib.hid ((hb2.block _ (by omega)).trans G0.out)
  have K1 := Lib.hid ((hb2.block _ (by omega)).trans G1.out)
  have K2 := Lib.hid ((hb2.block _ (by omega)).trans G2.out)
  have K3 := Lib.hid ((hb2.block _ (by omega)).trans G3.out)
  obtain ⟨rb, rc, rfl, hrd, hrl⟩ := own_rd hown
  have HOW := Lib.hid hown
  have HRD := Lib.hid hrd
  have hs2 : w1.heap.size ≤ w2.heap.size := hb2.size
  have HCL' := Lib.hid hrl
  clear hb2 hown hrd hrl v0 v1 v2 v3 v4 HCL G0 G1 G2 G3
  obtain ⟨v0, v1, v2, v3, v4⟩ := five_at K0.out (Below.refl w2.heap.size w2) (by omega)
  have f4 := Lib.frozen_of_heap K0.out 4
  go_upto_region 2 with (fail)
  have hL0 := field5 K0.out (.slice rb m.length rc)
  have hot : ∀ k, k ≠ w.heap.size → (w2.setCell ⟨w.heap.size, 4, none⟩ (.slice rb m.length rc)).heap[k]? = w2.heap[k]? := fun k hk => Below.heap_setCell _ _ _ _ hk
  have hb3 := HB2.out.setCell (p := ⟨w.heap.size, 4, none⟩) (Nat.le_refl _) (.slice rb m.length rc)
  have hsz3 : (w2.setCell ⟨w.heap.size, 4, none⟩ (.slice rb m.length rc)).heap.size = w2.heap.size := by simp [World.setCell]
  have hgb : w2.grownBy (w2.setCell ⟨w.heap.size, 4, none⟩ (.slice rb m.length rc)) (some w.heap.size) := ⟨rfl, rfl, rfl, by rw [hsz3]; exact Nat.le_refl _, fun k _ hk => hot k (fun e => hk (by rw [e]))⟩
  clear v0 v1 v2 v3 v4 f4
  generalize w2.setCell ⟨w.heap.size, 4, none⟩ (.slice rb m.length rc) = w3 at *
  have HB3 := Lib.hid hb3
  have L0 := Lib.hid hL0
  have L1 := Lib.hid ((hot _ (by omega)).trans K1.out)
  have L2 := Lib.hid ((hot _ (by omega)).trans K2.out)
  have L3 := Lib.hid ((hot _ (by omega)).trans K3.out)
  have HOW3 : Hid (w3.ownsRow w1.heap.size 35 6 (.slice rb m.length rc) m.length (memCells m cm)) := Lib.hid (World.ownsRow.kept (row := some w.heap.size) HOW.out hgb (by
    cases e : Value.ownBlock (.slice rb m.length rc) with
    | none => exact .inl rfl
    | some q =>
      have := (HOW.out.lt q e).1
      exact .inr (by intro h; injection h with h; omega)))
  have HRD3 : Hid (RdO (fun b => (ok b ∧ b < w.heap.size) ∨ w.heap.size ≤ b) w3 rb (memCells m cm)) := Lib.hid ((HRD.out.keep fun q hq _ => hot q (by omega)).mono fun q hq => .inr (by omega))
  have HM3 : Hid (RepsM (fun b => (ok b ∧ b < w.heap.size) ∨ w.heap.size ≤ b) w3 cm m) := Lib.hid ((H4.out.keep fun q hq _ => HB3.out.block q hq.2).mono fun q hq => .inl hq)
  have hs3 : w2.heap.size = w3.heap.size := hsz3.symm
  have hq1 : w3.cell? ⟨w.heap.size + 1, 0, none⟩ = some (.string ⟨n.toArray⟩) := by rw [Lib.cell_of_heap L1.out]; rfl
  have HIX := Lib.hid (wix_any n ⟨w.heap.size + 1, 0, none⟩ _ rb rc m cm w3 HRD3.out HM3.out hq1 (by omega))
  obtain ⟨R, hR⟩ : ∃ R : Int, (if idxM n m < m.length then (idxM n m : Int) else -1) = R := ⟨_, rfl⟩
  rw [hR] at HIX
  have HR := Lib.hid hR
  have hmf : ∀ (fn : Fn) (first cap : Array Value) (w : World), (Instr.makeFunc fn first cap).run Tryz.prog w = .ok (.func fn first cap) w := fun _ _ _ _ => rfl
  clear hL0 hot hb3 hsz3 hgb K0 K1 K2 K3 HB2 HB1 HOW HRD hR hq1
  obtain ⟨v0, v1, v2, v3, v4⟩ := five_at L0.out (Below.refl w3.heap.size w3) (by omega)
  go_wp2_with fail
  refine HIX.out.mono ?_
  rintro e w4 ⟨hb4, rfl⟩
  have HB4 := Lib.hid (HB3.out.trans (hb4.mono HB3.out.size))
  have J0 := Lib.hid ((hb4.block _ (by omega)).trans L0.out)
  have J1 := Lib.hid ((hb4.block _ (by omega)).trans L1.out)
  have J2 := Lib.hid ((hb4.block _ (by omega)).trans L2.out)
  have J3 := Lib.hid ((hb4.block _ (by omega)).trans L3.out)
  have HOW4 : Hid (w4.ownsRow w1.heap.size 35 6 (.slice rb m.length rc) m.length (memCells m cm)) := Lib.hid (World.ownsRow.kept (row := none) HOW3.out ⟨hb4.os, hb4.tape, hb4.output, hb4.size, fun k hk _ => hb4.block k hk⟩ (by cases Value.ownBlock (.slice rb m.length rc) <;> simp))
  have HM4 := Lib.hid (HM3.out.under hb4)
  have HRD4 := Lib.hid (HRD3.out.keep fun q _ hq => hb4.block q hq)
  have hs4 : w3.heap.size ≤ w4.heap.size := hb4.size
  clear hb4 v0 v1 v2 v3 v4 HIX L0 L1 L2 L3 HOW3 HM3 HRD3 HB3 hmf
  obtain ⟨v0, v1, v2, v3, v4⟩ := five_at J0.out (Below.refl w4.heap.size w4) (by omega)
  obtain ⟨x0, x1, x2, x3, x4⟩ := five_at J2.out (Below.refl w4.heap.size w4) (by omega)
  have n0 : w4.cell? ⟨w.heap.size + 1, 0, none⟩ = some (.string ⟨n.toArray⟩) := by rw [Lib.cell_of_heap J1.out]; rfl
  by_cases hi : idxM n m < m.length
  · have hRi : R = (idxM n m : Int) := by rw [← HR.out, if_pos hi]
    subst hRi
    have HW := Lib.hid (withM_at n x m hi)
    have HNM := Lib.hid (idxM_name n m hi)
    obtain ⟨g, off, k2, y2, t2, a2, l2, c2, a3, l3, c3, ea, -, i0, i1, i2, i3, i4, i5⟩ := mem_cells' HRD4.out HM4.out (idxM n m) hi
    obtain ⟨j, hj⟩ : ∃ j, idxM n m = j := ⟨_, rfl⟩
    rcases HOW4.out.2 with ⟨_, h0⟩ | ⟨g', cap, cur, er, hgB, hgg, hle, hcm, hsz, htk⟩
    · omega
    subst ea
    simp only [Value.slice.injEq, Option.some.injEq, Addr.mk.injEq] at er
    obtain ⟨⟨rfl, rfl, -⟩, -, rfl⟩ := er
    have HPUT := Lib.hid (fun (h5 : ∀ r ∈ cm, r.length = 5) (w' : World) hc ho hn => (show RdO (fun b => (ok b ∧ b < w.heap.size) ∨ w.heap.size ≤ b) w' (some ⟨g, 0, none⟩) (memCells (withM n x m) (cm.set (idxM n m) [.int .i64 xk, .bool xy, .string xt, .slice xa xl xc, .slice xa' xm xc'])) from by
      have h := rdo_put (w' := w') (v := x) (cs := [.int .i64 xk, .bool xy, .string xt, .slice xa xl xc, .slice xa' xm xc']) HRD4.out H4.out.1 h5 hi hc ho hn
      rw [idxM_name n m hi, ← withM_at n x m hi] at h
      exact h))
    have HREP := Lib.hid (fun (w' : World) (hb : Below w.heap.size w w') => (show RepsM (fun b => (ok b ∧ b < w.heap.size) ∨ w.heap.size ≤ b) w' (cm.set (idxM n m) [.int .i64 xk, .bool xy, .string xt, .slice xa xl xc, .slice xa' xm xc']) (withM n x m) from by
      have h := RepsM.put (RepsM.mono (H4.out.keep fun q hq _ => hb.block q hq.2) fun q hq => (.inl hq : (ok q ∧ q < w.heap.size) ∨ w.heap.size ≤ q)) hi ((HX0.out.keep fun q hq _ => hb.block q hq.2).mono fun q hq => (.inl hq : (ok q ∧ q < w.heap.size) ∨ w.heap.size ≤ q))
      rw [idxM_name n m hi, ← withM_at n x m hi] at h
      exact h))
    have HWL : Hid ((withM n x m).length = m.length) := Lib.hid (by rw [withM_at n x m hi, List.length_set])
    have hgl : g < w4.heap.size := (Array.getElem?_eq_some_iff.1 hgg).1
    have hjI : (idxM n m : Int) < (m.length : Int) := by omega
    have hfr := fun q => Lib.frozen_of_heap hgg q
    simp only [hj] at i0 i1 i2 i3 i4 i5 hi hjI ⊢
    have hcsz : j * 6 + 6 ≤ cur.size := by omega
    have dd : ∀ q, q < 5 → ∃ u, w4.cell? ⟨g, j * 6 + 1 + q, none⟩ = some u := fun q hq => by
      rw [Lib.cell_of_heap hgg]
      exact ⟨_, Array.getElem?_eq_getElem (by omega)⟩
    obtain ⟨u0, d0⟩ := dd 0 (by decide)
    obtain ⟨u1, d1⟩ := dd 1 (by decide)
    obtain ⟨u2, d2⟩ := dd 2 (by decide)
    obtain ⟨u3, d3⟩ := dd 3 (by decide)
    obtain ⟨u4, d4⟩ := dd 4 (by decide)
    simp only [Nat.add_zero] at d0
    have f0 := hfr (j * 6 + 1)
    have f1 := hfr (j * 6 + 1 + 1)
    have f2 := hfr (j * 6 + 1 + 2)
    have f3 := hfr (j * 6 + 1 + 3)
    have f4 := hfr (j * 6 + 1 + 4)
    have HGG := Lib.hid hgg
    clear i0 i1 i2 i3 i4 i5 dd hfr hgg htk
    go_upto_region 7 with (fail)
    obtain ⟨hot, hold, hnew, hsz5⟩ := five_put HGG.out (p := j * 6 + 1) (by omega) (.int .i64 xk) (.bool xy) (.string xt) (.slice xa xl xc) (.slice xa' xm xc')
    have hb5 : Below w.heap.size w4 (((((w4.setCell ⟨g, j * 6 + 1, none⟩ (.int .i64 xk)).setCell ⟨g, j * 6 + 1 + 1, none⟩ (.bool xy)).setCell ⟨g, j * 6 + 1 + 2, none⟩ (.string xt)).setCell ⟨g, j * 6 + 1 + 3, none⟩ (.slice xa xl xc)).setCell ⟨g, j * 6 + 1 + 4, none⟩ (.slice xa' xm xc')) := ⟨rfl, rfl, rfl, by rw [hsz5]; exact Nat.le_refl _, fun q hq => hot q (by omega)⟩
    clear v0 v1 v2 v3 v4 x0 x1 x2 x3 x4 n0 d0 d1 d2 d3 d4 f0 f1 f2 f3 f4
    generalize ((((w4.setCell _ _).setCell _ _).setCell _ _).setCell _ _).setCell _ _ = w5 at *
    have HB5 := Lib.hid (HB4.out.trans hb5)
    have M0 := Lib.hid ((hot w.heap.size (by omega)).trans J0.out)
    have M3 := Lib.hid ((hot (w.heap.size + 1 + 1 + 1) (by omega)).trans J3.out)
    have hput := HPUT.out (fun r hr => by obtain ⟨i, hi2, rfl⟩ := List.mem_iff_getElem.1 hr; exact (H4.out.2 i hi2 (by rw [← H4.out.1]; exact hi2)).len) w5 rfl
    simp only [hj, Nat.zero_add] at hput
    have HRD5 := Lib.hid (hput (fun q hq => hold q (by omega)) (fun i hi2 => hnew i hi2))
    have hs5 : w4.heap.size = w5.heap.size := hsz5.symm
    clear hot hold hnew hsz5 hb5 hput J0 J1 J2 J3 HOW4 HM4 HRD4 HB4 HPUT HGG
    obtain ⟨v0, v1, v2, v3, v4⟩ := five_at M0.out (Below.refl w5.heap.size w5) (by omega)
    obtain ⟨r0, r1, r2, r3, r4⟩ := five_at M3.out (Below.refl w5.heap.size w5) (by omega)
    have f0 := Lib.frozen_of_heap M3.out 0
    have f1 := Lib.frozen_of_heap M3.out 1
    have f2 := Lib.frozen_of_heap M3.out 2
    have f3 := Lib.frozen_of_heap M3.out 3
    have f4 := Lib.frozen_of_heap M3.out 4
    go_wp2_with fail
    have hst := value_stored M3.out (.int .i64 k) (.bool y) (.string tt) (.slice a ll c) (.slice (some ⟨g, 0, none⟩) m.length rc)
    have hot := five_else w5 (w.heap.size + 1 + 1 + 1) (.int .i64 k) (.bool y) (.string tt) (.slice a ll c) (.slice (some ⟨g, 0, none⟩) m.length rc)
    have hbe := zero_stored (gv := w.heap.size + 1 + 1 + 1) HB5.out (by omega) (.int .i64 k) (.bool y) (.string tt) (.slice a ll c) (.slice (some ⟨g, 0, none⟩) m.length rc)
    clear v0 v1 v2 v3 v4 r0 r1 r2 r3 r4 f0 f1 f2 f3 f4
    generalize ((((w5.setCell _ _).setCell _ _).setCell _ _).setCell _ _).setCell _ _ = w7 at *
    have e0 := Lib.cell_of_heap hst 0
    have e1 := Lib.cell_of_heap hst 1
    have e2 := Lib.cell_of_heap hst 2
    have e3 := Lib.cell_of_heap hst 3
    have e4 := Lib.cell_of_heap hst 4
    simp only [List.getElem?_toArray] at e0 e1 e2 e3 e4
    refine bodyPost_ret (v := .agg #[.int .i64 k, .bool y, .string tt, .slice a ll c, .slice (some ⟨g, 0, none⟩) m.length rc]) (by simp [results, Tryz.results29, go_sem, e0, e1, e2, e3, e4]) rfl ?_
    refine ⟨hbe, [.int .i64 k, .bool y, .string tt, .slice a ll c, .slice (some ⟨g, 0, none⟩) m.length rc], rfl, ?_⟩
    have hrow : RdO (fun b => (ok b ∧ b < w.heap.size) ∨ w.heap.size ≤ b) w7 (some ⟨g, 0, none⟩) (memCells (withM n x m) (cm.set j [.int .i64 xk, .bool xy, .string xt, .slice xa xl xc, .slice xa' xm xc'])) := by
      refine RdO.mono (ok := fun b => b = g) ?_ fun q hq => .inr (by omega)
      rcases HRD5.out with h | ⟨b', off', e, _, h⟩
      · exact .inl h
      · cases e
        refine .inr ⟨g, 0, rfl, rfl, fun i u hu => ?_⟩
        have := h i u hu
        unfold World.cell? at this ⊢
        rw [hot g (by omega)]
        exact this
    have hreps := HREP.out w7 hbe
    rw [hj] at hreps
    have hres := rep_of (k := k) (y := y) (t := t) (l := l) (m := withM n x m) (a := a) (a' := some ⟨g, 0, none⟩) (c := c) (c' := rc) ((H1.out.keep fun q hq _ => hbe.block q hq.2).mono fun q hq => .inl hq) ((Reps.keep H2.out fun q hq _ => hbe.block q hq.2).mono fun q hq => .inl hq) hrow hreps HC.out.1 (by rw [HWL.out]; exact HCL'.out)
    unfold strV at hres
    rw [HTT.out, HLL.out, HWL.out] at hres
    exact hres
  · have hRi : R = -1 := by rw [← HR.out, if_neg hi]
    subst hRi
    have HW := Lib.hid (withM_new n x m hi)
    clear hi
    go_wp2_with (at_builtin; refine wpList_append_rows rfl (.tmp 19) (.tmp 23) 24 rfl w1.heap.size 35 6 96 Tryz.underlying24 (by kernel_rfl) (by decide) _ m.length (memCells m cm) rfl (HOW4.out.alloc _) ⟨w4.heap.size, 0, none⟩ 1 1 [.string ⟨n.toArray⟩, .int .i64 xk, .bool xy, .string xt, .slice xa xl xc, .slice xa' xm xc'] rfl rfl ?c1 ?c2 ?c3 ?c4 ?c5 ?_)
    case c1 =>
      intro j u hu
      rw [Addr.add_lit, Lib.cell_of_heap (heap_alloc_new w4 _)]
      simpa using hu
    case c2 => intro u hu; simp only [List.mem_cons, List.mem_nil_iff, or_false] at hu; rcases hu with rfl | rfl | rfl | rfl | rfl | rfl <;> rfl
    case c3 => omega
    case c4 => omega
    case c5 => simp; omega
    intro v' w5 hown' hgrow _
    have hne : ∀ q, q < w1.heap.size → some q ≠ Value.ownBlock (.slice rb m.length rc) := fun q hq e => by
      have := (HOW4.out.lt q e.symm).1
      omega
    have hal := (Below.refl w4.heap.size w4).alloc (Nat.le_refl _) (.cells #[.string ⟨n.toArray⟩, .int .i64 xk, .bool xy, .string xt, .slice xa xl xc, .slice xa' xm xc'] 35)
    have hbk5 : ∀ q, q < w1.heap.size → w5.heap[q]? = w4.heap[q]? := fun q hq => (hgrow.block q (Nat.lt_of_lt_of_le (by omega) hal.size) (hne q hq)).trans (hal.block q (by omega))
    have hb5 : Below w.heap.size w4 w5 := ⟨hgrow.os.trans hal.os, hgrow.tape.trans hal.tape, hgrow.output.trans hal.output, Nat.le_trans hal.size hgrow.size, fun q hq => hbk5 q (by omega)⟩
    have HB5 := Lib.hid (HB4.out.trans hb5)
    have hs5 : w4.heap.size ≤ w5.heap.size := hb5.size
    obtain ⟨rb5, rc5, rfl, hrd5, hle5⟩ := own_rd hown'
    have M0 := Lib.hid ((hbk5 w.heap.size (by omega)).trans J0.out)
    have M3 := Lib.hid ((hbk5 (w.heap.size + 1 + 1 + 1) (by omega)).trans J3.out)
    have hrd5' : RdO (fun b => (ok b ∧ b < w.heap.size) ∨ w1.heap.size ≤ b) w5 rb5 (memCells (m ++ [(n, x)]) (cm ++ [[.int .i64 xk, .bool xy, .string xt, .slice xa xl xc, .slice xa' xm xc']])) := by
      rw [memCells_snoc m cm n x _ H4.out.1]
      exact hrd5.mono fun b hb => .inr hb.1
    have HRD5 := Lib.hid hrd5'
    have HLE := Lib.hid hle5
    clear hne hal hbk5 hb5 hown' hgrow hrd5 hrd5' hle5 v0 v1 v2 v3 v4 x0 x1 x2 x3 x4 n0 J0 J1 J2 J3 HOW4 HM4 HRD4 HB4
    obtain ⟨v0, v1, v2, v3, v4⟩ := five_at M0.out (Below.refl w5.heap.size w5) (by omega)
    have f4 := Lib.frozen_of_heap M0.out 4
    go_upto_region 5 with (fail)
    have hN0 := field5 M0.out (.slice rb5 (m.length + 1) rc5)
    have hot : ∀ k, k ≠ w.heap.size → (w5.setCell ⟨w.heap.size, 4, none⟩ (.slice rb5 (m.length + 1) rc5)).heap[k]? = w5.heap[k]? := fun k hk => Below.heap_setCell _ _ _ _ hk
    have hb6 := HB5.out.setCell (p := ⟨w.heap.size, 4, none⟩) (Nat.le_refl _) (.slice rb5 (m.length + 1) rc5)
    have hsz6 : (w5.setCell ⟨w.heap.size, 4, none⟩ (.slice rb5 (m.length + 1) rc5)).heap.size = w5.heap.size := by simp [World.setCell]
    clear v0 v1 v2 v3 v4 f4
    generalize w5.setCell ⟨w.heap.size, 4, none⟩ (.slice rb5 (m.length + 1) rc5) = w6 at *
    have HB6 := Lib.hid hb6
    have N0 := Lib.hid hN0
    have N3 := Lib.hid ((hot _ (by omega)).trans M3.out)
    have HRD6 := Lib.hid (HRD5.out.keep fun q hq _ => hot q (by rcases hq with hq | hq <;> omega))
    have hs6 : w5.heap.size = w6.heap.size := hsz6.symm
    clear hN0 hot hb6 hsz6 M0 M3 HRD5 HB5
    obtain ⟨v0, v1, v2, v3, v4⟩ := five_at N0.out (Below.refl w6.heap.size w6) (by omega)
    obtain ⟨r0, r1, r2, r3, r4⟩ := five_at N3.out (Below.refl w6.heap.size w6) (by omega)
    have f0 := Lib.frozen_of_heap N3.out 0
    have f1 := Lib.frozen_of_heap N3.out 1
    have f2 := Lib.frozen_of_heap N3.out 2
    have f3 := Lib.frozen_of_heap N3.out 3
    have f4 := Lib.frozen_of_heap N3.out 4
    go_wp2_with fail
    have hst := value_stored N3.out (.int .i64 k) (.bool y) (.string tt) (.slice a ll c) (.slice rb5 (m.length + 1) rc5)
    have hot := five_else w6 (w.heap.size + 1 + 1 + 1) (.int .i64 k) (.bool y) (.string tt) (.slice a ll c) (.slice rb5 (m.length + 1) rc5)
    have hbe := zero_stored (gv := w.heap.size + 1 + 1 + 1) HB6.out (by omega) (.int .i64 k) (.bool y) (.string tt) (.slice a ll c) (.slice rb5 (m.length + 1) rc5)
    clear v0 v1 v2 v3 v4 r0 r1 r2 r3 r4 f0 f1 f2 f3 f4
    generalize ((((w6.setCell _ _).setCell _ _).setCell _ _).setCell _ _).setCell _ _ = w7 at *
    have e0 := Lib.cell_of_heap hst 0
    have e1 := Lib.cell_of_heap hst 1
    have e2 := Lib.cell_of_heap hst 2
    have e3 := Lib.cell_of_heap hst 3
    have e4 := Lib.cell_of_heap hst 4
    simp only [List.getElem?_toArray] at e0 e1 e2 e3 e4
    refine bodyPost_ret (v := .agg #[.int .i64 k, .bool y, .string tt, .slice a ll c, .slice rb5 (m.length + 1) rc5]) (by simp [results, Tryz.results29, go_sem, e0, e1, e2, e3, e4]) rfl ?_
    refine ⟨hbe, [.int .i64 k, .bool y, .string tt, .slice a ll c, .slice rb5 (m.length + 1) rc5], rfl, ?_⟩
    have hrow : RdO (fun b => (ok b ∧ b < w.heap.size) ∨ w.heap.size ≤ b) w7 rb5 (memCells (m ++ [(n, x)]) (cm ++ [[.int .i64 xk, .bool xy, .string xt, .slice xa xl xc, .slice xa' xm xc']])) := (HRD6.out.keep fun q hq _ => hot q (by rcases hq with hq | hq <;> omega)).mono fun q hq => hq.imp id fun h => by omega
    have hreps : RepsM (fun b => (ok b ∧ b < w.heap.size) ∨ w.heap.size ≤ b) w7 (cm ++ [[.int .i64 xk, .bool xy, .string xt, .slice xa xl xc, .slice xa' xm xc']]) (m ++ [(n, x)]) :=
      RepsM.snoc ((H4.out.keep fun q hq _ => hbe.block q hq.2).mono fun q hq => .inl hq) ((HX0.out.keep fun q hq _ => hbe.block q hq.2).mono fun q hq => .inl hq)
    have hres := rep_of (k := k) (y := y) (t := t) (l := l) (m := m ++ [(n, x)]) (a := a) (a' := rb5) (c := c) (c' := rc5) ((H1.out.keep fun q hq _ => hbe.block q hq.2).mono fun q hq => .inl hq) ((Reps.keep H2.out fun q hq _ => hbe.block q hq.2).mono fun q hq => .inl hq) hrow hreps HC.out.1 (by have := HLE.out; simpa using this)
    unfold strV at hres
    rw [HTT.out, HLL.out, List.length_append] at hres
    rw [HW.out]
    exact hres
end Go.Proofs.YtfcokdkbjajohaaGreatDoor
/- A whole member stored in a row of members: cells, no program (for Without's DeleteFunc, and for a row whose members change places). -/
set_option linter.unusedVariables false
namespace Go.Proofs.YtfcokdkbjajohaaGreatDoor
open Go.RowKit

theorem memCells_row (p : List UInt8 × JV) (cs : List Value) (hc : cs.length = 5) : ∀ (m : List (List UInt8 × JV)) (cm : List (List Value)) (j : Nat) (hj : j < m.length), cm.length = m.length → (∀ r ∈ cm, r.length = 5) → ∀ q : Nat,
    (memCells (m.set j p) (cm.set j cs))[q]? = if j * 6 ≤ q ∧ q < j * 6 + 6 then (strV p.1 :: cs)[q - j * 6]? else (memCells m cm)[q]?
  | [], _, _, hj, _, _, _ => by simp at hj
  | _ :: _, [], _, _, hl, _, _ => by simp at hl
  | (k, u) :: m, r :: cm, 0, hj, hl, h5, q => by
    have hr := h5 r (by simp)
    simp only [List.set_cons_zero, memCells]
    cases q with
    | zero => simp
    | succ q =>
      simp only [List.getElem?_cons_succ]
      by_cases hq : q < 5
      · rw [if_pos (by omega), List.getElem?_append_left (by omega), show q + 1 - 0 * 6 = q + 1 by omega, List.getElem?_cons_succ]
      · rw [if_neg (by omega), List.getElem?_append_right (by omega), List.getElem?_append_right (by omega), hc, hr]
  | (k, u) :: m, r :: cm, j + 1, hj, hl, h5, q => by
    have hr := h5 r (by simp)
    have ih := memCells_row p cs hc m cm j (by simpa using hj) (by simpa using hl) (fun x hx => h5 x (by simp [hx]))
    simp only [List.set_cons_succ, memCells]
    cases q with
    | zero =>
      rw [if_neg (by omega)]
      simp
    | succ q =>
      simp only [List.getElem?_cons_succ]
      by_cases hq : q < 5
      · rw [if_neg (by omega), List.getElem?_append_left (by omega), List.getElem?_append_left (by omega)]
      · rw [List.getElem?_append_right (by omega), List.getElem?_append_right (by omega), hr, ih (q - 5)]
        by_cases h2 : j * 6 ≤ q - 5 ∧ q - 5 < j * 6 + 6
        · rw [if_pos h2, if_pos (by omega)]
          congr 1
          omega
        · rw [if_neg h2, if_neg (by omega)]
/-- Six stores in a row's midst. -/
theorem six_put {w : World} {g p : Nat} {cur : Array Value} {T : TypeId} {fr : Nat × Nat} (h : w.heap[g]? = some (.cells cur T fr)) (hp : p + 6 ≤ cur.size) (x a b c d e : Value) :
    ∃ cur', ((((((w.setCell ⟨g, p, none⟩ x).setCell ⟨g, p + 1, none⟩ a).setCell ⟨g, p + 2, none⟩ b).setCell ⟨g, p + 3, none⟩ c).setCell ⟨g, p + 4, none⟩ d).setCell ⟨g, p + 5, none⟩ e).heap[g]? = some (.cells cur' T fr) ∧ cur'.size = cur.size ∧
      (∀ q : Nat, ¬ (p ≤ q ∧ q < p + 6) → cur'[q]? = cur[q]?) ∧ (∀ i : Nat, i < 6 → cur'[p + i]? = [x, a, b, c, d, e][i]?) := by
  refine ⟨(((((cur.setIfInBounds p x).setIfInBounds (p + 1) a).setIfInBounds (p + 2) b).setIfInBounds (p + 3) c).setIfInBounds (p + 4) d).setIfInBounds (p + 5) e, ?_, by simp, fun q hq => ?_, fun i hi => ?_⟩
  · simp [World.setCell, Array.getElem?_modify, h]
  · rw [Array.getElem?_setIfInBounds_ne (by omega), Array.getElem?_setIfInBounds_ne (by omega), Array.getElem?_setIfInBounds_ne (by omega), Array.getElem?_setIfInBounds_ne (by omega), Array.getElem?_setIfInBounds_ne (by omega), Array.getElem?_setIfInBounds_ne (by omega)]
  · have q0 : p < cur.size := by omega
    have q1 : p + 1 < cur.size := by omega
    have q2 : p + 2 < cur.size := by omega
    have q3 : p + 3 < cur.size := by omega
    have q4 : p + 4 < cur.size := by omega
    have q5 : p + 5 < cur.size := by omega
    match i, hi with
    | 0, _ =>
      rw [Array.getElem?_setIfInBounds_ne (by omega), Array.getElem?_setIfInBounds_ne (by omega), Array.getElem?_setIfInBounds_ne (by omega), Array.getElem?_setIfInBounds_ne (by omega), Array.getElem?_setIfInBounds_ne (by omega)]
      simp [q0]
    | 1, _ =>
      rw [Array.getElem?_setIfInBounds_ne (by omega), Array.getElem?_setIfInBounds_ne (by omega), Array.getElem?_setIfInBounds_ne (by omega), Array.getElem?_setIfInBounds_ne (by omega)]
      simp [q1]
    | 2, _ =>
      rw [Array.getElem?_setIfInBounds_ne (by omega), Array.getElem?_setIfInBounds_ne (by omega), Array.getElem?_setIfInBounds_ne (by omega)]
      simp [q2]
    | 3, _ =>
      rw [Array.getElem?_setIfInBounds_ne (by omega), Array.getElem?_setIfInBounds_ne (by omega)]
      simp [q3]
    | 4, _ =>
      rw [Array.getElem?_setIfInBounds_ne (by omega)]
      simp [q4]
    | 5, _ => simp [q5]
end Go.Proofs.YtfcokdkbjajohaaGreatDoor
/- clear of a row of members. -/
set_option linter.unusedVariables false
namespace Go.Proofs.YtfcokdkbjajohaaGreatDoor
open Go.RowKit

def zeroM6 : Array Value := #[.string ⟨#[]⟩, .int .i64 0, .bool false, .string ⟨#[]⟩, .slice none 0 0, .slice none 0 0]
theorem info_mem6 : (Tryz.prog.info? 35).map (fun i => (i.zero, i.size)) = some (some (.agg zeroM6), 6) := by kernel_rfl
theorem zero_cells_one (n : Nat) : ∀ v ∈ (Builtin.zeroCells zeroM6 n).toList, v.oneCell' = true := by
  intro v hv
  simp only [Builtin.zeroCells, Array.toList_map, List.mem_map] at hv
  obtain ⟨i, -, rfl⟩ := hv
  have h : i % zeroM6.size < 6 := Nat.mod_lt _ (by decide)
  generalize i % zeroM6.size = j at *
  match j, h with
  | 0, _ => rfl
  | 1, _ => rfl
  | 2, _ => rfl
  | 3, _ => rfl
  | 4, _ => rfl
  | 5, _ => rfl
theorem zero_cells_len (n : Nat) : (Builtin.zeroCells zeroM6 n).toList.length = n * 6 := by
  simp [Builtin.zeroCells, zeroM6]
theorem clear_members (w : World) (ty : TypeId) (b o n c : Nat) (hn : 0 < n) (hc : ∀ j, j < n * 6 → (w.cell? ⟨b, o + j, none⟩).isSome = true) (hf : ∀ j, j < n * 6 → w.frozen? ⟨b, o + j, none⟩ = false) :
    (Builtin.clear_ #[24] ty #[.slice (some ⟨b, o, none⟩) n c]).run Tryz.prog w = .ok (.tuple #[]) (w.setCells b o (Builtin.zeroCells zeroM6 n).toList) := by
  obtain ⟨i0, hi, hz⟩ : ∃ i0, Tryz.prog.info? 35 = some i0 ∧ i0.zero = some (.agg zeroM6) := by
    have h := info_mem6
    cases e : Tryz.prog.info? 35 with
    | none => rw [e] at h; cases h
    | some i => rw [e] at h; simp at h; exact ⟨i, rfl, h.1⟩
  have hst := run_storeCells_cells (P := Tryz.prog) b o (Builtin.zeroCells zeroM6 n).toList 0 w (by rw [zero_cells_len]; simpa using hc) (by rw [zero_cells_len]; simpa using hf) (zero_cells_one n)
  simp only [Nat.add_zero] at hst
  obtain ⟨m, rfl⟩ : ∃ m, n = m + 1 := ⟨n - 1, by omega⟩
  simp [Builtin.clear_, run_underlying Tryz.underlying24, zeroValue, typeInfo, hi, hz, Value.cells, hst]
end Go.Proofs.YtfcokdkbjajohaaGreatDoor
/- A row of members, cleared behind a place; the members of other names, with their cells: no program. -/
set_option linter.unusedVariables false
namespace Go.Proofs.YtfcokdkbjajohaaGreatDoor
open Go.RowKit

theorem setCells_keep (b : Nat) : ∀ (L : List Value) (o : Nat) (w : World), But b w (w.setCells b o L) ∧ (w.setCells b o L).heap.size = w.heap.size ∧ (∀ q, q < o → (w.setCells b o L).cell? ⟨b, q, none⟩ = w.cell? ⟨b, q, none⟩)
  | [], o, w => ⟨⟨rfl, rfl, rfl, Nat.le_refl _, fun _ _ _ => rfl⟩, rfl, fun _ _ => rfl⟩
  | v :: r, o, w => by
    obtain ⟨h1, h2, h3⟩ := setCells_keep b r (o + 1) (w.setCell ⟨b, o, none⟩ v)
    have hs : (w.setCell ⟨b, o, none⟩ v).heap.size = w.heap.size := by simp [World.setCell]
    refine ⟨⟨h1.os, h1.tape, h1.output, by have := h1.size; rw [hs] at this; exact this, fun k hk hb => ?_⟩, h2.trans hs, fun q hq => ?_⟩
    · exact (h1.block k (by rw [hs]; exact hk) hb).trans (Below.heap_setCell _ _ _ _ hb)
    · refine (h3 q (by omega)).trans ?_
      simp only [World.cell?, World.setCell, Array.getElem?_modify]
      cases e : w.heap[b]? with
      | none => simp
      | some ob =>
        cases ob with
        | cells cs T fr => simp [Array.getElem?_setIfInBounds_ne (show o ≠ q by omega)]
        | _ => simp
/-- The cells of the members of other names. -/
def withoutC (n : List UInt8) : List (List UInt8 × JV) → List (List Value) → List (List Value)
  | p :: m, r :: cm => if p.1 = n then withoutC n m cm else r :: withoutC n m cm
  | _, _ => []
theorem withoutC_reps {ok : Nat → Prop} {w : World} (n : List UInt8) : ∀ (m : List (List UInt8 × JV)) (cm : List (List Value)), RepsM ok w cm m → RepsM ok w (withoutC n m cm) (withoutM n m)
  | [], cm, h => by
    have hc : cm = [] := List.eq_nil_of_length_eq_zero h.1
    subst hc
    exact RepsM.nil ok w
  | p :: m, [], h => by have := h.1; simp at this
  | p :: m, r :: cm, h => by
    have ht : RepsM ok w cm m := ⟨by have := h.1; simpa using this, fun i hi hj => by have := h.2 (i + 1) (by simpa using hi) (by simpa using hj); simpa using this⟩
    have hr : Rep ok w r p.2 := by have := h.2 0 (by simp) (by simp); simpa using this
    have ih := withoutC_reps n m cm ht
    by_cases e : p.1 = n
    · have e1 : withoutM n (p :: m) = withoutM n m := by unfold withoutM; rw [List.filter_cons_of_neg (by simp [e])]
      rw [e1]
      unfold withoutC
      rw [if_pos e]
      exact ih
    · have e1 : withoutM n (p :: m) = p :: withoutM n m := by unfold withoutM; rw [List.filter_cons_of_pos (by simp [e])]
      rw [e1]
      unfold withoutC
      rw [if_neg e]
      refine ⟨by simp [ih.1], fun i hi hj => ?_⟩
      cases i with
      | zero => simpa using hr
      | succ i => simpa using ih.2 i (by simpa using hi) (by simpa using hj)
end Go.Proofs.YtfcokdkbjajohaaGreatDoor
/- The members of other names, up to a place: no program (for DeleteFunc). -/
set_option linter.unusedVariables false
namespace Go.Proofs.YtfcokdkbjajohaaGreatDoor
open Go.RowKit

theorem withoutM_snoc (n : List UInt8) (m : List (List UInt8 × JV)) (j : Nat) (h : j < m.length) : withoutM n (m.take (j + 1)) = if m[j].1 = n then withoutM n (m.take j) else withoutM n (m.take j) ++ [m[j]] := by
  unfold withoutM
  rw [List.take_succ_eq_append_getElem h, List.filter_append]
  by_cases e : m[j].1 = n
  · rw [if_pos e, List.filter_cons_of_neg (by simp [e])]
    simp
  · rw [if_neg e, List.filter_cons_of_pos (by simp [e])]
    simp
theorem withoutC_snoc (n : List UInt8) : ∀ (m : List (List UInt8 × JV)) (cm : List (List Value)) (j : Nat) (h : j < m.length) (hl : cm.length = m.length), withoutC n (m.take (j + 1)) (cm.take (j + 1)) = if m[j].1 = n then withoutC n (m.take j) (cm.take j) else withoutC n (m.take j) (cm.take j) ++ [cm[j]'(by omega)]
  | [], _, _, h, _ => by simp at h
  | p :: m, [], _, _, hl => by simp at hl
  | p :: m, r :: cm, 0, h, hl => by
    simp only [List.take_succ_cons, List.take_zero, withoutC, List.getElem_cons_zero]
    split <;> rfl
  | p :: m, r :: cm, j + 1, h, hl => by
    have ih := withoutC_snoc n m cm j (by simpa using h) (by simpa using hl)
    simp only [List.take_succ_cons, withoutC, List.getElem_cons_succ]
    by_cases e : p.1 = n
    · rw [if_pos e, if_pos e]
      exact ih
    · rw [if_neg e, if_neg e, ih]
      split <;> rfl
/-- Up to the first of the name nothing goes. -/
theorem without_idx (n : List UInt8) : ∀ (m : List (List UInt8 × JV)), withoutM n (m.take (idxM n m)) = m.take (idxM n m)
  | [] => rfl
  | (k, u) :: r => by
    unfold idxM
    by_cases e : k = n
    · rw [if_pos e]; rfl
    · rw [if_neg e, List.take_succ_cons]
      unfold withoutM
      rw [List.filter_cons_of_pos (by simp [e])]
      congr 1
      exact without_idx n r
theorem withoutC_idx (n : List UInt8) : ∀ (m : List (List UInt8 × JV)) (cm : List (List Value)), cm.length = m.length → withoutC n (m.take (idxM n m)) (cm.take (idxM n m)) = cm.take (idxM n m)
  | [], cm, h => by
    have hc : cm = [] := List.eq_nil_of_length_eq_zero h
    subst hc
    rfl
  | (k, u) :: m, [], h => by simp at h
  | (k, u) :: m, r :: cm, h => by
    unfold idxM
    by_cases e : k = n
    · rw [if_pos e]; rfl
    · rw [if_neg e, List.take_succ_cons, List.take_succ_cons]
      unfold withoutC
      rw [if_neg e, withoutC_idx n m cm (by simpa using h)]
end Go.Proofs.YtfcokdkbjajohaaGreatDoor
/- JsonWith: where the members stand, with one put or dropped. Plain. -/
set_option linter.unusedVariables false
namespace Go.Proofs.YtfcokdkbjajohaaGreatDoor

theorem idx_lt_iff (n : List UInt8) : ∀ m : List (List UInt8 × JV), idxM n m < m.length ↔ n ∈ m.map Prod.fst
  | [] => by simp
  | p :: m => by
    have ih := idx_lt_iff n m
    rw [idxM]
    by_cases e : p.1 = n
    · rw [if_pos e]
      simp [e]
    · rw [if_neg e, List.length_cons, List.map_cons, List.mem_cons]
      constructor
      · intro h
        exact .inr (ih.1 (by omega))
      · intro h
        rcases h with h | h
        · exact absurd h.symm e
        · have := ih.2 h
          omega
theorem with_len (n : List UInt8) (v : JV) (m : List (List UInt8 × JV)) : (withM n v m).length = if n ∈ m.map Prod.fst then m.length else m.length + 1 := by
  by_cases h : idxM n m < m.length
  · rw [withM_at n v m h, if_pos ((idx_lt_iff n m).1 h), List.length_set]
  · rw [withM_new n v m h, if_neg (fun q => h ((idx_lt_iff n m).2 q)), List.length_append]
    rfl
theorem with_le (n : List UInt8) (v : JV) (m : List (List UInt8 × JV)) : m.length ≤ (withM n v m).length ∧ (withM n v m).length ≤ m.length + 1 := by
  rw [with_len]
  split <;> omega
theorem with_at (n : List UInt8) (v : JV) (m : List (List UInt8 × JV)) (i : Nat) (h : i < m.length) (h' : i < (withM n v m).length) : (withM n v m)[i].1 = m[i].1 ∧ (m[i].1 ≠ n → (withM n v m)[i] = m[i]) := by
  by_cases hi : idxM n m < m.length
  · have hn := idxM_name n m hi
    simp only [withM_at n v m hi, List.getElem_set]
    by_cases e : idxM n m = i
    · subst e
      simp [hn]
    · simp [e]
  · simp only [withM_new n v m hi]
    rw [List.getElem_append_left h]
    exact ⟨rfl, fun _ => rfl⟩
theorem without_at (n : List UInt8) (m : List (List UInt8 × JV)) (i : Nat) (h : i < m.length) (hn : m[i].1 ≠ n) : (withoutM n m)[(withoutM n (m.take i)).length]? = some m[i] := by
  have e : withoutM n m = withoutM n (m.take i) ++ (m[i] :: withoutM n (m.drop (i + 1))) := by
    have h1 : m = m.take i ++ (m[i] :: m.drop (i + 1)) := by rw [← List.drop_eq_getElem_cons h, List.take_append_drop]
    unfold withoutM
    conv => lhs; rw [h1]
    rw [List.filter_append, List.filter_cons_of_pos (by simpa using hn)]
  rw [e, List.getElem?_append_right (Nat.le_refl _), Nat.sub_self]
  rfl
theorem numF_right_at {l : List (List UInt8)} {x : List UInt8 × JV} : ∀ {k : Nat}, x ∈ numF k l → rightJ x.2 = true := by
  induction l with
  | nil => intro k h; simp [numF] at h
  | cons s l ih =>
    intro k h
    simp only [numF, List.mem_cons] at h
    rcases h with rfl | h
    · exact num_right k
    · exact ih h
end Go.Proofs.YtfcokdkbjajohaaGreatDoor
/- Rows of names; the members of numbers, in cells. -/
set_option linter.unusedVariables false
namespace Go.Proofs.YtfcokdkbjajohaaGreatDoor
open Go.RowKit

/-- The cells of numbers. -/
def cellsF (k : Nat) : List (List UInt8) → List (List Value)
  | [] => []
  | s :: l => [.int .i64 3, .bool false, strV (Lib.itoa (k : Int)), .slice none 0 0, .slice none 0 0] :: cellsF (k + 1) l
theorem cellsF_len : ∀ (l : List (List UInt8)) (k : Nat), (cellsF k l).length = (numF k l).length
  | [], _ => rfl
  | s :: l, k => by rw [cellsF, numF, List.length_cons, List.length_cons, cellsF_len l]
theorem cellsF_snoc : ∀ (l : List (List UInt8)) (k : Nat) (s : List UInt8), cellsF k (l ++ [s]) = cellsF k l ++ [[.int .i64 3, .bool false, strV (Lib.itoa ((k + l.length : Nat) : Int)), .slice none 0 0, .slice none 0 0]]
  | [], k, s => rfl
  | t :: l, k, s => by
    rw [List.cons_append, cellsF, cellsF_snoc l (k + 1) s, cellsF, List.cons_append, List.length_cons, show k + 1 + l.length = k + (l.length + 1) by omega]
theorem cellsF_reps (ok : Nat → Prop) (w : World) : ∀ (l : List (List UInt8)) (k : Nat), RepsM ok w (cellsF k l) (numF k l)
  | [], k => RepsM.nil ok w
  | s :: l, k => by
    have ih := cellsF_reps ok w l (k + 1)
    refine ⟨cellsF_len (s :: l) k, fun i hi hj => ?_⟩
    cases i with
    | zero => exact Rep.leaf ok w 3 false _
    | succ i =>
      simp only [cellsF, numF, List.getElem_cons_succ]
      exact ih.2 i (by simp only [cellsF, List.length_cons] at hi; omega) (by simp only [numF, List.length_cons] at hj; omega)
set_option maxRecDepth 100000 in
theorem slice_hs (b off n c j : Nat) (hc : n ≤ c) (hj : j ≤ n) (h0 : 0 < c) (w : World) : (Instr.slice 51 (.slice (some ⟨b, off, none⟩) n c) none (some (.int .i64 (j : Int))) none).run Tryz.prog w = .ok (.slice (some ⟨b, off, none⟩) j c) w := by
  rw [run_slice_h w 51 (some ⟨b, off, none⟩) n c Tryz.underlying51 .i64 j (by omega) (by omega)]
  have : ¬ c = 0 := by omega
  simp [go_sem, this, Addr.add]
theorem none_rd {ok ok' : Nat → Prop} {w : World} {a : Option Addr} {m : List (List UInt8 × JV)} {cm : List (List Value)} (h3 : RdO ok w a (memCells m cm)) (h4 : RepsM ok' w cm m) (ha : a = none) : m.length = 0 := by
  have hl := mem6_len h4
  rcases h3 with h | ⟨b, off, e, _⟩
  · rw [h] at hl
    simp only [List.length_nil] at hl
    omega
  · rw [ha] at e
    cases e
theorem numF_mem : ∀ (l : List (List UInt8)) (k : Nat) (x : List UInt8 × JV), x ∈ numF k l → x.1 ∈ l
  | [], _, x, h => by simp [numF] at h
  | s :: l, k, x, h => by
    simp only [numF, List.mem_cons] at h ⊢
    rcases h with rfl | h
    · exact .inl rfl
    · exact .inr (numF_mem l (k + 1) x h)
theorem numF_val : ∀ (l : List (List UInt8)) (k : Nat) (x : List UInt8 × JV), x ∈ numF k l → ∃ i, i < k + l.length ∧ x.2 = jnum (Lib.itoa ((i : Nat) : Int))
  | [], _, x, h => by simp [numF] at h
  | s :: l, k, x, h => by
    simp only [numF, List.mem_cons] at h
    rcases h with rfl | h
    · exact ⟨k, by rw [List.length_cons]; omega, rfl⟩
    · obtain ⟨i, hi, e⟩ := numF_val l (k + 1) x h
      exact ⟨i, by rw [List.length_cons]; omega, e⟩
theorem one_rd {w : World} {g : Nat} {cs : List Value} {A : Array Value} {T : TypeId} {fr : Nat × Nat} (h : w.heap[g]? = some (.cells A T fr)) (hA : A = cs.toArray) : RdO (fun _ => True) w (some ⟨g, 0, none⟩) [cs].flatten := by
  subst hA
  refine .inr ⟨g, 0, rfl, trivial, fun i u hu => ?_⟩
  rw [Lib.cell_of_heap h]
  simpa using hu
theorem one_reps {ok : Nat → Prop} {w : World} {cs : List Value} {v : JV} (h : Rep ok w cs v) : Reps ok w [cs] [v] := by
  refine ⟨rfl, fun i hi hj => ?_⟩
  match i, hi with
  | 0, _ => exact h
  | k + 1, h => exact absurd h (by simp)
end Go.Proofs.YtfcokdkbjajohaaGreatDoor
/- DeleteFunc over members, with Without's closure. -/
set_option linter.unusedVariables false
namespace Go.Proofs.YtfcokdkbjajohaaGreatDoor
open Go.RowKit

theorem memCells_take : ∀ (m : List (List UInt8 × JV)) (cm : List (List Value)) (j : Nat) (q : Nat) (u : Value), (memCells (m.take j) (cm.take j))[q]? = some u → (memCells m cm)[q]? = some u
  | [], cm, j, q, u, h => by simp [memCells] at h
  | p :: m, [], j, q, u, h => by cases j <;> simp [memCells] at h
  | p :: m, r :: cm, 0, q, u, h => by simp [memCells] at h
  | p :: m, r :: cm, j + 1, q, u, h => by
    simp only [List.take_succ_cons, memCells] at h ⊢
    cases q with
    | zero => simpa using h
    | succ q =>
      simp only [List.getElem?_cons_succ] at h ⊢
      by_cases hq : q < r.length
      · rw [List.getElem?_append_left hq] at h ⊢
        exact h
      · rw [List.getElem?_append_right (by omega)] at h ⊢
        exact memCells_take m cm j _ u h
theorem setCells_row (b : Nat) : ∀ (L : List Value) (o : Nat) (w : World) (cur : Array Value) (T : TypeId) (fr : Nat × Nat), w.heap[b]? = some (.cells cur T fr) → ∃ cur2, (w.setCells b o L).heap[b]? = some (.cells cur2 T fr) ∧ ∀ q : Nat, q < o → cur2[q]? = cur[q]?
  | [], o, w, cur, T, fr, h => ⟨cur, h, fun _ _ => rfl⟩
  | v :: r, o, w, cur, T, fr, h => by
    have h' : (w.setCell ⟨b, o, none⟩ v).heap[b]? = some (.cells (cur.setIfInBounds o v) T fr) := by simp [World.setCell, Array.getElem?_modify, h]
    obtain ⟨c2, e, k⟩ := setCells_row b r (o + 1) _ _ T fr h'
    exact ⟨c2, e, fun q hq => (k q (by omega)).trans (Array.getElem?_setIfInBounds_ne (by omega))⟩
theorem but_below {g : Nat} {w w1 w2 : World} (h : But g w w1) (hb : Below w1.heap.size w1 w2) : But g w w2 :=
  ⟨hb.os.trans h.os, hb.tape.trans h.tape, hb.output.trans h.output, Nat.le_trans h.size hb.size, fun k hk hne => (hb.block k (Nat.lt_of_lt_of_le hk h.size)).trans (h.block k hk hne)⟩
theorem six_but (w : World) (g p : Nat) (x a b c d e : Value) : But g w ((((((w.setCell ⟨g, p, none⟩ x).setCell ⟨g, p + 1, none⟩ a).setCell ⟨g, p + 2, none⟩ b).setCell ⟨g, p + 3, none⟩ c).setCell ⟨g, p + 4, none⟩ d).setCell ⟨g, p + 5, none⟩ e) :=
  (((((But.setCell _ _ _ _).trans (But.setCell _ _ _ _)).trans (But.setCell _ _ _ _)).trans (But.setCell _ _ _ _)).trans (But.setCell _ _ _ _)).trans (But.setCell _ _ _ _)
set_option maxRecDepth 100000 in
set_option maxHeartbeats 16000000 in
theorem odel_any (n : List UInt8) (q : Addr) (ok : Nat → Prop) (g cap : Nat) (cur : Array Value) (m : List (List UInt8 × JV)) (cm : List (List Value)) (w : World) (hg : w.heap[g]? = some (.cells cur 35 (0, 0))) (hcap : m.length ≤ cap) (hcs : cur.size = cap * 6) (htk : cur.toList.take (m.length * 6) = memCells m cm) (hok : ok g) (h4 : RepsM ok w cm m) (hq : w.cell? q = some (.string ⟨n.toArray⟩)) (hqg : q.block ≠ g) (hl : m.length ≤ 1000000) :
    Calls Tryz.prog 83 #[.slice (some ⟨g, 0, none⟩) m.length cap, .func (.func 84) #[] #[.pointer (some q)]] w fun e w' => But g w w' ∧ e = .returned (.slice (some ⟨g, 0, none⟩) (withoutM n m).length cap) ∧
      ∃ cur', w'.heap[g]? = some (.cells cur' 35 (0, 0)) ∧ ∀ (i : Nat) (u : Value), (memCells (withoutM n m) (withoutC n m cm))[i]? = some u → cur'[i]? = some u := by
  have hcell : ∀ (i : Nat) (u : Value), (memCells m cm)[i]? = some u → cur[i]? = some u := fun i u hu => by
    rw [← htk, List.getElem?_take] at hu
    split at hu
    · simpa using hu
    · cases hu
  have h3 : RdO ok w (some ⟨g, 0, none⟩) (memCells m cm) := .inr ⟨g, 0, rfl, hok, fun i u hu => by rw [Nat.zero_add, Lib.cell_of_heap hg]; exact hcell i u hu⟩
  have HIX := Lib.hid (oix_any n q ok (some ⟨g, 0, none⟩) cap m cm w h3 h4 hq (by omega))
  have HG := Lib.hid hg
  have HCELL := Lib.hid hcell
  have H3 := Lib.hid h3
  have H4 := Lib.hid h4
  have HQ := Lib.hid hq
  have hql := World.block_lt_of_cell? _ _ hq
  have hgl : g < w.heap.size := (Array.getElem?_eq_some_iff.1 hg).1
  obtain ⟨R, hR⟩ : ∃ R : Int, (if idxM n m < m.length then (idxM n m : Int) else -1) = R := ⟨_, rfl⟩
  rw [hR] at HIX
  have HR := Lib.hid hR
  clear htk hcell h3 h4 hq hg hR hok
  obtain ⟨W, hW⟩ : ∃ k, (withoutM n m).length = k := ⟨_, rfl⟩
  rw [hW]
  have HW := Lib.hid hW
  clear hW
  go_enter Tryz.func83, Tryz.ntmps83
  go_wp2_with fail
  refine HIX.out.mono ?_
  rintro e w2 ⟨hb2, rfl⟩
  have HB2 := Lib.hid hb2
  clear hb2 HIX
  by_cases hi : idxM n m < m.length
  case neg =>
    have hRi : R = -1 := by rw [← HR.out, if_neg hi]
    subst hRi
    go_wp2_with fail
    refine bodyPost_ret (results_tmp rfl _ _ _) rfl ?_
    have hile := idxM_le n m
    have hie : idxM n m = m.length := by omega
    have e1 : withoutM n m = m := by
      have h := without_idx n m
      rw [hie, List.take_length] at h
      exact h
    have e2 : withoutC n m cm = cm := by
      have h := withoutC_idx n m cm H4.out.1
      rw [hie, List.take_length, show cm.take m.length = cm by rw [← H4.out.1, List.take_length]] at h
      exact h
    have hWm : W = m.length := by rw [← HW.out, e1]
    refine ⟨but_below ⟨rfl, rfl, rfl, Nat.le_refl _, fun _ _ _ => rfl⟩ HB2.out, by rw [hWm]; rfl, cur, (HB2.out.block _ hgl).trans HG.out, ?_⟩
    rw [e1, e2]
    exact HCELL.out
  have hRi : R = (idxM n m : Int) := by rw [← HR.out, if_pos hi]
  subst hRi
  obtain ⟨j0, hj0⟩ : ∃ j, idxM n m = j := ⟨_, rfl⟩
  have HJ0 := Lib.hid hj0
  rw [hj0] at hi ⊢
  clear hj0
  have hj1 : ¬ ((j0 : Nat) : Int) = -1 := by omega
  go_wp2_with fail
  have hg2 := (HB2.out.block _ hgl).trans HG.out
  have hsz : cur.size = cap * 6 := hcs
  go_loopg [5, 6] m.length (fun k x5 x6 wr => ∃ (i j : Nat) (cur' : Array Value), x5 = .int .i64 (i : Int) ∧ x6 = .int .i64 (j : Int) ∧ i < j ∧ j + k = m.length + j0 + 1 ∧ j ≤ m.length ∧ Hid (i = (withoutM n (m.take j)).length) ∧ Hid (wr.heap[g]? = some (.cells cur' 35 (0, 0)) ∧ cur'.size = cap * 6) ∧
    Hid (∀ (q : Nat) (u : Value), (memCells (withoutM n (m.take j)) (withoutC n (m.take j) (cm.take j)))[q]? = some u → cur'[q]? = some u) ∧ Hid (∀ q : Nat, j * 6 ≤ q → cur'[q]? = cur[q]?) ∧ Hid (But g w wr))
  case atStart =>
    have hnm : (m[j0]'hi).1 = n := by
      have h := idxM_name n m (by rw [HJ0.out]; exact hi)
      simp only [HJ0.out] at h
      exact h
    have e1 : withoutM n (m.take (j0 + 1)) = m.take j0 := by
      rw [withoutM_snoc n m j0 hi, if_pos hnm, ← HJ0.out, without_idx]
    have e2 : withoutC n (m.take (j0 + 1)) (cm.take (j0 + 1)) = cm.take j0 := by
      rw [withoutC_snoc n m cm j0 hi H4.out.1, if_pos hnm, ← HJ0.out, withoutC_idx n m cm H4.out.1]
    refine ⟨j0, j0 + 1, cur, rfl, by first | rfl | (congr 1), by omega, by omega, by omega, Lib.hid ?_, Lib.hid ⟨hg2, hsz⟩, Lib.hid ?_, Lib.hid (fun _ _ => rfl), Lib.hid (but_below ⟨rfl, rfl, rfl, Nat.le_refl _, fun _ _ _ => rfl⟩ HB2.out)⟩
    · rw [e1, List.length_take]; omega
    · rw [e1, e2]
      exact fun q u hu => HCELL.out q u (memCells_take m cm j0 q u hu)
  case round =>
    obtain ⟨i, j, cur', rfl, rfl, hij, hk, hj, HI, HGR, HPRE, HTAIL, HBT⟩ := hrel
    by_cases hlt : j < m.length
    · have hltI : (j : Int) < (m.length : Int) := by omega
      obtain ⟨b, off, k2, y2, t2, a2, l2, c2, a3, l3, c3, ea, -, i0, i1, i2, i3, i4, i5⟩ := mem_cells' H3.out H4.out j hlt
      cases ea
      have hnow : ∀ (o : Nat) (u : Value), o < 6 → w.cell? ⟨g, 0 + (j * 6 + o), none⟩ = some u → wr.cell? ⟨g, j * 6 + o, none⟩ = some u := fun o u ho h => by
        rw [Nat.zero_add, Lib.cell_of_heap HG.out] at h
        rw [Lib.cell_of_heap HGR.out.1, HTAIL.out (j * 6 + o) (by omega)]
        exact h
      have d0 := hnow 0 _ (by decide) i0
      have d1 := hnow 1 _ (by decide) i1
      have d2 := hnow 2 _ (by decide) i2
      have d3 := hnow 3 _ (by decide) i3
      have d4 := hnow 4 _ (by decide) i4
      have d5 := hnow 5 _ (by decide) i5
      simp only [Nat.add_zero] at d0
      clear i0 i1 i2 i3 i4 i5 hnow
      obtain ⟨nm, hnm⟩ : ∃ x, (m[j]'hlt).1 = x := ⟨_, rfl⟩
      rw [hnm] at d0
      have HNM := Lib.hid hnm
      clear hnm
      have hgw : g < wr.heap.size := (Array.getElem?_eq_some_iff.1 HGR.out.1).1
      have hqr : wr.cell? q = some (.string ⟨n.toArray⟩) := (World.cell?_of_block (HBT.out.block q.block hql hqg)).trans HQ.out
      have hqw := World.block_lt_of_cell? _ _ hqr
      have HD := Lib.hid (And.intro d0 (And.intro d1 (And.intro d2 (And.intro d3 (And.intro d4 d5)))))
      go_upto_region 8 with (fail)
      generalize hw5 : wr.alloc _ = w5
      obtain ⟨vb, hvb⟩ : ∃ b, wr.heap.size = b := ⟨_, rfl⟩
      have hb5 : Below wr.heap.size wr w5 := by rw [← hw5]; exact (Below.refl _ _).alloc (Nat.le_refl _) _
      have hx5 : w5.heap[vb]? = some (.cells #[.string ⟨nm.toArray⟩, .int .i64 k2, .bool y2, .string ⟨t2⟩, .slice a2 l2 c2, .slice a3 l3 c3] 35 (0, 0)) := by rw [← hw5, ← hvb]; exact heap_alloc_new _ _
      have HB5 := Lib.hid hb5
      have HX5 := Lib.hid hx5
      have hvl : vb < w5.heap.size := (Array.getElem?_eq_some_iff.1 hx5).1
      rw [hvb]
      have HC := Lib.hid (ocl_any n nm (.int .i64 k2) (.bool y2) (.string ⟨t2⟩) (.slice a2 l2 c2) (.slice a3 l3 c3) q w5 ((hb5.cell hqw).trans hqr))
      have v0 : w5.cell? ⟨vb, 0, none⟩ = some (.string ⟨nm.toArray⟩) := by rw [Lib.cell_of_heap hx5]; rfl
      have v1 : w5.cell? ⟨vb, 1, none⟩ = some (.int .i64 k2) := by rw [Lib.cell_of_heap hx5]; rfl
      have v2 : w5.cell? ⟨vb, 2, none⟩ = some (.bool y2) := by rw [Lib.cell_of_heap hx5]; rfl
      have v3 : w5.cell? ⟨vb, 3, none⟩ = some (.string ⟨t2⟩) := by rw [Lib.cell_of_heap hx5]; rfl
      have v4 : w5.cell? ⟨vb, 4, none⟩ = some (.slice a2 l2 c2) := by rw [Lib.cell_of_heap hx5]; rfl
      have v5 : w5.cell? ⟨vb, 5, none⟩ = some (.slice a3 l3 c3) := by rw [Lib.cell_of_heap hx5]; rfl
      clear hw5 hvb hb5 hx5 d0 d1 d2 d3 d4 d5 hqr
      by_cases hn : nm = n
      · have hb1 : (nm == n) = true := by rw [hn]; simp
        rw [hb1] at HC
        have HN := Lib.hid hn
        clear hn hb1
        go_wp2_with fail
        refine HC.out.mono ?_
        rintro e w6 ⟨rfl, hb6⟩
        have HB6 := Lib.hid (HB5.out.trans (hb6.mono HB5.out.size))
        clear hb6 v0 v1 v2 v3 v4 v5
        go_wp2_with fail
        go_roundg (gk - 1)
        case measure => omega
        case rel =>
          have e1 : withoutM n (m.take (j + 1)) = withoutM n (m.take j) := by rw [withoutM_snoc n m j hlt, if_pos (by rw [HNM.out, HN.out])]
          have e2 : withoutC n (m.take (j + 1)) (cm.take (j + 1)) = withoutC n (m.take j) (cm.take j) := by rw [withoutC_snoc n m cm j hlt H4.out.1, if_pos (by rw [HNM.out, HN.out])]
          refine ⟨i, j + 1, cur', rfl, by first | rfl | (congr 1), by omega, by omega, by omega, Lib.hid ?_, Lib.hid ⟨(HB6.out.block _ hgw).trans HGR.out.1, HGR.out.2⟩, Lib.hid ?_, Lib.hid (fun q hq => HTAIL.out q (by omega)), Lib.hid (but_below HBT.out HB6.out)⟩
          · rw [e1]; exact HI.out
          · rw [e1, e2]; exact HPRE.out
      · have hb1 : (nm == n) = false := beq_false_of_ne hn
        rw [hb1] at HC
        have HN := Lib.hid hn
        clear hn hb1
        go_wp2_with fail
        refine HC.out.mono ?_
        rintro e w6 ⟨rfl, hb6⟩
        have HB6 := Lib.hid (HB5.out.trans (hb6.mono HB5.out.size))
        have hx6 := (hb6.block _ hvl).trans HX5.out
        have hg6 := (HB6.out.block _ hgw).trans HGR.out.1
        have HG6 := Lib.hid hg6
        have w0 : w6.cell? ⟨vb, 0, none⟩ = some (.string ⟨nm.toArray⟩) := by rw [Lib.cell_of_heap hx6]; rfl
        have w1 : w6.cell? ⟨vb, 1, none⟩ = some (.int .i64 k2) := by rw [Lib.cell_of_heap hx6]; rfl
        have w2 : w6.cell? ⟨vb, 2, none⟩ = some (.bool y2) := by rw [Lib.cell_of_heap hx6]; rfl
        have w3 : w6.cell? ⟨vb, 3, none⟩ = some (.string ⟨t2⟩) := by rw [Lib.cell_of_heap hx6]; rfl
        have w4 : w6.cell? ⟨vb, 4, none⟩ = some (.slice a2 l2 c2) := by rw [Lib.cell_of_heap hx6]; rfl
        have w5' : w6.cell? ⟨vb, 5, none⟩ = some (.slice a3 l3 c3) := by rw [Lib.cell_of_heap hx6]; rfl
        have hsz6 := HGR.out.2
        have dd : ∀ q, q < 6 → ∃ u, w6.cell? ⟨g, i * 6 + q, none⟩ = some u := fun q hq => by
          rw [Lib.cell_of_heap hg6]
          exact ⟨_, Array.getElem?_eq_getElem (by omega)⟩
        obtain ⟨u0, d0⟩ := dd 0 (by decide)
        obtain ⟨u1, d1⟩ := dd 1 (by decide)
        obtain ⟨u2, d2⟩ := dd 2 (by decide)
        obtain ⟨u3, d3⟩ := dd 3 (by decide)
        obtain ⟨u4, d4⟩ := dd 4 (by decide)
        obtain ⟨u5, d5⟩ := dd 5 (by decide)
        simp only [Nat.add_zero] at d0
        have f0 := Lib.frozen_of_heap hg6 (i * 6)
        have f1 := Lib.frozen_of_heap hg6 (i * 6 + 1)
        have f2 := Lib.frozen_of_heap hg6 (i * 6 + 2)
        have f3 := Lib.frozen_of_heap hg6 (i * 6 + 3)
        have f4 := Lib.frozen_of_heap hg6 (i * 6 + 4)
        have f5 := Lib.frozen_of_heap hg6 (i * 6 + 5)
        have hil : (i : Int) < (m.length : Int) := by omega
        clear hb6 v0 v1 v2 v3 v4 v5 dd hx6 hg6 hsz6
        go_upto_region 10 with (fail)
        obtain ⟨cur7, hg7, hs7, hold7, hnew7⟩ := six_put HG6.out (p := i * 6) (by rw [HGR.out.2]; omega) (.string ⟨nm.toArray⟩) (.int .i64 k2) (.bool y2) (.string ⟨t2⟩) (.slice a2 l2 c2) (.slice a3 l3 c3)
        have hbt7 := six_but w6 g (i * 6) (.string ⟨nm.toArray⟩) (.int .i64 k2) (.bool y2) (.string ⟨t2⟩) (.slice a2 l2 c2) (.slice a3 l3 c3)
        clear w0 w1 w2 w3 w4 w5' d0 d1 d2 d3 d4 d5 f0 f1 f2 f3 f4 f5
        generalize (((((w6.setCell ⟨g, i * 6, none⟩ (.string ⟨nm.toArray⟩)).setCell ⟨g, i * 6 + 1, none⟩ (.int .i64 k2)).setCell ⟨g, i * 6 + 2, none⟩ (.bool y2)).setCell ⟨g, i * 6 + 3, none⟩ (.string ⟨t2⟩)).setCell ⟨g, i * 6 + 4, none⟩ (.slice a2 l2 c2)).setCell ⟨g, i * 6 + 5, none⟩ (.slice a3 l3 c3) = w7 at *
        have HG7 := Lib.hid hg7
        have HS7 := Lib.hid hs7
        have HO7 := Lib.hid hold7
        have HN7 := Lib.hid hnew7
        have HBT7 := Lib.hid hbt7
        clear hg7 hs7 hold7 hnew7 hbt7
        go_wp2_with fail
        go_roundg (gk - 1)
        case measure => omega
        case rel =>
          have hjc : j < cm.length := by rw [H4.out.1]; exact hlt
          have e1 : withoutM n (m.take (j + 1)) = withoutM n (m.take j) ++ [m[j]] := by rw [withoutM_snoc n m j hlt, if_neg (by rw [HNM.out]; exact HN.out)]
          have e2 : withoutC n (m.take (j + 1)) (cm.take (j + 1)) = withoutC n (m.take j) (cm.take j) ++ [cm[j]] := by rw [withoutC_snoc n m cm j hlt H4.out.1, if_neg (by rw [HNM.out]; exact HN.out)]
          have ht4 : RepsM ok w (cm.take j) (m.take j) := ⟨by simp [H4.out.1], fun a ha hb => by have := H4.out.2 a (by simp at ha; omega) (by simp at hb; omega); simpa using this⟩
          have hr4 := withoutC_reps n _ _ ht4
          have hlen := mem6_len hr4
          rw [← HI.out] at hlen
          refine ⟨i + 1, j + 1, cur7, by first | rfl | (congr 1), by first | rfl | (congr 1), by omega, by omega, by omega, Lib.hid ?_, Lib.hid ⟨HG7.out, HS7.out.trans HGR.out.2⟩, Lib.hid ?_, Lib.hid (fun q hq => (HO7.out q (by omega)).trans (HTAIL.out q (by omega))), Lib.hid ((but_below HBT.out HB6.out).trans HBT7.out)⟩
          · rw [e1, List.length_append, ← HI.out]; rfl
          · intro p u hu
            rw [e1, e2, show [m[j]] = [(m[j].1, m[j].2)] from rfl, memCells_snoc _ _ _ _ _ hr4.1] at hu
            by_cases hp : p < i * 6
            · rw [List.getElem?_append_left (by omega)] at hu
              rw [HO7.out p (by omega)]
              exact HPRE.out p u hu
            · rw [List.getElem?_append_right (by omega), hlen] at hu
              have ho : p - i * 6 < 6 := by
                have := (List.getElem?_eq_some_iff.1 hu).1
                simp only [List.length_cons, (H4.out.2 j hjc hlt).len] at this
                omega
              have h1 := mem6_get H4.out j hjc hlt (p - i * 6) ho
              have h2 := HCELL.out _ u (h1.trans hu)
              have h3 : wr.cell? ⟨g, j * 6 + (p - i * 6), none⟩ = some u := by
                rw [Lib.cell_of_heap HGR.out.1, HTAIL.out _ (by omega)]
                exact h2
              have h4 := HN7.out (p - i * 6) ho
              rw [show i * 6 + (p - i * 6) = p by omega] at h4
              rw [h4]
              obtain ⟨d0, d1, d2, d3, d4, d5⟩ := HD.out
              generalize p - i * 6 = o at *
              match o, ho with
              | 0, _ => rw [Nat.add_zero, d0] at h3; simpa using h3
              | 1, _ => rw [d1] at h3; simpa using h3
              | 2, _ => rw [d2] at h3; simpa using h3
              | 3, _ => rw [d3] at h3; simpa using h3
              | 4, _ => rw [d4] at h3; simpa using h3
              | 5, _ => rw [d5] at h3; simpa using h3
    · have hje : j = m.length := by omega
      subst hje
      have hge : ¬ ((m.length : Nat) : Int) < (m.length : Int) := by omega
      have hclr := clear_members wr 0 g (i * 6) (m.length - i) (cap - i) (by omega) (fun j hj => by
        rw [Lib.cell_of_heap HGR.out.1, Array.getElem?_eq_getElem (by rw [HGR.out.2]; omega)]
        rfl) (fun j _ => Lib.frozen_of_heap HGR.out.1 _)
      obtain ⟨hbt, hszc, hkeep⟩ := setCells_keep g (Builtin.zeroCells zeroM6 (m.length - i)).toList (i * 6) wr
      have HKEEP := Lib.hid hkeep
      have HBT2 := Lib.hid hbt
      have HSZ := Lib.hid hszc
      clear hbt hszc hkeep
      obtain ⟨cur2, hrow, hrq⟩ := setCells_row g (Builtin.zeroCells zeroM6 (m.length - i)).toList (i * 6) wr cur' _ _ HGR.out.1
      have HROW := Lib.hid hrow
      have HRQ := Lib.hid hrq
      have hiW : i = W := by
        have := HI.out
        rw [List.take_length, HW.out] at this
        exact this
      have HIW := Lib.hid hiW
      clear hrow hrq hiW
      go_wp2_with fail
      refine bodyPost_ret (results_tmp rfl _ _ _) rfl ?_
      refine ⟨HBT.out.trans HBT2.out, by rw [← HIW.out]; rfl, cur2, HROW.out, fun p u hu => ?_⟩
      have hpre := HPRE.out
      rw [List.take_length, show cm.take m.length = cm by rw [← H4.out.1, List.take_length]] at hpre
      have hlen : (memCells (withoutM n m) (withoutC n m cm)).length = W * 6 := by rw [mem6_len (withoutC_reps n m cm H4.out), HW.out]
      have hp : p < (memCells (withoutM n m) (withoutC n m cm)).length := (List.getElem?_eq_some_iff.1 hu).1
      rw [HRQ.out p (by rw [HIW.out]; omega)]
      exact hpre p u hu
end Go.Proofs.YtfcokdkbjajohaaGreatDoor
/- json: Without. -/
set_option linter.unusedVariables false
namespace Go.Proofs.YtfcokdkbjajohaaGreatDoor
open Go.RowKit

theorem without_len (n : List UInt8) (m : List (List UInt8 × JV)) : (withoutM n m).length ≤ m.length := by
  unfold withoutM
  exact List.length_filter_le _ _
set_option maxRecDepth 100000 in
set_option maxHeartbeats 4000000 in
theorem odel_nil (n : List UInt8) (q : Addr) (w : World) (hq : w.cell? q = some (.string ⟨n.toArray⟩)) :
    Calls Tryz.prog 83 #[.slice none 0 0, .func (.func 84) #[] #[.pointer (some q)]] w fun e w' => Below w.heap.size w w' ∧ e = .returned (.slice none 0 0) := by
  have HIX := Lib.hid (oix_any n q (fun _ => True) none 0 [] [] w (.inl rfl) (RepsM.nil _ _) hq (by decide))
  clear hq
  rw [show (if idxM n [] < ([] : List (List UInt8 × JV)).length then (idxM n [] : Int) else -1) = -1 from rfl] at HIX
  go_enter Tryz.func83, Tryz.ntmps83
  go_wp2_with fail
  refine HIX.out.mono ?_
  rintro e w2 ⟨hb2, rfl⟩
  have HB2 := Lib.hid hb2
  clear hb2 HIX
  go_wp2_with fail
  refine bodyPost_ret (results_tmp rfl _ _ _) rfl ?_
  exact ⟨HB2.out, rfl⟩
theorem odelr_any (n : List UInt8) (q : Addr) (ok : Nat → Prop) (B : Nat) (v : Value) (m : List (List UInt8 × JV)) (cm : List (List Value)) (w : World) (hown : w.ownsRow B 35 6 v m.length (memCells m cm)) (h4 : RepsM (fun b => ok b ∧ b < B) w cm m) (hq : w.cell? q = some (.string ⟨n.toArray⟩)) (hqB : q.block < B) (hB : B ≤ w.heap.size) (hl : m.length ≤ 1000000) :
    Calls Tryz.prog 83 #[v, .func (.func 84) #[] #[.pointer (some q)]] w fun e w' => Below B w w' ∧
      ∃ ra c', e = .returned (.slice ra (withoutM n m).length c') ∧ RdO (B ≤ ·) w' ra (memCells (withoutM n m) (withoutC n m cm)) ∧ (withoutM n m).length ≤ c' := by
  rcases hown.2 with ⟨rfl, h0⟩ | ⟨g, cap, cur, rfl, hgB, hg, hle, hcs, hsz, htk⟩
  · have hm : m = [] := List.eq_nil_of_length_eq_zero h0
    subst hm
    refine (odel_nil n q w hq).mono ?_
    rintro e w' ⟨hb, rfl⟩
    exact ⟨hb.mono hB, none, 0, rfl, .inl rfl, Nat.le_refl _⟩
  · refine (odel_any n q (fun b => (ok b ∧ b < B) ∨ b = g) g cap cur m cm w hg hle (by first | exact hcs | exact hsz | omega) htk (.inr rfl) (h4.mono fun b h => .inl h) hq (by omega) hl).mono ?_
    rintro e w' ⟨hb, rfl, cur', hg', hc⟩
    refine ⟨⟨hb.os, hb.tape, hb.output, hb.size, fun k hk => hb.block k (by omega) (by omega)⟩, some ⟨g, 0, none⟩, cap, rfl, .inr ⟨g, 0, rfl, hgB, fun i u hu => ?_⟩, Nat.le_trans (without_len n m) hle⟩
    rw [Nat.zero_add, Lib.cell_of_heap hg']
    exact hc i u hu
theorem three_alloc (w : World) (o0 o1 o2 : Obj) : Below w.heap.size w (((w.alloc o0).alloc o1).alloc o2) ∧ (((w.alloc o0).alloc o1).alloc o2).heap[w.heap.size]? = some o0 ∧ (((w.alloc o0).alloc o1).alloc o2).heap[w.heap.size + 1]? = some o1 ∧ (((w.alloc o0).alloc o1).alloc o2).heap[w.heap.size + 1 + 1]? = some o2 := by
  have s1 : (w.alloc o0).heap.size = w.heap.size + 1 := by simp
  have s2 : ((w.alloc o0).alloc o1).heap.size = w.heap.size + 1 + 1 := by simp
  have h1 := heap_alloc_new (w.alloc o0) o1
  have h2 := heap_alloc_new ((w.alloc o0).alloc o1) o2
  rw [s1] at h1
  rw [s2] at h2
  exact ⟨(((Below.refl _ _).alloc (Nat.le_refl _) _).alloc (by simp) _).alloc (by simp; omega) _, block_alloc (block_alloc (heap_alloc_new w _) _) _, block_alloc h1 _, h2⟩
set_option maxRecDepth 100000 in
set_option maxHeartbeats 16000000 in
theorem jwithout_any (k : Int) (y : Bool) (t : List UInt8) (l : List JV) (m : List (List UInt8 × JV)) (n : List UInt8) (ok : Nat → Prop) (cs : List Value) (w : World) (h : Rep ok w cs (.mk k y t l m)) (hl : m.length ≤ 900000) :
    Calls Tryz.prog 30 #[.agg cs.toArray, .string ⟨n.toArray⟩] w fun e w' => Below w.heap.size w w' ∧ ∃ cs', e = .returned (.agg cs'.toArray) ∧ Rep (fun b => (ok b ∧ b < w.heap.size) ∨ w.heap.size ≤ b) w' cs' (.mk k y t l (withoutM n m)) := by
  obtain ⟨a, c, a', c', cl, cm, rfl, h1, h2, h3, h4, hc, hc'⟩ := h.parts
  simp only [JV.kind, JV.yes, JV.text, JV.list, JV.mem] at h1 h2 h3 h4 hc hc' ⊢
  unfold strV at *
  clear h
  have hl6 := mem6_len h4
  have hone := h4.one
  have hnn := none_mem h3 h4
  have H1 := Lib.hid h1.lt
  have H2 := Lib.hid (show Reps (fun b => ok b ∧ b < w.heap.size) w cl l from Reps.lt h2)
  have H4 := Lib.hid (show RepsM (fun b => ok b ∧ b < w.heap.size) w cm m from RepsM.lt h4)
  have HC := Lib.hid hc
  have HRC := Lib.hid h3.rdc
  clear h1 h2 h3 h4 hc hc'
  obtain ⟨tt, htt⟩ : ∃ tt : ByteArray, (⟨t.toArray⟩ : ByteArray) = tt := ⟨_, rfl⟩
  have HTT := Lib.hid htt
  rw [htt]
  clear htt
  obtain ⟨ll, hll⟩ : ∃ ll : Nat, l.length = ll := ⟨_, rfl⟩
  have HLL := Lib.hid hll
  rw [hll]
  clear hll
  go_enter Tryz.func30, Tryz.ntmps30
  go_upto_region 1 with (fail)
  obtain ⟨hb, g0, g1, g2⟩ := three_alloc w (.cells #[.int .i64 k, .bool y, .string tt, .slice a ll c, .slice a' m.length c'] 26) (.cells #[.string ⟨n.toArray⟩] 9) (.cells #[.int .i64 0, .bool false, .string ⟨#[]⟩, .slice none 0 0, .slice none 0 0] 26)
  generalize ((w.alloc _).alloc _).alloc _ = w1 at *
  have hs1 : w.heap.size + 1 + 1 < w1.heap.size := (Array.getElem?_eq_some_iff.1 g2).1
  have HB1 := Lib.hid hb
  have HCL := Lib.hid (cloneM_any a' m.length c' (memCells m cm) w1 (HRC.out.below hb) hl6 hone (by omega) hnn)
  have G0 := Lib.hid g0
  have G1 := Lib.hid g1
  have G2 := Lib.hid g2
  have hmf : ∀ (fn : Fn) (first cap : Array Value) (w : World), (Instr.makeFunc fn first cap).run Tryz.prog w = .ok (.func fn first cap) w := fun _ _ _ _ => rfl
  obtain ⟨v0, v1, v2, v3, v4⟩ := five_at g0 (Below.refl w1.heap.size w1) (by omega)
  clear hb g0 g1 g2 hnn hone
  go_wp2_with fail
  refine HCL.out.mono ?_
  rintro e w2 ⟨v, rfl, hown, hb2⟩
  have HB2 := Lib.hid (HB1.out.trans (hb2.mono HB1.out.size))
  have K0 := Lib.hid ((hb2.block _ (by omega)).trans G0.out)
  have K1 := Lib.hid ((hb2.block _ (by omega)).trans G1.out)
  have K2 := Lib.hid ((hb2.block _ (by omega)).trans G2.out)
  have hs2 : w1.heap.size ≤ w2.heap.size := hb2.size
  have hq : w2.cell? ⟨w.heap.size + 1, 0, none⟩ = some (.string ⟨n.toArray⟩) := by rw [Lib.cell_of_heap K1.out]; rfl
  have HDF := Lib.hid (odelr_any n ⟨w.heap.size + 1, 0, none⟩ (fun b => ok b ∧ b < w.heap.size) w1.heap.size v m cm w2 hown ((H4.out.keep fun b hb _ => HB2.out.block b hb.2).mono fun b hb => ⟨hb, by have := hb.2; omega⟩) hq (by show w.heap.size + 1 < _; omega) hs2 (by omega))
  obtain ⟨W, hW⟩ : ∃ W, (withoutM n m).length = W := ⟨_, rfl⟩
  rw [hW] at HDF
  have HWW := Lib.hid hW
  clear hb2 hown hq hW v0 v1 v2 v3 v4 HCL G0 G1 G2
  go_wp2_with fail
  refine HDF.out.mono ?_
  rintro e w3 ⟨hb3, ra, rc, rfl, hrd, hle⟩
  have HB3 := Lib.hid (HB2.out.trans (hb3.mono (by omega)))
  have J0 := Lib.hid ((hb3.block _ (by omega)).trans K0.out)
  have J2 := Lib.hid ((hb3.block _ (by omega)).trans K2.out)
  have hs3 : w2.heap.size ≤ w3.heap.size := hb3.size
  have HRD := Lib.hid hrd
  have HLE := Lib.hid hle
  clear hb3 hrd hle HDF K0 K1 K2 hmf
  obtain ⟨v0, v1, v2, v3, v4⟩ := five_at J0.out (Below.refl w3.heap.size w3) (by omega)
  have f4 := Lib.frozen_of_heap J0.out 4
  go_upto_region 2 with (fail)
  have hN0 := field5 J0.out (.slice ra W rc)
  have hot : ∀ k, k ≠ w.heap.size → (w3.setCell ⟨w.heap.size, 4, none⟩ (.slice ra W rc)).heap[k]? = w3.heap[k]? := fun k hk => Below.heap_setCell _ _ _ _ hk
  have hb4 := HB3.out.setCell (p := ⟨w.heap.size, 4, none⟩) (Nat.le_refl _) (.slice ra W rc)
  have hsz4 : (w3.setCell ⟨w.heap.size, 4, none⟩ (.slice ra W rc)).heap.size = w3.heap.size := by simp [World.setCell]
  clear v0 v1 v2 v3 v4 f4
  generalize w3.setCell ⟨w.heap.size, 4, none⟩ (.slice ra W rc) = w4 at *
  have HB4 := Lib.hid hb4
  have N0 := Lib.hid hN0
  have N2 := Lib.hid ((hot _ (by omega)).trans J2.out)
  have HRD4 := Lib.hid (HRD.out.keep fun q hq _ => hot q (by omega))
  have hs4 : w3.heap.size = w4.heap.size := hsz4.symm
  clear hN0 hot hb4 hsz4 J0 J2 HRD HB3
  obtain ⟨v0, v1, v2, v3, v4⟩ := five_at N0.out (Below.refl w4.heap.size w4) (by omega)
  obtain ⟨r0, r1, r2, r3, r4⟩ := five_at N2.out (Below.refl w4.heap.size w4) (by omega)
  have f0 := Lib.frozen_of_heap N2.out 0
  have f1 := Lib.frozen_of_heap N2.out 1
  have f2 := Lib.frozen_of_heap N2.out 2
  have f3 := Lib.frozen_of_heap N2.out 3
  have f4 := Lib.frozen_of_heap N2.out 4
  go_wp2_with fail
  have hst := value_stored N2.out (.int .i64 k) (.bool y) (.string tt) (.slice a ll c) (.slice ra W rc)
  have hot := five_else w4 (w.heap.size + 1 + 1) (.int .i64 k) (.bool y) (.string tt) (.slice a ll c) (.slice ra W rc)
  have hbe := zero_stored (gv := w.heap.size + 1 + 1) HB4.out (by omega) (.int .i64 k) (.bool y) (.string tt) (.slice a ll c) (.slice ra W rc)
  clear v0 v1 v2 v3 v4 r0 r1 r2 r3 r4 f0 f1 f2 f3 f4
  generalize ((((w4.setCell _ _).setCell _ _).setCell _ _).setCell _ _).setCell _ _ = w5 at *
  have e0 := Lib.cell_of_heap hst 0
  have e1 := Lib.cell_of_heap hst 1
  have e2 := Lib.cell_of_heap hst 2
  have e3 := Lib.cell_of_heap hst 3
  have e4 := Lib.cell_of_heap hst 4
  simp only [List.getElem?_toArray] at e0 e1 e2 e3 e4
  refine bodyPost_ret (v := .agg #[.int .i64 k, .bool y, .string tt, .slice a ll c, .slice ra W rc]) (by simp [results, Tryz.results30, go_sem, e0, e1, e2, e3, e4]) rfl ?_
  refine ⟨hbe, [.int .i64 k, .bool y, .string tt, .slice a ll c, .slice ra W rc], rfl, ?_⟩
  have hrow : RdO (fun b => (ok b ∧ b < w.heap.size) ∨ w.heap.size ≤ b) w5 ra (memCells (withoutM n m) (withoutC n m cm)) := (HRD4.out.keep fun q hq _ => hot q (by omega)).mono fun q hq => .inr (by omega)
  have hreps : RepsM (fun b => (ok b ∧ b < w.heap.size) ∨ w.heap.size ≤ b) w5 (withoutC n m cm) (withoutM n m) := withoutC_reps n m cm ((H4.out.keep fun q hq _ => hbe.block q hq.2).mono fun q hq => .inl hq)
  have hres := rep_of (k := k) (y := y) (t := t) (l := l) (m := withoutM n m) (a := a) (a' := ra) (c := c) (c' := rc) ((H1.out.keep fun q hq _ => hbe.block q hq.2).mono fun q hq => .inl hq) ((Reps.keep H2.out fun q hq _ => hbe.block q hq.2).mono fun q hq => .inl hq) hrow hreps HC.out (by rw [HWW.out]; exact HLE.out)
  unfold strV at hres
  rw [HTT.out, HLL.out, HWW.out] at hres
  exact hres
end Go.Proofs.YtfcokdkbjajohaaGreatDoor
/- JsonWith: objects in cells. -/
set_option linter.unusedVariables false
namespace Go.Proofs.YtfcokdkbjajohaaGreatDoor
open Go.RowKit

theorem rep_obj {ok : Nat → Prop} {w : World} {cs : List Value} {M : List (List UInt8 × JV)} {N : Nat} (h : Rep ok w cs (jobj M)) (hN : M.length = N) :
    ∃ a c a' c' cm, cs = [.int .i64 6, .bool false, .string ⟨#[]⟩, .slice a 0 c, .slice a' N c'] ∧ RdO ok w a' (memCells M cm) ∧ RepsM ok w cm M ∧ N ≤ c' := by
  subst hN
  obtain ⟨a, c, a', c', cl, cm, rfl, -, -, h3, h4, -, h6⟩ := h.parts
  exact ⟨a, c, a', c', cm, rfl, h3, h4, h6⟩
/-- An object of values that have no rows: only its own row matters. -/
theorem rep_leafs {ok ok' : Nat → Prop} {w : World} {a a' : Option Addr} {c c' N : Nat} {M : List (List UInt8 × JV)} {cm : List (List Value)} (hN : M.length = N) (hl : ∀ x ∈ M, x.2.list = [] ∧ x.2.mem = []) (h3 : RdO ok w a' (memCells M cm)) (h4 : RepsM ok w cm M) (hc : N ≤ c')
    (hb : M ≠ [] → ∀ b off, a' = some ⟨b, off, none⟩ → ok' b) : RdO ok' w a' (memCells M cm) ∧ RepsM ok' w cm M := by
  subst hN
  constructor
  · cases M with
    | nil => exact .inl (by cases cm <;> rfl)
    | cons p M =>
      rcases h3 with h | ⟨b, off, e, _, h⟩
      · exact .inl h
      · exact .inr ⟨b, off, e, hb (by simp) b off e, h⟩
  · refine ⟨h4.1, fun i hi hj => ?_⟩
    have h5 := h4.2 i hi hj
    obtain ⟨h6, h7⟩ := hl M[i] (List.getElem_mem _)
    generalize hv : M[i].2 = v at *
    generalize hcs : cm[i] = cs at *
    obtain ⟨a, c, a', c', cl, cm', e, h1, h2, h8, h9, h10, h11⟩ := h5.parts
    obtain ⟨k, y, t, l, m⟩ := v
    simp only [JV.list, JV.mem] at h6 h7
    subst h6 h7
    subst e
    exact rep_of (l := []) (m := []) (cl := []) (cm := []) (.inl rfl) (Reps.nil _ _) (.inl rfl) (RepsM.nil _ _) (by simp) (by simp)
/-- A row of members is no block of one empty value. -/
theorem row_no_zero {ok : Nat → Prop} {w : World} {a' : Option Addr} {M : List (List UInt8 × JV)} {cm : List (List Value)} {T : TypeId} {fr : Nat × Nat} {g : Nat} (h3 : RdO ok w a' (memCells M cm)) (h4 : RepsM ok w cm M) (hM : M ≠ []) (hg : w.heap[g]? = some (.cells #[.int .i64 0, .bool false, .string ⟨#[]⟩, .slice none 0 0, .slice none 0 0] T fr)) :
    ∀ b off, a' = some ⟨b, off, none⟩ → b ≠ g := by
  intro b off e hbg
  subst hbg
  have h0 : 0 < M.length := List.length_pos_iff.2 hM
  obtain ⟨b', off', k2, y2, t2, a2, l2, c2, a3, l3, c3, e2, -, i0, i1, -⟩ := mem_cells' h3 h4 0 h0
  rw [e] at e2
  cases e2
  rw [Lib.cell_of_heap hg] at i0 i1
  simp only [Nat.zero_mul, Nat.add_zero] at i0 i1
  match off, i0, i1 with
  | 0, i0, _ => simp at i0
  | 1, i0, _ => simp at i0
  | 2, _, i1 => simp at i1
  | 3, i0, _ => simp at i0
  | 4, i0, _ => simp at i0
  | k + 5, i0, _ => simp at i0
theorem numF_leaf : ∀ (l : List (List UInt8)) (k : Nat) (x : List UInt8 × JV), x ∈ numF k l → x.2.list = [] ∧ x.2.mem = []
  | [], _, x, h => by simp [numF] at h
  | s :: l, k, x, h => by
    simp only [numF, List.mem_cons] at h
    rcases h with rfl | h
    · exact ⟨rfl, rfl⟩
    · exact numF_leaf l (k + 1) x h
theorem with_mem {n : List UInt8} {v : JV} : ∀ {m : List (List UInt8 × JV)} {x : List UInt8 × JV}, x ∈ withM n v m → x = (n, v) ∨ x ∈ m := by
  intro m x hx
  by_cases h : idxM n m < m.length
  · rw [withM_at n v m h] at hx
    rcases List.mem_or_eq_of_mem_set hx with h | h
    · exact .inr h
    · exact .inl h
  · rw [withM_new n v m h] at hx
    rcases List.mem_append.1 hx with h | h
    · exact .inr h
    · exact .inl (List.mem_singleton.1 h)
theorem without_mem {n : List UInt8} {m : List (List UInt8 × JV)} {x : List UInt8 × JV} (h : x ∈ withoutM n m) : x ∈ m := by
  unfold withoutM at h
  exact (List.mem_filter.1 h).1
end Go.Proofs.YtfcokdkbjajohaaGreatDoor
/- A drawn region two of whose operations make things that are apart; its last operations stand in a forced order. -/
set_option linter.unusedVariables false
namespace Go.Proofs.YtfcokdkbjajohaaGreatDoor
open Go.RowKit

theorem wp_region_grow_two {P : Program} {id : Nat} {l : List Oper} {Q : Exit → Act → World → Prop} {a : Act} {w : World} (n p q : Nat) (D : Value → Value → Prop) (hpq : p ≠ q) (hpn : p < n) (hqn : q < n) (hm : P.follows .mixedOrders = true)
    (hac : ((List.range l.length).all fun i => ((l[i]?).map fun o => o.after.all fun e => !Region.binds .any e || decide (e.on < i)).getD true) = true)
    (hn : n ≤ l.length) (hcov : ((List.range l.length).all fun j => decide (j < n) || coverGo l j (depsAt l j)) = true)
    (ds : List Nat) (hds : ((l.take n).map (·.dst)) = ds.map some) (hnd : ds.Nodup) (hlt : ds.all (fun d => decide (d < a.tmps.size)) = true)
    (V : Nat → Value → World → Prop) (hV : ∀ i v w1 w2, V i v w1 → Below w1.heap.size w1 w2 → V i v w2)
    (step : ∀ i o, (l.take n)[i]? = some o → ∀ a' w', Fr ds a a' → Below w.heap.size w w' → (∀ j, (o.after.any fun e => Region.binds .any e && e.on == j) = true → V j (a'.tmps.getD (ds.getD j 0) undef) w') →
      wpOp P l.toArray Q i (fun a'' w'' => ∃ v, a'' = a'.put (some (ds.getD i 0)) v ∧ V i v w'' ∧ Below w'.heap.size w' w'') a' w')
    (stepp : ∀ o, (l.take n)[p]? = some o → ∀ a' w', Fr ds a a' → Below w.heap.size w w' → wpOp P l.toArray Q p (fun a'' w'' => ∃ v, a'' = a'.put (some (ds.getD p 0)) v ∧ (V p v w'' ∧ ∀ u, V q u w' → D v u) ∧ Below w'.heap.size w' w'') a' w')
    (stepq : ∀ o, (l.take n)[q]? = some o → ∀ a' w', Fr ds a a' → Below w.heap.size w w' → wpOp P l.toArray Q q (fun a'' w'' => ∃ v, a'' = a'.put (some (ds.getD q 0)) v ∧ (V q v w'' ∧ ∀ u, V p u w' → D u v) ∧ Below w'.heap.size w' w'') a' w')
    (done : ∀ a' w', Fr ds a a' → Below w.heap.size w w' → (∀ j, j < n → V j (a'.tmps.getD (ds.getD j 0) undef) w') → D (a'.tmps.getD (ds.getD p 0) undef) (a'.tmps.getD (ds.getD q 0) undef) → wpList P l.toArray Q (l.drop n) a' w') :
    (Code.region id l.toArray true).wp P Q a w := by
  have hlen : n = ds.length := by have := congrArg List.length hds; simp at this; omega
  have hmem : ∀ j, j < n → ds.getD j 0 ∈ ds := by
    intro j hj
    rw [List.getD_eq_getElem?_getD, List.getElem?_eq_getElem (by omega)]
    exact List.getElem_mem _
  have hinj : ∀ i j, i < n → j < n → ds.getD i 0 = ds.getD j 0 → i = j := by
    intro i j hi hj e
    rw [List.getD_eq_getElem?_getD, List.getElem?_eq_getElem (by omega), List.getD_eq_getElem?_getD, List.getElem?_eq_getElem (by omega)] at e
    exact (List.getElem_inj hnd).1 e
  have hdeps : ∀ (b : Nat → Bool) i o, l[i]? = some o → (o.after.all fun e => !Region.binds .any e || b e.on) = true → ∀ x ∈ depsAt l i, b x = true := by
    intro b i o ho hpre x hx
    rw [depsAt_mem ho] at hx
    obtain ⟨k, hk, hj⟩ := Array.any_eq_true.1 hx
    simp only [Bool.and_eq_true, beq_iff_eq] at hj
    have := (Array.all_eq_true.1 hpre) k hk
    rw [hj.1, hj.2] at this
    simpa using this
  have hput : ∀ (a' : Act) (i : Nat) (v : Value), Fr ds a a' → i < n → (a'.put (some (ds.getD i 0)) v).tmps.getD (ds.getD i 0) undef = v := by
    intro a' i v hf hi
    rw [put_at]
    rw [hf.size]
    have := (List.all_eq_true.1 hlt) _ (hmem i hi)
    simpa using this
  have hoth : ∀ (a' : Act) (i j : Nat) (v : Value), i < n → j < n → j ≠ i → (a'.put (some (ds.getD i 0)) v).tmps.getD (ds.getD j 0) undef = a'.tmps.getD (ds.getD j 0) undef := by
    intro a' i j v hi hj e
    rw [put_other _ _ _ _ (fun e' => e (hinj _ _ hj hi e'))]
  refine wp_region_inv hm hac (fun b a' w' => (∀ j, b j = true → ∀ x ∈ depsAt l j, b x = true) ∧
    (((∀ j, n ≤ j → b j = false) ∧ Fr ds a a' ∧ Below w.heap.size w w' ∧ (∀ j, j < n → b j = true → V j (a'.tmps.getD (ds.getD j 0) undef) w') ∧ (b p = true → b q = true → D (a'.tmps.getD (ds.getD p 0) undef) (a'.tmps.getD (ds.getD q 0) undef))) ∨
     (∃ k, n ≤ k ∧ (∀ j, b j = true ↔ j < k) ∧ wpList P l.toArray Q (l.drop k) a' w'))) ?_ ?_ ?_
  · exact ⟨fun _ h => (by cases h), .inl ⟨fun _ _ => rfl, Fr.refl _ _, (Below.refl _ _).drew, (fun j _ h => by cases h), (fun h => by cases h)⟩⟩
  · rintro b a' w' ⟨hcl, hI⟩ i o ho hbi hpre
    have hil : i < l.length := (List.getElem?_eq_some_iff.1 ho).1
    have hdi := hdeps b i o ho hpre
    have hcl' : ∀ j, (if j = i then true else b j) = true → ∀ x ∈ depsAt l j, (if x = i then true else b x) = true := by
      intro j hj x hx
      by_cases ex : x = i
      · simp [ex]
      · simp only [ex, if_false]
        by_cases ej : j = i
        · subst ej; exact hdi x hx
        · simp only [ej, if_false] at hj; exact hcl j hj x hx
    have hcovi : n ≤ i → ∀ x, x < i → b x = true := by
      intro hni
      have := (List.all_eq_true.1 hcov) i (List.mem_range.2 hil)
      simp only [Bool.or_eq_true, decide_eq_true_eq] at this
      rcases this with h | h
      · omega
      · exact coverGo_all hcl i _ h hdi
    rcases hI with ⟨hno, hf, hb, hall, hD⟩ | ⟨k, hk, hbk, hw⟩
    · by_cases hin : i < n
      · have hot : (l.take n)[i]? = some o := by rw [List.getElem?_take, if_pos hin]; exact ho
        have hnew : ∀ (v : Value) (w'' : World), V i v w'' → Below w'.heap.size w' w'' → ∀ j, j < n → (if j = i then true else b j) = true → V j ((a'.put (some (ds.getD i 0)) v).tmps.getD (ds.getD j 0) undef) w'' := by
          intro v w'' hv hb' j hj hbj
          by_cases e : j = i
          · subst e
            rw [hput a' j v hf hin]
            exact hv
          · simp only [e, if_false] at hbj
            rw [hoth a' i j v hin hj e]
            exact hV _ _ _ _ (hall j hj hbj) hb'
        by_cases ep : i = p
        · subst ep
          refine wpOp_mono ?_ (stepp o hot a' w' hf hb)
          rintro a'' w'' ⟨v, rfl, ⟨hv, hDv⟩, hb'⟩
          refine ⟨hcl', .inl ⟨fun j hj => ?_, hf.put (hmem i hin) v, hb.trans (hb'.mono hb.size), hnew v w'' hv hb', fun _ h2 => ?_⟩⟩
          · simp only [show j ≠ i by omega, if_false]; exact hno j hj
          · simp only [show q ≠ i from fun e => hpq e.symm, if_false] at h2
            rw [hput a' i v hf hin, hoth a' i q v hin hqn (fun e => hpq e.symm)]
            exact hDv _ (hall q hqn h2)
        by_cases eq : i = q
        · subst eq
          refine wpOp_mono ?_ (stepq o hot a' w' hf hb)
          rintro a'' w'' ⟨v, rfl, ⟨hv, hDv⟩, hb'⟩
          refine ⟨hcl', .inl ⟨fun j hj => ?_, hf.put (hmem i hin) v, hb.trans (hb'.mono hb.size), hnew v w'' hv hb', fun h1 _ => ?_⟩⟩
          · simp only [show j ≠ i by omega, if_false]; exact hno j hj
          · simp only [hpq, if_false] at h1
            rw [hput a' i v hf hin, hoth a' i p v hin hpn hpq]
            exact hDv _ (hall p hpn h1)
        refine wpOp_mono ?_ (step i o hot a' w' hf hb ?_)
        · rintro a'' w'' ⟨v, rfl, hv, hb'⟩
          refine ⟨hcl', .inl ⟨fun j hj => ?_, hf.put (hmem i hin) v, hb.trans (hb'.mono hb.size), hnew v w'' hv hb', fun h1 h2 => ?_⟩⟩
          · simp only [show j ≠ i by omega, if_false]; exact hno j hj
          · simp only [show p ≠ i from fun e => ep e.symm, if_false] at h1
            simp only [show q ≠ i from fun e => eq e.symm, if_false] at h2
            rw [hoth a' i p v hin hpn (fun e => ep e.symm), hoth a' i q v hin hqn (fun e => eq e.symm)]
            exact hD h1 h2
        · intro j hj
          have h1 : b j = true := hdi j ((depsAt_mem ho).2 hj)
          have h2 : j < n := by
            rcases Nat.lt_or_ge j n with h | h
            · exact h
            · rw [hno j h] at h1; cases h1
          exact hall j h2 h1
      · have hc := hcovi (by omega)
        have ein : i = n := by
          rcases Nat.lt_or_ge n i with h | h
          · have := hc n h
            rw [hno n (Nat.le_refl _)] at this
            cases this
          · omega
        subst ein
        refine wpOp_mono ?_ (wpOp_of_list ho (done a' w' hf hb (fun j hj => hall j hj (hc j hj)) (hD (hc p hpn) (hc q hqn))))
        intro a'' w'' hw'
        refine ⟨hcl', .inr ⟨i + 1, by omega, fun j => ?_, hw'⟩⟩
        by_cases e : j = i
        · simp [e]
        · simp only [e, if_false]
          constructor
          · intro h
            rcases Nat.lt_or_ge j i with h' | h'
            · omega
            · rw [hno j h'] at h; cases h
          · intro h; exact hc j (by omega)
    · have hki : i = k := by
        have h1 : ¬ i < k := fun h => by rw [(hbk i).2 h] at hbi; cases hbi
        have hc := hcovi (by omega)
        rcases Nat.lt_or_ge k i with h | h
        · have := (hbk k).1 (hc k h)
          omega
        · omega
      subst hki
      refine wpOp_mono ?_ (wpOp_of_list ho hw)
      intro a'' w'' hw'
      refine ⟨hcl', .inr ⟨i + 1, by omega, fun j => ?_, hw'⟩⟩
      by_cases e : j = i
      · simp [e]
      · simp only [e, if_false]
        rw [hbk j]
        omega
  · rintro b a' w' ⟨hcl, hI⟩ hdone
    rcases hI with ⟨hno, hf, hb, hall, hD⟩ | ⟨k, hk, hbk, hw⟩
    · have hnl : l.length ≤ n := by
        rcases Nat.lt_or_ge n l.length with h | h
        · have := hdone n h
          rw [hno n (Nat.le_refl _)] at this
          cases this
        · exact h
      have := done a' w' hf hb (fun j hj => hall j hj (hdone j (by omega))) (hD (hdone p (by omega)) (hdone q (by omega)))
      rw [List.drop_eq_nil_of_le hnl] at this
      exact this
    · have hkl : l.length ≤ k := by
        rcases Nat.lt_or_ge k l.length with h | h
        · have := (hbk k).1 (hdone k h)
          omega
        · exact h
      rw [List.drop_eq_nil_of_le hkl] at hw
      exact hw
/-- Pointers apart. -/
def Apart (v u : Value) : Prop := ∀ g g', v = .pointer (some ⟨g, 0, none⟩) → u = .pointer (some ⟨g', 0, none⟩) → g ≠ g'
/-- A new block. -/
def VNew (B : Nat) (x : Obj) : Value → World → Prop := fun v w => ∃ g, v = .pointer (some ⟨g, 0, none⟩) ∧ B ≤ g ∧ w.heap[g]? = some x
theorem VNew.stab (B : Nat) (x : Obj) : Stab (VNew B x) := fun v w1 w2 ⟨g, e, hB, h⟩ hb => ⟨g, e, hB, (hb.block _ (Array.getElem?_eq_some_iff.1 h).1).trans h⟩
theorem VNew.apart {B : Nat} {x : Obj} {w : World} {u : Value} (h : VNew B x u w) : Apart (.pointer (some ⟨w.heap.size, 0, none⟩)) u := by
  obtain ⟨g, rfl, _, hg⟩ := h
  intro a b e1 e2
  cases e1
  cases e2
  have := (Array.getElem?_eq_some_iff.1 hg).1
  omega
theorem VNew.apart' {B : Nat} {x : Obj} {w : World} {u : Value} (h : VNew B x u w) : Apart u (.pointer (some ⟨w.heap.size, 0, none⟩)) := fun a b e1 e2 e => h.apart b a e2 e1 e.symm
end Go.Proofs.YtfcokdkbjajohaaGreatDoor
