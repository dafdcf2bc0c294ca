/- Merged: JsMp, JsMq, JsMbp, JsMbw, JsMb, OpnL. -/
import Derived.Deep.Strs
import Derived.ChangeSame
import GoSem.ClaimJoined
import Derived.Test.YtfcokdkbjajohaaGreatDoorMg1
import Derived.Test.YtfcokdkbjajohaaGreatDoorMg2
import Derived.Test.YtfcokdkbjajohaaGreatDoorMg3
import Derived.Test.YtfcokdkbjajohaaGreatDoorMg4
import Derived.Test.YtfcokdkbjajohaaGreatDoorMg5
import Derived.Test.YtfcokdkbjajohaaGreatDoorMg6
import Derived.Test.YtfcokdkbjajohaaGreatDoorMg7
/- json, plain: a member set, a member dropped; what stays right. -/
set_option linter.unusedVariables false
namespace Go.Proofs.YtfcokdkbjajohaaGreatDoor

/-- A name set to a value: in its place, or at the end. -/
def withM (n : List UInt8) (v : JV) : List (List UInt8 × JV) → List (List UInt8 × JV)
  | [] => [(n, v)]
  | p :: m => if p.1 = n then (p.1, v) :: m else p :: withM n v m
/-- A name dropped, wherever it stands. -/
def withoutM (n : List UInt8) (m : List (List UInt8 × JV)) : List (List UInt8 × JV) := m.filter fun p => decide (p.1 ≠ n)
theorem withM_get (n k : List UInt8) (v : JV) : ∀ m, getM k (withM n v m) = if k = n then some v else getM k m
  | [] => by
    rw [withM]
    simp only [getM]
    by_cases h : k = n
    · rw [if_pos h.symm, if_pos h]
    · rw [if_neg (fun e => h e.symm), if_neg h]
  | p :: m => by
    have ih := withM_get n k v m
    rw [withM]
    by_cases hp : p.1 = n
    · rw [if_pos hp]
      simp only [getM]
      by_cases h : k = n
      · rw [if_pos (hp.trans h.symm), if_pos h]
      · have : ¬ p.1 = k := fun e => h (e.symm.trans hp)
        rw [if_neg this, if_neg h, if_neg this]
    · rw [if_neg hp]
      simp only [getM]
      by_cases h : p.1 = k
      · have hk : ¬ k = n := fun e => hp (h.trans e)
        rw [if_pos h, if_neg hk, if_pos h]
      · rw [if_neg h, ih, if_neg h]
theorem withM_right (n : List UInt8) (v : JV) (hn : toldB n = true) (hv : rightJ v = true) : ∀ m, rightM m = true → rightM (withM n v m) = true
  | [], _ => by simp [withM, rightM, hn, hv, getM]
  | p :: m, h => by
    have ih := withM_right n v hn hv m
    rw [rightM, Bool.and_eq_true, Bool.and_eq_true, Bool.and_eq_true] at h
    rw [withM]
    by_cases hp : p.1 = n
    · rw [if_pos hp, rightM]
      simp [h.1.1.1, hv, h.1.2, h.2]
    · rw [if_neg hp, rightM, withM_get, if_neg hp, ih h.2, h.1.1.1, h.1.1.2, h.1.2]
      rfl
theorem without_none (n k : List UInt8) : ∀ m, getM k (withoutM n m) = if k = n then none else getM k m
  | [] => by simp [withoutM, getM]
  | p :: m => by
    have ih := without_none n k m
    unfold withoutM at ih ⊢
    rw [List.filter_cons]
    by_cases hp : p.1 = n
    · rw [if_neg (by simpa using hp), ih]
      simp only [getM]
      by_cases h : k = n
      · rw [if_pos h, if_pos h]
      · rw [if_neg h, if_neg h, if_neg (fun e => h (e.symm.trans hp))]
    · rw [if_pos (by simpa using hp)]
      simp only [getM]
      by_cases h : p.1 = k
      · rw [if_pos h, if_neg (fun e => hp (h.trans e)), if_pos h]
      · rw [if_neg h, ih, if_neg h]
theorem without_right (n : List UInt8) : ∀ m, rightM m = true → rightM (withoutM n m) = true
  | [], _ => rfl
  | p :: m, h => by
    have ih := without_right n m
    rw [rightM, Bool.and_eq_true, Bool.and_eq_true, Bool.and_eq_true] at h
    have hg := without_none n p.1 m
    unfold withoutM at ih hg ⊢
    rw [List.filter_cons]
    by_cases hp : p.1 = n
    · rw [if_neg (by simpa using hp)]
      exact ih h.2
    · rw [if_pos (by simpa using hp), rightM, hg, if_neg hp, ih h.2, h.1.1.1, h.1.1.2, h.1.2]
      rfl
mutual
/-- A value patched by another. -/
def mergeJ : JV → JV → JV
  | v, .mk k y t l m => if k = 6 then jobj (mergeM (if v.kind = 6 then v.mem else []) m) else .mk k y t l m
/-- .. members, one behind the other. -/
def mergeM : List (List UInt8 × JV) → List (List UInt8 × JV) → List (List UInt8 × JV)
  | o, [] => o
  | o, (n, u) :: m => mergeM (if u.kind = 1 then withoutM n o else withM n (mergeJ ((getM n o).getD .zero) u) o) m
end
theorem get_right : ∀ {m : List (List UInt8 × JV)} {n : List UInt8} {v : JV}, rightM m = true → getM n m = some v → rightJ v = true
  | p :: m, n, v, h, hg => by
    rw [rightM, Bool.and_eq_true, Bool.and_eq_true, Bool.and_eq_true] at h
    rw [getM] at hg
    by_cases hp : p.1 = n
    · rw [if_pos hp] at hg
      rw [← Option.some.inj hg]
      exact h.1.1.2
    · rw [if_neg hp] at hg
      exact get_right h.2 hg
mutual
theorem mergeJ_right : ∀ (u v : JV), (rightJ v = true ∨ v.kind ≠ 6) → rightJ u = true → rightJ (mergeJ v u) = true
  | .mk k y t l m, v, hv, hu => by
    have hm := mergeM_right m
    rw [mergeJ]
    by_cases h6 : k = 6
    · rw [if_pos h6]
      subst h6
      have hmr : rightM m = true := by
        rcases right_cases hu with e | ⟨_, e⟩ | ⟨_, e, _⟩ | ⟨_, e, _⟩ | ⟨_, e, _⟩ | ⟨_, e, h⟩ <;> simp [jnull, jbool, jnum, jstr, jarr, jobj] at e
        rw [e.2.2.2]
        exact h
      have ho : rightM (if v.kind = 6 then v.mem else []) = true := by
        by_cases hk : v.kind = 6
        · rw [if_pos hk]
          have hv' := hv.resolve_right (fun e => e hk)
          rcases right_cases hv' with e | ⟨_, e⟩ | ⟨_, e, _⟩ | ⟨_, e, _⟩ | ⟨_, e, _⟩ | ⟨_, e, h⟩ <;> subst e <;> simp [jnull, jbool, jnum, jstr, jarr, jobj, JV.kind] at hk
          exact h
        · rw [if_neg hk]; rfl
      have := hm _ ho hmr
      simp [jobj, rightJ, this]
    · rw [if_neg h6]
      exact hu
theorem mergeM_right : ∀ (m o : List (List UInt8 × JV)), rightM o = true → rightM m = true → rightM (mergeM o m) = true
  | [], o, ho, _ => by rw [mergeM]; exact ho
  | (n, u) :: m, o, ho, hm => by
    have hj := mergeJ_right u
    have hr := mergeM_right m
    rw [rightM, Bool.and_eq_true, Bool.and_eq_true, Bool.and_eq_true] at hm
    rw [mergeM]
    refine hr _ ?_ hm.2
    by_cases h1 : u.kind = 1
    · rw [if_pos h1]
      exact without_right n o ho
    · rw [if_neg h1]
      refine withM_right n _ hm.1.1.1 (hj _ ?_ hm.1.1.2) o ho
      cases hg : getM n o with
      | none => exact .inr (by decide)
      | some x => exact .inl (get_right ho hg)
end
end Go.Proofs.YtfcokdkbjajohaaGreatDoor
/- json, plain: the members behind a merge: their names in order, and what stands at each. -/
set_option linter.unusedVariables false
namespace Go.Proofs.YtfcokdkbjajohaaGreatDoor

/-- Does a name stay under a patch? -/
def keepM (m : List (List UInt8 × JV)) (k : List UInt8) : Bool := match getM k m with
  | some u => u.kind != 1
  | none => true
/-- Is a patch's member new? -/
def newM (o : List (List UInt8)) (p : List UInt8 × JV) : Bool := !(o.contains p.1) && p.2.kind != 1
theorem withM_names (n : List UInt8) (v : JV) : ∀ m, (withM n v m).map Prod.fst = if n ∈ m.map Prod.fst then m.map Prod.fst else m.map Prod.fst ++ [n]
  | [] => by simp [withM]
  | p :: m => by
    have ih := withM_names n v m
    rw [withM]
    by_cases hp : p.1 = n
    · rw [if_pos hp]
      have : n ∈ (p :: m).map Prod.fst := by simp [hp]
      rw [if_pos this]
      rfl
    · rw [if_neg hp]
      by_cases hm : n ∈ m.map Prod.fst
      · rw [if_pos hm] at ih
        have : n ∈ (p :: m).map Prod.fst := by rw [List.map_cons]; exact List.mem_cons_of_mem _ hm
        rw [if_pos this, List.map_cons, ih]
        rfl
      · rw [if_neg hm] at ih
        have : n ∉ (p :: m).map Prod.fst := by
          rw [List.map_cons]
          intro h
          rcases List.mem_cons.1 h with h | h
          · exact hp h.symm
          · exact hm h
        rw [if_neg this, List.map_cons, ih]
        rfl
theorem without_names (n : List UInt8) : ∀ m, (withoutM n m).map Prod.fst = (m.map Prod.fst).filter fun k => decide (k ≠ n)
  | [] => rfl
  | p :: m => by
    have ih := without_names n m
    unfold withoutM at ih ⊢
    rw [List.filter_cons, List.map_cons, List.filter_cons]
    by_cases hp : p.1 = n
    · rw [if_neg (by simpa using hp), if_neg (by simpa using hp), ih]
    · rw [if_pos (by simpa using hp), if_pos (by simpa using hp), List.map_cons, ih]
theorem get_iff (k : List UInt8) (m : List (List UInt8 × JV)) : getM k m = none ↔ k ∉ m.map Prod.fst := by
  have := getM_none k m
  cases h : getM k m with
  | none => rw [h] at this; simpa using this
  | some x => rw [h] at this; simpa using this
theorem keep_cons (n : List UInt8) (u : JV) (m : List (List UInt8 × JV)) (k : List UInt8) : keepM ((n, u) :: m) k = if n = k then u.kind != 1 else keepM m k := by
  unfold keepM
  simp only [getM]
  by_cases h : n = k
  · rw [if_pos h, if_pos h]
  · rw [if_neg h, if_neg h]
theorem keep_absent {n : List UInt8} {m : List (List UInt8 × JV)} (h : n ∉ m.map Prod.fst) : keepM m n = true := by
  unfold keepM
  rw [(get_iff n m).2 h]
theorem merge_names : ∀ (m o : List (List UInt8 × JV)), (m.map Prod.fst).Nodup →
    (mergeM o m).map Prod.fst = (o.map Prod.fst).filter (keepM m) ++ (m.filter (newM (o.map Prod.fst))).map Prod.fst
  | [], o, _ => by
    rw [mergeM, List.filter_nil, List.map_nil, List.append_nil, List.filter_eq_self.2]
    intro k _
    rfl
  | (n, u) :: m, o, hnd => by
    rw [List.map_cons, List.nodup_cons] at hnd
    obtain ⟨hn, hnd⟩ := hnd
    have ih := merge_names m
    have hnew : ∀ (ns : List (List UInt8)), (∀ k, k ≠ n → (k ∈ ns ↔ k ∈ o.map Prod.fst)) → m.filter (newM ns) = m.filter (newM (o.map Prod.fst)) := by
      intro ns h
      refine List.filter_congr fun p hp => ?_
      have hpn : p.1 ≠ n := fun e => hn (by rw [← e]; exact (List.mem_map_of_mem (f := Prod.fst) hp : p.1 ∈ m.map Prod.fst))
      unfold newM
      have : ns.contains p.1 = (o.map Prod.fst).contains p.1 := by
        rw [Bool.eq_iff_iff, List.contains_iff_mem, List.contains_iff_mem]
        exact h _ hpn
      rw [this]
    rw [mergeM]
    by_cases h1 : u.kind = 1
    · rw [if_pos h1, ih _ hnd, without_names, hnew _ (fun k hk => by simp [hk]), List.filter_filter]
      have e1 : ((n, u) :: m).filter (newM (o.map Prod.fst)) = m.filter (newM (o.map Prod.fst)) := by
        rw [List.filter_cons, if_neg]
        simp [newM, h1]
      rw [e1]
      congr 1
      refine List.filter_congr fun k _ => ?_
      rw [keep_cons]
      by_cases hk : n = k
      · subst hk
        simp [h1]
      · rw [if_neg hk]
        have : k ≠ n := fun e => hk e.symm
        simp [this]
    · have hk1 : (u.kind != 1) = true := by simpa using h1
      have hkeep : ∀ k, keepM ((n, u) :: m) k = keepM m k := by
        intro k
        rw [keep_cons]
        by_cases hk : n = k
        · subst hk
          rw [if_pos rfl, hk1, keep_absent hn]
        · rw [if_neg hk]
      rw [if_neg h1, ih _ hnd, withM_names]
      by_cases ho : n ∈ o.map Prod.fst
      · rw [if_pos ho]
        have e1 : ((n, u) :: m).filter (newM (o.map Prod.fst)) = m.filter (newM (o.map Prod.fst)) := by
          rw [List.filter_cons, if_neg]
          unfold newM
          rw [List.contains_iff_mem.2 ho]
          simp
        rw [e1]
        congr 1
        exact List.filter_congr fun k _ => (hkeep k).symm
      · rw [if_neg ho, hnew _ (fun k hk => by simp [hk]), List.filter_append]
        have e1 : ((n, u) :: m).filter (newM (o.map Prod.fst)) = (n, u) :: m.filter (newM (o.map Prod.fst)) := by
          rw [List.filter_cons, if_pos]
          unfold newM
          have : (o.map Prod.fst).contains n = false := by
            rw [Bool.eq_false_iff]
            exact fun h => ho (List.contains_iff_mem.1 h)
          rw [this, hk1]
          rfl
        have e2 : [n].filter (keepM m) = [n] := by
          rw [List.filter_cons, if_pos (keep_absent hn)]
          rfl
        rw [e1, e2, List.map_cons, List.append_assoc]
        congr 1
        exact List.filter_congr fun k _ => (hkeep k).symm
theorem merge_get : ∀ (m o : List (List UInt8 × JV)) (k : List UInt8), (m.map Prod.fst).Nodup →
    getM k (mergeM o m) = match getM k m with
      | some u => if u.kind = 1 then none else some (mergeJ ((getM k o).getD .zero) u)
      | none => getM k o
  | [], o, k, _ => by rw [mergeM]; rfl
  | (n, u) :: m, o, k, hnd => by
    rw [List.map_cons, List.nodup_cons] at hnd
    obtain ⟨hn, hnd⟩ := hnd
    rw [mergeM, merge_get m _ k hnd]
    simp only [getM]
    by_cases hk : n = k
    · subst hk
      rw [(get_iff n m).2 hn, if_pos rfl]
      by_cases h1 : u.kind = 1
      · simp only [if_pos h1]
        rw [without_none, if_pos rfl]
      · simp only [if_neg h1]
        rw [withM_get, if_pos rfl]
    · rw [if_neg hk]
      have hk' : ¬ k = n := fun e => hk e.symm
      have : getM k (if u.kind = 1 then withoutM n o else withM n (mergeJ ((getM n o).getD .zero) u) o) = getM k o := by
        by_cases h1 : u.kind = 1
        · rw [if_pos h1, without_none, if_neg hk']
        · rw [if_neg h1, withM_get, if_neg hk']
      rw [this]
theorem right_nodup {m : List (List UInt8 × JV)} (h : rightM m = true) : (m.map Prod.fst).Nodup := by
  rw [rightM_eq, Bool.and_eq_true] at h
  exact of_decide_eq_true h.2
theorem get_at {m : List (List UInt8 × JV)} (h : (m.map Prod.fst).Nodup) (i : Nat) (hi : i < m.length) : getM m[i].1 m = some m[i].2 := by
  induction m generalizing i with
  | nil => simp at hi
  | cons p m ih =>
    rw [List.map_cons, List.nodup_cons] at h
    simp only [getM]
    cases i with
    | zero => simp
    | succ i =>
      simp only [List.getElem_cons_succ]
      have hi' : i < m.length := by simpa using hi
      rw [if_neg, ih h.2 i hi']
      intro e
      exact h.1 (by rw [e]; exact List.mem_map_of_mem (f := Prod.fst) (List.getElem_mem hi'))
end Go.Proofs.YtfcokdkbjajohaaGreatDoor
/- JsonMembers, JsonWith: members of names, each with its number. Plain. -/
set_option linter.unusedVariables false
namespace Go.Proofs.YtfcokdkbjajohaaGreatDoor

/-- Names, each with its place as its value; the first one's place is k. -/
def numF (k : Nat) : List (List UInt8) → List (List UInt8 × JV)
  | [] => []
  | s :: l => (s, jnum (Lib.itoa (k : Int))) :: numF (k + 1) l
theorem numF_len : ∀ (l : List (List UInt8)) (k : Nat), (numF k l).length = l.length
  | [], _ => rfl
  | s :: l, k => by rw [numF, List.length_cons, List.length_cons, numF_len l]
theorem numF_snoc : ∀ (l : List (List UInt8)) (k : Nat) (s : List UInt8), numF k (l ++ [s]) = numF k l ++ [(s, jnum (Lib.itoa ((k + l.length : Nat) : Int)))]
  | [], k, s => rfl
  | t :: l, k, s => by
    rw [List.cons_append, numF, numF_snoc l (k + 1) s, numF, List.cons_append, List.length_cons, show k + 1 + l.length = k + (l.length + 1) by omega]
theorem numF_names : ∀ (l : List (List UInt8)) (k : Nat), (numF k l).map Prod.fst = l
  | [], _ => rfl
  | s :: l, k => by rw [numF, List.map_cons, numF_names l]
theorem numF_at : ∀ (l : List (List UInt8)) (k i : Nat) (h : i < (numF k l).length), (numF k l)[i] = (l[i]'(by rw [numF_len] at h; exact h), jnum (Lib.itoa ((k + i : Nat) : Int)))
  | [], _, i, h => absurd h (by simp [numF])
  | s :: l, k, 0, h => rfl
  | s :: l, k, i + 1, h => by
    have := numF_at l (k + 1) i (by simp only [numF, List.length_cons] at h; omega)
    simp only [numF, List.getElem_cons_succ]
    rw [this, show k + 1 + i = k + (i + 1) by omega]
/-- The place of a name; none: below 0. -/
def wantI (n : List UInt8) (l : List (List UInt8)) : Int := if n ∈ l then (l.idxOf n : Int) else -1
theorem want_nil (n : List UInt8) : wantI n [] = -1 := rfl
theorem want_snoc (n : List UInt8) (l : List (List UInt8)) (s : List UInt8) : wantI n (l ++ [s]) = if s = n ∧ wantI n l < 0 then (l.length : Int) else wantI n l := by
  unfold wantI
  by_cases h : n ∈ l
  · have h1 : n ∈ l ++ [s] := List.mem_append_left _ h
    rw [if_pos h1, if_pos h, List.idxOf_append, if_pos h, if_neg (by omega)]
  · by_cases e : s = n
    · have h1 : n ∈ l ++ [s] := by simp [e]
      rw [if_pos h1, if_neg h, List.idxOf_append, if_neg h, if_pos ⟨e, by omega⟩]
      subst e
      simp
    · have h1 : n ∉ l ++ [s] := by
        intro hm
        rcases List.mem_append.1 hm with hm | hm
        · exact h hm
        · exact e (List.mem_singleton.1 hm).symm
      rw [if_neg h1, if_neg h, if_neg (fun q => e q.1)]
theorem want_range (n : List UInt8) (l : List (List UInt8)) : -1 ≤ wantI n l ∧ wantI n l < (l.length : Int) ∨ wantI n l = -1 := by
  unfold wantI
  split
  · next h =>
    have := List.idxOf_lt_length_of_mem h
    exact .inl ⟨by omega, by omega⟩
  · exact .inr rfl
theorem numF_get (n : List UInt8) : ∀ (l : List (List UInt8)) (k : Nat), getM n (numF k l) = if n ∈ l then some (jnum (Lib.itoa ((k + l.idxOf n : Nat) : Int))) else none
  | [], k => rfl
  | s :: l, k => by
    rw [numF, getM]
    by_cases e : s = n
    · rw [if_pos e, if_pos (by simp [e])]
      subst e
      simp
    · rw [if_neg e, numF_get n l (k + 1)]
      by_cases h : n ∈ l
      · rw [if_pos h, if_pos (List.mem_cons_of_mem _ h), List.idxOf_cons, show (s == n) = false from by simp [e], cond_false, show k + 1 + l.idxOf n = k + (l.idxOf n + 1) by omega]
      · rw [if_neg h, if_neg (by intro q; rcases List.mem_cons.1 q with q | q; exact e q.symm; exact h q)]
theorem right_snoc : ∀ (m : List (List UInt8 × JV)) (s : List UInt8) (v : JV), rightM (m ++ [(s, v)]) = (rightM m && (toldB s && rightJ v && decide (s ∉ m.map Prod.fst)))
  | [], s, v => by
    simp [rightM, getM]
  | (n, u) :: m, s, v => by
    have h : (getM n (m ++ [(s, v)])).isNone = ((getM n m).isNone && decide (s ≠ n)) := by
      have e1 := get_iff n (m ++ [(s, v)])
      have e2 := get_iff n m
      rw [Bool.eq_iff_iff]
      simp only [Option.isNone_iff_eq_none, Bool.and_eq_true, decide_eq_true_eq]
      rw [e1, e2, List.map_append, List.mem_append, not_or]
      simp only [List.map_cons, List.map_nil, List.mem_singleton]
      exact ⟨fun q => ⟨q.1, fun e => q.2 e.symm⟩, fun q => ⟨q.1, fun e => q.2 e.symm⟩⟩
    rw [List.cons_append, rightM, rightM, right_snoc m s v, h, List.map_cons]
    have e3 : decide (s ∉ n :: m.map Prod.fst) = (decide (s ≠ n) && decide (s ∉ m.map Prod.fst)) := by
      rw [Bool.eq_iff_iff]
      simp [not_or]
    rw [e3]
    cases toldB n <;> cases rightJ u <;> cases (getM n m).isNone <;> cases rightM m <;> cases toldB s <;> cases rightJ v <;> cases decide (s ≠ n) <;> cases decide (s ∉ m.map Prod.fst) <;> rfl
theorem num_right (k : Nat) : rightJ (jnum (Lib.itoa (k : Int))) = true := by simp [jnum, rightJ, numeric_itoa]
/-- Are all names told, and unlike? -/
def unlikeB (l : List (List UInt8)) : Bool := rightM (numF 0 l)
theorem unlike_snoc (l : List (List UInt8)) (s : List UInt8) : unlikeB (l ++ [s]) = (unlikeB l && toldB s && decide (s ∉ l)) := by
  unfold unlikeB
  rw [numF_snoc, right_snoc, num_right, numF_names]
  cases rightM (numF 0 l) <;> cases toldB s <;> rfl
theorem in_snoc (s : List UInt8) (l : List (List UInt8)) (t : List UInt8) : decide (s ∉ l ++ [t]) = (decide (s ∉ l) && decide (t ≠ s)) := by
  rw [Bool.eq_iff_iff]
  simp only [List.mem_append, List.mem_singleton, Bool.and_eq_true, decide_eq_true_eq, not_or]
  exact ⟨fun q => ⟨q.1, fun e => q.2 e.symm⟩, fun q => ⟨q.1, fun e => q.2 e.symm⟩⟩
theorem get_num (n : List UInt8) (l : List (List UInt8)) : getM n (numF 0 l) = if wantI n l < 0 then none else some (jnum (Lib.itoa (wantI n l))) := by
  rw [numF_get, Nat.zero_add]
  unfold wantI
  split
  · rw [if_neg (by omega)]
  · rfl
end Go.Proofs.YtfcokdkbjajohaaGreatDoor
/- Rows of names; the members of numbers, in cells. -/
set_option linter.unusedVariables false
namespace Go.Proofs.YtfcokdkbjajohaaGreatDoor
open Go.RowKit

/-- The cells of numbers. -/
def cellsF (k : Nat) : List (List UInt8) → List (List Value)
  | [] => []
  | s :: l => [.int .i64 3, .bool false, strV (Lib.itoa (k : Int)), .slice none 0 0, .slice none 0 0] :: cellsF (k + 1) l
theorem cellsF_len : ∀ (l : List (List UInt8)) (k : Nat), (cellsF k l).length = (numF k l).length
  | [], _ => rfl
  | s :: l, k => by rw [cellsF, numF, List.length_cons, List.length_cons, cellsF_len l]
theorem cellsF_snoc : ∀ (l : List (List UInt8)) (k : Nat) (s : List UInt8), cellsF k (l ++ [s]) = cellsF k l ++ [[.int .i64 3, .bool false, strV (Lib.itoa ((k + l.length : Nat) : Int)), .slice none 0 0, .slice none 0 0]]
  | [], k, s => rfl
  | t :: l, k, s => by
    rw [List.cons_append, cellsF, cellsF_snoc l (k + 1) s, cellsF, List.cons_append, List.length_cons, show k + 1 + l.length = k + (l.length + 1) by omega]
theorem cellsF_reps (ok : Nat → Prop) (w : World) : ∀ (l : List (List UInt8)) (k : Nat), RepsM ok w (cellsF k l) (numF k l)
  | [], k => RepsM.nil ok w
  | s :: l, k => by
    have ih := cellsF_reps ok w l (k + 1)
    refine ⟨cellsF_len (s :: l) k, fun i hi hj => ?_⟩
    cases i with
    | zero => exact Rep.leaf ok w 3 false _
    | succ i =>
      simp only [cellsF, numF, List.getElem_cons_succ]
      exact ih.2 i (by simp only [cellsF, List.length_cons] at hi; omega) (by simp only [numF, List.length_cons] at hj; omega)
set_option maxRecDepth 100000 in
theorem slice_hs (b off n c j : Nat) (hc : n ≤ c) (hj : j ≤ n) (h0 : 0 < c) (w : World) : (Instr.slice 51 (.slice (some ⟨b, off, none⟩) n c) none (some (.int .i64 (j : Int))) none).run Tryz.prog w = .ok (.slice (some ⟨b, off, none⟩) j c) w := by
  rw [run_slice_h w 51 (some ⟨b, off, none⟩) n c Tryz.underlying51 .i64 j (by omega) (by omega)]
  have : ¬ c = 0 := by omega
  simp [go_sem, this, Addr.add]
theorem none_rd {ok ok' : Nat → Prop} {w : World} {a : Option Addr} {m : List (List UInt8 × JV)} {cm : List (List Value)} (h3 : RdO ok w a (memCells m cm)) (h4 : RepsM ok' w cm m) (ha : a = none) : m.length = 0 := by
  have hl := mem6_len h4
  rcases h3 with h | ⟨b, off, e, _⟩
  · rw [h] at hl
    simp only [List.length_nil] at hl
    omega
  · rw [ha] at e
    cases e
theorem numF_mem : ∀ (l : List (List UInt8)) (k : Nat) (x : List UInt8 × JV), x ∈ numF k l → x.1 ∈ l
  | [], _, x, h => by simp [numF] at h
  | s :: l, k, x, h => by
    simp only [numF, List.mem_cons] at h ⊢
    rcases h with rfl | h
    · exact .inl rfl
    · exact .inr (numF_mem l (k + 1) x h)
theorem numF_val : ∀ (l : List (List UInt8)) (k : Nat) (x : List UInt8 × JV), x ∈ numF k l → ∃ i, i < k + l.length ∧ x.2 = jnum (Lib.itoa ((i : Nat) : Int))
  | [], _, x, h => by simp [numF] at h
  | s :: l, k, x, h => by
    simp only [numF, List.mem_cons] at h
    rcases h with rfl | h
    · exact ⟨k, by rw [List.length_cons]; omega, rfl⟩
    · obtain ⟨i, hi, e⟩ := numF_val l (k + 1) x h
      exact ⟨i, by rw [List.length_cons]; omega, e⟩
theorem one_rd {w : World} {g : Nat} {cs : List Value} {A : Array Value} {T : TypeId} {fr : Nat × Nat} (h : w.heap[g]? = some (.cells A T fr)) (hA : A = cs.toArray) : RdO (fun _ => True) w (some ⟨g, 0, none⟩) [cs].flatten := by
  subst hA
  refine .inr ⟨g, 0, rfl, trivial, fun i u hu => ?_⟩
  rw [Lib.cell_of_heap h]
  simpa using hu
theorem one_reps {ok : Nat → Prop} {w : World} {cs : List Value} {v : JV} (h : Rep ok w cs v) : Reps ok w [cs] [v] := by
  refine ⟨rfl, fun i hi hj => ?_⟩
  match i, hi with
  | 0, _ => exact h
  | k + 1, h => exact absurd h (by simp)
end Go.Proofs.YtfcokdkbjajohaaGreatDoor
/- The walk of JsonMembers. -/
set_option linter.unusedVariables false
namespace Go.Proofs.YtfcokdkbjajohaaGreatDoor
open Go.RowKit

theorem num_rightC (l : List (List UInt8)) (hl : l.length ≤ 1000) (x : List UInt8 × JV) (hx : x ∈ numF 0 l) : RightC x.2 := by
  obtain ⟨i, hi, e⟩ := numF_val l 0 x hx
  rw [e]
  refine jright _ ?_
  have := itoa_len (i : Int) (by omega) (by omega)
  simp only [jnum, sizeJ, sizeL, sizeM]
  omega
set_option maxRecDepth 100000 in
set_option maxHeartbeats 64000000 in
theorem jsonMembers_walk (a : Option Addr) (c : Nat) (l : List (List UInt8)) (s : ByteArray) (w : World) (hr : RdC w a (l.map strV) ∧ l.length ≤ c ∧ ∀ x ∈ l, x.length ≤ reachBytes) (hs : s.size ≤ maxLen) (hm : ∃ m, w.cell? ⟨3, 0, none⟩ = some (.int .i64 m)) (hst : Std3 w) :
    Calls Tryz.prog 5 #[.slice a l.length c, .string s] w fun e w' => e = .returned (.bool true) ∧ Below w.heap.size w w' := by
  obtain ⟨S, rfl⟩ : ∃ t : List UInt8, s = ⟨t.toArray⟩ := ⟨s.data.toList, by simp⟩
  have HR := Lib.hid hr.1
  have hlc := hr.2.1
  have HLB := Lib.hid (show ∀ x ∈ l, x.length ≤ 140737488351232 from hr.2.2)
  have HST := Lib.hid hst
  clear hr hst hm hs
  go_enter Tryz.func5, Tryz.ntmps5
  go_wp2_with fail
  refine (anchor06_any w).mono ?_
  rintro e w1 ⟨rfl, hb1⟩
  have HB1 := Lib.hid hb1
  have HR1 := Lib.hid (HR.out.below hb1)
  have HS1 := Lib.hid (HST.out.below hb1)
  clear hb1 HR HST
  by_cases l1 : l.length ≤ 20
  case neg =>
    have j1 : (20 : Int) < (l.length : Int) := by omega
    go_wp2_with fail
    refine bodyPost_ret (results_tmp rfl _ _ _) rfl ?_
    exact ⟨rfl, HB1.out⟩
  have j1 : ¬ (20 : Int) < (l.length : Int) := by omega
  go_wp2_with fail
  go_loopg [5, 6, 7, 26] l.length (fun k x5 x6 x7 x26 wr => ∃ (j : Nat) (rv : Value), x5 = rv ∧ x6 = .int .i64 (wantI S (l.take j)) ∧ x7 = .bool (unlikeB (l.take j)) ∧ x26 = .int .i64 (j : Int) ∧ j + k = l.length ∧ Hid (wr.ownsRow w1.heap.size 35 6 rv j (memCells (numF 0 (l.take j)) (cellsF 0 (l.take j)))) ∧ Hid (Below w1.heap.size w1 wr))
  case atStart => exact ⟨0, .slice none 0 0, rfl, rfl, rfl, rfl, by omega, Lib.hid (World.ownsRow_nil _ _ _ _), Lib.hid (Below.refl _ _)⟩
  case round =>
    obtain ⟨gO, rfl⟩ : ∃ x : Nat, x = gk := ⟨_, rfl⟩
    obtain ⟨wo, rfl⟩ : ∃ x : World, x = wr := ⟨_, rfl⟩
    obtain ⟨j, rv, rfl, rfl, rfl, rfl, hjk, HOW, HB⟩ := hrel
    have hso : w1.heap.size ≤ wo.heap.size := HB.out.size
    obtain ⟨ro, rc, hro, -, -⟩ := RdC.of_own HOW.out
    subst hro
    by_cases hlt : j < l.length
    · have hltI : (j : Int) < (l.length : Int) := by omega
      obtain ⟨nm, hnm⟩ : ∃ x, l[j] = x := ⟨_, rfl⟩
      have htk : l.take (j + 1) = l.take j ++ [nm] := by rw [List.take_succ_eq_append_getElem hlt, hnm]
      have hlj : (l.take j).length = j := by rw [List.length_take]; omega
      have hw1 := want_snoc S (l.take j) nm
      have hu1 := unlike_snoc (l.take j) nm
      rw [← htk] at hw1 hu1
      rw [hlj] at hw1
      have HW1 := Lib.hid hw1
      have HU1 := Lib.hid hu1
      have HNL := Lib.hid (HLB.out nm (by rw [← hnm]; exact List.getElem_mem _))
      obtain ⟨b, off, rfl, hc⟩ := HR1.out.at (by intro e; rw [List.map_eq_nil_iff] at e; rw [e] at hlt; simp at hlt)
      have c0 : wo.cell? ⟨b, off + j, none⟩ = some (.string ⟨nm.toArray⟩) := by
        have h := hc j (strV nm) (by rw [List.getElem?_map, List.getElem?_eq_getElem hlt, hnm]; rfl)
        exact (HB.out.cell (World.block_lt_of_cell? _ _ h)).trans h
      have HC := Lib.hid hc
      have hnu := jnum_fn (j : Int) (by omega) (by omega) wo (HS1.out.below HB.out).1
      obtain ⟨I, hI⟩ : ∃ I, Lib.itoa (j : Int) = I := ⟨_, rfl⟩
      rw [hI] at hnu
      have HNU := Lib.hid hnu
      have HROW : Hid (memCells (numF 0 (l.take (j + 1))) (cellsF 0 (l.take (j + 1))) = memCells (numF 0 (l.take j)) (cellsF 0 (l.take j)) ++ [.string ⟨nm.toArray⟩, .int .i64 3, .bool false, .string ⟨I.toArray⟩, .slice none 0 0, .slice none 0 0]) := Lib.hid (by
        rw [htk, numF_snoc, cellsF_snoc, hlj, Nat.zero_add, hI, memCells_snoc _ _ _ _ _ (cellsF_len _ _)]
        rfl)
      have HNM := Lib.hid hnm
      have HTK := Lib.hid htk
      obtain ⟨M, hM⟩ : ∃ M, memCells (numF 0 (l.take j)) (cellsF 0 (l.take j)) = M := ⟨_, rfl⟩
      rw [hM] at HROW HOW
      obtain ⟨U, hU⟩ : ∃ U, unlikeB (l.take j) = U := ⟨_, rfl⟩
      rw [hU] at HU1 ⊢
      obtain ⟨WI, hWI⟩ : ∃ W, wantI S (l.take j) = W := ⟨_, rfl⟩
      rw [hWI] at HW1 ⊢
      clear hw1 hu1 hlj htk hc hnu hI hnm hM hU hWI
      go_wp2_with fail
      refine HNU.out.mono ?_
      rintro e w2 ⟨rfl, hb2⟩
      have HB2 := Lib.hid (HB.out.trans (hb2.mono hso))
      have HOW2 := Lib.hid (own_below HOW.out hb2)
      have hs2 : w1.heap.size ≤ w2.heap.size := HB2.out.size
      clear hb2 HNU c0 HB HOW
      go_wp2_with (at_builtin; refine wpList_append_rows rfl (.tmp 31) (.tmp 36) 24 rfl w1.heap.size 35 6 96 Tryz.underlying24 (by kernel_rfl) (by decide) _ j M rfl (HOW2.out.alloc _) ⟨w2.heap.size, 0, none⟩ 1 1 [.string ⟨nm.toArray⟩, .int .i64 3, .bool false, .string ⟨I.toArray⟩, .slice none 0 0, .slice none 0 0] rfl rfl ?c1 ?c2 ?c3 ?c4 ?c5 ?_)
      case c1 =>
        intro j u hu
        rw [Addr.add_lit, Lib.cell_of_heap (heap_alloc_new w2 _)]
        simpa using hu
      case c2 => intro u hu; simp only [List.mem_cons, List.mem_nil_iff, or_false] at hu; rcases hu with rfl | rfl | rfl | rfl | rfl | rfl <;> rfl
      case c3 => omega
      case c4 => omega
      case c5 => simp; omega
      intro v' w3 hown' hgrow _
      have HB3 := Lib.hid (below_own (HB2.out.alloc hs2 _) (HOW2.out.alloc _) hgrow (by simp; omega))
      rw [← HROW.out] at hown'
      have HOW3 := Lib.hid hown'
      clear hown' hgrow HOW2 HB2 HROW
      go_upto_region 11 with (fail)
      go_cut [44] (fun x wc => x = .bool ((nm == S) && decide (WI < 0)) ∧ w3 = wc)
      case first =>
        by_cases he : nm = S
        · have hbe : (nm == S) = true := by simp [he]
          clear he HW1
          by_cases hwi : WI < 0
          · go_wp2_with fail
            go_meet
            exact ⟨by simp [hbe, hwi], rfl⟩
          · go_wp2_with fail
            go_meet
            exact ⟨by simp [hbe, hwi], rfl⟩
        · have hbe : (nm == S) = false := by simp [he]
          clear he HW1
          go_wp2_with fail
          go_meet
          exact ⟨by rw [hbe]; rfl, rfl⟩
      case rest =>
      obtain ⟨rfl, rfl⟩ := hcut
      have hwc : wantI S (l.take (j + 1)) = if ((nm == S) && decide (WI < 0)) = true then (j : Int) else WI := by
        rw [HW1.out]
        by_cases he : nm = S <;> by_cases hwi : WI < 0 <;> simp [he, hwi]
      obtain ⟨B1, hB1⟩ : ∃ B, ((nm == S) && decide (WI < 0)) = B := ⟨_, rfl⟩
      rw [hB1] at hwc ⊢
      have HWC := Lib.hid hwc
      clear HW1 hwc hB1
      go_upto_if 44 with (fail)
      go_cut [6] (fun x wc => x = .int .i64 (wantI S (l.take (j + 1))) ∧ w3 = wc)
      case first =>
        cases B1 with
        | true =>
          go_wp2_with fail
          go_meet
          exact ⟨by rw [HWC.out]; simp, rfl⟩
        | false =>
          go_wp2_with fail
          go_meet
          exact ⟨by rw [HWC.out]; simp, rfl⟩
      case rest =>
      obtain ⟨rfl, rfl⟩ := hcut
      clear HWC
      have htd := wrongI_neg nm
      have HWR := Lib.hid (fun w' => refwrong_any nm w' HNL.out)
      obtain ⟨wi, hwi⟩ : ∃ x, wrongI nm = x := ⟨_, rfl⟩
      rw [hwi] at htd HWR
      have HTD := Lib.hid htd
      clear htd hwi
      go_upto_region 13 with (fail)
      go_cut [7] (fun x wc => x = .bool (U && toldB nm) ∧ w3 = wc)
      case first =>
        cases U with
        | false =>
          go_wp2_with fail
          go_meet
          exact ⟨rfl, rfl⟩
        | true =>
          have hwd := HTD.out
          go_wp2_with fail
          refine (HWR.out w3).mono ?_
          rintro e w4 ⟨rfl, rfl⟩
          go_wp2_with fail
          go_meet
          exact ⟨by rw [← HTD.out]; rfl, rfl⟩
      case rest =>
      obtain ⟨rfl, rfl⟩ := hcut
      obtain ⟨UT, hUT⟩ : ∃ x, (U && toldB nm) = x := ⟨_, rfl⟩
      rw [hUT] at HU1 ⊢
      clear hUT HTD HWR
      have hsl := fun w => slice_hs b off l.length c j hlc (by omega) (by omega) w
      go_wp2_with fail
      go_loopg [7, 56] j (fun k x7 x56 wr => ∃ i : Nat, x7 = .bool (UT && decide (nm ∉ l.take i)) ∧ x56 = .int .i64 (i : Int) ∧ i + k = j ∧ wr = w3)
      case atStart => exact ⟨0, by simp, rfl, by omega, rfl⟩
      case round =>
        obtain ⟨i, rfl, rfl, hik, rfl⟩ := hrel
        by_cases hij : i < j
        · have hijI : (i : Int) < (j : Int) := by omega
          obtain ⟨t, ht⟩ : ∃ x, l[i]'(by omega) = x := ⟨_, rfl⟩
          have hin : decide (nm ∉ l.take (i + 1)) = (decide (nm ∉ l.take i) && decide (t ≠ nm)) := by rw [List.take_succ_eq_append_getElem (by omega : i < l.length), ht, in_snoc]
          have d0 : wr.cell? ⟨b, off + i, none⟩ = some (.string ⟨t.toArray⟩) := by
            have h := HC.out i (strV t) (by rw [List.getElem?_map, List.getElem?_eq_getElem (by omega : i < l.length), ht]; rfl)
            exact (HB3.out.cell (World.block_lt_of_cell? _ _ h)).trans h
          have HIN := Lib.hid hin
          obtain ⟨q, hq⟩ : ∃ q, (UT && decide (nm ∉ l.take i)) = q := ⟨_, rfl⟩
          have HQ := Lib.hid hq
          rw [hq]
          clear hin hq ht hsl
          cases q with
          | false =>
            go_wp2_with fail
            go_roundg (gk - 1)
            case measure => omega
            case rel => exact ⟨i + 1, by rw [HIN.out, ← Bool.and_assoc, HQ.out]; rfl, by first | rfl | (congr 1), by omega, rfl⟩
          | true =>
            have HTE := Lib.hid (show (t != nm) = decide (t ≠ nm) by rw [Bool.eq_iff_iff]; simp)
            go_wp2_with fail
            go_roundg (gk - 1)
            case measure => omega
            case rel => exact ⟨i + 1, by rw [HIN.out, ← Bool.and_assoc, HQ.out, Bool.true_and, ← HTE.out]; rfl, by first | rfl | (congr 1), by omega, rfl⟩
        · have hije : i = j := by omega
          subst hije
          have hijI : ¬ (i : Int) < (i : Int) := by omega
          clear hsl
          go_wp2_with fail
          go_roundg (gO - 1)
          case measure => omega
          case rel => exact ⟨i + 1, _, rfl, rfl, by rw [HU1.out]; simp only [decide_not], by first | rfl | (congr 1), by omega, HOW3, HB3⟩
    · have hje : j = l.length := by omega
      subst hje
      have hltI : ¬ (l.length : Int) < (l.length : Int) := by omega
      rw [List.take_length] at HOW ⊢
      have hown := HOW.out
      obtain ⟨ra, rc', he, hrd, hle⟩ := own_rd hown
      simp only [Value.slice.injEq, true_and] at he
      obtain ⟨rfl, rfl⟩ := he
      have hna : ro = none → (numF 0 l).length = 0 := none_rd hrd (cellsF_reps (fun _ => True) wo l 0)
      have hob := obj_any _ ro rc (numF 0 l) (cellsF 0 l) wo (hrd.mono fun _ _ => trivial) (cellsF_reps (fun _ => True) wo l 0) (by rw [numF_len]; omega) hna
      rw [numF_len] at hob
      have HOB := Lib.hid hob
      have hrr : RightC (jobj (numF 0 l)) := jright_obj false [] [] (numF 0 l) (fun x hx => num_rightC l (by omega) x hx) (fun x hx => HLB.out _ (numF_mem l 0 x hx)) (by rw [numF_len]; omega)
      have hre : rightJ (jobj (numF 0 l)) = unlikeB l := by simp [jobj, rightJ, unlikeB]
      have hgn : getJ S (jobj (numF 0 l)) = if wantI S l < 0 then none else some (jnum (Lib.itoa (wantI S l))) := get_num S l
      have hwr := want_range S l
      obtain ⟨WI, hWI⟩ : ∃ W, wantI S l = W := ⟨_, rfl⟩
      rw [hWI] at hgn hwr ⊢
      have HRR := Lib.hid (fun ok cs w' h => hrr ok cs w' h)
      rw [hre] at HRR
      obtain ⟨UL, hUL⟩ : ∃ u, unlikeB l = u := ⟨_, rfl⟩
      rw [hUL] at HRR ⊢
      have HGN := Lib.hid hgn
      have hml : (jobj (numF 0 l)).mem.length ≤ 10000000 := by show (numF 0 l).length ≤ _; rw [numF_len]; omega
      obtain ⟨V, hV⟩ : ∃ V, jobj (numF 0 l) = V := ⟨_, rfl⟩
      rw [hV] at HRR HGN HOB hml
      have HBW := Lib.hid (HB1.out.trans (HB.out.mono HB1.out.size))
      have HSO := Lib.hid (HS1.out.below HB.out)
      clear hown hrd hle hna hob hrr hre hgn hWI hUL hV HOW HB HR1 HLB HB1 HS1
      go_wp2_with fail
      refine HOB.out.mono ?_
      rintro e w2 ⟨hb2, cs, rfl, hrep⟩
      have HB2 := Lib.hid (HBW.out.trans (hb2.mono HBW.out.size))
      have HS2 := Lib.hid (HSO.out.below hb2)
      obtain ⟨a1, c1, a1', c1', _, _, rfl, -⟩ := hrep.parts
      unfold strV at *
      obtain ⟨k1, y1, t1, n1, m1, hk, hy, ht, hn1, hn2⟩ : ∃ k y t n1 n2, (V).kind = k ∧ (V).yes = y ∧ (⟨(V).text.toArray⟩ : ByteArray) = t ∧ (V).list.length = n1 ∧ (V).mem.length = n2 := ⟨_, _, _, _, _, rfl, rfl, rfl, rfl, rfl⟩
      rw [hk, hy, ht, hn1, hn2] at hrep ⊢
      have HR2 := Lib.hid hrep
      clear hk hy ht hn1 hn2 hrep
      clear hb2 HOB HBW HSO
      obtain ⟨b1, hb1⟩ : ∃ b, w2.heap.size = b := ⟨_, rfl⟩
      go_upto_region 21 with (fail)
      generalize hww3 : w2.alloc _ = w3
      have hbw3 : Below w2.heap.size w2 w3 := by rw [← hww3]; exact (Below.refl _ _).alloc (Nat.le_refl _) _
      have hxw3 : w3.heap[b1]? = some (.cells #[.int .i64 k1, .bool y1, .string t1, .slice a1 n1 c1, .slice a1' m1 c1'] 26 (0, 0)) := by rw [← hww3, ← hb1]; exact heap_alloc_new _ _
      have hsb1 : b1 < w3.heap.size := (Array.getElem?_eq_some_iff.1 hxw3).1
      have HXb1w3 := Lib.hid hxw3
      have HB3 := Lib.hid (HB2.out.trans (hbw3.mono HB2.out.size))
      have HS3 := Lib.hid (HS2.out.below hbw3)
      have HR3 := Lib.hid (HR2.out.under hbw3)
      clear hww3 hbw3 hxw3 hb1
      clear HB2 HS2 HR2
      have hok : (getJ S V).isSome = !decide (WI < 0) := by rw [HGN.out]; by_cases h : WI < 0 <;> simp [h]
      have hin : intV ((getJ S V).getD .zero) = (if WI < 0 then 0 else WI, !decide (WI < 0)) := by
        rw [HGN.out]
        by_cases h : WI < 0
        · simp [h, intV, JV.zero, JV.kind]
        · have e := int_itoa WI (by omega) (by omega)
          rw [if_pos (by omega)] at e
          rw [if_neg h, if_neg h, Option.getD_some]
          unfold intV
          rw [show (jnum (Lib.itoa WI)).kind = 3 from rfl, if_pos rfl, show (jnum (Lib.itoa WI)).text = Lib.itoa WI from rfl, e]
          simp [h]
      have htl : ((getJ S V).getD .zero).text.length ≤ 30 := by
        rw [HGN.out]
        by_cases h : WI < 0
        · simp [h, JV.zero, JV.text]
        · rw [if_neg h]
          exact itoa_len WI (by omega) (by omega)
      have HGE := Lib.hid (get_any _ _ V S w3 HR3.out hml)
      obtain ⟨G, hG⟩ : ∃ G, (getJ S V).getD .zero = G := ⟨_, rfl⟩
      rw [hok] at HGE
      rw [hG] at HGE hin htl
      obtain ⟨OK, hOK⟩ : ∃ b, (!decide (WI < 0)) = b := ⟨_, rfl⟩
      obtain ⟨R1, hR1⟩ : ∃ r : Int, (if WI < 0 then 0 else WI) = r := ⟨_, rfl⟩
      rw [hOK] at HGE hin
      rw [hR1] at hin
      have HIN := Lib.hid hin
      have HOK := Lib.hid hOK
      have HR1' := Lib.hid hR1
      clear hok hin hG HGN hOK hR1
      obtain ⟨x0, x1, x2, x3, x4⟩ := five_at HXb1w3.out (Below.refl w3.heap.size w3) hsb1
      go_wp2_with fail
      refine HGE.out.mono ?_
      rintro e w4 ⟨hb4, cs, rfl, hrep⟩
      have HB4 := Lib.hid (HB3.out.trans (hb4.mono HB3.out.size))
      have HS4 := Lib.hid (HS3.out.below hb4)
      have HR4 := Lib.hid (HR3.out.under hb4)
      have HXb1w4 := Lib.hid ((hb4.block _ hsb1).trans HXb1w3.out)
      have hsb14 : b1 < w4.heap.size := Nat.lt_of_lt_of_le hsb1 hb4.size
      obtain ⟨a2, c2, a2', c2', _, _, rfl, -⟩ := hrep.parts
      unfold strV at *
      obtain ⟨k2, y2, t2, n2, m2, hk, hy, ht, hn1, hn2⟩ : ∃ k y t n1 n2, (G).kind = k ∧ (G).yes = y ∧ (⟨(G).text.toArray⟩ : ByteArray) = t ∧ (G).list.length = n1 ∧ (G).mem.length = n2 := ⟨_, _, _, _, _, rfl, rfl, rfl, rfl, rfl⟩
      rw [hk, hy, ht, hn1, hn2] at hrep ⊢
      have HG4 := Lib.hid hrep
      clear hk hy ht hn1 hn2 hrep
      clear hb4 x0 x1 x2 x3 x4 HGE HB3 HS3 HR3 HXb1w3 hsb1
      obtain ⟨b2, hb2⟩ : ∃ b, w4.heap.size = b := ⟨_, rfl⟩
      go_upto_region 22 with (fail)
      generalize hww5 : w4.alloc _ = w5
      have hbw5 : Below w4.heap.size w4 w5 := by rw [← hww5]; exact (Below.refl _ _).alloc (Nat.le_refl _) _
      have hxw5 : w5.heap[b2]? = some (.cells #[.int .i64 k2, .bool y2, .string t2, .slice a2 n2 c2, .slice a2' m2 c2'] 26 (0, 0)) := by rw [← hww5, ← hb2]; exact heap_alloc_new _ _
      have hsb2 : b2 < w5.heap.size := (Array.getElem?_eq_some_iff.1 hxw5).1
      have HXb2w5 := Lib.hid hxw5
      have HB5 := Lib.hid (HB4.out.trans (hbw5.mono HB4.out.size))
      have HS5 := Lib.hid (HS4.out.below hbw5)
      have HR5 := Lib.hid (HR4.out.under hbw5)
      have HG5 := Lib.hid (HG4.out.under hbw5)
      have HXb1w5 := Lib.hid ((hbw5.block _ hsb14).trans HXb1w4.out)
      have hsb15 : b1 < w5.heap.size := Nat.lt_of_lt_of_le hsb14 hbw5.size
      clear hww5 hbw5 hxw5 hb2
      clear HB4 HS4 HR4 HG4 HXb1w4 hsb14
      have HJI := Lib.hid (jint_any G _ [.int .i64 k2, .bool y2, .string t2, .slice a2 n2 c2, .slice a2' m2 c2'] w5 HG5.out HS5.out (by omega))
      rw [HIN.out] at HJI
      obtain ⟨y0, y1', y2', y3, y4⟩ := five_at HXb2w5.out (Below.refl w5.heap.size w5) hsb2
      go_wp2_with fail
      refine HJI.out.mono ?_
      rintro e w6 ⟨rfl, hb6⟩
      have HB6 := Lib.hid (HB5.out.trans (hb6.mono HB5.out.size))
      have HR6 := Lib.hid (HR5.out.under hb6)
      have HXb1w6 := Lib.hid ((hb6.block _ hsb15).trans HXb1w5.out)
      have hsb16 : b1 < w6.heap.size := Nat.lt_of_lt_of_le hsb15 hb6.size
      clear hb6 y0 y1' y2' y3 y4 HJI HB5 HS5 HR5 HG5 HXb1w5 hsb15 HXb2w5 hsb2 htl
      obtain ⟨x0, x1, x2, x3, x4⟩ := five_at HXb1w6.out (Below.refl w6.heap.size w6) hsb16
      have HBL := Lib.hid (show ∀ ob, Below w6.heap.size w6 (w6.alloc ob) from fun ob => (Below.refl _ _).alloc (Nat.le_refl _) _)
      have HLI := Lib.hid (list_any (fun _ => True) (some ⟨w6.heap.size, 0, none⟩) 1 [V] [[.int .i64 k1, .bool y1, .string t1, .slice a1 n1 c1, .slice a1' m1 c1']] (w6.alloc (.cells #[.int .i64 k1, .bool y1, .string t1, .slice a1 n1 c1, .slice a1' m1 c1'] 26)) (one_rd (heap_alloc_new w6 _) rfl) (one_reps ((HR6.out.under (HBL.out _)).mono fun _ _ => trivial)) (show (1 : Nat) ≤ 1000000 by decide) (fun e => by cases e))
      go_wp2_with fail
      refine HLI.out.mono ?_
      rintro e w7 ⟨hb7, cs, rfl, hrep⟩
      have hb67 := (HBL.out _).trans (hb7.mono (HBL.out _).size)
      have HB7 := Lib.hid (HB6.out.trans (hb67.mono HB6.out.size))
      have HR7 := Lib.hid (HR6.out.under hb67)
      have HXb1w7 := Lib.hid ((hb67.block _ hsb16).trans HXb1w6.out)
      have hsb17 : b1 < w7.heap.size := Nat.lt_of_lt_of_le hsb16 hb67.size
      have HGE := Lib.hid (get_any _ cs (jarr [V]) S w7 hrep (show (0 : Nat) ≤ 10000000 by decide))
      rw [show getJ S (jarr [V]) = none from rfl] at HGE
      simp only [Option.isSome_none, Option.getD_none] at HGE
      clear hb7 hb67 hrep x0 x1 x2 x3 x4 HLI HBL HB6 HR6 HXb1w6 hsb16
      go_wp2_with fail
      refine HGE.out.mono ?_
      rintro e w8 ⟨hb8, cs', rfl, hrep⟩
      have HB8 := Lib.hid (HB7.out.trans (hb8.mono HB7.out.size))
      have HR8 := Lib.hid (HR7.out.under hb8)
      have HXb1w8 := Lib.hid ((hb8.block _ hsb17).trans HXb1w7.out)
      have hsb18 : b1 < w8.heap.size := Nat.lt_of_lt_of_le hsb17 hb8.size
      obtain ⟨a3, c3, a3', c3', _, _, rfl, -⟩ := hrep.parts
      unfold strV at *
      obtain ⟨k3, y3, t3, n3, m3, hk, hy, ht, hn1, hn2⟩ : ∃ k y t n1 n2, (JV.zero).kind = k ∧ (JV.zero).yes = y ∧ (⟨(JV.zero).text.toArray⟩ : ByteArray) = t ∧ (JV.zero).list.length = n1 ∧ (JV.zero).mem.length = n2 := ⟨_, _, _, _, _, rfl, rfl, rfl, rfl, rfl⟩
      rw [hk, hy, ht, hn1, hn2] at hrep ⊢
      have HZ8 := Lib.hid hrep
      clear hk hy ht hn1 hn2 hrep
      clear hb8 HGE HB7 HR7 HXb1w7 hsb17 HZ8
      obtain ⟨b3, hb3⟩ : ∃ b, w8.heap.size = b := ⟨_, rfl⟩
      go_upto_region 24 with (fail)
      generalize hww9 : w8.alloc _ = w9
      have hbw9 : Below w8.heap.size w8 w9 := by rw [← hww9]; exact (Below.refl _ _).alloc (Nat.le_refl _) _
      have hxw9 : w9.heap[b3]? = some (.cells #[.int .i64 k3, .bool y3, .string t3, .slice a3 n3 c3, .slice a3' m3 c3'] 26 (0, 0)) := by rw [← hww9, ← hb3]; exact heap_alloc_new _ _
      have hsb3 : b3 < w9.heap.size := (Array.getElem?_eq_some_iff.1 hxw9).1
      have HXb3w9 := Lib.hid hxw9
      have HB9 := Lib.hid (HB8.out.trans (hbw9.mono HB8.out.size))
      have HR9 := Lib.hid (HR8.out.under hbw9)
      have HXb1w9 := Lib.hid ((hbw9.block _ hsb18).trans HXb1w8.out)
      have hsb19 : b1 < w9.heap.size := Nat.lt_of_lt_of_le hsb18 hbw9.size
      clear hww9 hbw9 hxw9 hb3
      clear HB8 HR8 HXb1w8 hsb18 HXb3w9 hsb3
      obtain ⟨x0, x1, x2, x3, x4⟩ := five_at HXb1w9.out (Below.refl w9.heap.size w9) hsb19
      by_cases hw : WI < 0
      · have hg : decide (0 ≤ WI) = false := by simp; omega
        have e1 := HOK.out
        have e2 := HR1'.out
        rw [if_pos hw] at e2
        simp only [hw, decide_true, Bool.not_true] at e1
        subst e1 e2
        go_wp2_with fail
        refine (HRR.out _ [.int .i64 k1, .bool y1, .string t1, .slice a1 n1 c1, .slice a1' m1 c1'] w9 HR9.out).mono ?_
        rintro e wA ⟨rfl, hbA⟩
        have HBA := Lib.hid (HB9.out.trans (hbA.mono HB9.out.size))
        clear hbA
        go_wp2_with fail
        refine bodyPost_ret (results_tmp rfl _ _ _) rfl ?_
        exact ⟨rfl, HBA.out⟩
      · have hg : 0 ≤ WI := by omega
        have e1 := HOK.out
        have e2 := HR1'.out
        rw [if_neg hw] at e2
        simp only [hw, decide_false, Bool.not_false] at e1
        subst e1 e2
        go_wp2_with fail
        refine (HRR.out _ [.int .i64 k1, .bool y1, .string t1, .slice a1 n1 c1, .slice a1' m1 c1'] w9 HR9.out).mono ?_
        rintro e wA ⟨rfl, hbA⟩
        have HBA := Lib.hid (HB9.out.trans (hbA.mono HB9.out.size))
        clear hbA
        go_wp2_with fail
        refine bodyPost_ret (results_tmp rfl _ _ _) rfl ?_
        exact ⟨rfl, HBA.out⟩
end Go.Proofs.YtfcokdkbjajohaaGreatDoor
/- A parameter that is a row of texts, opened; how long they are. -/
set_option linter.unusedVariables false
namespace Go.Proofs.YtfcokdkbjajohaaGreatDoor
open Go.RowKit

section
variable {H : Type} {enc : TypeId × Value → H} {w : World} {base : Nat} {spare : Nat → Bool} {held : Bool}
set_option maxRecDepth 100000 in
theorem open_names {fuel : Nat} {a : Option Addr} {len cap : Nat} {x : DataW H × List MemPlace} (h : DataW.trod enc Tryz.prog w base spare held fuel 51 [.slice a len cap] = some x) :
    ∃ l : List (List UInt8), len = l.length ∧ RdC w a (l.map strV) ∧ l.length ≤ cap ∧ l.length ≤ maxLen ∧ (l = [] ∨ ∃ sp, x.1 = .slice (l.map fun s => .lit (.string s)) sp) := by
  rcases Go.Deep.open_strs Tryz.underlying51 Tryz.underlying9 (by kernel_rfl) h with ⟨h0, _⟩ | ⟨ad, len', cap', m, Sx, h0, hb, hl, hm, hmm, hx, hi⟩
  · simp at h0
    obtain ⟨rfl, rfl, rfl⟩ := h0
    exact ⟨[], rfl, .inl rfl, Nat.zero_le _, Nat.zero_le _, .inl rfl⟩
  · simp at h0
    obtain ⟨rfl, rfl, rfl⟩ := h0
    have hml : len ≤ m := by rw [hmm]; split <;> omega
    refine ⟨(List.range len).map fun i => (Sx i).data.toList, by simp, ?_, by simpa using hl, by simp; omega, .inr ⟨((List.range (m - len)).map fun j => DataW.lit (Lit.string (Sx (len + j)).data.toList)), ?_⟩⟩
    · by_cases h0 : len = 0
      · subst h0
        exact .inl rfl
      · obtain ⟨b, off, spot⟩ := ad
        have hsp : spot = none := by
          have h1 := (hi 0 (by omega)).1
          cases spot with
          | none => rfl
          | some k =>
            have e0 : (⟨b, off, some k⟩ : Addr).add 0 = ⟨b, off, some k⟩ := by simp [Addr.add]
            rw [e0] at h1
            unfold World.cell? at h1
            split at h1 <;> simp at h1
        subst hsp
        refine .inr ⟨b, off, rfl, fun i u hu => ?_⟩
        have hil : i < len := by
          have := (List.getElem?_eq_some_iff.1 hu).1
          simpa using this
        have h1 := (hi i (by omega)).1
        rw [Addr.add_lit] at h1
        rw [h1]
        rw [List.getElem?_map, List.getElem?_map, List.getElem?_range hil] at hu
        simp only [Option.map_some, Option.some.injEq, strV] at hu
        rw [← hu]
    · rw [hx]
      simp
theorem names_weight (P : Program) (e : TypeId) : ∀ (l : List (List UInt8)) (s : List UInt8), s ∈ l → s.length ∈ DataW.weightsAll P e (l.map fun s => (.lit (.string s) : DataW H))
  | [], s, h => by simp at h
  | t :: l, s, h => by
    rw [List.map_cons, DataW.weightsAll]
    rcases List.mem_cons.1 h with rfl | h
    · exact List.mem_append_left _ (by simp [DataW.weights])
    · exact List.mem_append_right _ (names_weight P e l s h)
theorem names_reach {x : DataW H} {l : List (List UInt8)} {ts : List TypeId} {ds : List (DataW H)} (hx : l = [] ∨ ∃ sp, x = .slice (l.map fun s => .lit (.string s)) sp)
    (h : (DataW.weightsEach Tryz.prog (51 :: ts) (x :: ds)).all (fun n => decide (n ≤ reachBytes)) = true) : ∀ s ∈ l, s.length ≤ reachBytes := by
  intro s hs
  rcases hx with rfl | ⟨sp, rfl⟩
  · simp at hs
  · simp only [DataW.weightsEach, DataW.weights, Tryz.underlying51, List.all_append, List.all_cons, Bool.and_eq_true] at h
    have h1 := h.1.2.1
    rw [List.all_eq_true] at h1
    exact of_decide_eq_true (h1 _ (names_weight Tryz.prog 9 l s hs))
theorem text_reach {x : DataW H} {s : ByteArray} {t t2 : TypeId} {ts : List TypeId} {ds : List (DataW H)} 
    (h : (DataW.weightsEach Tryz.prog (t :: t2 :: ts) (x :: .lit (.string s.data.toList) :: ds)).all (fun n => decide (n ≤ reachBytes)) = true) : s.size ≤ reachBytes := by
  simp only [DataW.weightsEach, List.all_append, Bool.and_eq_true] at h
  have := h.2.1
  simp [DataW.weights] at this
  exact this
end
end Go.Proofs.YtfcokdkbjajohaaGreatDoor
