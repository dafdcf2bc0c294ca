/- Merged: SuR, TrP, TrM, TrV, JsSm, Su12, OpnN. -/
import Derived.Deep.Slices
import Derived.ChangeSame
import Derived.Test.YtfdijcdpmgkdkaaGreatMg1
import Derived.Test.YtfdijcdpmgkdkaaGreatMg2
import Derived.Test.YtfdijcdpmgkdkaaGreatMg3
import Derived.Test.YtfdijcdpmgkdkaaGreatMg4
import Derived.Test.YtfdijcdpmgkdkaaGreatMg5
import Derived.Test.YtfdijcdpmgkdkaaGreatSr1
import Derived.Test.YtfdijcdpmgkdkaaGreatSr2
/- Whom an event is about, plain: what a value's subject says of the value. -/
set_option linter.unusedVariables false
namespace Go.Proofs.YtfdijcdpmgkdkaaGreat
open Go.RowKit

theorem str_get {n t : List UInt8} {v : JV} (hr : rightJ v = true) (h : strM n v = (t, true)) : getJ n v = some (jstr t) := by
  unfold strM at h
  cases hg : getJ n v with
  | none => rw [hg] at h; cases h
  | some x =>
    rw [hg] at h
    simp only [Prod.mk.injEq, beq_iff_eq] at h
    unfold getJ at hg
    split at hg
    · rename_i h6
      rcases right_cases hr with e | ⟨_, e⟩ | ⟨_, e, _⟩ | ⟨_, e, _⟩ | ⟨_, e, _⟩ | ⟨m, e, hm⟩ <;> subst e <;> simp [jnull, jbool, jnum, jstr, jarr, jobj, JV.kind] at h6
      have hx := get_right hm hg
      rcases right_cases hx with e | ⟨_, e⟩ | ⟨_, e, _⟩ | ⟨u, e, _⟩ | ⟨_, e, _⟩ | ⟨_, e, _⟩ <;> subst e <;> simp [jnull, jbool, jnum, jstr, jarr, jobj, JV.kind, JV.text] at h
      rw [h]
    · cases hg
theorem of_cases (v : JV) :
    ((strM fmtB v).2 = false ∧ ofS v = (([], [], []), 10)) ∨ ((strM fmtB v).2 = true ∧ namesS (strM fmtB v).1 = [] ∧ ofS v = (([], [], []), 42)) ∨ ((strM fmtB v).2 = true ∧ namesS (strM fmtB v).1 ≠ [] ∧ ofS v = (([], [], []), 10)) ∨
    ((strM fmtB v).2 = true ∧ namesS (strM fmtB v).1 ≠ [] ∧ ∃ I S, ofS v = (((strM fmtB v).1, I, S), 0) ∧ rightS (strM fmtB v).1 I S = true ∧ rightJ v = true ∧ v.mem.length = (valS (strM fmtB v).1 I S).mem.length ∧ ∀ p ∈ (valS (strM fmtB v).1 I S).mem, getJ p.1 v = some p.2) := by
  obtain ⟨F, okF, hF⟩ : ∃ F okF, strM fmtB v = (F, okF) := ⟨_, _, rfl⟩
  have ho : ofS v = ofS v := rfl
  conv at ho => rhs; unfold ofS
  rw [hF] at ho ⊢
  simp only at ho ⊢
  cases okF with
  | false =>
    rw [if_pos rfl] at ho
    exact .inl ⟨rfl, ho⟩
  | true =>
    rw [if_neg (by simp)] at ho
    refine .inr ?_
    by_cases hn : namesS F = []
    · rw [if_pos hn] at ho
      exact .inl ⟨rfl, hn, ho⟩
    · rw [if_neg hn] at ho
      refine .inr ?_
      by_cases hbad : rightJ v = false ∨ v.mem.length ≠ (namesS F).length + 1
      · rw [if_pos hbad] at ho
        exact .inl ⟨rfl, hn, ho⟩
      · rw [if_neg hbad] at ho
        have hr : rightJ v = true := by
          cases h : rightJ v with
          | true => rfl
          | false => exact absurd (.inl h) hbad
        have hm : v.mem.length = (namesS F).length + 1 := Classical.byContradiction fun e => hbad (.inr e)
        have gf := str_get hr hF
        by_cases h3 : F = issB
        · rw [if_pos h3] at ho
          obtain ⟨I, okI, hI⟩ : ∃ I okI, strM subB v = (I, okI) := ⟨_, _, rfl⟩
          obtain ⟨S, okS, hS⟩ : ∃ S okS, strM isB v = (S, okS) := ⟨_, _, rfl⟩
          rw [hI, hS] at ho
          simp only at ho
          cases hc : (okI && (okS && rightS issB I S)) with
          | false =>
            rw [hc, if_neg (by simp)] at ho
            exact .inl ⟨rfl, hn, ho⟩
          | true =>
            rw [hc, if_pos rfl] at ho
            simp only [Bool.and_eq_true] at hc
            obtain ⟨rfl, rfl, hrs⟩ := hc
            subst h3
            refine .inr ⟨rfl, hn, I, S, ho, hrs, hr, ?_, ?_⟩
            · rw [hm]
              unfold valS memsS
              rw [if_pos rfl]
              rfl
            · unfold valS memsS
              rw [if_pos rfl]
              intro p hp
              simp only [jobj, JV.mem, List.mem_cons, List.mem_nil_iff, or_false] at hp
              rcases hp with rfl | rfl | rfl
              · exact gf
              · exact str_get hr hS
              · exact str_get hr hI
        · rw [if_neg h3] at ho
          obtain ⟨nm, hnm⟩ : ∃ nm, (if F = emaB then emaB else idB) = nm := ⟨_, rfl⟩
          rw [hnm] at ho
          obtain ⟨I, okI, hI⟩ : ∃ I okI, strM nm v = (I, okI) := ⟨_, _, rfl⟩
          rw [hI] at ho
          simp only at ho
          cases hc : (okI && rightS F I []) with
          | false =>
            rw [hc, if_neg (by simp)] at ho
            exact .inl ⟨rfl, hn, ho⟩
          | true =>
            rw [hc, if_pos rfl] at ho
            simp only [Bool.and_eq_true] at hc
            obtain ⟨rfl, hrs⟩ := hc
            have hv : valS F I [] = jobj [(fmtB, jstr F), (nm, jstr I)] := by
              unfold valS memsS
              rw [if_neg h3, ← hnm]
              by_cases h2 : F = emaB
              · rw [if_pos h2, if_pos h2]
              · rw [if_neg h2, if_neg h2]
            have hn1 : (namesS F).length = 1 := by
              unfold namesS at hn ⊢
              by_cases h1 : F = opaB
              · rw [if_pos h1]; rfl
              · rw [if_neg h1] at hn ⊢
                by_cases h2 : F = emaB
                · rw [if_pos h2]; rfl
                · rw [if_neg h2, if_neg h3] at hn
                  exact absurd rfl hn
            refine .inr ⟨rfl, hn, I, [], ho, hrs, hr, ?_, ?_⟩
            · rw [hm, hv, hn1]
              rfl
            · rw [hv]
              intro p hp
              simp only [jobj, JV.mem, List.mem_cons, List.mem_nil_iff, or_false] at hp
              rcases hp with rfl | rfl
              · exact gf
              · exact str_get hr hI
theorem names_iff (F : List UInt8) : namesS F = [] ↔ F ≠ opaB ∧ F ≠ emaB ∧ F ≠ issB := by
  unfold namesS
  constructor
  · intro h
    by_cases h1 : F = opaB
    · rw [if_pos h1] at h; cases h
    · rw [if_neg h1] at h
      by_cases h2 : F = emaB
      · rw [if_pos h2] at h; cases h
      · rw [if_neg h2] at h
        by_cases h3 : F = issB
        · rw [if_pos h3] at h; cases h
        · exact ⟨h1, h2, h3⟩
  · rintro ⟨h1, h2, h3⟩
    rw [if_neg h1, if_neg h2, if_neg h3]
theorem val_leaf (f i s : List UInt8) : ∀ p ∈ (valS f i s).mem, ∃ t, p.2 = jstr t ∧ (t = f ∨ t = i ∨ t = s) := by
  unfold valS memsS
  intro p hp
  simp only [jobj, JV.mem, List.mem_cons] at hp
  rcases hp with rfl | hp
  · exact ⟨f, rfl, .inl rfl⟩
  · split at hp
    · simp only [List.mem_cons, List.mem_nil_iff, or_false] at hp
      rcases hp with rfl | rfl
      · exact ⟨s, rfl, .inr (.inr rfl)⟩
      · exact ⟨i, rfl, .inr (.inl rfl)⟩
    · split at hp <;> simp only [List.mem_cons, List.mem_nil_iff, or_false] at hp <;> subst hp <;> exact ⟨i, rfl, .inr (.inl rfl)⟩
theorem val_mem_right {f i s : List UInt8} (h : rightS f i s = true) : ∀ p ∈ (valS f i s).mem, rightJ p.2 = true := by
  have hr := val_right h
  have e : valS f i s = jobj (valS f i s).mem := rfl
  rw [e] at hr
  have hm : rightM (valS f i s).mem = true := by simpa [jobj, rightJ] using hr
  intro p hp
  exact (((rightM_all _).1 hm).1 p hp).2
theorem right_len {f i s : List UInt8} (h : rightS f i s = true) : f.length ≤ 7 ∧ i.length ≤ 256 ∧ s.length ≤ 256 := by
  refine ⟨?_, (word_told (right_id h)).2.2, ?_⟩
  · rcases right_fmt h with rfl | rfl | rfl <;> decide
  · by_cases hf : f = issB
    · subst hf
      unfold rightS at h
      rw [if_neg (by decide), if_neg (by decide), if_pos rfl, Bool.and_eq_true] at h
      exact (word_told h.2).2.2
    · rw [right_iss h hf]
      exact Nat.zero_le _
end Go.Proofs.YtfdijcdpmgkdkaaGreat
/- A value in a row, the last one open. Plain; its rows in memory. -/
set_option linter.unusedVariables false
namespace Go.Proofs.YtfdijcdpmgkdkaaGreat
open Go.RowKit

structure ND where
  kind : Int
  kids : Int
  yes : Bool
  text : List UInt8
  name : List UInt8
def kidsN (kids : Int) (len : Nat) : Nat := (min (min (max kids 0) (len : Int)) 6).toNat
def cutN (x : ND) (o : Nat) : Nat := if x.kind = 5 ∨ x.kind = 6 then kidsN x.kids o else 0
theorem kidsN_le (k : Int) (o : Nat) : kidsN k o ≤ o ∧ kidsN k o ≤ 6 := by unfold kidsN; omega
theorem cutN_le (x : ND) (o : Nat) : cutN x o ≤ o ∧ cutN x o ≤ 6 := by
  unfold cutN
  split
  · exact kidsN_le _ _
  · omega
/-- A node's value, of those that stand open. -/
def nodeJ (x : ND) (ks : List (List UInt8 × JV)) : JV := .mk x.kind x.yes x.text (if x.kind = 5 then ks.map Prod.snd else []) (if x.kind = 5 then [] else ks)
def treeStep (o : List (List UInt8 × JV)) (x : ND) : List (List UInt8 × JV) :=
  o.take (o.length - cutN x o.length) ++ [(x.name, nodeJ x (o.drop (o.length - cutN x o.length)))]
def treeOpen (l : List ND) : List (List UInt8 × JV) := l.foldl treeStep []
def shortN (x : ND) : Bool := decide (x.text.length ≤ 100) && decide (x.name.length ≤ 60)
/-- Tree.Value: the value; none: there is none, or it is too great. -/
def treeV (l : List ND) : Option JV := if l.length ≤ 40 ∧ l.all shortN = true then (treeOpen l).getLast?.map Prod.snd else none
theorem sizeM_app : ∀ (a b : List (List UInt8 × JV)), sizeM (a ++ b) = sizeM a + sizeM b
  | [], b => by simp [sizeM]
  | (n, v) :: a, b => by
    have := sizeM_app a b
    simp only [List.cons_append, sizeM, this]
    omega
theorem sizeL_snd : ∀ (a : List (List UInt8 × JV)), sizeL (a.map Prod.snd) ≤ sizeM a
  | [] => by simp [sizeL]
  | (n, v) :: a => by
    have := sizeL_snd a
    simp only [List.map_cons, sizeL, sizeM]
    omega
theorem size_node (x : ND) (ks : List (List UInt8 × JV)) : sizeJ (nodeJ x ks) ≤ 1 + x.text.length + sizeM ks := by
  have := sizeL_snd ks
  unfold nodeJ
  rw [sizeJ]
  split
  · simp only [sizeM]; omega
  · simp only [sizeL]; omega
theorem size_step (o : List (List UInt8 × JV)) (x : ND) (h : shortN x = true) : sizeM (treeStep o x) ≤ sizeM o + 162 := by
  unfold shortN at h
  simp only [Bool.and_eq_true, decide_eq_true_eq] at h
  have h1 := size_node x (o.drop (o.length - cutN x o.length))
  have h2 := sizeM_app (o.take (o.length - cutN x o.length)) (o.drop (o.length - cutN x o.length))
  rw [List.take_append_drop] at h2
  unfold treeStep
  rw [sizeM_app]
  simp only [sizeM]
  omega
theorem size_fold : ∀ (l : List ND) (o : List (List UInt8 × JV)), l.all shortN = true → sizeM (l.foldl treeStep o) ≤ sizeM o + 162 * l.length
  | [], o, _ => by simp
  | x :: l, o, h => by
    simp only [List.all_cons, Bool.and_eq_true] at h
    have h1 := size_step o x h.1
    have h2 := size_fold l (treeStep o x) h.2
    simp only [List.foldl_cons, List.length_cons]
    omega
/-- A tree's value isn't great. -/
theorem tree_size {l : List ND} {v : JV} (h : treeV l = some v) : sizeJ v ≤ 6500 := by
  unfold treeV at h
  split at h
  · rename_i hc
    have h1 := size_fold l [] hc.2
    simp only [sizeM] at h1
    cases hg : (treeOpen l).getLast? with
    | none => rw [hg] at h; cases h
    | some p =>
      rw [hg] at h
      simp only [Option.map_some, Option.some.injEq] at h
      subst h
      have h2 := size_mem (List.mem_of_getLast? hg)
      unfold treeOpen at h2
      omega
  · cases h
theorem step_len (o : List (List UInt8 × JV)) (x : ND) : (treeStep o x).length ≤ o.length + 1 := by
  unfold treeStep
  simp only [List.length_append, List.length_take, List.length_cons, List.length_nil]
  omega
theorem open_take {l : List ND} {j : Nat} (h : j < l.length) : treeOpen (l.take (j + 1)) = treeStep (treeOpen (l.take j)) l[j] := by
  unfold treeOpen
  rw [List.take_succ_eq_append_getElem h, List.foldl_append]
  rfl
/-- A node's cells. -/
def ndCell (x : ND) : List Value := [.int .i64 x.kind, .int .i64 x.kids, .bool x.yes, strV x.text, strV x.name]
theorem memCells_take : ∀ (m : List (List UInt8 × JV)) (cm : List (List Value)) (k : Nat), cm.length = m.length → (∀ r ∈ cm, r.length = 5) → memCells (m.take k) (cm.take k) = (memCells m cm).take (k * 6)
  | m, cm, 0, h, _ => by cases m <;> cases cm <;> simp [memCells]
  | [], cm, k + 1, h, _ => by
    have : cm = [] := List.eq_nil_of_length_eq_zero h
    subst this
    simp [memCells]
  | p :: m, [], k + 1, h, _ => by simp at h
  | p :: m, r :: cm, k + 1, h, h5 => by
    have hr := h5 r (by simp)
    have ih := memCells_take m cm k (by simpa using h) (fun x hx => h5 x (by simp [hx]))
    simp only [List.take_succ_cons, memCells]
    rw [ih, show (k + 1) * 6 = (k * 6 + 5) + 1 by omega, List.take_succ_cons, List.take_append, List.take_of_length_le (l := r) (by omega), hr, show k * 6 + 5 - 5 = k * 6 by omega]
theorem reps_rows {ok : Nat → Prop} {w : World} {cm : List (List Value)} {m : List (List UInt8 × JV)} (h : RepsM ok w cm m) : ∀ r ∈ cm, r.length = 5 := by
  intro r hr
  obtain ⟨i, hi, rfl⟩ := List.mem_iff_getElem.1 hr
  exact (h.2 i hi (by rw [← h.1]; exact hi)).len
theorem RepsM.take {ok : Nat → Prop} {w : World} {cm : List (List Value)} {m : List (List UInt8 × JV)} (h : RepsM ok w cm m) (k : Nat) : RepsM ok w (cm.take k) (m.take k) := by
  refine ⟨by simp [h.1], fun i hi hj => ?_⟩
  simp only [List.length_take] at hi hj
  have := h.2 i (by omega) (by omega)
  simpa using this
theorem RepsM.drop {ok : Nat → Prop} {w : World} {cm : List (List Value)} {m : List (List UInt8 × JV)} (h : RepsM ok w cm m) (k : Nat) : RepsM ok w (cm.drop k) (m.drop k) := by
  refine ⟨by simp [h.1], fun i hi hj => ?_⟩
  simp only [List.length_drop] at hi hj
  have := h.2 (k + i) (by omega) (by omega)
  simpa using this
theorem RepsM.snd {ok : Nat → Prop} {w : World} {cm : List (List Value)} {m : List (List UInt8 × JV)} (h : RepsM ok w cm m) : Reps ok w cm (m.map Prod.snd) := by
  refine ⟨by simp [h.1], fun i hi hj => ?_⟩
  have := h.2 i hi (by simpa using hj)
  simpa using this
theorem own_cut {B : Nat} {E : TypeId} {sz : Nat} {w : World} {a : Option Addr} {n c : Nat} {xs : List Value} (h : w.ownsRow B E sz (.slice a n c) n xs) (k : Nat) (hk : k ≤ n) : w.ownsRow B E sz (.slice a k c) k (xs.take (k * sz)) := by
  have hmul : k * sz ≤ n * sz := Nat.mul_le_mul_right _ hk
  refine ⟨by rw [List.length_take, h.1]; omega, ?_⟩
  rcases h.2 with ⟨h1, h2⟩ | ⟨g, cap, cur, h1, hB, hg, h3, h4, h5, h6⟩
  · simp only [Value.slice.injEq] at h1
    obtain ⟨rfl, rfl, rfl⟩ := h1
    exact .inl ⟨by rw [show k = 0 by omega], by omega⟩
  · simp only [Value.slice.injEq, true_and] at h1
    obtain ⟨rfl, rfl⟩ := h1
    refine .inr ⟨g, c, cur, rfl, hB, hg, by omega, h4, h5, ?_⟩
    rw [← h6, List.take_take, Nat.min_eq_left hmul]
theorem wpList_append_at {ops : Array Oper} {rest : List Oper} {o : Oper} {a : Act} {w : World} {Q : Exit → Act → World → Prop} (hgd : o.guard = none) (s x : Operand) (t : TypeId)
    (ho : o.op = .call { callee := .builtin .append, args := #[s, x], argTypes := #[t, t] })
    (base : Nat) (e : TypeId) (size bytes : Nat) (ht : Tryz.prog.underlying t = some (.slice e)) (hinfo : ((Tryz.prog.info? e).bind fun i => i.zero.map fun z => (i.size, i.bytes, z.cells.size)) = some (size, bytes, size)) (hsz : 0 < size)
    (v : Value) (n : Nat) (xs : List Value) (hs : a.eval s = v) (hown : w.ownsRow base e size v n xs)
    (g c : Nat) (cs : Array Value) (T : TypeId) (fr : Nat × Nat) (hg : w.heap[g]? = some (.cells cs T fr)) (hx : a.eval x = .slice (some ⟨g, 0, none⟩) 1 c) (hl : cs.size = size) (h1 : ∀ u ∈ cs.toList, u.oneCell' = true)
    (hbytes : (n + 1) * bytes ≤ 140737488355328) (hn : n ≤ 140737488355328) (hbase : base ≤ w.heap.size)
    (h : ∀ v' w', w'.ownsRow base e size v' (n + 1) (xs ++ cs.toList) → w.grownBy w' v.ownBlock → (v'.ownBlock = v.ownBlock ∨ v'.ownBlock = some w.heap.size) → wpList Tryz.prog ops Q rest (a.put o.dst v') w') : wpList Tryz.prog ops Q (o :: rest) a w := by
  refine wpList_plain hgd fun K hK' => ?_
  refine op_append s x t ho base e size bytes ht hinfo hsz v n xs hs hown ⟨g, 0, none⟩ 1 c cs.toList hx (by simpa using hl) (fun j u hu => ?_) h1 (by unfold maxLen; omega) hbytes hbase fun v' w' h2 h3 h5 => hK' _ _ (h v' w' h2 h3 h5)
  rw [Addr.add_lit, Nat.zero_add, Lib.cell_of_heap hg, ← Array.getElem?_toList]
  exact hu
end Go.Proofs.YtfdijcdpmgkdkaaGreat
/- Rows of members: parts of them, and what lies behind. -/
set_option linter.unusedVariables false
namespace Go.Proofs.YtfdijcdpmgkdkaaGreat
open Go.RowKit

theorem memCells_drop : ∀ (m : List (List UInt8 × JV)) (cm : List (List Value)) (k : Nat), cm.length = m.length → (∀ r ∈ cm, r.length = 5) → memCells (m.drop k) (cm.drop k) = (memCells m cm).drop (k * 6)
  | m, cm, 0, h, _ => by simp
  | [], cm, k + 1, h, _ => by
    have : cm = [] := List.eq_nil_of_length_eq_zero h
    subst this
    simp [memCells]
  | p :: m, [], k + 1, h, _ => by simp at h
  | p :: m, r :: cm, k + 1, h, h5 => by
    have hr := h5 r (by simp)
    have ih := memCells_drop m cm k (by simpa using h) (fun x hx => h5 x (by simp [hx]))
    simp only [List.drop_succ_cons, memCells]
    rw [ih, show (k + 1) * 6 = (k * 6 + 5) + 1 by omega, List.drop_succ_cons, List.drop_append, show List.drop (k * 6 + 5) r = [] from List.drop_eq_nil_of_le (by omega), hr, show k * 6 + 5 - 5 = k * 6 by omega, List.nil_append]
theorem memCells_len {m : List (List UInt8 × JV)} {cm : List (List Value)} (h : cm.length = m.length) (h5 : ∀ r ∈ cm, r.length = 5) : (memCells m cm).length = m.length * 6 := by
  induction m generalizing cm with
  | nil =>
    have : cm = [] := List.eq_nil_of_length_eq_zero h
    subst this
    rfl
  | cons p m ih =>
    cases cm with
    | nil => simp at h
    | cons r cm =>
      have hr := h5 r (by simp)
      have := ih (cm := cm) (by simpa using h) (fun x hx => h5 x (by simp [hx]))
      simp only [memCells, List.length_cons, List.length_append, hr, this]
      omega
theorem kids_rd {w : World} {ro : Option Addr} {rc q : Nat} {o : List (List UInt8 × JV)} {cm : List (List Value)} (h : RdC w ro (memCells o cm)) (hl : cm.length = o.length) (h5 : ∀ r ∈ cm, r.length = 5) (hq : q ≤ o.length) (hrc : o.length ≤ rc) :
    RdC w (if rc = q then ro else Option.map (fun x => x.add (q * 6)) ro) (memCells (o.drop q) (cm.drop q)) := by
  by_cases e : q = o.length
  · subst e
    left
    rw [List.drop_of_length_le (Nat.le_refl _), List.drop_of_length_le (by omega)]
    rfl
  · rw [if_neg (by omega)]
    rcases h with h | ⟨b, off, rfl, hc⟩
    · have := memCells_len hl h5
      rw [h] at this
      simp at this
      omega
    · refine .inr ⟨b, off + q * 6, by simp [Addr.add_lit], fun i u hu => ?_⟩
      rw [memCells_drop o cm q hl h5, List.getElem?_drop] at hu
      rw [Nat.add_assoc]
      exact hc _ u hu
theorem mem_row {ok : Nat → Prop} {w : World} {a' : Option Addr} {m : List (List UInt8 × JV)} {cm : List (List Value)} (h3 : RdC w a' (memCells m cm)) (h4 : RepsM ok w cm m) (j : Nat) (hj : j < m.length) :
    ∃ b off k2 y2 t2 a2 l2 c2 a3 l3 c3, a' = some ⟨b, off, none⟩ ∧ cm[j]? = some [.int .i64 k2, .bool y2, .string ⟨t2⟩, .slice a2 l2 c2, .slice a3 l3 c3] ∧ w.cell? ⟨b, off + j * 6, none⟩ = some (.string ⟨m[j].1.toArray⟩) ∧ w.cell? ⟨b, off + j * 6 + 1, none⟩ = some (.int .i64 k2) ∧ w.cell? ⟨b, off + j * 6 + 2, none⟩ = some (.bool y2) ∧ w.cell? ⟨b, off + j * 6 + 3, none⟩ = some (.string ⟨t2⟩) ∧ w.cell? ⟨b, off + j * 6 + 4, none⟩ = some (.slice a2 l2 c2) ∧ w.cell? ⟨b, off + j * 6 + 5, none⟩ = some (.slice a3 l3 c3) := by
  have hjc : j < cm.length := by rw [h4.1]; exact hj
  have hr := h4.2 j hjc hj
  obtain ⟨a2, c2, a3, c3, cl, cmm, hcs, _⟩ := hr.parts
  have hg := fun i hi => mem6_get h4 j hjc hj i hi
  rw [hcs] at hg
  unfold strV at hcs hg
  rcases h3 with h | ⟨b, off, e, hc⟩
  · have := mem6_len h4
    rw [h] at this
    simp only [List.length_nil] at this
    omega
  · exact ⟨b, off, _, _, _, _, _, _, _, _, _, e, by rw [List.getElem?_eq_getElem hjc, hcs], hc _ _ (hg 0 (by decide)), hc _ _ (hg 1 (by decide)), hc _ _ (hg 2 (by decide)), hc _ _ (hg 3 (by decide)), hc _ _ (hg 4 (by decide)), hc _ _ (hg 5 (by decide))⟩
theorem own_rdo {B : Nat} {E : TypeId} {sz : Nat} {w : World} {v : Value} {n : Nat} {xs : List Value} (h : w.ownsRow B E sz v n xs) : ∃ a c, v = .slice a n c ∧ RdO (fun b => B ≤ b ∧ b < w.heap.size ∧ v.ownBlock = some b) w a xs ∧ n ≤ c := by
  have h' := h
  rcases h.2 with ⟨rfl, rfl⟩ | ⟨g, cap, cur, rfl, hB, hg, hle, _, _, _⟩
  · exact ⟨none, 0, rfl, .inl (List.eq_nil_of_length_eq_zero (by rw [h.1]; simp)), Nat.le_refl _⟩
  · refine ⟨_, _, rfl, .inr ⟨g, 0, rfl, ⟨hB, (Array.getElem?_eq_some_iff.1 hg).1, rfl⟩, fun i u hu => ?_⟩, hle⟩
    have := World.ownsRow.cells h' (g := g) rfl i u hu
    rw [Addr.add_lit] at this
    exact this
/-- One member in a block of its own. -/
def VM (cs : Array Value) : Value → World → Prop := fun v w => ∃ g, v = .slice (some ⟨g, 0, none⟩) 1 1 ∧ w.heap[g]? = some (.cells cs 47 (0, 0))
theorem VM.stab (cs : Array Value) : Stab (VM cs) := fun v w1 w2 ⟨g, e, h⟩ hb => ⟨g, e, (hb.block _ (Array.getElem?_eq_some_iff.1 h).1).trans h⟩
theorem below_butv {B g : Nat} {w w' : World} (h : ButV B g g w w') {C : Nat} (hC : C ≤ B) (hg : C ≤ g) : Below C w w' := ⟨h.os, h.tape, h.output, h.size, fun k hk => h.block k (by omega) (by omega) (by omega)⟩
theorem butv_below {B g : Nat} {a w w' : World} (h : ButV B g g a w) (hb : Below B w w') : ButV B g g a w' :=
  h.trans ⟨hb.os, hb.tape, hb.output, hb.size, fun k hk _ _ => hb.block k hk⟩
end Go.Proofs.YtfdijcdpmgkdkaaGreat
/- What the statements need: a value in a row. -/
set_option linter.unusedVariables false
namespace Go.Proofs.YtfdijcdpmgkdkaaGreat
open Go.RowKit

theorem nd_cells {w : World} {a : Option Addr} {l : List ND} (h : RdC w a (l.flatMap ndCell)) (j : Nat) (hj : j < l.length) :
    ∃ b off, a = some ⟨b, off, none⟩ ∧ w.cell? ⟨b, off + j * 5, none⟩ = some (.int .i64 l[j].kind) ∧ w.cell? ⟨b, off + j * 5 + 1, none⟩ = some (.int .i64 l[j].kids) ∧ w.cell? ⟨b, off + j * 5 + 2, none⟩ = some (.bool l[j].yes) ∧ w.cell? ⟨b, off + j * 5 + 3, none⟩ = some (.string ⟨l[j].text.toArray⟩) ∧ w.cell? ⟨b, off + j * 5 + 4, none⟩ = some (.string ⟨l[j].name.toArray⟩) := by
  have hg := fun i hi => flat_get ndCell 5 (fun _ => rfl) l j i hj hi
  rcases h with h | ⟨b, off, e, hc⟩
  · have := flat_len ndCell 5 (fun _ => rfl) l
    rw [h] at this
    simp only [List.length_nil] at this
    omega
  · exact ⟨b, off, e, hc _ _ (hg 0 (by decide)), hc _ _ (hg 1 (by decide)), hc _ _ (hg 2 (by decide)), hc _ _ (hg 3 (by decide)), hc _ _ (hg 4 (by decide))⟩
theorem stored_other (w : World) (gv : Nat) (a b c d e : Value) {k : Nat} (h : k ≠ gv) :
    (((((w.setCell ⟨gv, 0, none⟩ a).setCell ⟨gv, 1, none⟩ b).setCell ⟨gv, 2, none⟩ c).setCell ⟨gv, 3, none⟩ d).setCell ⟨gv, 4, none⟩ e).heap[k]? = w.heap[k]? := by
  rw [Below.heap_setCell _ _ _ _ h, Below.heap_setCell _ _ _ _ h, Below.heap_setCell _ _ _ _ h, Below.heap_setCell _ _ _ _ h, Below.heap_setCell _ _ _ _ h]
set_option maxRecDepth 100000 in
set_option maxHeartbeats 64000000 in
theorem treeval_any (a : Option Addr) (c : Nat) (l : List ND) (w : World) (hr : RdC w a (l.flatMap ndCell)) (hlen : l.length ≤ 9223372036854775807) :
    Calls Tryz.prog 7 #[.slice a l.length c] w fun e w' => Below w.heap.size w w' ∧ ∃ cs, e = .returned (.tuple #[.agg cs.toArray, .bool (treeV l).isSome]) ∧ Rep (w.heap.size ≤ ·) w' cs ((treeV l).getD .zero) := by
  have HR := Lib.hid hr
  have HTV : Hid (treeV l = if l.length ≤ 40 ∧ l.all shortN = true then (treeOpen l).getLast?.map Prod.snd else none) := Lib.hid rfl
  clear hr
  go_enter Tryz.func7, Tryz.ntmps7
  go_upto_region 1 with (fail)
  generalize hw1 : w.alloc _ = w1
  have hb1 : Below w.heap.size w w1 := by rw [← hw1]; exact (Below.refl _ _).alloc (Nat.le_refl _) _
  have hx1 : w1.heap[w.heap.size]? = some (.cells zero5.toArray 28 (0, 0)) := by rw [← hw1]; exact heap_alloc_new _ _
  have hs1 : w.heap.size < w1.heap.size := by rw [← hw1]; simp
  have HB1 := Lib.hid hb1
  have HX1 := Lib.hid hx1
  have HR1 := Lib.hid (HR.out.below hb1)
  clear hw1 hb1 hx1
  by_cases hl : l.length ≤ 40
  · have hlI : ¬ (40 : Int) < (l.length : Int) := by omega
    go_wp2_with fail
    go_loopg [4, 18] l.length (fun k ov iv wr => ∃ (j : Nat) (rv : Value) (cm : List (List Value)), rv = ov ∧ iv = .int .i64 (j : Int) ∧ j + k = l.length ∧ (treeOpen (l.take j)).length ≤ j ∧ Hid ((l.take j).all shortN = true) ∧ Hid (wr.ownsRow w1.heap.size 47 6 rv (treeOpen (l.take j)).length (memCells (treeOpen (l.take j)) cm)) ∧ Hid (RepsM (fun b => w1.heap.size ≤ b ∧ rv.ownBlock ≠ some b) wr cm (treeOpen (l.take j))) ∧ Hid (Below w1.heap.size w1 wr))
    case atStart => exact ⟨0, _, [], rfl, rfl, by omega, by simp [treeOpen], Lib.hid rfl, Lib.hid (World.ownsRow_nil _ _ _ _), Lib.hid (RepsM.nil _ _), Lib.hid (Below.refl _ _)⟩
    case round =>
      obtain ⟨j, rv, cm, rfl, rfl, hj, hol, HSH, HW, HRM, HB⟩ := hrel
      obtain ⟨wo, rfl⟩ : ∃ x : World, x = wr := ⟨_, rfl⟩
      obtain ⟨gO, rfl⟩ : ∃ x : Nat, x = gk := ⟨_, rfl⟩
      have hszB : w1.heap.size ≤ wo.heap.size := HB.out.size
      obtain ⟨ro, rc, hrv, hro, hrc⟩ := RdC.of_own HW.out
      subst hrv
      have HRO := Lib.hid hro
      clear hro
      by_cases hlt : j < l.length
      · have hltI : (j : Int) < (l.length : Int) := by omega
        obtain ⟨nb, noff, ea, n0, n1, n2, n3, n4⟩ := nd_cells (HR1.out.below HB.out) j hlt
        subst ea
        have HTS := Lib.hid (open_take hlt)
        have HALL : Hid ((l.take (j + 1)).all shortN = ((l.take j).all shortN && shortN l[j])) := Lib.hid (by rw [List.take_succ_eq_append_getElem hlt, List.all_append]; simp)
        have HNO : Hid (shortN l[j] = false → treeV l = none) := Lib.hid (fun hf => by
          rw [HTV.out, if_neg]
          rintro ⟨_, hall⟩
          rw [List.all_eq_true.1 hall _ (List.getElem_mem hlt)] at hf
          cases hf)
        generalize l[j] = x at *
        obtain ⟨xk, xn, xy, xt, xm⟩ := x
        simp only at n0 n1 n2 n3 n4
        generalize treeOpen (l.take j) = o at *
        go_upto_region 7 with (fail)
        generalize hw2 : wo.alloc _ = w2
        have hb2 : Below wo.heap.size wo w2 := by rw [← hw2]; exact (Below.refl _ _).alloc (Nat.le_refl _) _
        have hx2 : w2.heap[wo.heap.size]? = some (.cells #[.int .i64 xk, .int .i64 xn, .bool xy, .string ⟨xt.toArray⟩, .string ⟨xm.toArray⟩] 54 (0, 0)) := by rw [← hw2]; exact heap_alloc_new _ _
        have hs2 : wo.heap.size < w2.heap.size := by rw [← hw2]; simp
        have HB2 := Lib.hid (HB.out.trans (hb2.mono hszB))
        have HX2 := Lib.hid hx2
        have HBX2 := Lib.hid hb2
        have HRZ := Lib.hid ((HB2.out.block w.heap.size (by omega)).trans HX1.out)
        have HBW := Lib.hid (HB1.out.trans (HB2.out.mono (by omega)))
        have HW2 := Lib.hid (own_below HW.out hb2)
        have HRM2 := Lib.hid (HRM.out.lt.keep fun b hb _ => hb2.block b hb.2)
        clear hw2 hb2 hx2 n0 n1 n2 n3 n4
        have m0 : w2.cell? ⟨wo.heap.size, 0, none⟩ = some (.int .i64 xk) := by rw [Lib.cell_of_heap HX2.out]; rfl
        have m1 : w2.cell? ⟨wo.heap.size, 1, none⟩ = some (.int .i64 xn) := by rw [Lib.cell_of_heap HX2.out]; rfl
        have m2 : w2.cell? ⟨wo.heap.size, 2, none⟩ = some (.bool xy) := by rw [Lib.cell_of_heap HX2.out]; rfl
        have m3 : w2.cell? ⟨wo.heap.size, 3, none⟩ = some (.string ⟨xt.toArray⟩) := by rw [Lib.cell_of_heap HX2.out]; rfl
        have m4 : w2.cell? ⟨wo.heap.size, 4, none⟩ = some (.string ⟨xm.toArray⟩) := by rw [Lib.cell_of_heap HX2.out]; rfl
        by_cases s1 : xt.length ≤ 100
        case neg =>
          have s1I : (100 : Int) < (xt.length : Int) := by omega
          have HNN : Hid (treeV l = none) := Lib.hid (HNO.out (by unfold shortN; simp only [decide_eq_false s1, Bool.false_and]))
          have d0 : w2.cell? ⟨w.heap.size, 0, none⟩ = some (.int .i64 0) := by rw [Lib.cell_of_heap HRZ.out]; rfl
          have d1 : w2.cell? ⟨w.heap.size, 1, none⟩ = some (.bool false) := by rw [Lib.cell_of_heap HRZ.out]; rfl
          have d2 : w2.cell? ⟨w.heap.size, 2, none⟩ = some (.string ⟨#[]⟩) := by rw [Lib.cell_of_heap HRZ.out]; rfl
          have d3 : w2.cell? ⟨w.heap.size, 3, none⟩ = some (.slice none 0 0) := by rw [Lib.cell_of_heap HRZ.out]; rfl
          have d4 : w2.cell? ⟨w.heap.size, 4, none⟩ = some (.slice none 0 0) := by rw [Lib.cell_of_heap HRZ.out]; rfl
          have f0 := Lib.frozen_of_heap HRZ.out 0
          have f1 := Lib.frozen_of_heap HRZ.out 1
          have f2 := Lib.frozen_of_heap HRZ.out 2
          have f3 := Lib.frozen_of_heap HRZ.out 3
          have f4 := Lib.frozen_of_heap HRZ.out 4
          go_wp2_with fail
          have hst := value_stored HRZ.out (.int .i64 0) (.bool false) (.string ⟨#[]⟩) (.slice none 0 0) (.slice none 0 0)
          have hbe := zero_stored HBW.out (Nat.le_refl _) (.int .i64 0) (.bool false) (.string ⟨#[]⟩) (.slice none 0 0) (.slice none 0 0)
          have e0 := Lib.cell_of_heap hst 0
          have e1 := Lib.cell_of_heap hst 1
          have e2 := Lib.cell_of_heap hst 2
          have e3 := Lib.cell_of_heap hst 3
          have e4 := Lib.cell_of_heap hst 4
          simp only [List.getElem?_toArray] at e0 e1 e2 e3 e4
          refine bodyPost_ret (v := .tuple #[.agg #[.int .i64 0, .bool false, .string ⟨#[]⟩, .slice none 0 0, .slice none 0 0], .bool false]) (by simp [results, Tryz.results7, go_sem, e0, e1, e2, e3, e4]) rfl ?_
          exact ⟨hbe, zero5, by rw [HNN.out]; rfl, by rw [HNN.out]; exact Rep.leaf _ _ 0 false []⟩
        by_cases s2 : xm.length ≤ 60
        case neg =>
          have s1I : ¬ (100 : Int) < (xt.length : Int) := by omega
          have s2I : (60 : Int) < (xm.length : Int) := by omega
          have HNN : Hid (treeV l = none) := Lib.hid (HNO.out (by unfold shortN; simp only [decide_eq_false s2, Bool.and_false]))
          have d0 : w2.cell? ⟨w.heap.size, 0, none⟩ = some (.int .i64 0) := by rw [Lib.cell_of_heap HRZ.out]; rfl
          have d1 : w2.cell? ⟨w.heap.size, 1, none⟩ = some (.bool false) := by rw [Lib.cell_of_heap HRZ.out]; rfl
          have d2 : w2.cell? ⟨w.heap.size, 2, none⟩ = some (.string ⟨#[]⟩) := by rw [Lib.cell_of_heap HRZ.out]; rfl
          have d3 : w2.cell? ⟨w.heap.size, 3, none⟩ = some (.slice none 0 0) := by rw [Lib.cell_of_heap HRZ.out]; rfl
          have d4 : w2.cell? ⟨w.heap.size, 4, none⟩ = some (.slice none 0 0) := by rw [Lib.cell_of_heap HRZ.out]; rfl
          have f0 := Lib.frozen_of_heap HRZ.out 0
          have f1 := Lib.frozen_of_heap HRZ.out 1
          have f2 := Lib.frozen_of_heap HRZ.out 2
          have f3 := Lib.frozen_of_heap HRZ.out 3
          have f4 := Lib.frozen_of_heap HRZ.out 4
          go_wp2_with fail
          have hst := value_stored HRZ.out (.int .i64 0) (.bool false) (.string ⟨#[]⟩) (.slice none 0 0) (.slice none 0 0)
          have hbe := zero_stored HBW.out (Nat.le_refl _) (.int .i64 0) (.bool false) (.string ⟨#[]⟩) (.slice none 0 0) (.slice none 0 0)
          have e0 := Lib.cell_of_heap hst 0
          have e1 := Lib.cell_of_heap hst 1
          have e2 := Lib.cell_of_heap hst 2
          have e3 := Lib.cell_of_heap hst 3
          have e4 := Lib.cell_of_heap hst 4
          simp only [List.getElem?_toArray] at e0 e1 e2 e3 e4
          refine bodyPost_ret (v := .tuple #[.agg #[.int .i64 0, .bool false, .string ⟨#[]⟩, .slice none 0 0, .slice none 0 0], .bool false]) (by simp [results, Tryz.results7, go_sem, e0, e1, e2, e3, e4]) rfl ?_
          exact ⟨hbe, zero5, by rw [HNN.out]; rfl, by rw [HNN.out]; exact Rep.leaf _ _ 0 false []⟩
        have s1I : ¬ (100 : Int) < (xt.length : Int) := by omega
        have s2I : ¬ (60 : Int) < (xm.length : Int) := by omega
        have HSN : Hid (shortN ⟨xk, xn, xy, xt, xm⟩ = true) := Lib.hid (by unfold shortN; simp only [decide_eq_true s1, decide_eq_true s2, Bool.and_self])
        go_upto_region 10 with (fail)
        generalize hw3 : w2.alloc _ = w3
        have hb3 : Below w2.heap.size w2 w3 := by rw [← hw3]; exact (Below.refl _ _).alloc (Nat.le_refl _) _
        have hx3 : w3.heap[w2.heap.size]? = some (.cells #[.int .i64 xk, .bool xy, .string ⟨xt.toArray⟩, .slice none 0 0, .slice none 0 0] 28 (0, 0)) := by rw [← hw3]; exact heap_alloc_new _ _
        have hs3 : w2.heap.size < w3.heap.size := by rw [← hw3]; simp
        have HB3 := Lib.hid (HB2.out.trans (hb3.mono (by omega)))
        have HX3 := Lib.hid hx3
        have HBX3 := Lib.hid (show Below wo.heap.size wo w3 from HBX2.out.trans (hb3.mono (by omega)))
        have HXN := Lib.hid ((hb3.block _ (by omega)).trans HX2.out)
        have HW3 := Lib.hid (own_below HW2.out hb3)
        have HRM3 := Lib.hid (HRM2.out.lt.keep fun b hb _ => hb3.block b hb.2)
        clear hw3 hb3 hx3 m0 m1 m2 m3 m4
        have m0 : w3.cell? ⟨wo.heap.size, 0, none⟩ = some (.int .i64 xk) := by rw [Lib.cell_of_heap HXN.out]; rfl
        have m1 : w3.cell? ⟨wo.heap.size, 1, none⟩ = some (.int .i64 xn) := by rw [Lib.cell_of_heap HXN.out]; rfl
        obtain ⟨n, hn⟩ : ∃ n, cutN ⟨xk, xn, xy, xt, xm⟩ o.length = n := ⟨_, rfl⟩
        have hno : n ≤ o.length := by rw [← hn]; exact (cutN_le _ _).1
        have hn6 : n ≤ 6 := by rw [← hn]; exact (cutN_le _ _).2
        have HN := Lib.hid hn
        have HOB : Hid (∀ b, (Value.slice ro o.length rc).ownBlock = some b → b < wo.heap.size) := Lib.hid fun b hb => (HW.out.lt b hb).2
        have hcs : xk = 5 ∨ xk = 6 ∨ (xk ≠ 5 ∧ xk ≠ 6) := by omega
        unfold cutN kidsN at hn
        obtain ⟨q, hq⟩ : ∃ q, o.length - n = q := ⟨_, rfl⟩
        have hqI : (o.length : Int) - (n : Int) = (q : Int) := by omega
        rcases hcs with hk5 | hk6 | ⟨hk5, hk6⟩
        · subst hk5
          rw [if_pos (.inl rfl)] at hn
          simp only at hn
          have hnn : (if (6 : Int) < (if (o.length : Int) < max xn 0 then (o.length : Int) else max xn 0) then (6 : Int) else if (o.length : Int) < max xn 0 then (o.length : Int) else max xn 0) = (n : Int) := by split <;> split <;> omega
          have hqn : o.length - q = n := by omega
          go_upto_region 14 with (fail)
          try simp only [hqn]
          have HKR := Lib.hid (kids_rd (q := q) HRO.out HRM.out.1 (reps_rows HRM.out) (by omega) hrc)
          generalize (if rc = q then ro else Option.map (fun x => x.add (q * 6)) ro) = KA at *
          have hdl : (o.drop q).length = n := by rw [List.length_drop]; exact hqn
          have HKM := Lib.hid (HRM.out.drop q)
          clear hnn m0 m1
          go_wp2_with fail
          go_loopg [62] n (fun k iv wr => ∃ (i : Nat) (LV : Value), iv = .int .i64 (i : Int) ∧ i + k = n ∧ Hid (wr.heap[w2.heap.size]? = some (.cells #[.int .i64 5, .bool xy, .string ⟨xt.toArray⟩, LV, .slice none 0 0] 28 (0, 0))) ∧ Hid (wr.ownsRow w3.heap.size 28 5 LV i (((cm.drop q).take i).flatten)) ∧ Hid (ButV w3.heap.size w2.heap.size w2.heap.size w3 wr))
          case atStart => exact ⟨0, .slice none 0 0, rfl, by omega, HX3, Lib.hid (by simpa [memCells] using World.ownsRow_nil _ _ _ _), Lib.hid (ButV.refl _ _ _ _)⟩
          case round =>
            obtain ⟨i, LV, rfl, hi, HVB, HLV, HBV⟩ := hrel
            have hsz2 : w3.heap.size ≤ wr.heap.size := HBV.out.size
            by_cases hin : i < n
            · have hinI : (i : Int) < (n : Int) := by omega
              have HBR := Lib.hid (show Below wo.heap.size wo wr from HBX3.out.trans (below_butv HBV.out (by omega) (by omega)))
              obtain ⟨kb, koff, k2, y2, t2, a2, l2, c2, a3, l3, c3, eka, hcmi, g0, g1, g2, g3, g4, g5⟩ := mem_row (HKR.out.below HBR.out) (HKM.out.lt.keep fun b hb _ => HBR.out.block b hb.2) i (by omega)
              subst eka
              have HROW : Hid (((cm.drop q).take (i + 1)).flatten = ((cm.drop q).take i).flatten ++ (#[.int .i64 k2, .bool y2, .string ⟨t2⟩, .slice a2 l2 c2, .slice a3 l3 c3]).toList) := Lib.hid (by
                rw [List.take_succ_eq_append_getElem (by rw [HKM.out.1]; omega), List.flatten_append]
                rw [List.getElem?_eq_getElem (by rw [HKM.out.1]; omega)] at hcmi
                simp only [Option.some.injEq] at hcmi
                rw [hcmi]
                simp)
              generalize ((o.drop q)[i]'(by omega)).1 = nm at *
              go_upto_region 17 with (fail)
              generalize hw4 : wr.alloc _ = w4
              have hb4 : Below wr.heap.size wr w4 := by rw [← hw4]; exact (Below.refl _ _).alloc (Nat.le_refl _) _
              have hx4 : w4.heap[wr.heap.size]? = some (.cells #[.string ⟨nm.toArray⟩, .int .i64 k2, .bool y2, .string ⟨t2⟩, .slice a2 l2 c2, .slice a3 l3 c3] 47 (0, 0)) := by rw [← hw4]; exact heap_alloc_new _ _
              have hs4 : wr.heap.size < w4.heap.size := by rw [← hw4]; simp
              have HBV4 := Lib.hid (butv_below HBV.out (hb4.mono hsz2))
              have HVB4 := Lib.hid ((hb4.block _ (by omega)).trans HVB.out)
              have HLV4 := Lib.hid (own_below HLV.out hb4)
              have HNB4 := Lib.hid ((HBV4.out.block wo.heap.size (by omega) (by omega) (by omega)).trans HXN.out)
              clear hw4 hb4 g0 g1 g2 g3 g4 g5
              have m0 : w4.cell? ⟨wo.heap.size, 0, none⟩ = some (.int .i64 5) := by rw [Lib.cell_of_heap HNB4.out]; rfl
              have z : w4.cell? ⟨w2.heap.size, 3, none⟩ = some LV := by rw [Lib.cell_of_heap HVB4.out]; rfl
              have x0 : w4.cell? ⟨wr.heap.size, 0, none⟩ = some (.string ⟨nm.toArray⟩) := by rw [Lib.cell_of_heap hx4]; rfl
              have x1 : w4.cell? ⟨wr.heap.size, 1, none⟩ = some (.int .i64 k2) := by rw [Lib.cell_of_heap hx4]; rfl
              have x2 : w4.cell? ⟨wr.heap.size, 2, none⟩ = some (.bool y2) := by rw [Lib.cell_of_heap hx4]; rfl
              have x3 : w4.cell? ⟨wr.heap.size, 3, none⟩ = some (.string ⟨t2⟩) := by rw [Lib.cell_of_heap hx4]; rfl
              have x4 : w4.cell? ⟨wr.heap.size, 4, none⟩ = some (.slice a2 l2 c2) := by rw [Lib.cell_of_heap hx4]; rfl
              have x5 : w4.cell? ⟨wr.heap.size, 5, none⟩ = some (.slice a3 l3 c3) := by rw [Lib.cell_of_heap hx4]; rfl
              clear hx4
              go_wp2_with (at_builtin; refine wpList_append_at rfl (.tmp 70) (.tmp 73) 25 rfl w3.heap.size 28 5 80 Tryz.underlying25 (by kernel_rfl) (by decide) LV i _ rfl (HLV4.out.alloc _) w4.heap.size 1 #[.int .i64 k2, .bool y2, .string ⟨t2⟩, .slice a2 l2 c2, .slice a3 l3 c3] 28 (0, 0) (heap_alloc_new _ _) rfl rfl ?c2 ?c3 ?c4 ?c5 ?_)
              case c2 => exact ⟨rfl, rfl, rfl, rfl, rfl⟩
              case c3 => omega
              case c4 => omega
              case c5 => omega
              intro v' w6 hown' hgrow _
              obtain ⟨va, vc, hva, -, -⟩ := RdC.of_own hown'
              subst hva
              have hBg : Below w3.heap.size w4 w6 := below_own ((Below.refl _ _).alloc (by omega) _) (HLV4.out.alloc _) hgrow (by simp; omega)
              have hvb6 := (hBg.block w2.heap.size (by omega)).trans HVB4.out
              have HBV6 := Lib.hid (butv_below HBV4.out hBg)
              have zc : w6.cell? ⟨w2.heap.size, 3, none⟩ = some LV := by rw [Lib.cell_of_heap hvb6]; rfl
              have zf := Lib.frozen_of_heap hvb6 3
              have HVB7 := Lib.hid (setCell_block hvb6 (o := 3) (v := .slice va (i + 1) vc))
              have hbut : But w2.heap.size w6 (w6.setCell ⟨w2.heap.size, 3, none⟩ (.slice va (i + 1) vc)) := But.setCell _ _ _ _
              have HLV7 := Lib.hid (own_butg hown' hbut (by omega))
              have HBV7 := Lib.hid (HBV6.out.trans ⟨hbut.os, hbut.tape, hbut.output, hbut.size, fun k hk h1 _ => hbut.block k (by have := HBV6.out.size; omega) h1⟩)
              clear hown' hgrow hBg hvb6 hbut m0 z x0 x1 x2 x3 x4 x5
              go_wp2_with fail
              go_roundg (gk - 1)
              case measure => omega
              case rel => exact ⟨i + 1, .slice va (i + 1) vc, by first | rfl | (congr 1), by omega, Lib.hid (by have := HVB7.out; simpa using this), Lib.hid (by rw [HROW.out]; exact HLV7.out), HBV7⟩
            · have hinI : ¬ (i : Int) < (n : Int) := by omega
              obtain rfl : i = n := by omega
              have HBRE := Lib.hid (show Below wo.heap.size wo wr from HBX3.out.trans (below_butv HBV.out (by omega) (by omega)))
              obtain ⟨la, lc, hLV, hld, hlc⟩ := own_rdo HLV.out
              subst hLV
              have HRP : Hid (Rep (fun b => w1.heap.size ≤ b ∧ (Value.slice ro o.length rc).ownBlock ≠ some b) wr [.int .i64 5, .bool xy, strV xt, .slice la i lc, .slice none 0 0] (nodeJ ⟨5, xn, xy, xt, xm⟩ (o.drop q))) := Lib.hid (by
                have hfl : (cm.drop q).take i = cm.drop q := List.take_of_length_le (by rw [HKM.out.1]; omega)
                rw [hfl] at hld
                have hkids := HKM.out.lt.keep fun b hb _ => (show wr.heap[b]? = wo.heap[b]? from HBRE.out.block b hb.2)
                have := rep_of (k := 5) (y := xy) (t := xt) (l := (o.drop q).map Prod.snd) (m := []) (c := lc) (c' := 0) (a' := none) (cm := []) (ok := fun b => w1.heap.size ≤ b ∧ (Value.slice ro o.length rc).ownBlock ≠ some b) (hld.mono fun b hb => ⟨by omega, fun e => by have := HOB.out b e; omega⟩) (RepsM.snd (hkids.mono fun b hb => hb.1)) (.inl rfl) (RepsM.nil _ _) (by rw [List.length_map]; omega) (Nat.le_refl _)
                unfold nodeJ
                rw [if_pos rfl, if_pos rfl]
                rw [List.length_map, hdl] at this
                exact this)
              have HNB8 := Lib.hid ((HBV.out.block wo.heap.size (by omega) (by omega) (by omega)).trans HXN.out)
              have HVB8 := Lib.hid HVB.out
              have HTQ : Hid (treeOpen (l.take (j + 1)) = o.take q ++ [(xm, nodeJ ⟨5, xn, xy, xt, xm⟩ (o.drop q))]) := Lib.hid (by
                rw [HTS.out]
                unfold treeStep
                rw [HN.out, hq])
              have HW8 := Lib.hid (own_cut (own_below HW.out HBRE.out) q (by omega))
              have HRT := Lib.hid ((HRM.out.lt.keep fun b hb _ => (HBRE.out).block b hb.2).take q)
              have HB8 := Lib.hid (HB.out.trans ((HBRE.out).mono hszB))
              have hsz8 : w1.heap.size ≤ wr.heap.size := HB8.out.size
              go_upto_region 21 with (fail)
              refine wp_region_grow_tail 11 (by kernel_rfl) (by kernel_rfl) (by decide) (by kernel_rfl) [83, 84, 85, 86, 87, 88, 89, 90, 91, 92, 93] rfl (by decide) (by kernel_rfl) (fun iX => [VIs (Value.slice ro o.length rc), VIs (Value.slice ro o.length rc), VIs (Value.int .i64 ((o.length : Nat) : Int)), VIs (Value.int .i64 ((i : Nat) : Int)), VIs (Value.int .i64 ((q : Nat) : Int)), VIs (Value.slice ro q rc), VIs (Value.pointer (some ⟨wo.heap.size, 4, none⟩)), VIs (Value.string ⟨xm.toArray⟩), VIs (Value.agg #[.int .i64 5, .bool xy, .string ⟨xt.toArray⟩, .slice la i lc, .slice none 0 0]), VIs (Value.agg #[.string ⟨xm.toArray⟩, .int .i64 5, .bool xy, .string ⟨xt.toArray⟩, .slice la i lc, .slice none 0 0]), VM #[.string ⟨xm.toArray⟩, .int .i64 5, .bool xy, .string ⟨xt.toArray⟩, .slice la i lc, .slice none 0 0]].getD iX fun _ _ => True) (stab_list _ ?_) ?_ ?_
              · skip
                intro V hV
                simp only [List.mem_cons, List.mem_nil_iff, or_false] at hV
                rcases hV with rfl | rfl | rfl | rfl | rfl | rfl | rfl | rfl | rfl | rfl | rfl <;> first | exact VIs.stab _ | exact VM.stab _
              · intro iX op ho ax w' hf hb hd
                rcases iX with _ | _ | _ | _ | _ | _ | _ | _ | _ | _ | _ | iX
                · cases ho
                  refine grow_op rfl rfl rfl (grow_move rfl ?_)
                  exact (hf.same 4 (by decide)).trans rfl
                · cases ho
                  refine grow_op rfl rfl rfl (grow_move rfl ?_)
                  exact (hf.same 4 (by decide)).trans rfl
                · cases ho
                  refine grow_op rfl rfl rfl ?_
                  have e1 : ax.tmps.getD 84 undef = .slice ro o.length rc := hd 1 (by kernel_rfl)
                  refine grow_value (v := Value.int .i64 ((o.length : Nat) : Int)) (w' := w') ?_ rfl (Below.refl _ _)
                  simp only [execOp, resolve, invoke, builtin]
                  go_simp
                · cases ho
                  refine grow_op rfl rfl rfl (grow_move rfl ?_)
                  exact (hf.same 8 (by decide)).trans rfl
                · cases ho
                  refine grow_op rfl rfl rfl ?_
                  have e2 : ax.tmps.getD 85 undef = Value.int .i64 ((o.length : Nat) : Int) := hd 2 (by kernel_rfl)
                  have e3 : ax.tmps.getD 86 undef = Value.int .i64 ((i : Nat) : Int) := hd 3 (by kernel_rfl)
                  refine grow_value (v := Value.int .i64 ((q : Nat) : Int)) (w' := w') ?_ rfl (Below.refl _ _)
                  simp only [execOp, Act.eval, e2, e3]
                  go_simp
                  first | exact IntWalk.i64_in _ (by omega) | (rw [IntWalk.i64_in _ (by omega)]; omega)
                · cases ho
                  refine grow_op rfl rfl rfl ?_
                  have e0 : ax.tmps.getD 83 undef = .slice ro o.length rc := hd 0 (by kernel_rfl)
                  have e4 : ax.tmps.getD 87 undef = Value.int .i64 ((q : Nat) : Int) := hd 4 (by kernel_rfl)
                  refine grow_value (v := Value.slice ro q rc) (w' := w') ?_ rfl (Below.refl _ _)
                  simp only [execOp, Act.eval, e0]
                  go_simp
                  try (intro hx; omega)
                · cases ho
                  refine grow_op rfl rfl rfl ?_
                  have e6 : ax.tmps.getD 6 undef = .pointer (some ⟨wo.heap.size, 0, none⟩) := (hf.same 6 (by decide)).trans rfl
                  refine grow_value (v := Value.pointer (some ⟨wo.heap.size, 4, none⟩)) (w' := w') ?_ rfl (Below.refl _ _)
                  simp only [execOp, Act.eval, e6]
                  go_simp
                · cases ho
                  refine grow_op rfl rfl rfl ?_
                  have e6 : ax.tmps.getD 89 undef = Value.pointer (some ⟨wo.heap.size, 4, none⟩) := hd 6 (by kernel_rfl)
                  have c4 : w'.cell? ⟨wo.heap.size, 4, none⟩ = some (.string ⟨xm.toArray⟩) := by rw [Lib.cell_of_heap ((hb.block _ (by omega)).trans HNB8.out)]; rfl
                  refine grow_value (v := Value.string ⟨xm.toArray⟩) (w' := w') ?_ rfl (Below.refl _ _)
                  simp only [execOp, Act.eval, e6]
                  go_simp
                · cases ho
                  refine grow_op rfl rfl rfl ?_
                  have e7 : ax.tmps.getD 7 undef = .pointer (some ⟨w2.heap.size, 0, none⟩) := (hf.same 7 (by decide)).trans (by first | rfl | rw [hs2])
                  have hvb := (hb.block _ (by omega)).trans HVB8.out
                  have c0 : w'.cell? ⟨w2.heap.size, 0, none⟩ = some (.int .i64 5) := by rw [Lib.cell_of_heap hvb]; rfl
                  have c1 : w'.cell? ⟨w2.heap.size, 1, none⟩ = some (.bool xy) := by rw [Lib.cell_of_heap hvb]; rfl
                  have c2 : w'.cell? ⟨w2.heap.size, 2, none⟩ = some (.string ⟨xt.toArray⟩) := by rw [Lib.cell_of_heap hvb]; rfl
                  have c3 : w'.cell? ⟨w2.heap.size, 3, none⟩ = some (.slice la i lc) := by rw [Lib.cell_of_heap hvb]; rfl
                  have c4 : w'.cell? ⟨w2.heap.size, 4, none⟩ = some (.slice none 0 0) := by rw [Lib.cell_of_heap hvb]; rfl
                  refine grow_value (v := Value.agg #[.int .i64 5, .bool xy, .string ⟨xt.toArray⟩, .slice la i lc, .slice none 0 0]) (w' := w') ?_ rfl (Below.refl _ _)
                  simp only [execOp, Act.eval, e7]
                  go_simp
                · cases ho
                  refine grow_op rfl rfl rfl ?_
                  have e7 : ax.tmps.getD 90 undef = Value.string ⟨xm.toArray⟩ := hd 7 (by kernel_rfl)
                  have e8 : ax.tmps.getD 91 undef = Value.agg #[.int .i64 5, .bool xy, .string ⟨xt.toArray⟩, .slice la i lc, .slice none 0 0] := hd 8 (by kernel_rfl)
                  refine grow_value (v := Value.agg #[.string ⟨xm.toArray⟩, .int .i64 5, .bool xy, .string ⟨xt.toArray⟩, .slice la i lc, .slice none 0 0]) (w' := w') ?_ rfl (Below.refl _ _)
                  simp only [execOp, Act.eval, List.map_toArray, List.map_cons, List.map_nil, e7, e8]
                  go_simp
                  try rfl
                · cases ho
                  refine grow_op rfl rfl rfl ?_
                  have e9 : ax.tmps.getD 92 undef = Value.agg #[.string ⟨xm.toArray⟩, .int .i64 5, .bool xy, .string ⟨xt.toArray⟩, .slice la i lc, .slice none 0 0] := hd 9 (by kernel_rfl)
                  refine grow_value (v := .slice (some ⟨w'.heap.size, 0, none⟩) 1 1) (w' := w'.alloc (.cells #[.string ⟨xm.toArray⟩, .int .i64 5, .bool xy, .string ⟨xt.toArray⟩, .slice la i lc, .slice none 0 0] 47)) ?_ ⟨_, rfl, heap_alloc_new _ _⟩ ((Below.refl _ _).alloc (Nat.le_refl _) _)
                  simp only [execOp, Act.eval, List.map_toArray, List.map_cons, List.map_nil, e9]
                  go_simp
                  try rfl
                · simp at ho
              · intro ax w' hf hb hd
                obtain ⟨gb, hv93, hbk⟩ := hd 10 (by decide)
                obtain rfl := hf.eq [Value.slice ro o.length rc, Value.slice ro o.length rc, Value.int .i64 ((o.length : Nat) : Int), Value.int .i64 ((i : Nat) : Int), Value.int .i64 ((q : Nat) : Int), Value.slice ro q rc, Value.pointer (some ⟨wo.heap.size, 4, none⟩), Value.string ⟨xm.toArray⟩, Value.agg #[.int .i64 5, .bool xy, .string ⟨xt.toArray⟩, .slice la i lc, .slice none 0 0], Value.agg #[.string ⟨xm.toArray⟩, .int .i64 5, .bool xy, .string ⟨xt.toArray⟩, .slice la i lc, .slice none 0 0], Value.slice (some ⟨gb, 0, none⟩) 1 1] (fun j hj => match j, hj with
                  | 0, _ => hd 0 (by decide)
                  | 1, _ => hd 1 (by decide)
                  | 2, _ => hd 2 (by decide)
                  | 3, _ => hd 3 (by decide)
                  | 4, _ => hd 4 (by decide)
                  | 5, _ => hd 5 (by decide)
                  | 6, _ => hd 6 (by decide)
                  | 7, _ => hd 7 (by decide)
                  | 8, _ => hd 8 (by decide)
                  | 9, _ => hd 9 (by decide)
                  | 10, _ => hv93
                  | k + 11, h => absurd h (by simp)) (by decide) (by kernel_rfl) rfl
                simp only [List.zip_cons_cons, List.zip_nil_right, List.foldl_cons, List.foldl_nil, Act.put, List.setIfInBounds_toArray, List.set_cons_succ, List.set_cons_zero]
                have HW9 := Lib.hid (own_below HW8.out hb)
                have HB9 := Lib.hid (HB8.out.trans (hb.mono hsz8))
                have HRT9 := Lib.hid (HRT.out.lt.keep fun b hb' _ => hb.block b hb'.2)
                have HRP9 := Lib.hid (HRP.out.lt.keep fun b hb' _ => hb.block b hb'.2)
                have HG9 := Lib.hid hbk
                have hsz9 : wr.heap.size ≤ w'.heap.size := hb.size
                clear hd hf hb hbk hv93
                (refine wpList_append_at rfl (.tmp 88) (.tmp 93) 26 rfl w1.heap.size 47 6 96 Tryz.underlying26 (by kernel_rfl) (by decide) (.slice ro q rc) q _ rfl HW9.out gb 1 #[.string ⟨xm.toArray⟩, .int .i64 5, .bool xy, .string ⟨xt.toArray⟩, .slice la i lc, .slice none 0 0] 47 (0, 0) HG9.out rfl rfl ?c2 ?c3 ?c4 ?c5 ?_)
                case c2 => intro u hu; simp at hu; rcases hu with rfl | rfl | rfl | rfl | rfl | rfl <;> rfl
                case c3 => omega
                case c4 => omega
                case c5 => omega
                intro v' w9 hown' hgrow hinfo
                have HOWN : Hid (w9.ownsRow w1.heap.size 47 6 v' (treeOpen (l.take (j + 1))).length (memCells (treeOpen (l.take (j + 1))) (cm.take q ++ [[.int .i64 5, .bool xy, strV xt, .slice la i lc, .slice none 0 0]]))) := Lib.hid (by
                  rw [HTQ.out, memCells_snoc _ _ _ _ _ (by simp [HRM.out.1]), memCells_take o cm q HRM.out.1 (reps_rows HRM.out)]
                  have e : (o.take q ++ [(xm, nodeJ ⟨5, xn, xy, xt, xm⟩ (o.drop q))]).length = q + 1 := by simp <;> omega
                  rw [e]
                  exact hown')
                have hkeep : ∀ b, b < w'.heap.size → (Value.slice ro q rc).ownBlock ≠ some b → w9.heap[b]? = w'.heap[b]? := fun b hb hne => hgrow.block b hb (fun e => hne e.symm)
                have hsame : (Value.slice ro q rc).ownBlock = (Value.slice ro o.length rc).ownBlock := by cases ro <;> rfl
                have hok : ∀ b, b < w'.heap.size → (Value.slice ro o.length rc).ownBlock ≠ some b → v'.ownBlock ≠ some b := by
                  intro b hb hne e
                  rcases hinfo with h | h
                  · rw [h, hsame] at e; exact hne e
                  · rw [h] at e; simp only [Option.some.injEq] at e; omega
                have HREPS : Hid (RepsM (fun b => w1.heap.size ≤ b ∧ v'.ownBlock ≠ some b) w9 (cm.take q ++ [[.int .i64 5, .bool xy, strV xt, .slice la i lc, .slice none 0 0]]) (treeOpen (l.take (j + 1)))) := Lib.hid (by
                  rw [HTQ.out]
                  refine RepsM.snoc ?_ ?_
                  · exact (HRT9.out.lt.keep fun b hb _ => hkeep b hb.2 (by rw [hsame]; exact hb.1.1.1.2)).mono fun b hb => ⟨hb.1.1.1.1, hok b hb.2 hb.1.1.1.2⟩
                  · exact (HRP9.out.lt.keep fun b hb _ => hkeep b hb.2 (by rw [hsame]; exact hb.1.1.2)).mono fun b hb => ⟨hb.1.1.1, hok b hb.2 hb.1.1.2⟩)
                have HBE := Lib.hid (below_own HB9.out HW9.out hgrow (by omega))
                have hlen9 : (treeOpen (l.take (j + 1))).length ≤ j + 1 := by rw [HTQ.out]; simp <;> omega
                have HALL2 : Hid ((l.take (j + 1)).all shortN = true) := Lib.hid (by rw [HALL.out, HSH.out, HSN.out]; rfl)
                clear hown' hgrow hinfo hkeep hok
                go_wp2_with fail
                go_roundg (gO - 1)
                case measure => omega
                case rel => exact ⟨j + 1, v', _, rfl, by first | rfl | (congr 1), by omega, hlen9, HALL2, HOWN, HREPS, HBE⟩
        · subst hk6
          rw [if_pos (.inr rfl)] at hn
          simp only at hn
          have hnn : (if (6 : Int) < (if (o.length : Int) < max xn 0 then (o.length : Int) else max xn 0) then (6 : Int) else if (o.length : Int) < max xn 0 then (o.length : Int) else max xn 0) = (n : Int) := by split <;> split <;> omega
          have hqn : o.length - q = n := by omega
          go_upto_region 14 with (fail)
          try simp only [hqn]
          have HKR := Lib.hid (kids_rd (q := q) HRO.out HRM.out.1 (reps_rows HRM.out) (by omega) hrc)
          generalize (if rc = q then ro else Option.map (fun x => x.add (q * 6)) ro) = KA at *
          have hdl : (o.drop q).length = n := by rw [List.length_drop]; exact hqn
          have HKM := Lib.hid (HRM.out.drop q)
          clear hnn m0 m1
          go_wp2_with fail
          go_loopg [62] n (fun k iv wr => ∃ (i : Nat) (LV : Value), iv = .int .i64 (i : Int) ∧ i + k = n ∧ Hid (wr.heap[w2.heap.size]? = some (.cells #[.int .i64 6, .bool xy, .string ⟨xt.toArray⟩, .slice none 0 0, LV] 28 (0, 0))) ∧ Hid (wr.ownsRow w3.heap.size 47 6 LV i (memCells ((o.drop q).take i) ((cm.drop q).take i))) ∧ Hid (ButV w3.heap.size w2.heap.size w2.heap.size w3 wr))
          case atStart => exact ⟨0, .slice none 0 0, rfl, by omega, HX3, Lib.hid (by simpa [memCells] using World.ownsRow_nil _ _ _ _), Lib.hid (ButV.refl _ _ _ _)⟩
          case round =>
            obtain ⟨i, LV, rfl, hi, HVB, HLV, HBV⟩ := hrel
            have hsz2 : w3.heap.size ≤ wr.heap.size := HBV.out.size
            by_cases hin : i < n
            · have hinI : (i : Int) < (n : Int) := by omega
              have HBR := Lib.hid (show Below wo.heap.size wo wr from HBX3.out.trans (below_butv HBV.out (by omega) (by omega)))
              obtain ⟨kb, koff, k2, y2, t2, a2, l2, c2, a3, l3, c3, eka, hcmi, g0, g1, g2, g3, g4, g5⟩ := mem_row (HKR.out.below HBR.out) (HKM.out.lt.keep fun b hb _ => HBR.out.block b hb.2) i (by omega)
              subst eka
              have HROW : Hid (memCells ((o.drop q).take (i + 1)) ((cm.drop q).take (i + 1)) = memCells ((o.drop q).take i) ((cm.drop q).take i) ++ (#[.string ⟨((o.drop q)[i]'(by omega)).1.toArray⟩, .int .i64 k2, .bool y2, .string ⟨t2⟩, .slice a2 l2 c2, .slice a3 l3 c3]).toList) := Lib.hid (by
                rw [List.take_succ_eq_append_getElem (by omega), List.take_succ_eq_append_getElem (by rw [HKM.out.1]; omega), memCells_snoc _ _ _ _ _ (by simp [HKM.out.1])]
                rw [List.getElem?_eq_getElem (by rw [HKM.out.1]; omega)] at hcmi
                simp only [Option.some.injEq] at hcmi
                rw [hcmi]
                rfl)
              generalize ((o.drop q)[i]'(by omega)).1 = nm at *
              go_upto_region 17 with (fail)
              generalize hw4 : wr.alloc _ = w4
              have hb4 : Below wr.heap.size wr w4 := by rw [← hw4]; exact (Below.refl _ _).alloc (Nat.le_refl _) _
              have hx4 : w4.heap[wr.heap.size]? = some (.cells #[.string ⟨nm.toArray⟩, .int .i64 k2, .bool y2, .string ⟨t2⟩, .slice a2 l2 c2, .slice a3 l3 c3] 47 (0, 0)) := by rw [← hw4]; exact heap_alloc_new _ _
              have hs4 : wr.heap.size < w4.heap.size := by rw [← hw4]; simp
              have HBV4 := Lib.hid (butv_below HBV.out (hb4.mono hsz2))
              have HVB4 := Lib.hid ((hb4.block _ (by omega)).trans HVB.out)
              have HLV4 := Lib.hid (own_below HLV.out hb4)
              have HNB4 := Lib.hid ((HBV4.out.block wo.heap.size (by omega) (by omega) (by omega)).trans HXN.out)
              clear hw4 hb4 g0 g1 g2 g3 g4 g5
              have m0 : w4.cell? ⟨wo.heap.size, 0, none⟩ = some (.int .i64 6) := by rw [Lib.cell_of_heap HNB4.out]; rfl
              have z : w4.cell? ⟨w2.heap.size, 4, none⟩ = some LV := by rw [Lib.cell_of_heap HVB4.out]; rfl
              have x0 : w4.cell? ⟨wr.heap.size, 0, none⟩ = some (.string ⟨nm.toArray⟩) := by rw [Lib.cell_of_heap hx4]; rfl
              have x1 : w4.cell? ⟨wr.heap.size, 1, none⟩ = some (.int .i64 k2) := by rw [Lib.cell_of_heap hx4]; rfl
              have x2 : w4.cell? ⟨wr.heap.size, 2, none⟩ = some (.bool y2) := by rw [Lib.cell_of_heap hx4]; rfl
              have x3 : w4.cell? ⟨wr.heap.size, 3, none⟩ = some (.string ⟨t2⟩) := by rw [Lib.cell_of_heap hx4]; rfl
              have x4 : w4.cell? ⟨wr.heap.size, 4, none⟩ = some (.slice a2 l2 c2) := by rw [Lib.cell_of_heap hx4]; rfl
              have x5 : w4.cell? ⟨wr.heap.size, 5, none⟩ = some (.slice a3 l3 c3) := by rw [Lib.cell_of_heap hx4]; rfl
              clear hx4
              go_wp2_with (at_builtin; refine wpList_append_at rfl (.tmp 77) (.tmp 79) 26 rfl w3.heap.size 47 6 96 Tryz.underlying26 (by kernel_rfl) (by decide) LV i _ rfl (HLV4.out.alloc _) w4.heap.size 1 #[.string ⟨nm.toArray⟩, .int .i64 k2, .bool y2, .string ⟨t2⟩, .slice a2 l2 c2, .slice a3 l3 c3] 47 (0, 0) (heap_alloc_new _ _) rfl rfl ?c2 ?c3 ?c4 ?c5 ?_)
              case c2 => exact ⟨rfl, rfl, rfl, rfl, rfl, rfl⟩
              case c3 => omega
              case c4 => omega
              case c5 => omega
              intro v' w6 hown' hgrow _
              obtain ⟨va, vc, hva, -, -⟩ := RdC.of_own hown'
              subst hva
              have hBg : Below w3.heap.size w4 w6 := below_own ((Below.refl _ _).alloc (by omega) _) (HLV4.out.alloc _) hgrow (by simp; omega)
              have hvb6 := (hBg.block w2.heap.size (by omega)).trans HVB4.out
              have HBV6 := Lib.hid (butv_below HBV4.out hBg)
              have zc : w6.cell? ⟨w2.heap.size, 4, none⟩ = some LV := by rw [Lib.cell_of_heap hvb6]; rfl
              have zf := Lib.frozen_of_heap hvb6 4
              have HVB7 := Lib.hid (setCell_block hvb6 (o := 4) (v := .slice va (i + 1) vc))
              have hbut : But w2.heap.size w6 (w6.setCell ⟨w2.heap.size, 4, none⟩ (.slice va (i + 1) vc)) := But.setCell _ _ _ _
              have HLV7 := Lib.hid (own_butg hown' hbut (by omega))
              have HBV7 := Lib.hid (HBV6.out.trans ⟨hbut.os, hbut.tape, hbut.output, hbut.size, fun k hk h1 _ => hbut.block k (by have := HBV6.out.size; omega) h1⟩)
              clear hown' hgrow hBg hvb6 hbut m0 z x0 x1 x2 x3 x4 x5
              go_wp2_with fail
              go_roundg (gk - 1)
              case measure => omega
              case rel => exact ⟨i + 1, .slice va (i + 1) vc, by first | rfl | (congr 1), by omega, Lib.hid (by have := HVB7.out; simpa using this), Lib.hid (by rw [HROW.out]; exact HLV7.out), HBV7⟩
            · have hinI : ¬ (i : Int) < (n : Int) := by omega
              obtain rfl : i = n := by omega
              have HBRE := Lib.hid (show Below wo.heap.size wo wr from HBX3.out.trans (below_butv HBV.out (by omega) (by omega)))
              obtain ⟨la, lc, hLV, hld, hlc⟩ := own_rdo HLV.out
              subst hLV
              have HRP : Hid (Rep (fun b => w1.heap.size ≤ b ∧ (Value.slice ro o.length rc).ownBlock ≠ some b) wr [.int .i64 6, .bool xy, strV xt, .slice none 0 0, .slice la i lc] (nodeJ ⟨6, xn, xy, xt, xm⟩ (o.drop q))) := Lib.hid (by
                have hfl : (cm.drop q).take i = cm.drop q := List.take_of_length_le (by rw [HKM.out.1]; omega)
                have hfo : (o.drop q).take i = o.drop q := List.take_of_length_le (by omega)
                rw [hfl, hfo] at hld
                have hkids := HKM.out.lt.keep fun b hb _ => (show wr.heap[b]? = wo.heap[b]? from HBRE.out.block b hb.2)
                have := rep_of (k := 6) (y := xy) (t := xt) (l := []) (m := o.drop q) (c := 0) (c' := lc) (a := none) (cl := []) (ok := fun b => w1.heap.size ≤ b ∧ (Value.slice ro o.length rc).ownBlock ≠ some b) (.inl rfl) (Reps.nil _ _) (hld.mono fun b hb => ⟨by omega, fun e => by have := HOB.out b e; omega⟩) (hkids.mono fun b hb => hb.1) (Nat.le_refl _) (by omega)
                unfold nodeJ
                rw [if_neg (show ¬ (6 : Int) = 5 by decide), if_neg (show ¬ (6 : Int) = 5 by decide)]
                rw [hdl] at this
                exact this)
              have HNB8 := Lib.hid ((HBV.out.block wo.heap.size (by omega) (by omega) (by omega)).trans HXN.out)
              have HVB8 := Lib.hid HVB.out
              have HTQ : Hid (treeOpen (l.take (j + 1)) = o.take q ++ [(xm, nodeJ ⟨6, xn, xy, xt, xm⟩ (o.drop q))]) := Lib.hid (by
                rw [HTS.out]
                unfold treeStep
                rw [HN.out, hq])
              have HW8 := Lib.hid (own_cut (own_below HW.out HBRE.out) q (by omega))
              have HRT := Lib.hid ((HRM.out.lt.keep fun b hb _ => (HBRE.out).block b hb.2).take q)
              have HB8 := Lib.hid (HB.out.trans ((HBRE.out).mono hszB))
              have hsz8 : w1.heap.size ≤ wr.heap.size := HB8.out.size
              go_upto_region 21 with (fail)
              refine wp_region_grow_tail 11 (by kernel_rfl) (by kernel_rfl) (by decide) (by kernel_rfl) [83, 84, 85, 86, 87, 88, 89, 90, 91, 92, 93] rfl (by decide) (by kernel_rfl) (fun iX => [VIs (Value.slice ro o.length rc), VIs (Value.slice ro o.length rc), VIs (Value.int .i64 ((o.length : Nat) : Int)), VIs (Value.int .i64 ((i : Nat) : Int)), VIs (Value.int .i64 ((q : Nat) : Int)), VIs (Value.slice ro q rc), VIs (Value.pointer (some ⟨wo.heap.size, 4, none⟩)), VIs (Value.string ⟨xm.toArray⟩), VIs (Value.agg #[.int .i64 6, .bool xy, .string ⟨xt.toArray⟩, .slice none 0 0, .slice la i lc]), VIs (Value.agg #[.string ⟨xm.toArray⟩, .int .i64 6, .bool xy, .string ⟨xt.toArray⟩, .slice none 0 0, .slice la i lc]), VM #[.string ⟨xm.toArray⟩, .int .i64 6, .bool xy, .string ⟨xt.toArray⟩, .slice none 0 0, .slice la i lc]].getD iX fun _ _ => True) (stab_list _ ?_) ?_ ?_
              · skip
                intro V hV
                simp only [List.mem_cons, List.mem_nil_iff, or_false] at hV
                rcases hV with rfl | rfl | rfl | rfl | rfl | rfl | rfl | rfl | rfl | rfl | rfl <;> first | exact VIs.stab _ | exact VM.stab _
              · intro iX op ho ax w' hf hb hd
                rcases iX with _ | _ | _ | _ | _ | _ | _ | _ | _ | _ | _ | iX
                · cases ho
                  refine grow_op rfl rfl rfl (grow_move rfl ?_)
                  exact (hf.same 4 (by decide)).trans rfl
                · cases ho
                  refine grow_op rfl rfl rfl (grow_move rfl ?_)
                  exact (hf.same 4 (by decide)).trans rfl
                · cases ho
                  refine grow_op rfl rfl rfl ?_
                  have e1 : ax.tmps.getD 84 undef = .slice ro o.length rc := hd 1 (by kernel_rfl)
                  refine grow_value (v := Value.int .i64 ((o.length : Nat) : Int)) (w' := w') ?_ rfl (Below.refl _ _)
                  simp only [execOp, resolve, invoke, builtin]
                  go_simp
                · cases ho
                  refine grow_op rfl rfl rfl (grow_move rfl ?_)
                  exact (hf.same 8 (by decide)).trans rfl
                · cases ho
                  refine grow_op rfl rfl rfl ?_
                  have e2 : ax.tmps.getD 85 undef = Value.int .i64 ((o.length : Nat) : Int) := hd 2 (by kernel_rfl)
                  have e3 : ax.tmps.getD 86 undef = Value.int .i64 ((i : Nat) : Int) := hd 3 (by kernel_rfl)
                  refine grow_value (v := Value.int .i64 ((q : Nat) : Int)) (w' := w') ?_ rfl (Below.refl _ _)
                  simp only [execOp, Act.eval, e2, e3]
                  go_simp
                  first | exact IntWalk.i64_in _ (by omega) | (rw [IntWalk.i64_in _ (by omega)]; omega)
                · cases ho
                  refine grow_op rfl rfl rfl ?_
                  have e0 : ax.tmps.getD 83 undef = .slice ro o.length rc := hd 0 (by kernel_rfl)
                  have e4 : ax.tmps.getD 87 undef = Value.int .i64 ((q : Nat) : Int) := hd 4 (by kernel_rfl)
                  refine grow_value (v := Value.slice ro q rc) (w' := w') ?_ rfl (Below.refl _ _)
                  simp only [execOp, Act.eval, e0]
                  go_simp
                  try (intro hx; omega)
                · cases ho
                  refine grow_op rfl rfl rfl ?_
                  have e6 : ax.tmps.getD 6 undef = .pointer (some ⟨wo.heap.size, 0, none⟩) := (hf.same 6 (by decide)).trans rfl
                  refine grow_value (v := Value.pointer (some ⟨wo.heap.size, 4, none⟩)) (w' := w') ?_ rfl (Below.refl _ _)
                  simp only [execOp, Act.eval, e6]
                  go_simp
                · cases ho
                  refine grow_op rfl rfl rfl ?_
                  have e6 : ax.tmps.getD 89 undef = Value.pointer (some ⟨wo.heap.size, 4, none⟩) := hd 6 (by kernel_rfl)
                  have c4 : w'.cell? ⟨wo.heap.size, 4, none⟩ = some (.string ⟨xm.toArray⟩) := by rw [Lib.cell_of_heap ((hb.block _ (by omega)).trans HNB8.out)]; rfl
                  refine grow_value (v := Value.string ⟨xm.toArray⟩) (w' := w') ?_ rfl (Below.refl _ _)
                  simp only [execOp, Act.eval, e6]
                  go_simp
                · cases ho
                  refine grow_op rfl rfl rfl ?_
                  have e7 : ax.tmps.getD 7 undef = .pointer (some ⟨w2.heap.size, 0, none⟩) := (hf.same 7 (by decide)).trans (by first | rfl | rw [hs2])
                  have hvb := (hb.block _ (by omega)).trans HVB8.out
                  have c0 : w'.cell? ⟨w2.heap.size, 0, none⟩ = some (.int .i64 6) := by rw [Lib.cell_of_heap hvb]; rfl
                  have c1 : w'.cell? ⟨w2.heap.size, 1, none⟩ = some (.bool xy) := by rw [Lib.cell_of_heap hvb]; rfl
                  have c2 : w'.cell? ⟨w2.heap.size, 2, none⟩ = some (.string ⟨xt.toArray⟩) := by rw [Lib.cell_of_heap hvb]; rfl
                  have c3 : w'.cell? ⟨w2.heap.size, 3, none⟩ = some (.slice none 0 0) := by rw [Lib.cell_of_heap hvb]; rfl
                  have c4 : w'.cell? ⟨w2.heap.size, 4, none⟩ = some (.slice la i lc) := by rw [Lib.cell_of_heap hvb]; rfl
                  refine grow_value (v := Value.agg #[.int .i64 6, .bool xy, .string ⟨xt.toArray⟩, .slice none 0 0, .slice la i lc]) (w' := w') ?_ rfl (Below.refl _ _)
                  simp only [execOp, Act.eval, e7]
                  go_simp
                · cases ho
                  refine grow_op rfl rfl rfl ?_
                  have e7 : ax.tmps.getD 90 undef = Value.string ⟨xm.toArray⟩ := hd 7 (by kernel_rfl)
                  have e8 : ax.tmps.getD 91 undef = Value.agg #[.int .i64 6, .bool xy, .string ⟨xt.toArray⟩, .slice none 0 0, .slice la i lc] := hd 8 (by kernel_rfl)
                  refine grow_value (v := Value.agg #[.string ⟨xm.toArray⟩, .int .i64 6, .bool xy, .string ⟨xt.toArray⟩, .slice none 0 0, .slice la i lc]) (w' := w') ?_ rfl (Below.refl _ _)
                  simp only [execOp, Act.eval, List.map_toArray, List.map_cons, List.map_nil, e7, e8]
                  go_simp
                  try rfl
                · cases ho
                  refine grow_op rfl rfl rfl ?_
                  have e9 : ax.tmps.getD 92 undef = Value.agg #[.string ⟨xm.toArray⟩, .int .i64 6, .bool xy, .string ⟨xt.toArray⟩, .slice none 0 0, .slice la i lc] := hd 9 (by kernel_rfl)
                  refine grow_value (v := .slice (some ⟨w'.heap.size, 0, none⟩) 1 1) (w' := w'.alloc (.cells #[.string ⟨xm.toArray⟩, .int .i64 6, .bool xy, .string ⟨xt.toArray⟩, .slice none 0 0, .slice la i lc] 47)) ?_ ⟨_, rfl, heap_alloc_new _ _⟩ ((Below.refl _ _).alloc (Nat.le_refl _) _)
                  simp only [execOp, Act.eval, List.map_toArray, List.map_cons, List.map_nil, e9]
                  go_simp
                  try rfl
                · simp at ho
              · intro ax w' hf hb hd
                obtain ⟨gb, hv93, hbk⟩ := hd 10 (by decide)
                obtain rfl := hf.eq [Value.slice ro o.length rc, Value.slice ro o.length rc, Value.int .i64 ((o.length : Nat) : Int), Value.int .i64 ((i : Nat) : Int), Value.int .i64 ((q : Nat) : Int), Value.slice ro q rc, Value.pointer (some ⟨wo.heap.size, 4, none⟩), Value.string ⟨xm.toArray⟩, Value.agg #[.int .i64 6, .bool xy, .string ⟨xt.toArray⟩, .slice none 0 0, .slice la i lc], Value.agg #[.string ⟨xm.toArray⟩, .int .i64 6, .bool xy, .string ⟨xt.toArray⟩, .slice none 0 0, .slice la i lc], Value.slice (some ⟨gb, 0, none⟩) 1 1] (fun j hj => match j, hj with
                  | 0, _ => hd 0 (by decide)
                  | 1, _ => hd 1 (by decide)
                  | 2, _ => hd 2 (by decide)
                  | 3, _ => hd 3 (by decide)
                  | 4, _ => hd 4 (by decide)
                  | 5, _ => hd 5 (by decide)
                  | 6, _ => hd 6 (by decide)
                  | 7, _ => hd 7 (by decide)
                  | 8, _ => hd 8 (by decide)
                  | 9, _ => hd 9 (by decide)
                  | 10, _ => hv93
                  | k + 11, h => absurd h (by simp)) (by decide) (by kernel_rfl) rfl
                simp only [List.zip_cons_cons, List.zip_nil_right, List.foldl_cons, List.foldl_nil, Act.put, List.setIfInBounds_toArray, List.set_cons_succ, List.set_cons_zero]
                have HW9 := Lib.hid (own_below HW8.out hb)
                have HB9 := Lib.hid (HB8.out.trans (hb.mono hsz8))
                have HRT9 := Lib.hid (HRT.out.lt.keep fun b hb' _ => hb.block b hb'.2)
                have HRP9 := Lib.hid (HRP.out.lt.keep fun b hb' _ => hb.block b hb'.2)
                have HG9 := Lib.hid hbk
                have hsz9 : wr.heap.size ≤ w'.heap.size := hb.size
                clear hd hf hb hbk hv93
                (refine wpList_append_at rfl (.tmp 88) (.tmp 93) 26 rfl w1.heap.size 47 6 96 Tryz.underlying26 (by kernel_rfl) (by decide) (.slice ro q rc) q _ rfl HW9.out gb 1 #[.string ⟨xm.toArray⟩, .int .i64 6, .bool xy, .string ⟨xt.toArray⟩, .slice none 0 0, .slice la i lc] 47 (0, 0) HG9.out rfl rfl ?c2 ?c3 ?c4 ?c5 ?_)
                case c2 => intro u hu; simp at hu; rcases hu with rfl | rfl | rfl | rfl | rfl | rfl <;> rfl
                case c3 => omega
                case c4 => omega
                case c5 => omega
                intro v' w9 hown' hgrow hinfo
                have HOWN : Hid (w9.ownsRow w1.heap.size 47 6 v' (treeOpen (l.take (j + 1))).length (memCells (treeOpen (l.take (j + 1))) (cm.take q ++ [[.int .i64 6, .bool xy, strV xt, .slice none 0 0, .slice la i lc]]))) := Lib.hid (by
                  rw [HTQ.out, memCells_snoc _ _ _ _ _ (by simp [HRM.out.1]), memCells_take o cm q HRM.out.1 (reps_rows HRM.out)]
                  have e : (o.take q ++ [(xm, nodeJ ⟨6, xn, xy, xt, xm⟩ (o.drop q))]).length = q + 1 := by simp <;> omega
                  rw [e]
                  exact hown')
                have hkeep : ∀ b, b < w'.heap.size → (Value.slice ro q rc).ownBlock ≠ some b → w9.heap[b]? = w'.heap[b]? := fun b hb hne => hgrow.block b hb (fun e => hne e.symm)
                have hsame : (Value.slice ro q rc).ownBlock = (Value.slice ro o.length rc).ownBlock := by cases ro <;> rfl
                have hok : ∀ b, b < w'.heap.size → (Value.slice ro o.length rc).ownBlock ≠ some b → v'.ownBlock ≠ some b := by
                  intro b hb hne e
                  rcases hinfo with h | h
                  · rw [h, hsame] at e; exact hne e
                  · rw [h] at e; simp only [Option.some.injEq] at e; omega
                have HREPS : Hid (RepsM (fun b => w1.heap.size ≤ b ∧ v'.ownBlock ≠ some b) w9 (cm.take q ++ [[.int .i64 6, .bool xy, strV xt, .slice none 0 0, .slice la i lc]]) (treeOpen (l.take (j + 1)))) := Lib.hid (by
                  rw [HTQ.out]
                  refine RepsM.snoc ?_ ?_
                  · exact (HRT9.out.lt.keep fun b hb _ => hkeep b hb.2 (by rw [hsame]; exact hb.1.1.1.2)).mono fun b hb => ⟨hb.1.1.1.1, hok b hb.2 hb.1.1.1.2⟩
                  · exact (HRP9.out.lt.keep fun b hb _ => hkeep b hb.2 (by rw [hsame]; exact hb.1.1.2)).mono fun b hb => ⟨hb.1.1.1, hok b hb.2 hb.1.1.2⟩)
                have HBE := Lib.hid (below_own HB9.out HW9.out hgrow (by omega))
                have hlen9 : (treeOpen (l.take (j + 1))).length ≤ j + 1 := by rw [HTQ.out]; simp <;> omega
                have HALL2 : Hid ((l.take (j + 1)).all shortN = true) := Lib.hid (by rw [HALL.out, HSH.out, HSN.out]; rfl)
                clear hown' hgrow hinfo hkeep hok
                go_wp2_with fail
                go_roundg (gO - 1)
                case measure => omega
                case rel => exact ⟨j + 1, v', _, rfl, by first | rfl | (congr 1), by omega, hlen9, HALL2, HOWN, HREPS, HBE⟩
        · have q5 : (xk == 5) = false := by simpa using hk5
          have q6 : (xk == 6) = false := by simpa using hk6
          rw [if_neg (by rintro (e | e); exact hk5 e; exact hk6 e)] at hn
          subst hn
          clear hq hqI q
          go_upto_region 14 with (fail)
          try simp only [Nat.sub_self]
          generalize (if rc = o.length then ro else Option.map (fun x => x.add (o.length * 6)) ro) = KA at *
          clear m0 m1
          go_wp2_with fail
          go_loopg [62] 0 (fun k iv wr => iv = .int .i64 0 ∧ wr = w3)
          case atStart => exact ⟨rfl, rfl⟩
          case round =>
            obtain ⟨rfl, rfl⟩ := hrel
            have HRP : Hid (Rep (fun b => w1.heap.size ≤ b ∧ (Value.slice ro o.length rc).ownBlock ≠ some b) wr [.int .i64 xk, .bool xy, strV xt, .slice none 0 0, .slice none 0 0] (nodeJ ⟨xk, xn, xy, xt, xm⟩ (o.drop o.length))) := Lib.hid (by
              rw [List.drop_of_length_le (Nat.le_refl _)]
              unfold nodeJ
              rw [if_neg hk5, if_neg hk5]
              exact Rep.leaf _ _ xk xy xt)
            have HNB8 := Lib.hid HXN.out
            have HVB8 := Lib.hid HX3.out
            have HTQ : Hid (treeOpen (l.take (j + 1)) = o.take o.length ++ [(xm, nodeJ ⟨xk, xn, xy, xt, xm⟩ (o.drop o.length))]) := Lib.hid (by
              rw [HTS.out]
              unfold treeStep
              rw [HN.out, Nat.sub_zero])
            have HW8 := Lib.hid (own_cut (own_below HW.out HBX3.out) o.length (by omega))
            have HRT := Lib.hid ((HRM.out.lt.keep fun b hb _ => (HBX3.out).block b hb.2).take o.length)
            have HB8 := Lib.hid (HB.out.trans ((HBX3.out).mono hszB))
            have hsz8 : w1.heap.size ≤ wr.heap.size := HB8.out.size
            go_upto_region 21 with (fail)
            refine wp_region_grow_tail 11 (by kernel_rfl) (by kernel_rfl) (by decide) (by kernel_rfl) [83, 84, 85, 86, 87, 88, 89, 90, 91, 92, 93] rfl (by decide) (by kernel_rfl) (fun iX => [VIs (Value.slice ro o.length rc), VIs (Value.slice ro o.length rc), VIs (Value.int .i64 ((o.length : Nat) : Int)), VIs (Value.int .i64 ((0 : Nat) : Int)), VIs (Value.int .i64 ((o.length : Nat) : Int)), VIs (Value.slice ro o.length rc), VIs (Value.pointer (some ⟨wo.heap.size, 4, none⟩)), VIs (Value.string ⟨xm.toArray⟩), VIs (Value.agg #[.int .i64 xk, .bool xy, .string ⟨xt.toArray⟩, .slice none 0 0, .slice none 0 0]), VIs (Value.agg #[.string ⟨xm.toArray⟩, .int .i64 xk, .bool xy, .string ⟨xt.toArray⟩, .slice none 0 0, .slice none 0 0]), VM #[.string ⟨xm.toArray⟩, .int .i64 xk, .bool xy, .string ⟨xt.toArray⟩, .slice none 0 0, .slice none 0 0]].getD iX fun _ _ => True) (stab_list _ ?_) ?_ ?_
            · skip
              intro V hV
              simp only [List.mem_cons, List.mem_nil_iff, or_false] at hV
              rcases hV with rfl | rfl | rfl | rfl | rfl | rfl | rfl | rfl | rfl | rfl | rfl <;> first | exact VIs.stab _ | exact VM.stab _
            · intro iX op ho ax w' hf hb hd
              rcases iX with _ | _ | _ | _ | _ | _ | _ | _ | _ | _ | _ | iX
              · cases ho
                refine grow_op rfl rfl rfl (grow_move rfl ?_)
                exact (hf.same 4 (by decide)).trans rfl
              · cases ho
                refine grow_op rfl rfl rfl (grow_move rfl ?_)
                exact (hf.same 4 (by decide)).trans rfl
              · cases ho
                refine grow_op rfl rfl rfl ?_
                have e1 : ax.tmps.getD 84 undef = .slice ro o.length rc := hd 1 (by kernel_rfl)
                refine grow_value (v := Value.int .i64 ((o.length : Nat) : Int)) (w' := w') ?_ rfl (Below.refl _ _)
                simp only [execOp, resolve, invoke, builtin]
                go_simp
              · cases ho
                refine grow_op rfl rfl rfl (grow_move rfl ?_)
                exact (hf.same 8 (by decide)).trans rfl
              · cases ho
                refine grow_op rfl rfl rfl ?_
                have e2 : ax.tmps.getD 85 undef = Value.int .i64 ((o.length : Nat) : Int) := hd 2 (by kernel_rfl)
                have e3 : ax.tmps.getD 86 undef = Value.int .i64 ((0 : Nat) : Int) := hd 3 (by kernel_rfl)
                refine grow_value (v := Value.int .i64 ((o.length : Nat) : Int)) (w' := w') ?_ rfl (Below.refl _ _)
                simp only [execOp, Act.eval, e2, e3]
                go_simp
                first | exact IntWalk.i64_in _ (by omega) | (rw [IntWalk.i64_in _ (by omega)]; omega)
              · cases ho
                refine grow_op rfl rfl rfl ?_
                have e0 : ax.tmps.getD 83 undef = .slice ro o.length rc := hd 0 (by kernel_rfl)
                have e4 : ax.tmps.getD 87 undef = Value.int .i64 ((o.length : Nat) : Int) := hd 4 (by kernel_rfl)
                refine grow_value (v := Value.slice ro o.length rc) (w' := w') ?_ rfl (Below.refl _ _)
                simp only [execOp, Act.eval, e0]
                go_simp
                try (intro hx; omega)
              · cases ho
                refine grow_op rfl rfl rfl ?_
                have e6 : ax.tmps.getD 6 undef = .pointer (some ⟨wo.heap.size, 0, none⟩) := (hf.same 6 (by decide)).trans rfl
                refine grow_value (v := Value.pointer (some ⟨wo.heap.size, 4, none⟩)) (w' := w') ?_ rfl (Below.refl _ _)
                simp only [execOp, Act.eval, e6]
                go_simp
              · cases ho
                refine grow_op rfl rfl rfl ?_
                have e6 : ax.tmps.getD 89 undef = Value.pointer (some ⟨wo.heap.size, 4, none⟩) := hd 6 (by kernel_rfl)
                have c4 : w'.cell? ⟨wo.heap.size, 4, none⟩ = some (.string ⟨xm.toArray⟩) := by rw [Lib.cell_of_heap ((hb.block _ (by omega)).trans HNB8.out)]; rfl
                refine grow_value (v := Value.string ⟨xm.toArray⟩) (w' := w') ?_ rfl (Below.refl _ _)
                simp only [execOp, Act.eval, e6]
                go_simp
              · cases ho
                refine grow_op rfl rfl rfl ?_
                have e7 : ax.tmps.getD 7 undef = .pointer (some ⟨w2.heap.size, 0, none⟩) := (hf.same 7 (by decide)).trans (by first | rfl | rw [hs2])
                have hvb := (hb.block _ (by omega)).trans HVB8.out
                have c0 : w'.cell? ⟨w2.heap.size, 0, none⟩ = some (.int .i64 xk) := by rw [Lib.cell_of_heap hvb]; rfl
                have c1 : w'.cell? ⟨w2.heap.size, 1, none⟩ = some (.bool xy) := by rw [Lib.cell_of_heap hvb]; rfl
                have c2 : w'.cell? ⟨w2.heap.size, 2, none⟩ = some (.string ⟨xt.toArray⟩) := by rw [Lib.cell_of_heap hvb]; rfl
                have c3 : w'.cell? ⟨w2.heap.size, 3, none⟩ = some (.slice none 0 0) := by rw [Lib.cell_of_heap hvb]; rfl
                have c4 : w'.cell? ⟨w2.heap.size, 4, none⟩ = some (.slice none 0 0) := by rw [Lib.cell_of_heap hvb]; rfl
                refine grow_value (v := Value.agg #[.int .i64 xk, .bool xy, .string ⟨xt.toArray⟩, .slice none 0 0, .slice none 0 0]) (w' := w') ?_ rfl (Below.refl _ _)
                simp only [execOp, Act.eval, e7]
                go_simp
              · cases ho
                refine grow_op rfl rfl rfl ?_
                have e7 : ax.tmps.getD 90 undef = Value.string ⟨xm.toArray⟩ := hd 7 (by kernel_rfl)
                have e8 : ax.tmps.getD 91 undef = Value.agg #[.int .i64 xk, .bool xy, .string ⟨xt.toArray⟩, .slice none 0 0, .slice none 0 0] := hd 8 (by kernel_rfl)
                refine grow_value (v := Value.agg #[.string ⟨xm.toArray⟩, .int .i64 xk, .bool xy, .string ⟨xt.toArray⟩, .slice none 0 0, .slice none 0 0]) (w' := w') ?_ rfl (Below.refl _ _)
                simp only [execOp, Act.eval, List.map_toArray, List.map_cons, List.map_nil, e7, e8]
                go_simp
                try rfl
              · cases ho
                refine grow_op rfl rfl rfl ?_
                have e9 : ax.tmps.getD 92 undef = Value.agg #[.string ⟨xm.toArray⟩, .int .i64 xk, .bool xy, .string ⟨xt.toArray⟩, .slice none 0 0, .slice none 0 0] := hd 9 (by kernel_rfl)
                refine grow_value (v := .slice (some ⟨w'.heap.size, 0, none⟩) 1 1) (w' := w'.alloc (.cells #[.string ⟨xm.toArray⟩, .int .i64 xk, .bool xy, .string ⟨xt.toArray⟩, .slice none 0 0, .slice none 0 0] 47)) ?_ ⟨_, rfl, heap_alloc_new _ _⟩ ((Below.refl _ _).alloc (Nat.le_refl _) _)
                simp only [execOp, Act.eval, List.map_toArray, List.map_cons, List.map_nil, e9]
                go_simp
                try rfl
              · simp at ho
            · intro ax w' hf hb hd
              obtain ⟨gb, hv93, hbk⟩ := hd 10 (by decide)
              obtain rfl := hf.eq [Value.slice ro o.length rc, Value.slice ro o.length rc, Value.int .i64 ((o.length : Nat) : Int), Value.int .i64 ((0 : Nat) : Int), Value.int .i64 ((o.length : Nat) : Int), Value.slice ro o.length rc, Value.pointer (some ⟨wo.heap.size, 4, none⟩), Value.string ⟨xm.toArray⟩, Value.agg #[.int .i64 xk, .bool xy, .string ⟨xt.toArray⟩, .slice none 0 0, .slice none 0 0], Value.agg #[.string ⟨xm.toArray⟩, .int .i64 xk, .bool xy, .string ⟨xt.toArray⟩, .slice none 0 0, .slice none 0 0], Value.slice (some ⟨gb, 0, none⟩) 1 1] (fun j hj => match j, hj with
                | 0, _ => hd 0 (by decide)
                | 1, _ => hd 1 (by decide)
                | 2, _ => hd 2 (by decide)
                | 3, _ => hd 3 (by decide)
                | 4, _ => hd 4 (by decide)
                | 5, _ => hd 5 (by decide)
                | 6, _ => hd 6 (by decide)
                | 7, _ => hd 7 (by decide)
                | 8, _ => hd 8 (by decide)
                | 9, _ => hd 9 (by decide)
                | 10, _ => hv93
                | k + 11, h => absurd h (by simp)) (by decide) (by kernel_rfl) rfl
              simp only [List.zip_cons_cons, List.zip_nil_right, List.foldl_cons, List.foldl_nil, Act.put, List.setIfInBounds_toArray, List.set_cons_succ, List.set_cons_zero]
              have HW9 := Lib.hid (own_below HW8.out hb)
              have HB9 := Lib.hid (HB8.out.trans (hb.mono hsz8))
              have HRT9 := Lib.hid (HRT.out.lt.keep fun b hb' _ => hb.block b hb'.2)
              have HRP9 := Lib.hid (HRP.out.lt.keep fun b hb' _ => hb.block b hb'.2)
              have HG9 := Lib.hid hbk
              have hsz9 : wr.heap.size ≤ w'.heap.size := hb.size
              clear hd hf hb hbk hv93
              (refine wpList_append_at rfl (.tmp 88) (.tmp 93) 26 rfl w1.heap.size 47 6 96 Tryz.underlying26 (by kernel_rfl) (by decide) (.slice ro o.length rc) o.length _ rfl HW9.out gb 1 #[.string ⟨xm.toArray⟩, .int .i64 xk, .bool xy, .string ⟨xt.toArray⟩, .slice none 0 0, .slice none 0 0] 47 (0, 0) HG9.out rfl rfl ?c2 ?c3 ?c4 ?c5 ?_)
              case c2 => intro u hu; simp at hu; rcases hu with rfl | rfl | rfl | rfl | rfl | rfl <;> rfl
              case c3 => omega
              case c4 => omega
              case c5 => omega
              intro v' w9 hown' hgrow hinfo
              have HOWN : Hid (w9.ownsRow w1.heap.size 47 6 v' (treeOpen (l.take (j + 1))).length (memCells (treeOpen (l.take (j + 1))) (cm.take o.length ++ [[.int .i64 xk, .bool xy, strV xt, .slice none 0 0, .slice none 0 0]]))) := Lib.hid (by
                rw [HTQ.out, memCells_snoc _ _ _ _ _ (by simp [HRM.out.1]), memCells_take o cm o.length HRM.out.1 (reps_rows HRM.out)]
                have e : (o.take o.length ++ [(xm, nodeJ ⟨xk, xn, xy, xt, xm⟩ (o.drop o.length))]).length = o.length + 1 := by simp <;> omega
                rw [e]
                exact hown')
              have hkeep : ∀ b, b < w'.heap.size → (Value.slice ro o.length rc).ownBlock ≠ some b → w9.heap[b]? = w'.heap[b]? := fun b hb hne => hgrow.block b hb (fun e => hne e.symm)
              have hsame : (Value.slice ro o.length rc).ownBlock = (Value.slice ro o.length rc).ownBlock := by cases ro <;> rfl
              have hok : ∀ b, b < w'.heap.size → (Value.slice ro o.length rc).ownBlock ≠ some b → v'.ownBlock ≠ some b := by
                intro b hb hne e
                rcases hinfo with h | h
                · rw [h, hsame] at e; exact hne e
                · rw [h] at e; simp only [Option.some.injEq] at e; omega
              have HREPS : Hid (RepsM (fun b => w1.heap.size ≤ b ∧ v'.ownBlock ≠ some b) w9 (cm.take o.length ++ [[.int .i64 xk, .bool xy, strV xt, .slice none 0 0, .slice none 0 0]]) (treeOpen (l.take (j + 1)))) := Lib.hid (by
                rw [HTQ.out]
                refine RepsM.snoc ?_ ?_
                · exact (HRT9.out.lt.keep fun b hb _ => hkeep b hb.2 (by rw [hsame]; exact hb.1.1.1.2)).mono fun b hb => ⟨hb.1.1.1.1, hok b hb.2 hb.1.1.1.2⟩
                · exact (HRP9.out.lt.keep fun b hb _ => hkeep b hb.2 (by rw [hsame]; exact hb.1.1.2)).mono fun b hb => ⟨hb.1.1.1, hok b hb.2 hb.1.1.2⟩)
              have HBE := Lib.hid (below_own HB9.out HW9.out hgrow (by omega))
              have hlen9 : (treeOpen (l.take (j + 1))).length ≤ j + 1 := by rw [HTQ.out]; simp <;> omega
              have HALL2 : Hid ((l.take (j + 1)).all shortN = true) := Lib.hid (by rw [HALL.out, HSH.out, HSN.out]; rfl)
              clear hown' hgrow hinfo hkeep hok
              go_wp2_with fail
              go_roundg (gO - 1)
              case measure => omega
              case rel => exact ⟨j + 1, v', _, rfl, by first | rfl | (congr 1), by omega, hlen9, HALL2, HOWN, HREPS, HBE⟩
      · have hge : ¬ (j : Int) < (l.length : Int) := by omega
        obtain rfl : j = l.length := by omega
        have hta : l.take l.length = l := List.take_of_length_le (Nat.le_refl _)
        have HTV2 : Hid (treeV l = (treeOpen (l.take l.length)).getLast?.map Prod.snd) := Lib.hid (by
          have h1 := HSH.out
          rw [hta] at h1
          rw [HTV.out, if_pos ⟨hl, h1⟩, hta])
        generalize treeOpen (l.take l.length) = o at *
        clear hta
        have HBW := Lib.hid (HB1.out.trans (HB.out.mono (by omega)))
        have HRZ := Lib.hid ((HB.out.block w.heap.size (by omega)).trans HX1.out)
        by_cases ho : o.length = 0
        · have HNN : Hid (treeV l = none) := Lib.hid (by
            rw [HTV2.out, List.eq_nil_of_length_eq_zero ho]; rfl)
          have hoI : ((o.length : Int) == 0) = true := by rw [ho]; rfl
          clear ho
          have d0 : wo.cell? ⟨w.heap.size, 0, none⟩ = some (.int .i64 0) := by rw [Lib.cell_of_heap HRZ.out]; rfl
          have d1 : wo.cell? ⟨w.heap.size, 1, none⟩ = some (.bool false) := by rw [Lib.cell_of_heap HRZ.out]; rfl
          have d2 : wo.cell? ⟨w.heap.size, 2, none⟩ = some (.string ⟨#[]⟩) := by rw [Lib.cell_of_heap HRZ.out]; rfl
          have d3 : wo.cell? ⟨w.heap.size, 3, none⟩ = some (.slice none 0 0) := by rw [Lib.cell_of_heap HRZ.out]; rfl
          have d4 : wo.cell? ⟨w.heap.size, 4, none⟩ = some (.slice none 0 0) := by rw [Lib.cell_of_heap HRZ.out]; rfl
          have f0 := Lib.frozen_of_heap HRZ.out 0
          have f1 := Lib.frozen_of_heap HRZ.out 1
          have f2 := Lib.frozen_of_heap HRZ.out 2
          have f3 := Lib.frozen_of_heap HRZ.out 3
          have f4 := Lib.frozen_of_heap HRZ.out 4
          go_wp2_with fail
          have hst := value_stored HRZ.out (.int .i64 0) (.bool false) (.string ⟨#[]⟩) (.slice none 0 0) (.slice none 0 0)
          have hbe := zero_stored HBW.out (Nat.le_refl _) (.int .i64 0) (.bool false) (.string ⟨#[]⟩) (.slice none 0 0) (.slice none 0 0)
          have e0 := Lib.cell_of_heap hst 0
          have e1 := Lib.cell_of_heap hst 1
          have e2 := Lib.cell_of_heap hst 2
          have e3 := Lib.cell_of_heap hst 3
          have e4 := Lib.cell_of_heap hst 4
          simp only [List.getElem?_toArray] at e0 e1 e2 e3 e4
          refine bodyPost_ret (v := .tuple #[.agg #[.int .i64 0, .bool false, .string ⟨#[]⟩, .slice none 0 0, .slice none 0 0], .bool false]) (by simp [results, Tryz.results7, go_sem, e0, e1, e2, e3, e4]) rfl ?_
          exact ⟨hbe, zero5, by rw [HNN.out]; rfl, by rw [HNN.out]; exact Rep.leaf _ _ 0 false []⟩
        · have hoI : ((o.length : Int) == 0) = false := by rw [beq_eq_false_iff_ne]; omega
          obtain ⟨m, hm⟩ : ∃ m, o.length = m + 1 := ⟨o.length - 1, by omega⟩
          have hmI : ((o.length : Nat) : Int) - 1 = (m : Int) := by omega
          obtain ⟨kb, koff, k2, y2, t2, a2, l2, c2, a3, l3, c3, ero, hcmi, g0, g1, g2, g3, g4, g5⟩ := mem_row HRO.out HRM.out m (by omega)
          subst ero
          have HSS : Hid (treeV l = some (o[m]'(by omega)).2) := Lib.hid (by
            rw [HTV2.out, List.getLast?_eq_getElem?, show o.length - 1 = m by omega, List.getElem?_eq_getElem (by omega)]
            rfl)
          have HREP : Hid (Rep (fun b => w1.heap.size ≤ b ∧ b < wo.heap.size) wo [.int .i64 k2, .bool y2, .string ⟨t2⟩, .slice a2 l2 c2, .slice a3 l3 c3] (o[m]'(by omega)).2) := Lib.hid (by
            have h1 := HRM.out.lt.2 m (by rw [HRM.out.1]; omega) (by omega)
            rw [List.getElem?_eq_getElem (by rw [HRM.out.1]; omega)] at hcmi
            simp only [Option.some.injEq] at hcmi
            rw [hcmi] at h1
            exact h1.mono fun b hb => ⟨hb.1.1, hb.2⟩)
          have hmo : m < o.length := by omega
          clear hcmi g0
          generalize (o[m]'(by omega)).2 = OV at HSS HREP
          clear ho hm
          have d0 : wo.cell? ⟨w.heap.size, 0, none⟩ = some (.int .i64 0) := by rw [Lib.cell_of_heap HRZ.out]; rfl
          have d1 : wo.cell? ⟨w.heap.size, 1, none⟩ = some (.bool false) := by rw [Lib.cell_of_heap HRZ.out]; rfl
          have d2 : wo.cell? ⟨w.heap.size, 2, none⟩ = some (.string ⟨#[]⟩) := by rw [Lib.cell_of_heap HRZ.out]; rfl
          have d3 : wo.cell? ⟨w.heap.size, 3, none⟩ = some (.slice none 0 0) := by rw [Lib.cell_of_heap HRZ.out]; rfl
          have d4 : wo.cell? ⟨w.heap.size, 4, none⟩ = some (.slice none 0 0) := by rw [Lib.cell_of_heap HRZ.out]; rfl
          have f0 := Lib.frozen_of_heap HRZ.out 0
          have f1 := Lib.frozen_of_heap HRZ.out 1
          have f2 := Lib.frozen_of_heap HRZ.out 2
          have f3 := Lib.frozen_of_heap HRZ.out 3
          have f4 := Lib.frozen_of_heap HRZ.out 4
          go_wp2_with fail
          have hst := value_stored HRZ.out (.int .i64 k2) (.bool y2) (.string ⟨t2⟩) (.slice a2 l2 c2) (.slice a3 l3 c3)
          have hbe := zero_stored HBW.out (Nat.le_refl _) (.int .i64 k2) (.bool y2) (.string ⟨t2⟩) (.slice a2 l2 c2) (.slice a3 l3 c3)
          have e0 := Lib.cell_of_heap hst 0
          have e1 := Lib.cell_of_heap hst 1
          have e2 := Lib.cell_of_heap hst 2
          have e3 := Lib.cell_of_heap hst 3
          have e4 := Lib.cell_of_heap hst 4
          simp only [List.getElem?_toArray] at e0 e1 e2 e3 e4
          refine bodyPost_ret (v := .tuple #[.agg #[.int .i64 k2, .bool y2, .string ⟨t2⟩, .slice a2 l2 c2, .slice a3 l3 c3], .bool true]) (by simp [results, Tryz.results7, go_sem, e0, e1, e2, e3, e4]) rfl ?_
          exact ⟨hbe, [.int .i64 k2, .bool y2, .string ⟨t2⟩, .slice a2 l2 c2, .slice a3 l3 c3], by rw [HSS.out]; rfl, by
            rw [HSS.out]
            refine (HREP.out.keep fun b hb hlt => ?_).mono fun b hb => (show w.heap.size ≤ b by omega)
            exact stored_other _ _ _ _ _ _ _ (by omega)⟩
  · have hlI : (40 : Int) < (l.length : Int) := by omega
    have HNN : Hid (treeV l = none) := Lib.hid (by rw [HTV.out, if_neg (fun h => hl h.1)])
    have HRZ := Lib.hid HX1.out
    have d0 : w1.cell? ⟨w.heap.size, 0, none⟩ = some (.int .i64 0) := by rw [Lib.cell_of_heap HRZ.out]; rfl
    have d1 : w1.cell? ⟨w.heap.size, 1, none⟩ = some (.bool false) := by rw [Lib.cell_of_heap HRZ.out]; rfl
    have d2 : w1.cell? ⟨w.heap.size, 2, none⟩ = some (.string ⟨#[]⟩) := by rw [Lib.cell_of_heap HRZ.out]; rfl
    have d3 : w1.cell? ⟨w.heap.size, 3, none⟩ = some (.slice none 0 0) := by rw [Lib.cell_of_heap HRZ.out]; rfl
    have d4 : w1.cell? ⟨w.heap.size, 4, none⟩ = some (.slice none 0 0) := by rw [Lib.cell_of_heap HRZ.out]; rfl
    have f0 := Lib.frozen_of_heap HRZ.out 0
    have f1 := Lib.frozen_of_heap HRZ.out 1
    have f2 := Lib.frozen_of_heap HRZ.out 2
    have f3 := Lib.frozen_of_heap HRZ.out 3
    have f4 := Lib.frozen_of_heap HRZ.out 4
    go_wp2_with fail
    have hst := value_stored HRZ.out (.int .i64 0) (.bool false) (.string ⟨#[]⟩) (.slice none 0 0) (.slice none 0 0)
    have hbe := zero_stored HB1.out (Nat.le_refl _) (.int .i64 0) (.bool false) (.string ⟨#[]⟩) (.slice none 0 0) (.slice none 0 0)
    have e0 := Lib.cell_of_heap hst 0
    have e1 := Lib.cell_of_heap hst 1
    have e2 := Lib.cell_of_heap hst 2
    have e3 := Lib.cell_of_heap hst 3
    have e4 := Lib.cell_of_heap hst 4
    simp only [List.getElem?_toArray] at e0 e1 e2 e3 e4
    refine bodyPost_ret (v := .tuple #[.agg #[.int .i64 0, .bool false, .string ⟨#[]⟩, .slice none 0 0, .slice none 0 0], .bool false]) (by simp [results, Tryz.results7, go_sem, e0, e1, e2, e3, e4]) rfl ?_
    exact ⟨hbe, zero5, by rw [HNN.out]; rfl, by rw [HNN.out]; exact Rep.leaf _ _ 0 false []⟩
end Go.Proofs.YtfdijcdpmgkdkaaGreat
/- json: Same. -/
set_option linter.unusedVariables false
namespace Go.Proofs.YtfdijcdpmgkdkaaGreat
open Go.RowKit

def sameJ (v u : JV) : Bool := rightJ v && (rightJ u && (plainJ v == plainJ u))
theorem same_self {v : JV} (h : rightJ v = true) : sameJ v v = true := by simp [sameJ, h]
set_option maxRecDepth 100000 in
set_option maxHeartbeats 16000000 in
theorem jsame_any (v u : JV) (ok ok' : Nat → Prop) (cs cs' : List Value) (w : World) (h : Rep ok w cs v) (h' : Rep ok' w cs' u) (hv : sizeJ v ≤ 12000) (hu : sizeJ u ≤ 12000) :
    Calls Tryz.prog 19 #[.agg cs.toArray, .agg cs'.toArray] w fun e w' => e = .returned (.bool (sameJ v u)) ∧ Below w.heap.size w w' := by
  have hpv := plain_size v
  have hpu := plain_size u
  have HR := Lib.hid h.lt
  have HR' := Lib.hid h'.lt
  obtain ⟨a, c, a', c', cl, cm, rfl, -⟩ := h.parts
  obtain ⟨xa, xc, xa', xc', xcl, xcm, rfl, -⟩ := h'.parts
  unfold strV at *
  have HP : Hid (∀ w1, Rep (fun b => ok b ∧ b < w.heap.size) w1 [.int .i64 v.kind, .bool v.yes, .string ⟨v.text.toArray⟩, .slice a v.list.length c, .slice a' v.mem.length c'] v → _) := Lib.hid fun w1 h1 => jprint_any v (jright v (by omega)) _ _ w1 h1 (by omega)
  have HP' : Hid (∀ w1, Rep (fun b => ok' b ∧ b < w.heap.size) w1 [.int .i64 u.kind, .bool u.yes, .string ⟨u.text.toArray⟩, .slice xa u.list.length xc, .slice xa' u.mem.length xc'] u → _) := Lib.hid fun w1 h1 => jprint_any u (jright u (by omega)) _ _ w1 h1 (by omega)
  have HSM : Hid (sameJ v u = (rightJ v && (rightJ u && ((if rightJ v then plainJ v else []) == (if rightJ u then plainJ u else []))))) := Lib.hid (by
    unfold sameJ
    cases rightJ v <;> cases rightJ u <;> rfl)
  clear h h' hpv hpu
  generalize sameJ v u = SM at *
  generalize v.kind = k1 at *
  generalize v.yes = y1 at *
  generalize v.text = t1 at *
  generalize v.list.length = l1 at *
  generalize v.mem.length = m1 at *
  generalize u.kind = k2 at *
  generalize u.yes = y2 at *
  generalize u.text = t2 at *
  generalize u.list.length = l2 at *
  generalize u.mem.length = m2 at *
  generalize hPV : (if rightJ v then plainJ v else []) = PV at *
  generalize hPU : (if rightJ u then plainJ u else []) = PU at *
  go_enter Tryz.func19, Tryz.ntmps19
  go_upto_region 1 with (fail)
  generalize hw1 : (w.alloc _).alloc _ = w1
  have hb1 : Below w.heap.size w w1 := by rw [← hw1]; exact ((Below.refl _ _).alloc (Nat.le_refl _) _).alloc (by simp) _
  have hx1 : w1.heap[w.heap.size]? = some (.cells #[.int .i64 k1, .bool y1, .string ⟨t1.toArray⟩, .slice a l1 c, .slice a' m1 c'] 28 (0, 0)) := by rw [← hw1]; exact block_alloc (heap_alloc_new w _) _
  have hx2 : w1.heap[w.heap.size + 1]? = some (.cells #[.int .i64 k2, .bool y2, .string ⟨t2.toArray⟩, .slice xa l2 xc, .slice xa' m2 xc'] 28 (0, 0)) := by
    rw [← hw1]
    have e : w.heap.size + 1 = (w.alloc (.cells #[.int .i64 k1, .bool y1, .string ⟨t1.toArray⟩, .slice a l1 c, .slice a' m1 c'] 28)).heap.size := by simp
    rw [e]
    exact heap_alloc_new _ _
  have HB1 := Lib.hid hb1
  have HX1 := Lib.hid hx1
  have HX2 := Lib.hid hx2
  have hs1 : w.heap.size + 1 < w1.heap.size := (Array.getElem?_eq_some_iff.1 hx2).1
  have v0 : w1.cell? ⟨w.heap.size, 0, none⟩ = some (.int .i64 k1) := by rw [Lib.cell_of_heap hx1]; rfl
  have v1 : w1.cell? ⟨w.heap.size, 1, none⟩ = some (.bool y1) := by rw [Lib.cell_of_heap hx1]; rfl
  have v2 : w1.cell? ⟨w.heap.size, 2, none⟩ = some (.string ⟨t1.toArray⟩) := by rw [Lib.cell_of_heap hx1]; rfl
  have v3 : w1.cell? ⟨w.heap.size, 3, none⟩ = some (.slice a l1 c) := by rw [Lib.cell_of_heap hx1]; rfl
  have v4 : w1.cell? ⟨w.heap.size, 4, none⟩ = some (.slice a' m1 c') := by rw [Lib.cell_of_heap hx1]; rfl
  clear hw1 hb1 hx1 hx2
  go_wp2_with fail
  refine (HP.out w1 (HR.out.keep fun b hb _ => HB1.out.block b hb.2)).mono ?_
  rintro e w2 ⟨rfl, hb2⟩
  have HB2 := Lib.hid (HB1.out.trans (hb2.mono HB1.out.size))
  have hx2 := (hb2.block _ hs1).trans HX2.out
  have u0 : w2.cell? ⟨w.heap.size + 1, 0, none⟩ = some (.int .i64 k2) := by rw [Lib.cell_of_heap hx2]; rfl
  have u1 : w2.cell? ⟨w.heap.size + 1, 1, none⟩ = some (.bool y2) := by rw [Lib.cell_of_heap hx2]; rfl
  have u2 : w2.cell? ⟨w.heap.size + 1, 2, none⟩ = some (.string ⟨t2.toArray⟩) := by rw [Lib.cell_of_heap hx2]; rfl
  have u3 : w2.cell? ⟨w.heap.size + 1, 3, none⟩ = some (.slice xa l2 xc) := by rw [Lib.cell_of_heap hx2]; rfl
  have u4 : w2.cell? ⟨w.heap.size + 1, 4, none⟩ = some (.slice xa' m2 xc') := by rw [Lib.cell_of_heap hx2]; rfl
  clear hb2 hx2 v0 v1 v2 v3 v4
  generalize rightJ v = r1 at *
  cases r1 <;>
  · go_wp2_with fail
    refine (HP'.out w2 (HR'.out.keep fun b hb _ => HB2.out.block b hb.2)).mono ?_
    rintro e w3 ⟨rfl, hb3⟩
    have HB3 := Lib.hid (HB2.out.trans (hb3.mono HB2.out.size))
    clear hb3 u0 u1 u2 u3 u4
    generalize rightJ u = r2 at *
    cases r2 <;>
    · go_wp2_with fail
      refine bodyPost_ret (results_tmp rfl _ _ _) rfl ?_
      exact ⟨by rw [HSM.out]; simp, HB3.out⟩
end Go.Proofs.YtfdijcdpmgkdkaaGreat
/- The walk of SubjectReads. -/
set_option linter.unusedVariables false
namespace Go.Proofs.YtfdijcdpmgkdkaaGreat
open Go.RowKit

set_option maxRecDepth 100000 in
set_option maxHeartbeats 64000000 in
theorem subjectReads_walk (a : Option Addr) (c : Nat) (l : List ND) (w : World) (hrl : RdC w a (l.flatMap ndCell) ∧ l.length ≤ maxLen) :
    Calls Tryz.prog 5 #[.slice a l.length c] w fun e w' => e = .returned (.bool true) ∧ Below w.heap.size w w' := by
  obtain ⟨hr, hlen⟩ := hrl
  unfold maxLen at hlen
  have HR := Lib.hid hr
  have HL := Lib.hid hlen
  clear hr hlen
  go_enter Tryz.func5, Tryz.ntmps5
  go_wp2_with fail
  refine (anchor12_any w).mono ?_
  rintro e w1 ⟨rfl, hb1⟩
  have HB1 := Lib.hid hb1
  have HR1 := Lib.hid (HR.out.below hb1)
  clear hb1
  go_wp2_with fail
  refine (treeval_any a c l w1 HR1.out (by have := HL.out; omega)).mono ?_
  rintro e w2 ⟨hb2, cs, rfl, hrep⟩
  have HB2 := Lib.hid (HB1.out.trans (hb2.mono HB1.out.size))
  have hsz : ∀ v, treeV l = some v → sizeJ v ≤ 6500 := fun v h => tree_size h
  generalize treeV l = tv at *
  clear hb2
  cases tv with
  | none =>
    obtain ⟨xa, xc, xa', xc', _, _, rfl, -⟩ := hrep.parts
    simp only [Option.isSome_none, Option.getD_none, JV.zero, JV.kind, JV.yes, JV.text, JV.list, JV.mem, strV, List.length_nil] at *
    clear hrep hsz
    go_upto_region 4 with (fail)
    have HB3 := Lib.hid (HB2.out.trans (((Below.refl _ _).alloc (Nat.le_refl _) (.cells #[.int .i64 0, .bool false, .string ⟨#[]⟩, .slice xa 0 xc, .slice xa' 0 xc'] 28)).mono HB2.out.size))
    go_wp2_with fail
    refine bodyPost_ret (results_tmp rfl _ _ _) rfl ?_
    exact ⟨rfl, HB3.out⟩
  | some v =>
  have hs := hsz v rfl
  obtain ⟨xa, xc, xa', xc', _, _, rfl, -⟩ := hrep.parts
  simp only [Option.isSome_some, Option.getD_some] at *
  unfold strV at *
  obtain ⟨k, y, t, n1, n2, hk, hy, ht, hn1, hn2⟩ : ∃ k y t n1 n2, v.kind = k ∧ v.yes = y ∧ (⟨v.text.toArray⟩ : ByteArray) = t ∧ v.list.length = n1 ∧ v.mem.length = n2 := ⟨_, _, _, _, _, rfl, rfl, rfl, rfl, rfl⟩
  rw [hk, hy, ht, hn1, hn2] at hrep
  rw [hk, hy, ht, hn1, hn2]
  have HN2 := Lib.hid hn2
  clear hk hy ht hn1 hn2 hsz
  have HREP2 := Lib.hid hrep.lt
  go_upto_region 4 with (fail)
  generalize hw3 : w2.alloc _ = w3
  have hb3 : Below w2.heap.size w2 w3 := by rw [← hw3]; exact (Below.refl _ _).alloc (Nat.le_refl _) _
  have hx3 : w3.heap[w2.heap.size]? = some (.cells #[.int .i64 k, .bool y, .string t, .slice xa n1 xc, .slice xa' n2 xc'] 28 (0, 0)) := by rw [← hw3]; exact heap_alloc_new _ _
  have HB3 := Lib.hid (HB2.out.trans (hb3.mono HB2.out.size))
  have HX3 := Lib.hid hx3
  have HREP3 := Lib.hid (HREP2.out.under hb3)
  have hs3 : w2.heap.size < w3.heap.size := (Array.getElem?_eq_some_iff.1 hx3).1
  obtain ⟨v0, v1, v2, v3, v4⟩ := five_at hx3 (Below.refl w3.heap.size w3) hs3
  clear hw3 hb3 hx3 hrep HREP2
  have hcs := of_cases v
  have HCS := Lib.hid hcs
  clear hcs
  have hsm := strM_eq fmtB v
  have HSM := Lib.hid hsm
  clear hsm
  have HOF := Lib.hid (of_any v (by omega))
  have HGT := Lib.hid (fun ok cs w' h => get_any ok cs v fmtB w' h (by have := mem_size v; omega))
  go_wp2_with fail
  refine (HOF.out _ [.int .i64 k, .bool y, .string t, .slice xa n1 xc, .slice xa' n2 xc'] w3 HREP3.out).mono ?_
  obtain ⟨F, I, S, E, hO⟩ : ∃ F I S E, ofS v = ((F, I, S), E) := ⟨_, _, _, _, rfl⟩
  rw [hO] at HCS ⊢
  clear hO
  rintro e w4 ⟨rfl, hb4⟩
  unfold OfIs
  have HB4 := Lib.hid (HB3.out.trans (hb4.mono HB3.out.size))
  have HX4 := Lib.hid ((hb4.block _ hs3).trans HX3.out)
  have HREP4 := Lib.hid (HREP3.out.under hb4)
  have hs4 : w2.heap.size < w4.heap.size := Nat.lt_of_lt_of_le hs3 hb4.size
  clear hb4 v0 v1 v2 v3 v4 HX3 HREP3 HOF HB3
  go_upto_region 7 with (fail)
  generalize hw5 : w4.alloc _ = w5
  have hb5 : Below w4.heap.size w4 w5 := by rw [← hw5]; exact (Below.refl _ _).alloc (Nat.le_refl _) _
  have hy5 : w5.heap[w4.heap.size]? = some (.cells #[.string ⟨F.toArray⟩, .string ⟨I.toArray⟩, .string ⟨S.toArray⟩] 34 (0, 0)) := by rw [← hw5]; exact heap_alloc_new _ _
  have HB5 := Lib.hid (HB4.out.trans (hb5.mono HB4.out.size))
  have HX5 := Lib.hid ((hb5.block _ hs4).trans HX4.out)
  have HY5 := Lib.hid hy5
  have HREP5 := Lib.hid (HREP4.out.under hb5)
  have hs5 : w4.heap.size < w5.heap.size := (Array.getElem?_eq_some_iff.1 hy5).1
  obtain ⟨v0, v1, v2, v3, v4⟩ := five_at HX5.out (Below.refl w5.heap.size w5) (by omega)
  unfold fmtB at HGT
  clear hw5 hb5 hy5 HX4 HREP4 HB4
  go_wp2_with fail
  refine (HGT.out _ [.int .i64 k, .bool y, .string t, .slice xa n1 xc, .slice xa' n2 xc'] w5 HREP5.out).mono ?_
  rintro e w6 ⟨hb6, cs6, rfl, hrep6⟩
  have HB6 := Lib.hid (HB5.out.trans (hb6.mono HB5.out.size))
  have HX6 := Lib.hid ((hb6.block _ (by omega)).trans HX5.out)
  have HY6 := Lib.hid ((hb6.block _ hs5).trans HY5.out)
  have HREP6 := Lib.hid (HREP5.out.under hb6)
  have hs6 : w4.heap.size < w6.heap.size := Nat.lt_of_lt_of_le hs5 hb6.size
  obtain ⟨ga, gc, gma, gmc, _, _, rfl, -⟩ := hrep6.parts
  unfold strV at *
  have hgg : getJ [102, 111, 114, 109, 97, 116] v = getJ fmtB v := rfl
  rw [hgg]
  rw [hgg] at hrep6
  generalize getJ fmtB v = G at *
  generalize G.getD JV.zero = X at *
  obtain ⟨gkn, gy, gt, gl, gm, hk, hy, ht, hl1, hm1⟩ : ∃ k y t l1 m1, X.kind = k ∧ X.yes = y ∧ X.text = t ∧ X.list.length = l1 ∧ X.mem.length = m1 := ⟨_, _, _, _, _, rfl, rfl, rfl, rfl, rfl⟩
  rw [hk, ht] at HSM
  rw [hk, hy, ht, hl1, hm1]
  clear hk hy ht hl1 hm1 hrep6 hb6 v0 v1 v2 v3 v4 HX5 HY5 HREP5 HB5 HGT hgg
  generalize G.isSome = GS at *
  go_upto_region 8 with (fail)
  generalize hw7 : w6.alloc _ = w7
  have hb7 : Below w6.heap.size w6 w7 := by rw [← hw7]; exact (Below.refl _ _).alloc (Nat.le_refl _) _
  have hz7 : w7.heap[w6.heap.size]? = some (.cells #[.int .i64 gkn, .bool gy, .string ⟨gt.toArray⟩, .slice ga gl gc, .slice gma gm gmc] 28 (0, 0)) := by rw [← hw7]; exact heap_alloc_new _ _
  have HB7 := Lib.hid (HB6.out.trans (hb7.mono HB6.out.size))
  have HX7 := Lib.hid ((hb7.block _ (by omega)).trans HX6.out)
  have HY7 := Lib.hid ((hb7.block _ hs6).trans HY6.out)
  have HREP7 := Lib.hid (HREP6.out.under hb7)
  have hs7 : w6.heap.size < w7.heap.size := (Array.getElem?_eq_some_iff.1 hz7).1
  obtain ⟨z0, z1, z2, -, -⟩ := five_at hz7 (Below.refl w7.heap.size w7) hs7
  obtain ⟨u0, u1, u2⟩ := three_at HY7.out (Below.refl w7.heap.size w7) (by omega)
  clear hw7 hb7 hz7 HX6 HY6 HREP6 HB6
  have hsm := HSM.out
  have hcs := HCS.out
  rw [hsm] at hcs
  simp only at hcs
  clear HSM HCS hsm
  rcases hcs with ⟨h1, h2⟩ | ⟨h1, h2, h3⟩ | ⟨h1, h2, h3⟩ | ⟨h1, h2, I', S', h3, hrs, hrj, hml, hall⟩
  · simp only [Prod.mk.injEq] at h2
    obtain ⟨⟨rfl, rfl, rfl⟩, rfl⟩ := h2
    cases GS with
    | false =>
      go_wp2_with fail
      refine bodyPost_ret (results_tmp rfl _ _ _) rfl ?_
      exact ⟨rfl, HB7.out⟩
    | true =>
      have hk4 : (gkn != 4) = true := by
        have : (gkn == 4) = false := by simpa using h1
        simp [bne, this]
      clear h1
      go_wp2_with fail
      refine bodyPost_ret (results_tmp rfl _ _ _) rfl ?_
      exact ⟨rfl, HB7.out⟩
  · simp only [Prod.mk.injEq] at h3
    obtain ⟨⟨rfl, rfl, rfl⟩, rfl⟩ := h3
    simp only [Bool.and_eq_true] at h1
    obtain ⟨rfl, h1⟩ := h1
    have hk4 : (gkn != 4) = false := by simp [bne, h1]
    obtain ⟨n1', n2', n3'⟩ := (names_iff gt).1 h2
    have q1 : (gt == [111, 112, 97, 113, 117, 101]) = false := beq_false_of_ne n1'
    have q2 : (gt == [101, 109, 97, 105, 108]) = false := beq_false_of_ne n2'
    have q3 : (gt == [105, 115, 115, 95, 115, 117, 98]) = false := beq_false_of_ne n3'
    clear h1 h2 n1' n2' n3'
    go_wp2_with fail
    refine bodyPost_ret (results_tmp rfl _ _ _) rfl ?_
    exact ⟨rfl, HB7.out⟩
  · simp only [Prod.mk.injEq] at h3
    obtain ⟨⟨rfl, rfl, rfl⟩, rfl⟩ := h3
    simp only [Bool.and_eq_true] at h1
    obtain ⟨rfl, h1⟩ := h1
    have hk4 : (gkn != 4) = false := by simp [bne, h1]
    have h5 : gt = opaB ∨ gt = emaB ∨ gt = issB := by
      refine Classical.byContradiction fun hc => h2 ((names_iff gt).2 ⟨fun e => hc (.inl e), fun e => hc (.inr (.inl e)), fun e => hc (.inr (.inr e))⟩)
    clear h1 h2
    rcases h5 with rfl | rfl | rfl
    · unfold opaB at *
      go_wp2_with fail
      refine bodyPost_ret (results_tmp rfl _ _ _) rfl ?_
      exact ⟨rfl, HB7.out⟩
    · unfold emaB at *
      go_wp2_with fail
      refine bodyPost_ret (results_tmp rfl _ _ _) rfl ?_
      exact ⟨rfl, HB7.out⟩
    · unfold issB at *
      go_wp2_with fail
      refine bodyPost_ret (results_tmp rfl _ _ _) rfl ?_
      exact ⟨rfl, HB7.out⟩
  · simp only [Prod.mk.injEq] at h3
    obtain ⟨⟨rfl, rfl, rfl⟩, rfl⟩ := h3
    simp only [Bool.and_eq_true] at h1
    obtain ⟨rfl, h1⟩ := h1
    have hk4 : (gkn != 4) = false := by simp [bne, h1]
    clear h1 h2
    obtain ⟨lf, li, ls⟩ := right_len hrs
    have hff := right_fmt hrs
    have hvv : Hid (∀ w', _) := Lib.hid fun w' => svalue_any F I S w' (by omega) (by omega) (by omega)
    have HRR : Hid (∀ w', _) := Lib.hid fun w' => refright_any F I S w' (by omega) (by omega)
    rw [hrs] at hvv
    rw [ref_right, hrs] at HRR
    simp only [if_true] at hvv
    have hlf := val_leaf F I S
    have HLF := Lib.hid hlf
    have HALL := Lib.hid hall
    have hvr := val_mem_right hrs
    have HVR := Lib.hid hvr
    have HVN : Hid (sizeJ v ≤ 6500) := Lib.hid hs
    generalize valS F I S = W at *
    clear hlf hall hvr
    have hml7 : W.mem.length = n2 := by rw [← hml]; exact HN2.out
    rcases hff with rfl | rfl | rfl
    · unfold opaB at *
      go_wp2_with fail
      refine (hvv.out w7).mono ?_
      rintro e w8 ⟨hb8, cs8, rfl, hrep8⟩
      have HB8 := Lib.hid (HB7.out.trans (hb8.mono HB7.out.size))
      have HX8 := Lib.hid ((hb8.block _ (by omega)).trans HX7.out)
      have HY8 := Lib.hid ((hb8.block _ (by omega)).trans HY7.out)
      have HREP8 := Lib.hid (HREP7.out.under hb8)
      have hs8 : w6.heap.size < w8.heap.size := Nat.lt_of_lt_of_le hs7 hb8.size
      obtain ⟨wa, wc, wma, wmc, wcl, wcm, rfl, -, -, hwr, hwm, -, -⟩ := hrep8.parts
      unfold strV at *
      obtain ⟨wk, wy, wt, wl, wm, hk, hy, ht, hl1, hm1⟩ : ∃ k y t l1 m1, W.kind = k ∧ W.yes = y ∧ (⟨W.text.toArray⟩ : ByteArray) = t ∧ W.list.length = l1 ∧ W.mem.length = m1 := ⟨_, _, _, _, _, rfl, rfl, rfl, rfl, rfl⟩
      rw [hk, hy, ht, hl1, hm1]
      have HWR := Lib.hid hwr
      have HWM := Lib.hid hwm
      have HMM := Lib.hid hm1
      have hwn : wm = n2 := by rw [← hm1]; exact hml7
      subst hwn
      have hwl : wm ≤ 6500 := by have h1 := mem_size v; have h2 := HN2.out; have h3 := HVN.out; omega
      clear hk hy ht hl1 hm1 hrep8 hb8 z0 z1 z2 u0 u1 u2 HX7 HY7 HREP7 HB7 hvv hwr hwm
      go_upto_region 15 with (fail)
      generalize hw9 : w8.alloc _ = w9
      have hb9 : Below w8.heap.size w8 w9 := by rw [← hw9]; exact (Below.refl _ _).alloc (Nat.le_refl _) _
      have hg9 : w9.heap[w8.heap.size]? = some (.cells #[.int .i64 wk, .bool wy, .string wt, .slice wa wl wc, .slice wma wm wmc] 28 (0, 0)) := by rw [← hw9]; exact heap_alloc_new _ _
      have HB9 := Lib.hid (HB8.out.trans (hb9.mono HB8.out.size))
      have HX9 := Lib.hid ((hb9.block _ (by omega)).trans HX8.out)
      have HY9 := Lib.hid ((hb9.block _ (by omega)).trans HY8.out)
      have HG9 := Lib.hid hg9
      have HREP9 := Lib.hid (HREP8.out.under hb9)
      have HWR9 := Lib.hid (HWR.out.lt.keep fun b hb _ => hb9.block b hb.2)
      have HWM9 := Lib.hid (HWM.out.lt.keep fun b hb _ => hb9.block b hb.2)
      have hs9 : w8.heap.size < w9.heap.size := (Array.getElem?_eq_some_iff.1 hg9).1
      obtain ⟨-, -, -, -, g4⟩ := five_at hg9 (Below.refl w9.heap.size w9) hs9
      obtain ⟨-, -, -, -, x4⟩ := five_at HX9.out (Below.refl w9.heap.size w9) (by omega)
      obtain ⟨u0, u1, u2⟩ := three_at HY9.out (Below.refl w9.heap.size w9) (by omega)
      clear hw9 hb9 hg9 HX8 HY8 HREP8 HB8 HWR HWM
      have hneq : (((wm : Nat) : Int) != ((wm : Nat) : Int)) = false := by rw [bne_eq_false_iff_eq]
      go_wp2_with fail
      refine (HRR.out w9).mono ?_
      rintro e wA ⟨rfl, hbA⟩
      have HBA := Lib.hid (HB9.out.trans (hbA.mono HB9.out.size))
      have HXA := Lib.hid ((hbA.block _ (by omega)).trans HX9.out)
      have HGA := Lib.hid ((hbA.block _ hs9).trans HG9.out)
      have HREPA := Lib.hid (HREP9.out.under hbA)
      have HWRA := Lib.hid (HWR9.out.lt.keep fun b hb _ => hbA.block b hb.2)
      have HWMA := Lib.hid (HWM9.out.lt.keep fun b hb _ => hbA.block b hb.2)
      have hsA : w8.heap.size < wA.heap.size := Nat.lt_of_lt_of_le hs9 hbA.size
      obtain ⟨-, -, -, -, g4⟩ := five_at HGA.out (Below.refl wA.heap.size wA) hsA
      clear hbA u0 u1 u2 x4 HX9 HY9 HG9 HREP9 HB9 HWR9 HWM9 HRR hneq
      go_wp2_with fail
      go_loopg [115] wm (fun k iv wr => ∃ j : Nat, iv = .int .i64 (j : Int) ∧ j + k = wm ∧ Hid (Below wA.heap.size wA wr))
      case atStart => exact ⟨0, rfl, by omega, Lib.hid (Below.refl _ _)⟩
      case round =>
        obtain ⟨j, rfl, hj, HB⟩ := hrel
        by_cases hlt : j < wm
        · have hltI : (j : Int) < (wm : Int) := by omega
          have hjm : j < W.mem.length := by rw [HMM.out]; exact hlt
          obtain ⟨mb, moff, k2, y2, t2, a2, l2, c2, a3, l3, c3, ea, hrep, i0, i1, i2, i3, i4, i5⟩ := mem_cells' (HWRA.out.lt.keep fun b hb _ => HB.out.block b hb.2) (HWMA.out.lt.keep fun b hb _ => HB.out.block b hb.2) j hjm
          subst ea
          have hmem : W.mem[j] ∈ W.mem := List.getElem_mem _
          have hgv := HALL.out _ hmem
          have hrx := HVR.out _ hmem
          obtain ⟨tt, htt, hto⟩ := HLF.out _ hmem
          have hsx : sizeJ W.mem[j].2 ≤ 300 := by rw [htt, size_str]; rcases hto with rfl | rfl | rfl <;> omega
          generalize W.mem[j].2 = x at *
          generalize W.mem[j].1 = nm at *
          have HREPJ := Lib.hid hrep
          have HGV := Lib.hid hgv
          have HRX := Lib.hid hrx
          have HXr := Lib.hid ((HB.out.block _ (by omega)).trans HXA.out)
          have HREPr := Lib.hid (HREPA.out.under HB.out)
          have hszr : wA.heap.size ≤ wr.heap.size := HB.out.size
          clear hrep hgv hrx htt hto hmem hjm
          go_upto_region 20 with (fail)
          generalize hwB : wr.alloc _ = wB
          have hbB : Below wr.heap.size wr wB := by rw [← hwB]; exact (Below.refl _ _).alloc (Nat.le_refl _) _
          have hgB : wB.heap[wr.heap.size]? = some (.cells #[.string ⟨nm.toArray⟩, .int .i64 k2, .bool y2, .string ⟨t2⟩, .slice a2 l2 c2, .slice a3 l3 c3] 47 (0, 0)) := by rw [← hwB]; exact heap_alloc_new _ _
          have HBB := Lib.hid (HB.out.trans (hbB.mono hszr))
          have HXB := Lib.hid ((hbB.block _ (by omega)).trans HXr.out)
          have HGB := Lib.hid hgB
          have HREPB := Lib.hid (HREPr.out.under hbB)
          have HREPJB := Lib.hid (HREPJ.out.lt.keep fun b hb _ => hbB.block b hb.2)
          have hsB : wr.heap.size < wB.heap.size := (Array.getElem?_eq_some_iff.1 hgB).1
          obtain ⟨x0, x1, x2, x3, x4⟩ := five_at HXB.out (Below.refl wB.heap.size wB) (by omega)
          have m0 : wB.cell? ⟨wr.heap.size, 0, none⟩ = some (.string ⟨nm.toArray⟩) := by rw [Lib.cell_of_heap hgB]; rfl
          clear hwB hbB hgB i0 i1 i2 i3 i4 i5 HXr HREPr HREPJ
          go_wp2_with fail
          refine (get_any _ [.int .i64 k, .bool y, .string t, .slice xa n1 xc, .slice xa' wm xc'] v nm wB HREPB.out (by have := mem_size v; have := HVN.out; omega)).mono ?_
          rw [HGV.out]
          simp only [Option.isSome_some, Option.getD_some]
          rintro e wC ⟨hbC, csC, rfl, hrepC⟩
          have HBC := Lib.hid (HBB.out.trans (hbC.mono HBB.out.size))
          have HGC := Lib.hid ((hbC.block _ hsB).trans HGB.out)
          have HREPJC := Lib.hid (HREPJB.out.lt.keep fun b hb _ => hbC.block b hb.2)
          have hsC : wr.heap.size < wC.heap.size := Nat.lt_of_lt_of_le hsB hbC.size
          obtain ⟨pa, pc, pma, pmc, _, _, rfl, -⟩ := hrepC.parts
          unfold strV at *
          obtain ⟨pk, py, pt, pl, pm, hk, hy, ht, hl1, hm1⟩ : ∃ k y t l1 m1, x.kind = k ∧ x.yes = y ∧ (⟨x.text.toArray⟩ : ByteArray) = t ∧ x.list.length = l1 ∧ x.mem.length = m1 := ⟨_, _, _, _, _, rfl, rfl, rfl, rfl, rfl⟩
          rw [hk, hy, ht, hl1, hm1] at hrepC
          rw [hk, hy, ht, hl1, hm1]
          have HRC := Lib.hid hrepC
          clear hk hy ht hl1 hm1 hrepC hbC x0 x1 x2 x3 x4 m0 HXB HREPB HGB HREPJB HBB HGV
          go_upto_region 21 with (fail)
          generalize hwD : wC.alloc _ = wD
          have hbD : Below wC.heap.size wC wD := by rw [← hwD]; exact (Below.refl _ _).alloc (Nat.le_refl _) _
          have hgD : wD.heap[wC.heap.size]? = some (.cells #[.int .i64 pk, .bool py, .string pt, .slice pa pl pc, .slice pma pm pmc] 28 (0, 0)) := by rw [← hwD]; exact heap_alloc_new _ _
          have HBD := Lib.hid (HBC.out.trans (hbD.mono HBC.out.size))
          have hgcD := (hbD.block _ hsC).trans HGC.out
          have HREPJD := Lib.hid (HREPJC.out.lt.keep fun b hb _ => hbD.block b hb.2)
          have HRD := Lib.hid (HRC.out.lt.keep fun b hb _ => hbD.block b hb.2)
          obtain ⟨x0, x1, x2, x3, x4⟩ := five_at hgD (Below.refl wD.heap.size wD) (Array.getElem?_eq_some_iff.1 hgD).1
          have m1 : wD.cell? ⟨wr.heap.size, 1, none⟩ = some (.int .i64 k2) := by rw [Lib.cell_of_heap hgcD]; rfl
          have m2 : wD.cell? ⟨wr.heap.size, 2, none⟩ = some (.bool y2) := by rw [Lib.cell_of_heap hgcD]; rfl
          have m3 : wD.cell? ⟨wr.heap.size, 3, none⟩ = some (.string ⟨t2⟩) := by rw [Lib.cell_of_heap hgcD]; rfl
          have m4 : wD.cell? ⟨wr.heap.size, 4, none⟩ = some (.slice a2 l2 c2) := by rw [Lib.cell_of_heap hgcD]; rfl
          have m5 : wD.cell? ⟨wr.heap.size, 5, none⟩ = some (.slice a3 l3 c3) := by rw [Lib.cell_of_heap hgcD]; rfl
          clear hwD hbD hgD hgcD HGC HREPJC HRC HBC
          go_wp2_with fail
          refine (jsame_any x x _ _ [.int .i64 pk, .bool py, .string pt, .slice pa pl pc, .slice pma pm pmc] [.int .i64 k2, .bool y2, .string ⟨t2⟩, .slice a2 l2 c2, .slice a3 l3 c3] wD HRD.out HREPJD.out (by omega) (by omega)).mono ?_
          rw [same_self HRX.out]
          rintro e wE ⟨rfl, hbE⟩
          have HBE := Lib.hid (HBD.out.trans (hbE.mono HBD.out.size))
          clear hbE x0 x1 x2 x3 x4 m1 m2 m3 m4 m5
          go_wp2_with fail
          go_roundg (gk - 1)
          case measure => omega
          case rel => exact ⟨j + 1, by first | rfl | (congr 1), by omega, HBE⟩
        · have hge : ¬ (j : Int) < (wm : Int) := by omega
          have HBE := Lib.hid (HBA.out.trans (HB.out.mono HBA.out.size))
          go_wp2_with fail
          refine bodyPost_ret (results_tmp rfl _ _ _) rfl ?_
          exact ⟨rfl, HBE.out⟩
    · unfold emaB at *
      go_wp2_with fail
      refine (hvv.out w7).mono ?_
      rintro e w8 ⟨hb8, cs8, rfl, hrep8⟩
      have HB8 := Lib.hid (HB7.out.trans (hb8.mono HB7.out.size))
      have HX8 := Lib.hid ((hb8.block _ (by omega)).trans HX7.out)
      have HY8 := Lib.hid ((hb8.block _ (by omega)).trans HY7.out)
      have HREP8 := Lib.hid (HREP7.out.under hb8)
      have hs8 : w6.heap.size < w8.heap.size := Nat.lt_of_lt_of_le hs7 hb8.size
      obtain ⟨wa, wc, wma, wmc, wcl, wcm, rfl, -, -, hwr, hwm, -, -⟩ := hrep8.parts
      unfold strV at *
      obtain ⟨wk, wy, wt, wl, wm, hk, hy, ht, hl1, hm1⟩ : ∃ k y t l1 m1, W.kind = k ∧ W.yes = y ∧ (⟨W.text.toArray⟩ : ByteArray) = t ∧ W.list.length = l1 ∧ W.mem.length = m1 := ⟨_, _, _, _, _, rfl, rfl, rfl, rfl, rfl⟩
      rw [hk, hy, ht, hl1, hm1]
      have HWR := Lib.hid hwr
      have HWM := Lib.hid hwm
      have HMM := Lib.hid hm1
      have hwn : wm = n2 := by rw [← hm1]; exact hml7
      subst hwn
      have hwl : wm ≤ 6500 := by have h1 := mem_size v; have h2 := HN2.out; have h3 := HVN.out; omega
      clear hk hy ht hl1 hm1 hrep8 hb8 z0 z1 z2 u0 u1 u2 HX7 HY7 HREP7 HB7 hvv hwr hwm
      go_upto_region 15 with (fail)
      generalize hw9 : w8.alloc _ = w9
      have hb9 : Below w8.heap.size w8 w9 := by rw [← hw9]; exact (Below.refl _ _).alloc (Nat.le_refl _) _
      have hg9 : w9.heap[w8.heap.size]? = some (.cells #[.int .i64 wk, .bool wy, .string wt, .slice wa wl wc, .slice wma wm wmc] 28 (0, 0)) := by rw [← hw9]; exact heap_alloc_new _ _
      have HB9 := Lib.hid (HB8.out.trans (hb9.mono HB8.out.size))
      have HX9 := Lib.hid ((hb9.block _ (by omega)).trans HX8.out)
      have HY9 := Lib.hid ((hb9.block _ (by omega)).trans HY8.out)
      have HG9 := Lib.hid hg9
      have HREP9 := Lib.hid (HREP8.out.under hb9)
      have HWR9 := Lib.hid (HWR.out.lt.keep fun b hb _ => hb9.block b hb.2)
      have HWM9 := Lib.hid (HWM.out.lt.keep fun b hb _ => hb9.block b hb.2)
      have hs9 : w8.heap.size < w9.heap.size := (Array.getElem?_eq_some_iff.1 hg9).1
      obtain ⟨-, -, -, -, g4⟩ := five_at hg9 (Below.refl w9.heap.size w9) hs9
      obtain ⟨-, -, -, -, x4⟩ := five_at HX9.out (Below.refl w9.heap.size w9) (by omega)
      obtain ⟨u0, u1, u2⟩ := three_at HY9.out (Below.refl w9.heap.size w9) (by omega)
      clear hw9 hb9 hg9 HX8 HY8 HREP8 HB8 HWR HWM
      have hneq : (((wm : Nat) : Int) != ((wm : Nat) : Int)) = false := by rw [bne_eq_false_iff_eq]
      go_wp2_with fail
      refine (HRR.out w9).mono ?_
      rintro e wA ⟨rfl, hbA⟩
      have HBA := Lib.hid (HB9.out.trans (hbA.mono HB9.out.size))
      have HXA := Lib.hid ((hbA.block _ (by omega)).trans HX9.out)
      have HGA := Lib.hid ((hbA.block _ hs9).trans HG9.out)
      have HREPA := Lib.hid (HREP9.out.under hbA)
      have HWRA := Lib.hid (HWR9.out.lt.keep fun b hb _ => hbA.block b hb.2)
      have HWMA := Lib.hid (HWM9.out.lt.keep fun b hb _ => hbA.block b hb.2)
      have hsA : w8.heap.size < wA.heap.size := Nat.lt_of_lt_of_le hs9 hbA.size
      obtain ⟨-, -, -, -, g4⟩ := five_at HGA.out (Below.refl wA.heap.size wA) hsA
      clear hbA u0 u1 u2 x4 HX9 HY9 HG9 HREP9 HB9 HWR9 HWM9 HRR hneq
      go_wp2_with fail
      go_loopg [115] wm (fun k iv wr => ∃ j : Nat, iv = .int .i64 (j : Int) ∧ j + k = wm ∧ Hid (Below wA.heap.size wA wr))
      case atStart => exact ⟨0, rfl, by omega, Lib.hid (Below.refl _ _)⟩
      case round =>
        obtain ⟨j, rfl, hj, HB⟩ := hrel
        by_cases hlt : j < wm
        · have hltI : (j : Int) < (wm : Int) := by omega
          have hjm : j < W.mem.length := by rw [HMM.out]; exact hlt
          obtain ⟨mb, moff, k2, y2, t2, a2, l2, c2, a3, l3, c3, ea, hrep, i0, i1, i2, i3, i4, i5⟩ := mem_cells' (HWRA.out.lt.keep fun b hb _ => HB.out.block b hb.2) (HWMA.out.lt.keep fun b hb _ => HB.out.block b hb.2) j hjm
          subst ea
          have hmem : W.mem[j] ∈ W.mem := List.getElem_mem _
          have hgv := HALL.out _ hmem
          have hrx := HVR.out _ hmem
          obtain ⟨tt, htt, hto⟩ := HLF.out _ hmem
          have hsx : sizeJ W.mem[j].2 ≤ 300 := by rw [htt, size_str]; rcases hto with rfl | rfl | rfl <;> omega
          generalize W.mem[j].2 = x at *
          generalize W.mem[j].1 = nm at *
          have HREPJ := Lib.hid hrep
          have HGV := Lib.hid hgv
          have HRX := Lib.hid hrx
          have HXr := Lib.hid ((HB.out.block _ (by omega)).trans HXA.out)
          have HREPr := Lib.hid (HREPA.out.under HB.out)
          have hszr : wA.heap.size ≤ wr.heap.size := HB.out.size
          clear hrep hgv hrx htt hto hmem hjm
          go_upto_region 20 with (fail)
          generalize hwB : wr.alloc _ = wB
          have hbB : Below wr.heap.size wr wB := by rw [← hwB]; exact (Below.refl _ _).alloc (Nat.le_refl _) _
          have hgB : wB.heap[wr.heap.size]? = some (.cells #[.string ⟨nm.toArray⟩, .int .i64 k2, .bool y2, .string ⟨t2⟩, .slice a2 l2 c2, .slice a3 l3 c3] 47 (0, 0)) := by rw [← hwB]; exact heap_alloc_new _ _
          have HBB := Lib.hid (HB.out.trans (hbB.mono hszr))
          have HXB := Lib.hid ((hbB.block _ (by omega)).trans HXr.out)
          have HGB := Lib.hid hgB
          have HREPB := Lib.hid (HREPr.out.under hbB)
          have HREPJB := Lib.hid (HREPJ.out.lt.keep fun b hb _ => hbB.block b hb.2)
          have hsB : wr.heap.size < wB.heap.size := (Array.getElem?_eq_some_iff.1 hgB).1
          obtain ⟨x0, x1, x2, x3, x4⟩ := five_at HXB.out (Below.refl wB.heap.size wB) (by omega)
          have m0 : wB.cell? ⟨wr.heap.size, 0, none⟩ = some (.string ⟨nm.toArray⟩) := by rw [Lib.cell_of_heap hgB]; rfl
          clear hwB hbB hgB i0 i1 i2 i3 i4 i5 HXr HREPr HREPJ
          go_wp2_with fail
          refine (get_any _ [.int .i64 k, .bool y, .string t, .slice xa n1 xc, .slice xa' wm xc'] v nm wB HREPB.out (by have := mem_size v; have := HVN.out; omega)).mono ?_
          rw [HGV.out]
          simp only [Option.isSome_some, Option.getD_some]
          rintro e wC ⟨hbC, csC, rfl, hrepC⟩
          have HBC := Lib.hid (HBB.out.trans (hbC.mono HBB.out.size))
          have HGC := Lib.hid ((hbC.block _ hsB).trans HGB.out)
          have HREPJC := Lib.hid (HREPJB.out.lt.keep fun b hb _ => hbC.block b hb.2)
          have hsC : wr.heap.size < wC.heap.size := Nat.lt_of_lt_of_le hsB hbC.size
          obtain ⟨pa, pc, pma, pmc, _, _, rfl, -⟩ := hrepC.parts
          unfold strV at *
          obtain ⟨pk, py, pt, pl, pm, hk, hy, ht, hl1, hm1⟩ : ∃ k y t l1 m1, x.kind = k ∧ x.yes = y ∧ (⟨x.text.toArray⟩ : ByteArray) = t ∧ x.list.length = l1 ∧ x.mem.length = m1 := ⟨_, _, _, _, _, rfl, rfl, rfl, rfl, rfl⟩
          rw [hk, hy, ht, hl1, hm1] at hrepC
          rw [hk, hy, ht, hl1, hm1]
          have HRC := Lib.hid hrepC
          clear hk hy ht hl1 hm1 hrepC hbC x0 x1 x2 x3 x4 m0 HXB HREPB HGB HREPJB HBB HGV
          go_upto_region 21 with (fail)
          generalize hwD : wC.alloc _ = wD
          have hbD : Below wC.heap.size wC wD := by rw [← hwD]; exact (Below.refl _ _).alloc (Nat.le_refl _) _
          have hgD : wD.heap[wC.heap.size]? = some (.cells #[.int .i64 pk, .bool py, .string pt, .slice pa pl pc, .slice pma pm pmc] 28 (0, 0)) := by rw [← hwD]; exact heap_alloc_new _ _
          have HBD := Lib.hid (HBC.out.trans (hbD.mono HBC.out.size))
          have hgcD := (hbD.block _ hsC).trans HGC.out
          have HREPJD := Lib.hid (HREPJC.out.lt.keep fun b hb _ => hbD.block b hb.2)
          have HRD := Lib.hid (HRC.out.lt.keep fun b hb _ => hbD.block b hb.2)
          obtain ⟨x0, x1, x2, x3, x4⟩ := five_at hgD (Below.refl wD.heap.size wD) (Array.getElem?_eq_some_iff.1 hgD).1
          have m1 : wD.cell? ⟨wr.heap.size, 1, none⟩ = some (.int .i64 k2) := by rw [Lib.cell_of_heap hgcD]; rfl
          have m2 : wD.cell? ⟨wr.heap.size, 2, none⟩ = some (.bool y2) := by rw [Lib.cell_of_heap hgcD]; rfl
          have m3 : wD.cell? ⟨wr.heap.size, 3, none⟩ = some (.string ⟨t2⟩) := by rw [Lib.cell_of_heap hgcD]; rfl
          have m4 : wD.cell? ⟨wr.heap.size, 4, none⟩ = some (.slice a2 l2 c2) := by rw [Lib.cell_of_heap hgcD]; rfl
          have m5 : wD.cell? ⟨wr.heap.size, 5, none⟩ = some (.slice a3 l3 c3) := by rw [Lib.cell_of_heap hgcD]; rfl
          clear hwD hbD hgD hgcD HGC HREPJC HRC HBC
          go_wp2_with fail
          refine (jsame_any x x _ _ [.int .i64 pk, .bool py, .string pt, .slice pa pl pc, .slice pma pm pmc] [.int .i64 k2, .bool y2, .string ⟨t2⟩, .slice a2 l2 c2, .slice a3 l3 c3] wD HRD.out HREPJD.out (by omega) (by omega)).mono ?_
          rw [same_self HRX.out]
          rintro e wE ⟨rfl, hbE⟩
          have HBE := Lib.hid (HBD.out.trans (hbE.mono HBD.out.size))
          clear hbE x0 x1 x2 x3 x4 m1 m2 m3 m4 m5
          go_wp2_with fail
          go_roundg (gk - 1)
          case measure => omega
          case rel => exact ⟨j + 1, by first | rfl | (congr 1), by omega, HBE⟩
        · have hge : ¬ (j : Int) < (wm : Int) := by omega
          have HBE := Lib.hid (HBA.out.trans (HB.out.mono HBA.out.size))
          go_wp2_with fail
          refine bodyPost_ret (results_tmp rfl _ _ _) rfl ?_
          exact ⟨rfl, HBE.out⟩
    · unfold issB at *
      go_wp2_with fail
      refine (hvv.out w7).mono ?_
      rintro e w8 ⟨hb8, cs8, rfl, hrep8⟩
      have HB8 := Lib.hid (HB7.out.trans (hb8.mono HB7.out.size))
      have HX8 := Lib.hid ((hb8.block _ (by omega)).trans HX7.out)
      have HY8 := Lib.hid ((hb8.block _ (by omega)).trans HY7.out)
      have HREP8 := Lib.hid (HREP7.out.under hb8)
      have hs8 : w6.heap.size < w8.heap.size := Nat.lt_of_lt_of_le hs7 hb8.size
      obtain ⟨wa, wc, wma, wmc, wcl, wcm, rfl, -, -, hwr, hwm, -, -⟩ := hrep8.parts
      unfold strV at *
      obtain ⟨wk, wy, wt, wl, wm, hk, hy, ht, hl1, hm1⟩ : ∃ k y t l1 m1, W.kind = k ∧ W.yes = y ∧ (⟨W.text.toArray⟩ : ByteArray) = t ∧ W.list.length = l1 ∧ W.mem.length = m1 := ⟨_, _, _, _, _, rfl, rfl, rfl, rfl, rfl⟩
      rw [hk, hy, ht, hl1, hm1]
      have HWR := Lib.hid hwr
      have HWM := Lib.hid hwm
      have HMM := Lib.hid hm1
      have hwn : wm = n2 := by rw [← hm1]; exact hml7
      subst hwn
      have hwl : wm ≤ 6500 := by have h1 := mem_size v; have h2 := HN2.out; have h3 := HVN.out; omega
      clear hk hy ht hl1 hm1 hrep8 hb8 z0 z1 z2 u0 u1 u2 HX7 HY7 HREP7 HB7 hvv hwr hwm
      go_upto_region 15 with (fail)
      generalize hw9 : w8.alloc _ = w9
      have hb9 : Below w8.heap.size w8 w9 := by rw [← hw9]; exact (Below.refl _ _).alloc (Nat.le_refl _) _
      have hg9 : w9.heap[w8.heap.size]? = some (.cells #[.int .i64 wk, .bool wy, .string wt, .slice wa wl wc, .slice wma wm wmc] 28 (0, 0)) := by rw [← hw9]; exact heap_alloc_new _ _
      have HB9 := Lib.hid (HB8.out.trans (hb9.mono HB8.out.size))
      have HX9 := Lib.hid ((hb9.block _ (by omega)).trans HX8.out)
      have HY9 := Lib.hid ((hb9.block _ (by omega)).trans HY8.out)
      have HG9 := Lib.hid hg9
      have HREP9 := Lib.hid (HREP8.out.under hb9)
      have HWR9 := Lib.hid (HWR.out.lt.keep fun b hb _ => hb9.block b hb.2)
      have HWM9 := Lib.hid (HWM.out.lt.keep fun b hb _ => hb9.block b hb.2)
      have hs9 : w8.heap.size < w9.heap.size := (Array.getElem?_eq_some_iff.1 hg9).1
      obtain ⟨-, -, -, -, g4⟩ := five_at hg9 (Below.refl w9.heap.size w9) hs9
      obtain ⟨-, -, -, -, x4⟩ := five_at HX9.out (Below.refl w9.heap.size w9) (by omega)
      obtain ⟨u0, u1, u2⟩ := three_at HY9.out (Below.refl w9.heap.size w9) (by omega)
      clear hw9 hb9 hg9 HX8 HY8 HREP8 HB8 HWR HWM
      have hneq : (((wm : Nat) : Int) != ((wm : Nat) : Int)) = false := by rw [bne_eq_false_iff_eq]
      go_wp2_with fail
      refine (HRR.out w9).mono ?_
      rintro e wA ⟨rfl, hbA⟩
      have HBA := Lib.hid (HB9.out.trans (hbA.mono HB9.out.size))
      have HXA := Lib.hid ((hbA.block _ (by omega)).trans HX9.out)
      have HGA := Lib.hid ((hbA.block _ hs9).trans HG9.out)
      have HREPA := Lib.hid (HREP9.out.under hbA)
      have HWRA := Lib.hid (HWR9.out.lt.keep fun b hb _ => hbA.block b hb.2)
      have HWMA := Lib.hid (HWM9.out.lt.keep fun b hb _ => hbA.block b hb.2)
      have hsA : w8.heap.size < wA.heap.size := Nat.lt_of_lt_of_le hs9 hbA.size
      obtain ⟨-, -, -, -, g4⟩ := five_at HGA.out (Below.refl wA.heap.size wA) hsA
      clear hbA u0 u1 u2 x4 HX9 HY9 HG9 HREP9 HB9 HWR9 HWM9 HRR hneq
      go_wp2_with fail
      go_loopg [115] wm (fun k iv wr => ∃ j : Nat, iv = .int .i64 (j : Int) ∧ j + k = wm ∧ Hid (Below wA.heap.size wA wr))
      case atStart => exact ⟨0, rfl, by omega, Lib.hid (Below.refl _ _)⟩
      case round =>
        obtain ⟨j, rfl, hj, HB⟩ := hrel
        by_cases hlt : j < wm
        · have hltI : (j : Int) < (wm : Int) := by omega
          have hjm : j < W.mem.length := by rw [HMM.out]; exact hlt
          obtain ⟨mb, moff, k2, y2, t2, a2, l2, c2, a3, l3, c3, ea, hrep, i0, i1, i2, i3, i4, i5⟩ := mem_cells' (HWRA.out.lt.keep fun b hb _ => HB.out.block b hb.2) (HWMA.out.lt.keep fun b hb _ => HB.out.block b hb.2) j hjm
          subst ea
          have hmem : W.mem[j] ∈ W.mem := List.getElem_mem _
          have hgv := HALL.out _ hmem
          have hrx := HVR.out _ hmem
          obtain ⟨tt, htt, hto⟩ := HLF.out _ hmem
          have hsx : sizeJ W.mem[j].2 ≤ 300 := by rw [htt, size_str]; rcases hto with rfl | rfl | rfl <;> omega
          generalize W.mem[j].2 = x at *
          generalize W.mem[j].1 = nm at *
          have HREPJ := Lib.hid hrep
          have HGV := Lib.hid hgv
          have HRX := Lib.hid hrx
          have HXr := Lib.hid ((HB.out.block _ (by omega)).trans HXA.out)
          have HREPr := Lib.hid (HREPA.out.under HB.out)
          have hszr : wA.heap.size ≤ wr.heap.size := HB.out.size
          clear hrep hgv hrx htt hto hmem hjm
          go_upto_region 20 with (fail)
          generalize hwB : wr.alloc _ = wB
          have hbB : Below wr.heap.size wr wB := by rw [← hwB]; exact (Below.refl _ _).alloc (Nat.le_refl _) _
          have hgB : wB.heap[wr.heap.size]? = some (.cells #[.string ⟨nm.toArray⟩, .int .i64 k2, .bool y2, .string ⟨t2⟩, .slice a2 l2 c2, .slice a3 l3 c3] 47 (0, 0)) := by rw [← hwB]; exact heap_alloc_new _ _
          have HBB := Lib.hid (HB.out.trans (hbB.mono hszr))
          have HXB := Lib.hid ((hbB.block _ (by omega)).trans HXr.out)
          have HGB := Lib.hid hgB
          have HREPB := Lib.hid (HREPr.out.under hbB)
          have HREPJB := Lib.hid (HREPJ.out.lt.keep fun b hb _ => hbB.block b hb.2)
          have hsB : wr.heap.size < wB.heap.size := (Array.getElem?_eq_some_iff.1 hgB).1
          obtain ⟨x0, x1, x2, x3, x4⟩ := five_at HXB.out (Below.refl wB.heap.size wB) (by omega)
          have m0 : wB.cell? ⟨wr.heap.size, 0, none⟩ = some (.string ⟨nm.toArray⟩) := by rw [Lib.cell_of_heap hgB]; rfl
          clear hwB hbB hgB i0 i1 i2 i3 i4 i5 HXr HREPr HREPJ
          go_wp2_with fail
          refine (get_any _ [.int .i64 k, .bool y, .string t, .slice xa n1 xc, .slice xa' wm xc'] v nm wB HREPB.out (by have := mem_size v; have := HVN.out; omega)).mono ?_
          rw [HGV.out]
          simp only [Option.isSome_some, Option.getD_some]
          rintro e wC ⟨hbC, csC, rfl, hrepC⟩
          have HBC := Lib.hid (HBB.out.trans (hbC.mono HBB.out.size))
          have HGC := Lib.hid ((hbC.block _ hsB).trans HGB.out)
          have HREPJC := Lib.hid (HREPJB.out.lt.keep fun b hb _ => hbC.block b hb.2)
          have hsC : wr.heap.size < wC.heap.size := Nat.lt_of_lt_of_le hsB hbC.size
          obtain ⟨pa, pc, pma, pmc, _, _, rfl, -⟩ := hrepC.parts
          unfold strV at *
          obtain ⟨pk, py, pt, pl, pm, hk, hy, ht, hl1, hm1⟩ : ∃ k y t l1 m1, x.kind = k ∧ x.yes = y ∧ (⟨x.text.toArray⟩ : ByteArray) = t ∧ x.list.length = l1 ∧ x.mem.length = m1 := ⟨_, _, _, _, _, rfl, rfl, rfl, rfl, rfl⟩
          rw [hk, hy, ht, hl1, hm1] at hrepC
          rw [hk, hy, ht, hl1, hm1]
          have HRC := Lib.hid hrepC
          clear hk hy ht hl1 hm1 hrepC hbC x0 x1 x2 x3 x4 m0 HXB HREPB HGB HREPJB HBB HGV
          go_upto_region 21 with (fail)
          generalize hwD : wC.alloc _ = wD
          have hbD : Below wC.heap.size wC wD := by rw [← hwD]; exact (Below.refl _ _).alloc (Nat.le_refl _) _
          have hgD : wD.heap[wC.heap.size]? = some (.cells #[.int .i64 pk, .bool py, .string pt, .slice pa pl pc, .slice pma pm pmc] 28 (0, 0)) := by rw [← hwD]; exact heap_alloc_new _ _
          have HBD := Lib.hid (HBC.out.trans (hbD.mono HBC.out.size))
          have hgcD := (hbD.block _ hsC).trans HGC.out
          have HREPJD := Lib.hid (HREPJC.out.lt.keep fun b hb _ => hbD.block b hb.2)
          have HRD := Lib.hid (HRC.out.lt.keep fun b hb _ => hbD.block b hb.2)
          obtain ⟨x0, x1, x2, x3, x4⟩ := five_at hgD (Below.refl wD.heap.size wD) (Array.getElem?_eq_some_iff.1 hgD).1
          have m1 : wD.cell? ⟨wr.heap.size, 1, none⟩ = some (.int .i64 k2) := by rw [Lib.cell_of_heap hgcD]; rfl
          have m2 : wD.cell? ⟨wr.heap.size, 2, none⟩ = some (.bool y2) := by rw [Lib.cell_of_heap hgcD]; rfl
          have m3 : wD.cell? ⟨wr.heap.size, 3, none⟩ = some (.string ⟨t2⟩) := by rw [Lib.cell_of_heap hgcD]; rfl
          have m4 : wD.cell? ⟨wr.heap.size, 4, none⟩ = some (.slice a2 l2 c2) := by rw [Lib.cell_of_heap hgcD]; rfl
          have m5 : wD.cell? ⟨wr.heap.size, 5, none⟩ = some (.slice a3 l3 c3) := by rw [Lib.cell_of_heap hgcD]; rfl
          clear hwD hbD hgD hgcD HGC HREPJC HRC HBC
          go_wp2_with fail
          refine (jsame_any x x _ _ [.int .i64 pk, .bool py, .string pt, .slice pa pl pc, .slice pma pm pmc] [.int .i64 k2, .bool y2, .string ⟨t2⟩, .slice a2 l2 c2, .slice a3 l3 c3] wD HRD.out HREPJD.out (by omega) (by omega)).mono ?_
          rw [same_self HRX.out]
          rintro e wE ⟨rfl, hbE⟩
          have HBE := Lib.hid (HBD.out.trans (hbE.mono HBD.out.size))
          clear hbE x0 x1 x2 x3 x4 m1 m2 m3 m4 m5
          go_wp2_with fail
          go_roundg (gk - 1)
          case measure => omega
          case rel => exact ⟨j + 1, by first | rfl | (congr 1), by omega, HBE⟩
        · have hge : ¬ (j : Int) < (wm : Int) := by omega
          have HBE := Lib.hid (HBA.out.trans (HB.out.mono HBA.out.size))
          go_wp2_with fail
          refine bodyPost_ret (results_tmp rfl _ _ _) rfl ?_
          exact ⟨rfl, HBE.out⟩
end Go.Proofs.YtfdijcdpmgkdkaaGreat
/- A parameter that is a row of nodes, opened. -/
set_option linter.unusedVariables false
namespace Go.Proofs.YtfdijcdpmgkdkaaGreat
open Go.RowKit

section
variable {H : Type} {enc : TypeId × Value → H} {w : World} {base : Nat} {spare : Nat → Bool} {held : Bool}
theorem cellsNode : Tryz.prog.cellsOf 54 = 5 := by kernel_rfl
theorem cellsStrN : Tryz.prog.cellsOf 9 = 1 := by kernel_rfl
theorem cellsIntN : Tryz.prog.cellsOf 3 = 1 := by kernel_rfl
theorem cellsBoolN : Tryz.prog.cellsOf 4 = 1 := by kernel_rfl
theorem ndCell_len (x : ND) : (ndCell x).length = 5 := rfl
set_option maxRecDepth 100000 in
/-- One node. -/
theorem open_node {fuel : Nat} {cs : List Value} {x : DataW H × List MemPlace} (h : DataW.trod enc Tryz.prog w base spare held fuel 54 cs = some x) :
    ∃ p : ND, cs = ndCell p := by
  obtain ⟨ys, n, _, _, hlen, _, hf⟩ := DataW.trod_struct Tryz.underlying54 h
  rw [cellsNode] at hlen
  match cs, hlen with
  | [c0, c1, c2, c3, c4], _ =>
    have f0 : DataW.trod enc Tryz.prog w base spare held n 3 (([c0, c1, c2, c3, c4].drop 0).take (Tryz.prog.cellsOf 3)) = ys[0]? := hf 0 _ rfl
    have f1 : DataW.trod enc Tryz.prog w base spare held n 3 (([c0, c1, c2, c3, c4].drop 1).take (Tryz.prog.cellsOf 3)) = ys[1]? := hf 1 _ rfl
    have f2 : DataW.trod enc Tryz.prog w base spare held n 4 (([c0, c1, c2, c3, c4].drop 2).take (Tryz.prog.cellsOf 4)) = ys[2]? := hf 2 _ rfl
    have f3 : DataW.trod enc Tryz.prog w base spare held n 9 (([c0, c1, c2, c3, c4].drop 3).take (Tryz.prog.cellsOf 9)) = ys[3]? := hf 3 _ rfl
    have f4 : DataW.trod enc Tryz.prog w base spare held n 9 (([c0, c1, c2, c3, c4].drop 4).take (Tryz.prog.cellsOf 9)) = ys[4]? := hf 4 _ rfl
    rw [cellsIntN] at f0 f1
    rw [cellsBoolN] at f2
    rw [cellsStrN] at f3 f4
    have g : ∀ i, i < 5 → ∃ y, ys[i]? = some y := by
      intro i hi
      cases e : ys[i]? with
      | some y => exact ⟨y, rfl⟩
      | none => exfalso; simp at e; simp_all; omega
    obtain ⟨y0, e0⟩ := g 0 (by omega)
    obtain ⟨y1, e1⟩ := g 1 (by omega)
    obtain ⟨y2, e2⟩ := g 2 (by omega)
    obtain ⟨y3, e3⟩ := g 3 (by omega)
    obtain ⟨y4, e4⟩ := g 4 (by omega)
    rw [e0] at f0
    rw [e1] at f1
    rw [e2] at f2
    rw [e3] at f3
    rw [e4] at f4
    obtain ⟨x0, h0, _, _⟩ := DataW.trod_int Tryz.underlying3 f0
    obtain ⟨x1, h1, _, _⟩ := DataW.trod_int Tryz.underlying3 f1
    obtain ⟨x2, h2, _⟩ := DataW.trod_bool Tryz.underlying4 f2
    obtain ⟨s3, h3, _, _⟩ := DataW.trod_string Tryz.underlying9 f3
    obtain ⟨s4, h4, _, _⟩ := DataW.trod_string Tryz.underlying9 f4
    simp at h0 h1 h2 h3 h4
    subst h0 h1 h2 h3 h4
    exact ⟨⟨x0, x1, x2, s3.data.toList, s4.data.toList⟩, rfl⟩
set_option maxRecDepth 100000 in
/-- A row of nodes. -/
theorem open_nodes {fuel : Nat} {a : Option Addr} {len cap : Nat} {x : DataW H × List MemPlace} (h : DataW.trod enc Tryz.prog w base spare held fuel 23 [.slice a len cap] = some x) :
    ∃ l : List ND, len = l.length ∧ RdC w a (l.flatMap ndCell) ∧ l.length ≤ maxLen := by
  rcases Go.Deep.open_slice Tryz.underlying23 h with ⟨h0, _⟩ | ⟨ad, len', cap', m, n, D, Pl, h0, hb, hl, hm, hmm, hx, hi⟩
  · simp at h0
    obtain ⟨rfl, rfl, rfl⟩ := h0
    exact ⟨[], rfl, .inl rfl, Nat.zero_le _⟩
  · simp at h0
    obtain ⟨rfl, rfl, rfl⟩ := h0
    have hml : len ≤ m := by rw [hmm]; split <;> omega
    rw [cellsNode] at hi
    have key : ∀ i, i < len → ∃ p : ND, ∀ j, j < 5 → w.cell? ((ad.add (i * 5)).add j) = some ((ndCell p).getD j undef) := by
      intro i hil
      obtain ⟨cs', hc, ht⟩ := hi i (by omega)
      obtain ⟨p, rfl⟩ := open_node ht
      obtain ⟨_, _, hat⟩ := World.cells?_some hc
      refine ⟨p, fun j hj => ?_⟩
      rw [hat j (by omega)]
      rw [List.getD_eq_getElem?_getD, List.getElem?_eq_getElem (by rw [ndCell_len]; exact hj)]
      rfl
    by_cases h0 : len = 0
    · subst h0
      exact ⟨[], rfl, .inl rfl, Nat.zero_le _⟩
    · have hsp : ad.spot = none := by
        obtain ⟨p, h1⟩ := key 0 (by omega)
        have h1 := h1 0 (by omega)
        obtain ⟨b, off, spot⟩ := ad
        cases spot with
        | none => rfl
        | some k =>
          have e0 : ((⟨b, off, some k⟩ : Addr).add (0 * 5)).add 0 = ⟨b, off, some k⟩ := by simp [Addr.add]
          rw [e0] at h1
          unfold World.cell? at h1
          split at h1 <;> simp at h1
      obtain ⟨b, off, spot⟩ := ad
      simp only at hsp
      subst hsp
      have key2 : ∀ i, ∃ p : ND, i < len → ∀ j, j < 5 → w.cell? ⟨b, off + i * 5 + j, none⟩ = some ((ndCell p).getD j undef) := by
        intro i
        by_cases h : i < len
        · obtain ⟨p, h2⟩ := key i h
          simp only [Addr.add_lit] at h2
          exact ⟨p, fun _ => h2⟩
        · exact ⟨⟨0, 0, false, [], []⟩, fun h' => absurd h' h⟩
      obtain ⟨f, hf⟩ : ∃ f : Nat → ND, ∀ i, i < len → ∀ j, j < 5 → w.cell? ⟨b, off + i * 5 + j, none⟩ = some ((ndCell (f i)).getD j undef) :=
        ⟨fun i => Classical.choose (key2 i), fun i => Classical.choose_spec (key2 i)⟩
      refine ⟨(List.range len).map f, by simp, .inr ⟨b, off, rfl, fun i u hu => ?_⟩, by simp; omega⟩
      have hlen := flat_len ndCell 5 ndCell_len ((List.range len).map f)
      simp only [List.length_map, List.length_range] at hlen
      have hi2 := (List.getElem?_eq_some_iff.1 hu).1
      rw [hlen] at hi2
      have hj : i / 5 < len := by omega
      have hg := flat_get ndCell 5 ndCell_len ((List.range len).map f) (i / 5) (i % 5) (by simpa using hj) (by omega)
      rw [show i / 5 * 5 + i % 5 = i by omega, hu] at hg
      simp only [List.getElem_map, List.getElem_range] at hg
      have k1 := hf (i / 5) hj (i % 5) (by omega)
      rw [List.getD_eq_getElem?_getD, ← hg] at k1
      rw [show off + i = off + i / 5 * 5 + i % 5 by omega, k1]
      rfl
end
end Go.Proofs.YtfdijcdpmgkdkaaGreat
