/- Merged: JsSm, JsPl, TrP, TrM, TrV, OpnN, JsLv, PrA, PrB, PrC. -/
import Derived.Deep.Slices
import Derived.ChangeSame
import Derived.Test.YtgcfikiajingcaaMg1
import Derived.Test.YtgcfikiajingcaaMg2
import Derived.Test.YtgcfikiajingcaaMg3
import Derived.Test.YtgcfikiajingcaaMg4
import Derived.Test.YtgcfikiajingcaaMg5
import Derived.Test.YtgcfikiajingcaaMg6
/- json: Same. -/
set_option linter.unusedVariables false
namespace Go.Proofs.Ytgcfikiajingcaa
open Go.RowKit

def sameJ (v u : JV) : Bool := rightJ v && (rightJ u && (plainJ v == plainJ u))
theorem same_self {v : JV} (h : rightJ v = true) : sameJ v v = true := by simp [sameJ, h]
set_option maxRecDepth 100000 in
set_option maxHeartbeats 16000000 in
theorem jsame_any (v u : JV) (ok ok' : Nat → Prop) (cs cs' : List Value) (w : World) (h : Rep ok w cs v) (h' : Rep ok' w cs' u) (hv : sizeJ v ≤ 12000) (hu : sizeJ u ≤ 12000) :
    Calls Try.prog 17 #[.agg cs.toArray, .agg cs'.toArray] w fun e w' => e = .returned (.bool (sameJ v u)) ∧ Below w.heap.size w w' := by
  have hpv := plain_size v
  have hpu := plain_size u
  have HR := Lib.hid h.lt
  have HR' := Lib.hid h'.lt
  obtain ⟨a, c, a', c', cl, cm, rfl, -⟩ := h.parts
  obtain ⟨xa, xc, xa', xc', xcl, xcm, rfl, -⟩ := h'.parts
  unfold strV at *
  have HP : Hid (∀ w1, Rep (fun b => ok b ∧ b < w.heap.size) w1 [.int .i64 v.kind, .bool v.yes, .string ⟨v.text.toArray⟩, .slice a v.list.length c, .slice a' v.mem.length c'] v → _) := Lib.hid fun w1 h1 => jprint_any v (jright v (by omega)) _ _ w1 h1 (by omega)
  have HP' : Hid (∀ w1, Rep (fun b => ok' b ∧ b < w.heap.size) w1 [.int .i64 u.kind, .bool u.yes, .string ⟨u.text.toArray⟩, .slice xa u.list.length xc, .slice xa' u.mem.length xc'] u → _) := Lib.hid fun w1 h1 => jprint_any u (jright u (by omega)) _ _ w1 h1 (by omega)
  have HSM : Hid (sameJ v u = (rightJ v && (rightJ u && ((if rightJ v then plainJ v else []) == (if rightJ u then plainJ u else []))))) := Lib.hid (by
    unfold sameJ
    cases rightJ v <;> cases rightJ u <;> rfl)
  clear h h' hpv hpu
  generalize sameJ v u = SM at *
  generalize v.kind = k1 at *
  generalize v.yes = y1 at *
  generalize v.text = t1 at *
  generalize v.list.length = l1 at *
  generalize v.mem.length = m1 at *
  generalize u.kind = k2 at *
  generalize u.yes = y2 at *
  generalize u.text = t2 at *
  generalize u.list.length = l2 at *
  generalize u.mem.length = m2 at *
  generalize hPV : (if rightJ v then plainJ v else []) = PV at *
  generalize hPU : (if rightJ u then plainJ u else []) = PU at *
  go_enter Try.func17, Try.ntmps17
  go_upto_region 1 with (fail)
  generalize hw1 : (w.alloc _).alloc _ = w1
  have hb1 : Below w.heap.size w w1 := by rw [← hw1]; exact ((Below.refl _ _).alloc (Nat.le_refl _) _).alloc (by simp) _
  have hx1 : w1.heap[w.heap.size]? = some (.cells #[.int .i64 k1, .bool y1, .string ⟨t1.toArray⟩, .slice a l1 c, .slice a' m1 c'] 31 (0, 0)) := by rw [← hw1]; exact block_alloc (heap_alloc_new w _) _
  have hx2 : w1.heap[w.heap.size + 1]? = some (.cells #[.int .i64 k2, .bool y2, .string ⟨t2.toArray⟩, .slice xa l2 xc, .slice xa' m2 xc'] 31 (0, 0)) := by
    rw [← hw1]
    have e : w.heap.size + 1 = (w.alloc (.cells #[.int .i64 k1, .bool y1, .string ⟨t1.toArray⟩, .slice a l1 c, .slice a' m1 c'] 31)).heap.size := by simp
    rw [e]
    exact heap_alloc_new _ _
  have HB1 := Lib.hid hb1
  have HX1 := Lib.hid hx1
  have HX2 := Lib.hid hx2
  have hs1 : w.heap.size + 1 < w1.heap.size := (Array.getElem?_eq_some_iff.1 hx2).1
  have v0 : w1.cell? ⟨w.heap.size, 0, none⟩ = some (.int .i64 k1) := by rw [Lib.cell_of_heap hx1]; rfl
  have v1 : w1.cell? ⟨w.heap.size, 1, none⟩ = some (.bool y1) := by rw [Lib.cell_of_heap hx1]; rfl
  have v2 : w1.cell? ⟨w.heap.size, 2, none⟩ = some (.string ⟨t1.toArray⟩) := by rw [Lib.cell_of_heap hx1]; rfl
  have v3 : w1.cell? ⟨w.heap.size, 3, none⟩ = some (.slice a l1 c) := by rw [Lib.cell_of_heap hx1]; rfl
  have v4 : w1.cell? ⟨w.heap.size, 4, none⟩ = some (.slice a' m1 c') := by rw [Lib.cell_of_heap hx1]; rfl
  clear hw1 hb1 hx1 hx2
  go_wp2_with fail
  refine (HP.out w1 (HR.out.keep fun b hb _ => HB1.out.block b hb.2)).mono ?_
  rintro e w2 ⟨rfl, hb2⟩
  have HB2 := Lib.hid (HB1.out.trans (hb2.mono HB1.out.size))
  have hx2 := (hb2.block _ hs1).trans HX2.out
  have u0 : w2.cell? ⟨w.heap.size + 1, 0, none⟩ = some (.int .i64 k2) := by rw [Lib.cell_of_heap hx2]; rfl
  have u1 : w2.cell? ⟨w.heap.size + 1, 1, none⟩ = some (.bool y2) := by rw [Lib.cell_of_heap hx2]; rfl
  have u2 : w2.cell? ⟨w.heap.size + 1, 2, none⟩ = some (.string ⟨t2.toArray⟩) := by rw [Lib.cell_of_heap hx2]; rfl
  have u3 : w2.cell? ⟨w.heap.size + 1, 3, none⟩ = some (.slice xa l2 xc) := by rw [Lib.cell_of_heap hx2]; rfl
  have u4 : w2.cell? ⟨w.heap.size + 1, 4, none⟩ = some (.slice xa' m2 xc') := by rw [Lib.cell_of_heap hx2]; rfl
  clear hb2 hx2 v0 v1 v2 v3 v4
  generalize rightJ v = r1 at *
  cases r1 <;>
  · go_wp2_with fail
    refine (HP'.out w2 (HR'.out.keep fun b hb _ => HB2.out.block b hb.2)).mono ?_
    rintro e w3 ⟨rfl, hb3⟩
    have HB3 := Lib.hid (HB2.out.trans (hb3.mono HB2.out.size))
    clear hb3 u0 u1 u2 u3 u4
    generalize rightJ u = r2 at *
    cases r2 <;>
    · go_wp2_with fail
      refine bodyPost_ret (results_tmp rfl _ _ _) rfl ?_
      exact ⟨by rw [HSM.out]; simp, HB3.out⟩
end Go.Proofs.Ytgcfikiajingcaa
/- json: a right value's text is parsed as it. Plain. -/
set_option linter.unusedVariables false
namespace Go.Proofs.Ytgcfikiajingcaa

mutual
theorem plain_sty : ∀ (v : JV) (n : Nat), styJ plainS n v = plainJ v
  | .mk k y t l m, n => by
    have h1 := plainL_sty l n
    have h2 := plainM_sty m n
    rw [styJ, plainJ]
    have e1 : plainS.opn n = [] := rfl
    have e2 : plainS.cls n = [] := rfl
    rw [e1, e2, h1.1, h2.1]
theorem plainL_sty : ∀ (l : List JV) (n : Nat), styL plainS n [] [] l = plainL true l ∧ styL plainS n [44] [] l = plainL false l
  | [], n => ⟨rfl, rfl⟩
  | v :: l, n => by
    have h1 := plain_sty v (n + 1)
    have h2 := (plainL_sty l n).2
    have e3 : plainS.com n = [] := rfl
    have e4 : (if l.isEmpty then ([] : List UInt8) else styL plainS n (44 :: plainS.com n) [] l) = plainL false l := by
      cases l with
      | nil => rfl
      | cons x r => rw [e3]; exact h2
    constructor
    · rw [styL, plainL, h1, e4]; rfl
    · rw [styL, plainL, h1, e4]; rfl
theorem plainM_sty : ∀ (l : List (List UInt8 × JV)) (n : Nat), styM plainS n [] [] l = plainM true l ∧ styM plainS n [44] [] l = plainM false l
  | [], n => ⟨rfl, rfl⟩
  | (x, v) :: l, n => by
    have h1 := plain_sty v (n + 1)
    have h2 := (plainM_sty l n).2
    have e3 : plainS.com n = [] := rfl
    have e5 : plainS.col = [] := rfl
    have e4 : (if l.isEmpty then ([] : List UInt8) else styM plainS n (44 :: plainS.com n) [] l) = plainM false l := by
      cases l with
      | nil => rfl
      | cons x r => rw [e3]; exact h2
    constructor
    · rw [styM, plainM, h1, e4, e5]; rfl
    · rw [styM, plainM, h1, e4, e5]; rfl
end
theorem parse_sty (S : Sty) (hS : S.blank) (v : JV) (h : rightJ v = true) (e : List UInt8) (he : ∀ c ∈ e, blankB c = true) (hl : (styJ S 0 v ++ e).length ≤ 16384) (d : Int) (h1 : 1 ≤ d) (h2 : d ≤ 32) :
    parseL (styJ S 0 v ++ e) d = if openJ v ≤ d.toNat then (v, 0) else (.zero, 32) := by
  unfold parseL
  have ht : toldB (styJ S 0 v ++ e) = true := told_cat (told_sty S hS v 0 h) (told_blank he)
  rw [if_neg (by omega), if_neg (by omega), if_neg (by rw [ht]; decide), whole_sty S hS v h 0 d.toNat e he]
  by_cases ho : openJ v ≤ d.toNat
  · rw [if_pos ho, if_pos ho]
  · rw [if_neg ho, if_neg ho]
theorem parse_plain (v : JV) (h : rightJ v = true) (hl : (plainJ v).length ≤ 16384) (d : Int) (h1 : 1 ≤ d) (h2 : d ≤ 32) :
    parseL (plainJ v) d = if openJ v ≤ d.toNat then (v, 0) else (.zero, 32) := by
  have := parse_sty plainS plainS_blank v h [] (by simp) (by rw [plain_sty]; simpa using hl) d h1 h2
  rw [plain_sty] at this
  simpa using this
mutual
theorem open_depth : ∀ v : JV, openJ v ≤ depthJ v
  | .mk k y t l m => by
    have h1 := openL_depth l
    have h2 := openM_depth m
    rw [openJ, depthJ]
    split
    · omega
    split
    · omega
    · omega
theorem openL_depth : ∀ l : List JV, openL l ≤ depthL l
  | [] => by simp [openL]
  | v :: l => by
    have h1 := open_depth v
    have h2 := openL_depth l
    rw [openL, depthL]; omega
theorem openM_depth : ∀ l : List (List UInt8 × JV), openM l ≤ depthM l
  | [] => by simp [openM]
  | (n, v) :: l => by
    have h1 := open_depth v
    have h2 := openM_depth l
    rw [openM, depthM]
    show max (openJ v) (openM l) ≤ _
    omega
end
end Go.Proofs.Ytgcfikiajingcaa
/- A value in a row, the last one open. Plain; its rows in memory. -/
set_option linter.unusedVariables false
namespace Go.Proofs.Ytgcfikiajingcaa
open Go.RowKit

structure ND where
  kind : Int
  kids : Int
  yes : Bool
  text : List UInt8
  name : List UInt8
def kidsN (kids : Int) (len : Nat) : Nat := (min (min (max kids 0) (len : Int)) 6).toNat
def cutN (x : ND) (o : Nat) : Nat := if x.kind = 5 ∨ x.kind = 6 then kidsN x.kids o else 0
theorem kidsN_le (k : Int) (o : Nat) : kidsN k o ≤ o ∧ kidsN k o ≤ 6 := by unfold kidsN; omega
theorem cutN_le (x : ND) (o : Nat) : cutN x o ≤ o ∧ cutN x o ≤ 6 := by
  unfold cutN
  split
  · exact kidsN_le _ _
  · omega
/-- A node's value, of those that stand open. -/
def nodeJ (x : ND) (ks : List (List UInt8 × JV)) : JV := .mk x.kind x.yes x.text (if x.kind = 5 then ks.map Prod.snd else []) (if x.kind = 5 then [] else ks)
def treeStep (o : List (List UInt8 × JV)) (x : ND) : List (List UInt8 × JV) :=
  o.take (o.length - cutN x o.length) ++ [(x.name, nodeJ x (o.drop (o.length - cutN x o.length)))]
def treeOpen (l : List ND) : List (List UInt8 × JV) := l.foldl treeStep []
def shortN (x : ND) : Bool := decide (x.text.length ≤ 100) && decide (x.name.length ≤ 60)
/-- Tree.Value: the value; none: there is none, or it is too great. -/
def treeV (l : List ND) : Option JV := if l.length ≤ 40 ∧ l.all shortN = true then (treeOpen l).getLast?.map Prod.snd else none
theorem sizeM_app : ∀ (a b : List (List UInt8 × JV)), sizeM (a ++ b) = sizeM a + sizeM b
  | [], b => by simp [sizeM]
  | (n, v) :: a, b => by
    have := sizeM_app a b
    simp only [List.cons_append, sizeM, this]
    omega
theorem sizeL_snd : ∀ (a : List (List UInt8 × JV)), sizeL (a.map Prod.snd) ≤ sizeM a
  | [] => by simp [sizeL]
  | (n, v) :: a => by
    have := sizeL_snd a
    simp only [List.map_cons, sizeL, sizeM]
    omega
theorem size_node (x : ND) (ks : List (List UInt8 × JV)) : sizeJ (nodeJ x ks) ≤ 1 + x.text.length + sizeM ks := by
  have := sizeL_snd ks
  unfold nodeJ
  rw [sizeJ]
  split
  · simp only [sizeM]; omega
  · simp only [sizeL]; omega
theorem size_step (o : List (List UInt8 × JV)) (x : ND) (h : shortN x = true) : sizeM (treeStep o x) ≤ sizeM o + 162 := by
  unfold shortN at h
  simp only [Bool.and_eq_true, decide_eq_true_eq] at h
  have h1 := size_node x (o.drop (o.length - cutN x o.length))
  have h2 := sizeM_app (o.take (o.length - cutN x o.length)) (o.drop (o.length - cutN x o.length))
  rw [List.take_append_drop] at h2
  unfold treeStep
  rw [sizeM_app]
  simp only [sizeM]
  omega
theorem size_fold : ∀ (l : List ND) (o : List (List UInt8 × JV)), l.all shortN = true → sizeM (l.foldl treeStep o) ≤ sizeM o + 162 * l.length
  | [], o, _ => by simp
  | x :: l, o, h => by
    simp only [List.all_cons, Bool.and_eq_true] at h
    have h1 := size_step o x h.1
    have h2 := size_fold l (treeStep o x) h.2
    simp only [List.foldl_cons, List.length_cons]
    omega
/-- A tree's value isn't great. -/
theorem tree_size {l : List ND} {v : JV} (h : treeV l = some v) : sizeJ v ≤ 6500 := by
  unfold treeV at h
  split at h
  · rename_i hc
    have h1 := size_fold l [] hc.2
    simp only [sizeM] at h1
    cases hg : (treeOpen l).getLast? with
    | none => rw [hg] at h; cases h
    | some p =>
      rw [hg] at h
      simp only [Option.map_some, Option.some.injEq] at h
      subst h
      have h2 := size_mem (List.mem_of_getLast? hg)
      unfold treeOpen at h2
      omega
  · cases h
theorem step_len (o : List (List UInt8 × JV)) (x : ND) : (treeStep o x).length ≤ o.length + 1 := by
  unfold treeStep
  simp only [List.length_append, List.length_take, List.length_cons, List.length_nil]
  omega
theorem open_take {l : List ND} {j : Nat} (h : j < l.length) : treeOpen (l.take (j + 1)) = treeStep (treeOpen (l.take j)) l[j] := by
  unfold treeOpen
  rw [List.take_succ_eq_append_getElem h, List.foldl_append]
  rfl
/-- A node's cells. -/
def ndCell (x : ND) : List Value := [.int .i64 x.kind, .int .i64 x.kids, .bool x.yes, strV x.text, strV x.name]
theorem memCells_take : ∀ (m : List (List UInt8 × JV)) (cm : List (List Value)) (k : Nat), cm.length = m.length → (∀ r ∈ cm, r.length = 5) → memCells (m.take k) (cm.take k) = (memCells m cm).take (k * 6)
  | m, cm, 0, h, _ => by cases m <;> cases cm <;> simp [memCells]
  | [], cm, k + 1, h, _ => by
    have : cm = [] := List.eq_nil_of_length_eq_zero h
    subst this
    simp [memCells]
  | p :: m, [], k + 1, h, _ => by simp at h
  | p :: m, r :: cm, k + 1, h, h5 => by
    have hr := h5 r (by simp)
    have ih := memCells_take m cm k (by simpa using h) (fun x hx => h5 x (by simp [hx]))
    simp only [List.take_succ_cons, memCells]
    rw [ih, show (k + 1) * 6 = (k * 6 + 5) + 1 by omega, List.take_succ_cons, List.take_append, List.take_of_length_le (l := r) (by omega), hr, show k * 6 + 5 - 5 = k * 6 by omega]
theorem reps_rows {ok : Nat → Prop} {w : World} {cm : List (List Value)} {m : List (List UInt8 × JV)} (h : RepsM ok w cm m) : ∀ r ∈ cm, r.length = 5 := by
  intro r hr
  obtain ⟨i, hi, rfl⟩ := List.mem_iff_getElem.1 hr
  exact (h.2 i hi (by rw [← h.1]; exact hi)).len
theorem RepsM.take {ok : Nat → Prop} {w : World} {cm : List (List Value)} {m : List (List UInt8 × JV)} (h : RepsM ok w cm m) (k : Nat) : RepsM ok w (cm.take k) (m.take k) := by
  refine ⟨by simp [h.1], fun i hi hj => ?_⟩
  simp only [List.length_take] at hi hj
  have := h.2 i (by omega) (by omega)
  simpa using this
theorem RepsM.drop {ok : Nat → Prop} {w : World} {cm : List (List Value)} {m : List (List UInt8 × JV)} (h : RepsM ok w cm m) (k : Nat) : RepsM ok w (cm.drop k) (m.drop k) := by
  refine ⟨by simp [h.1], fun i hi hj => ?_⟩
  simp only [List.length_drop] at hi hj
  have := h.2 (k + i) (by omega) (by omega)
  simpa using this
theorem RepsM.snd {ok : Nat → Prop} {w : World} {cm : List (List Value)} {m : List (List UInt8 × JV)} (h : RepsM ok w cm m) : Reps ok w cm (m.map Prod.snd) := by
  refine ⟨by simp [h.1], fun i hi hj => ?_⟩
  have := h.2 i hi (by simpa using hj)
  simpa using this
theorem own_cut {B : Nat} {E : TypeId} {sz : Nat} {w : World} {a : Option Addr} {n c : Nat} {xs : List Value} (h : w.ownsRow B E sz (.slice a n c) n xs) (k : Nat) (hk : k ≤ n) : w.ownsRow B E sz (.slice a k c) k (xs.take (k * sz)) := by
  have hmul : k * sz ≤ n * sz := Nat.mul_le_mul_right _ hk
  refine ⟨by rw [List.length_take, h.1]; omega, ?_⟩
  rcases h.2 with ⟨h1, h2⟩ | ⟨g, cap, cur, h1, hB, hg, h3, h4, h5, h6⟩
  · simp only [Value.slice.injEq] at h1
    obtain ⟨rfl, rfl, rfl⟩ := h1
    exact .inl ⟨by rw [show k = 0 by omega], by omega⟩
  · simp only [Value.slice.injEq, true_and] at h1
    obtain ⟨rfl, rfl⟩ := h1
    refine .inr ⟨g, c, cur, rfl, hB, hg, by omega, h4, h5, ?_⟩
    rw [← h6, List.take_take, Nat.min_eq_left hmul]
theorem wpList_append_at {ops : Array Oper} {rest : List Oper} {o : Oper} {a : Act} {w : World} {Q : Exit → Act → World → Prop} (hgd : o.guard = none) (s x : Operand) (t : TypeId)
    (ho : o.op = .call { callee := .builtin .append, args := #[s, x], argTypes := #[t, t] })
    (base : Nat) (e : TypeId) (size bytes : Nat) (ht : Try.prog.underlying t = some (.slice e)) (hinfo : ((Try.prog.info? e).bind fun i => i.zero.map fun z => (i.size, i.bytes, z.cells.size)) = some (size, bytes, size)) (hsz : 0 < size)
    (v : Value) (n : Nat) (xs : List Value) (hs : a.eval s = v) (hown : w.ownsRow base e size v n xs)
    (g c : Nat) (cs : Array Value) (T : TypeId) (fr : Nat × Nat) (hg : w.heap[g]? = some (.cells cs T fr)) (hx : a.eval x = .slice (some ⟨g, 0, none⟩) 1 c) (hl : cs.size = size) (h1 : ∀ u ∈ cs.toList, u.oneCell' = true)
    (hbytes : (n + 1) * bytes ≤ 140737488355328) (hn : n ≤ 140737488355328) (hbase : base ≤ w.heap.size)
    (h : ∀ v' w', w'.ownsRow base e size v' (n + 1) (xs ++ cs.toList) → w.grownBy w' v.ownBlock → (v'.ownBlock = v.ownBlock ∨ v'.ownBlock = some w.heap.size) → wpList Try.prog ops Q rest (a.put o.dst v') w') : wpList Try.prog ops Q (o :: rest) a w := by
  refine wpList_plain hgd fun K hK' => ?_
  refine op_append s x t ho base e size bytes ht hinfo hsz v n xs hs hown ⟨g, 0, none⟩ 1 c cs.toList hx (by simpa using hl) (fun j u hu => ?_) h1 (by unfold maxLen; omega) hbytes hbase fun v' w' h2 h3 h5 => hK' _ _ (h v' w' h2 h3 h5)
  rw [Addr.add_lit, Nat.zero_add, Lib.cell_of_heap hg, ← Array.getElem?_toList]
  exact hu
end Go.Proofs.Ytgcfikiajingcaa
/- Rows of members: parts of them, and what lies behind. -/
set_option linter.unusedVariables false
namespace Go.Proofs.Ytgcfikiajingcaa
open Go.RowKit

theorem memCells_drop : ∀ (m : List (List UInt8 × JV)) (cm : List (List Value)) (k : Nat), cm.length = m.length → (∀ r ∈ cm, r.length = 5) → memCells (m.drop k) (cm.drop k) = (memCells m cm).drop (k * 6)
  | m, cm, 0, h, _ => by simp
  | [], cm, k + 1, h, _ => by
    have : cm = [] := List.eq_nil_of_length_eq_zero h
    subst this
    simp [memCells]
  | p :: m, [], k + 1, h, _ => by simp at h
  | p :: m, r :: cm, k + 1, h, h5 => by
    have hr := h5 r (by simp)
    have ih := memCells_drop m cm k (by simpa using h) (fun x hx => h5 x (by simp [hx]))
    simp only [List.drop_succ_cons, memCells]
    rw [ih, show (k + 1) * 6 = (k * 6 + 5) + 1 by omega, List.drop_succ_cons, List.drop_append, show List.drop (k * 6 + 5) r = [] from List.drop_eq_nil_of_le (by omega), hr, show k * 6 + 5 - 5 = k * 6 by omega, List.nil_append]
theorem memCells_len {m : List (List UInt8 × JV)} {cm : List (List Value)} (h : cm.length = m.length) (h5 : ∀ r ∈ cm, r.length = 5) : (memCells m cm).length = m.length * 6 := by
  induction m generalizing cm with
  | nil =>
    have : cm = [] := List.eq_nil_of_length_eq_zero h
    subst this
    rfl
  | cons p m ih =>
    cases cm with
    | nil => simp at h
    | cons r cm =>
      have hr := h5 r (by simp)
      have := ih (cm := cm) (by simpa using h) (fun x hx => h5 x (by simp [hx]))
      simp only [memCells, List.length_cons, List.length_append, hr, this]
      omega
theorem kids_rd {w : World} {ro : Option Addr} {rc q : Nat} {o : List (List UInt8 × JV)} {cm : List (List Value)} (h : RdC w ro (memCells o cm)) (hl : cm.length = o.length) (h5 : ∀ r ∈ cm, r.length = 5) (hq : q ≤ o.length) (hrc : o.length ≤ rc) :
    RdC w (if rc = q then ro else Option.map (fun x => x.add (q * 6)) ro) (memCells (o.drop q) (cm.drop q)) := by
  by_cases e : q = o.length
  · subst e
    left
    rw [List.drop_of_length_le (Nat.le_refl _), List.drop_of_length_le (by omega)]
    rfl
  · rw [if_neg (by omega)]
    rcases h with h | ⟨b, off, rfl, hc⟩
    · have := memCells_len hl h5
      rw [h] at this
      simp at this
      omega
    · refine .inr ⟨b, off + q * 6, by simp [Addr.add_lit], fun i u hu => ?_⟩
      rw [memCells_drop o cm q hl h5, List.getElem?_drop] at hu
      rw [Nat.add_assoc]
      exact hc _ u hu
theorem mem_row {ok : Nat → Prop} {w : World} {a' : Option Addr} {m : List (List UInt8 × JV)} {cm : List (List Value)} (h3 : RdC w a' (memCells m cm)) (h4 : RepsM ok w cm m) (j : Nat) (hj : j < m.length) :
    ∃ b off k2 y2 t2 a2 l2 c2 a3 l3 c3, a' = some ⟨b, off, none⟩ ∧ cm[j]? = some [.int .i64 k2, .bool y2, .string ⟨t2⟩, .slice a2 l2 c2, .slice a3 l3 c3] ∧ w.cell? ⟨b, off + j * 6, none⟩ = some (.string ⟨m[j].1.toArray⟩) ∧ w.cell? ⟨b, off + j * 6 + 1, none⟩ = some (.int .i64 k2) ∧ w.cell? ⟨b, off + j * 6 + 2, none⟩ = some (.bool y2) ∧ w.cell? ⟨b, off + j * 6 + 3, none⟩ = some (.string ⟨t2⟩) ∧ w.cell? ⟨b, off + j * 6 + 4, none⟩ = some (.slice a2 l2 c2) ∧ w.cell? ⟨b, off + j * 6 + 5, none⟩ = some (.slice a3 l3 c3) := by
  have hjc : j < cm.length := by rw [h4.1]; exact hj
  have hr := h4.2 j hjc hj
  obtain ⟨a2, c2, a3, c3, cl, cmm, hcs, _⟩ := hr.parts
  have hg := fun i hi => mem6_get h4 j hjc hj i hi
  rw [hcs] at hg
  unfold strV at hcs hg
  rcases h3 with h | ⟨b, off, e, hc⟩
  · have := mem6_len h4
    rw [h] at this
    simp only [List.length_nil] at this
    omega
  · exact ⟨b, off, _, _, _, _, _, _, _, _, _, e, by rw [List.getElem?_eq_getElem hjc, hcs], hc _ _ (hg 0 (by decide)), hc _ _ (hg 1 (by decide)), hc _ _ (hg 2 (by decide)), hc _ _ (hg 3 (by decide)), hc _ _ (hg 4 (by decide)), hc _ _ (hg 5 (by decide))⟩
theorem own_rdo {B : Nat} {E : TypeId} {sz : Nat} {w : World} {v : Value} {n : Nat} {xs : List Value} (h : w.ownsRow B E sz v n xs) : ∃ a c, v = .slice a n c ∧ RdO (fun b => B ≤ b ∧ b < w.heap.size ∧ v.ownBlock = some b) w a xs ∧ n ≤ c := by
  have h' := h
  rcases h.2 with ⟨rfl, rfl⟩ | ⟨g, cap, cur, rfl, hB, hg, hle, _, _, _⟩
  · exact ⟨none, 0, rfl, .inl (List.eq_nil_of_length_eq_zero (by rw [h.1]; simp)), Nat.le_refl _⟩
  · refine ⟨_, _, rfl, .inr ⟨g, 0, rfl, ⟨hB, (Array.getElem?_eq_some_iff.1 hg).1, rfl⟩, fun i u hu => ?_⟩, hle⟩
    have := World.ownsRow.cells h' (g := g) rfl i u hu
    rw [Addr.add_lit] at this
    exact this
/-- One member in a block of its own. -/
def VM (cs : Array Value) : Value → World → Prop := fun v w => ∃ g, v = .slice (some ⟨g, 0, none⟩) 1 1 ∧ w.heap[g]? = some (.cells cs 49 (0, 0))
theorem VM.stab (cs : Array Value) : Stab (VM cs) := fun v w1 w2 ⟨g, e, h⟩ hb => ⟨g, e, (hb.block _ (Array.getElem?_eq_some_iff.1 h).1).trans h⟩
theorem below_butv {B g : Nat} {w w' : World} (h : ButV B g g w w') {C : Nat} (hC : C ≤ B) (hg : C ≤ g) : Below C w w' := ⟨h.os, h.tape, h.output, h.size, fun k hk => h.block k (by omega) (by omega) (by omega)⟩
theorem butv_below {B g : Nat} {a w w' : World} (h : ButV B g g a w) (hb : Below B w w') : ButV B g g a w' :=
  h.trans ⟨hb.os, hb.tape, hb.output, hb.size, fun k hk _ _ => hb.block k hk⟩
end Go.Proofs.Ytgcfikiajingcaa
/- What the statements need: a value in a row. -/
set_option linter.unusedVariables false
namespace Go.Proofs.Ytgcfikiajingcaa
open Go.RowKit

theorem nd_cells {w : World} {a : Option Addr} {l : List ND} (h : RdC w a (l.flatMap ndCell)) (j : Nat) (hj : j < l.length) :
    ∃ b off, a = some ⟨b, off, none⟩ ∧ w.cell? ⟨b, off + j * 5, none⟩ = some (.int .i64 l[j].kind) ∧ w.cell? ⟨b, off + j * 5 + 1, none⟩ = some (.int .i64 l[j].kids) ∧ w.cell? ⟨b, off + j * 5 + 2, none⟩ = some (.bool l[j].yes) ∧ w.cell? ⟨b, off + j * 5 + 3, none⟩ = some (.string ⟨l[j].text.toArray⟩) ∧ w.cell? ⟨b, off + j * 5 + 4, none⟩ = some (.string ⟨l[j].name.toArray⟩) := by
  have hg := fun i hi => flat_get ndCell 5 (fun _ => rfl) l j i hj hi
  rcases h with h | ⟨b, off, e, hc⟩
  · have := flat_len ndCell 5 (fun _ => rfl) l
    rw [h] at this
    simp only [List.length_nil] at this
    omega
  · exact ⟨b, off, e, hc _ _ (hg 0 (by decide)), hc _ _ (hg 1 (by decide)), hc _ _ (hg 2 (by decide)), hc _ _ (hg 3 (by decide)), hc _ _ (hg 4 (by decide))⟩
theorem stored_other (w : World) (gv : Nat) (a b c d e : Value) {k : Nat} (h : k ≠ gv) :
    (((((w.setCell ⟨gv, 0, none⟩ a).setCell ⟨gv, 1, none⟩ b).setCell ⟨gv, 2, none⟩ c).setCell ⟨gv, 3, none⟩ d).setCell ⟨gv, 4, none⟩ e).heap[k]? = w.heap[k]? := by
  rw [Below.heap_setCell _ _ _ _ h, Below.heap_setCell _ _ _ _ h, Below.heap_setCell _ _ _ _ h, Below.heap_setCell _ _ _ _ h, Below.heap_setCell _ _ _ _ h]
set_option maxRecDepth 100000 in
set_option maxHeartbeats 64000000 in
theorem treeval_any (a : Option Addr) (c : Nat) (l : List ND) (w : World) (hr : RdC w a (l.flatMap ndCell)) (hlen : l.length ≤ 9223372036854775807) :
    Calls Try.prog 13 #[.slice a l.length c] w fun e w' => Below w.heap.size w w' ∧ ∃ cs, e = .returned (.tuple #[.agg cs.toArray, .bool (treeV l).isSome]) ∧ Rep (w.heap.size ≤ ·) w' cs ((treeV l).getD .zero) := by
  have HR := Lib.hid hr
  have HTV : Hid (treeV l = if l.length ≤ 40 ∧ l.all shortN = true then (treeOpen l).getLast?.map Prod.snd else none) := Lib.hid rfl
  clear hr
  go_enter Try.func13, Try.ntmps13
  go_upto_region 1 with (fail)
  generalize hw1 : w.alloc _ = w1
  have hb1 : Below w.heap.size w w1 := by rw [← hw1]; exact (Below.refl _ _).alloc (Nat.le_refl _) _
  have hx1 : w1.heap[w.heap.size]? = some (.cells zero5.toArray 31 (0, 0)) := by rw [← hw1]; exact heap_alloc_new _ _
  have hs1 : w.heap.size < w1.heap.size := by rw [← hw1]; simp
  have HB1 := Lib.hid hb1
  have HX1 := Lib.hid hx1
  have HR1 := Lib.hid (HR.out.below hb1)
  clear hw1 hb1 hx1
  by_cases hl : l.length ≤ 40
  · have hlI : ¬ (40 : Int) < (l.length : Int) := by omega
    go_wp2_with fail
    go_loopg [4, 18] l.length (fun k ov iv wr => ∃ (j : Nat) (rv : Value) (cm : List (List Value)), rv = ov ∧ iv = .int .i64 (j : Int) ∧ j + k = l.length ∧ (treeOpen (l.take j)).length ≤ j ∧ Hid ((l.take j).all shortN = true) ∧ Hid (wr.ownsRow w1.heap.size 49 6 rv (treeOpen (l.take j)).length (memCells (treeOpen (l.take j)) cm)) ∧ Hid (RepsM (fun b => w1.heap.size ≤ b ∧ rv.ownBlock ≠ some b) wr cm (treeOpen (l.take j))) ∧ Hid (Below w1.heap.size w1 wr))
    case atStart => exact ⟨0, _, [], rfl, rfl, by omega, by simp [treeOpen], Lib.hid rfl, Lib.hid (World.ownsRow_nil _ _ _ _), Lib.hid (RepsM.nil _ _), Lib.hid (Below.refl _ _)⟩
    case round =>
      obtain ⟨j, rv, cm, rfl, rfl, hj, hol, HSH, HW, HRM, HB⟩ := hrel
      obtain ⟨wo, rfl⟩ : ∃ x : World, x = wr := ⟨_, rfl⟩
      obtain ⟨gO, rfl⟩ : ∃ x : Nat, x = gk := ⟨_, rfl⟩
      have hszB : w1.heap.size ≤ wo.heap.size := HB.out.size
      obtain ⟨ro, rc, hrv, hro, hrc⟩ := RdC.of_own HW.out
      subst hrv
      have HRO := Lib.hid hro
      clear hro
      by_cases hlt : j < l.length
      · have hltI : (j : Int) < (l.length : Int) := by omega
        obtain ⟨nb, noff, ea, n0, n1, n2, n3, n4⟩ := nd_cells (HR1.out.below HB.out) j hlt
        subst ea
        have HTS := Lib.hid (open_take hlt)
        have HALL : Hid ((l.take (j + 1)).all shortN = ((l.take j).all shortN && shortN l[j])) := Lib.hid (by rw [List.take_succ_eq_append_getElem hlt, List.all_append]; simp)
        have HNO : Hid (shortN l[j] = false → treeV l = none) := Lib.hid (fun hf => by
          rw [HTV.out, if_neg]
          rintro ⟨_, hall⟩
          rw [List.all_eq_true.1 hall _ (List.getElem_mem hlt)] at hf
          cases hf)
        generalize l[j] = x at *
        obtain ⟨xk, xn, xy, xt, xm⟩ := x
        simp only at n0 n1 n2 n3 n4
        generalize treeOpen (l.take j) = o at *
        go_upto_region 7 with (fail)
        generalize hw2 : wo.alloc _ = w2
        have hb2 : Below wo.heap.size wo w2 := by rw [← hw2]; exact (Below.refl _ _).alloc (Nat.le_refl _) _
        have hx2 : w2.heap[wo.heap.size]? = some (.cells #[.int .i64 xk, .int .i64 xn, .bool xy, .string ⟨xt.toArray⟩, .string ⟨xm.toArray⟩] 69 (0, 0)) := by rw [← hw2]; exact heap_alloc_new _ _
        have hs2 : wo.heap.size < w2.heap.size := by rw [← hw2]; simp
        have HB2 := Lib.hid (HB.out.trans (hb2.mono hszB))
        have HX2 := Lib.hid hx2
        have HBX2 := Lib.hid hb2
        have HRZ := Lib.hid ((HB2.out.block w.heap.size (by omega)).trans HX1.out)
        have HBW := Lib.hid (HB1.out.trans (HB2.out.mono (by omega)))
        have HW2 := Lib.hid (own_below HW.out hb2)
        have HRM2 := Lib.hid (HRM.out.lt.keep fun b hb _ => hb2.block b hb.2)
        clear hw2 hb2 hx2 n0 n1 n2 n3 n4
        have m0 : w2.cell? ⟨wo.heap.size, 0, none⟩ = some (.int .i64 xk) := by rw [Lib.cell_of_heap HX2.out]; rfl
        have m1 : w2.cell? ⟨wo.heap.size, 1, none⟩ = some (.int .i64 xn) := by rw [Lib.cell_of_heap HX2.out]; rfl
        have m2 : w2.cell? ⟨wo.heap.size, 2, none⟩ = some (.bool xy) := by rw [Lib.cell_of_heap HX2.out]; rfl
        have m3 : w2.cell? ⟨wo.heap.size, 3, none⟩ = some (.string ⟨xt.toArray⟩) := by rw [Lib.cell_of_heap HX2.out]; rfl
        have m4 : w2.cell? ⟨wo.heap.size, 4, none⟩ = some (.string ⟨xm.toArray⟩) := by rw [Lib.cell_of_heap HX2.out]; rfl
        by_cases s1 : xt.length ≤ 100
        case neg =>
          have s1I : (100 : Int) < (xt.length : Int) := by omega
          have HNN : Hid (treeV l = none) := Lib.hid (HNO.out (by unfold shortN; simp only [decide_eq_false s1, Bool.false_and]))
          have d0 : w2.cell? ⟨w.heap.size, 0, none⟩ = some (.int .i64 0) := by rw [Lib.cell_of_heap HRZ.out]; rfl
          have d1 : w2.cell? ⟨w.heap.size, 1, none⟩ = some (.bool false) := by rw [Lib.cell_of_heap HRZ.out]; rfl
          have d2 : w2.cell? ⟨w.heap.size, 2, none⟩ = some (.string ⟨#[]⟩) := by rw [Lib.cell_of_heap HRZ.out]; rfl
          have d3 : w2.cell? ⟨w.heap.size, 3, none⟩ = some (.slice none 0 0) := by rw [Lib.cell_of_heap HRZ.out]; rfl
          have d4 : w2.cell? ⟨w.heap.size, 4, none⟩ = some (.slice none 0 0) := by rw [Lib.cell_of_heap HRZ.out]; rfl
          have f0 := Lib.frozen_of_heap HRZ.out 0
          have f1 := Lib.frozen_of_heap HRZ.out 1
          have f2 := Lib.frozen_of_heap HRZ.out 2
          have f3 := Lib.frozen_of_heap HRZ.out 3
          have f4 := Lib.frozen_of_heap HRZ.out 4
          go_wp2_with fail
          have hst := value_stored HRZ.out (.int .i64 0) (.bool false) (.string ⟨#[]⟩) (.slice none 0 0) (.slice none 0 0)
          have hbe := zero_stored HBW.out (Nat.le_refl _) (.int .i64 0) (.bool false) (.string ⟨#[]⟩) (.slice none 0 0) (.slice none 0 0)
          have e0 := Lib.cell_of_heap hst 0
          have e1 := Lib.cell_of_heap hst 1
          have e2 := Lib.cell_of_heap hst 2
          have e3 := Lib.cell_of_heap hst 3
          have e4 := Lib.cell_of_heap hst 4
          simp only [List.getElem?_toArray] at e0 e1 e2 e3 e4
          refine bodyPost_ret (v := .tuple #[.agg #[.int .i64 0, .bool false, .string ⟨#[]⟩, .slice none 0 0, .slice none 0 0], .bool false]) (by simp [results, Try.results13, go_sem, e0, e1, e2, e3, e4]) rfl ?_
          exact ⟨hbe, zero5, by rw [HNN.out]; rfl, by rw [HNN.out]; exact Rep.leaf _ _ 0 false []⟩
        by_cases s2 : xm.length ≤ 60
        case neg =>
          have s1I : ¬ (100 : Int) < (xt.length : Int) := by omega
          have s2I : (60 : Int) < (xm.length : Int) := by omega
          have HNN : Hid (treeV l = none) := Lib.hid (HNO.out (by unfold shortN; simp only [decide_eq_false s2, Bool.and_false]))
          have d0 : w2.cell? ⟨w.heap.size, 0, none⟩ = some (.int .i64 0) := by rw [Lib.cell_of_heap HRZ.out]; rfl
          have d1 : w2.cell? ⟨w.heap.size, 1, none⟩ = some (.bool false) := by rw [Lib.cell_of_heap HRZ.out]; rfl
          have d2 : w2.cell? ⟨w.heap.size, 2, none⟩ = some (.string ⟨#[]⟩) := by rw [Lib.cell_of_heap HRZ.out]; rfl
          have d3 : w2.cell? ⟨w.heap.size, 3, none⟩ = some (.slice none 0 0) := by rw [Lib.cell_of_heap HRZ.out]; rfl
          have d4 : w2.cell? ⟨w.heap.size, 4, none⟩ = some (.slice none 0 0) := by rw [Lib.cell_of_heap HRZ.out]; rfl
          have f0 := Lib.frozen_of_heap HRZ.out 0
          have f1 := Lib.frozen_of_heap HRZ.out 1
          have f2 := Lib.frozen_of_heap HRZ.out 2
          have f3 := Lib.frozen_of_heap HRZ.out 3
          have f4 := Lib.frozen_of_heap HRZ.out 4
          go_wp2_with fail
          have hst := value_stored HRZ.out (.int .i64 0) (.bool false) (.string ⟨#[]⟩) (.slice none 0 0) (.slice none 0 0)
          have hbe := zero_stored HBW.out (Nat.le_refl _) (.int .i64 0) (.bool false) (.string ⟨#[]⟩) (.slice none 0 0) (.slice none 0 0)
          have e0 := Lib.cell_of_heap hst 0
          have e1 := Lib.cell_of_heap hst 1
          have e2 := Lib.cell_of_heap hst 2
          have e3 := Lib.cell_of_heap hst 3
          have e4 := Lib.cell_of_heap hst 4
          simp only [List.getElem?_toArray] at e0 e1 e2 e3 e4
          refine bodyPost_ret (v := .tuple #[.agg #[.int .i64 0, .bool false, .string ⟨#[]⟩, .slice none 0 0, .slice none 0 0], .bool false]) (by simp [results, Try.results13, go_sem, e0, e1, e2, e3, e4]) rfl ?_
          exact ⟨hbe, zero5, by rw [HNN.out]; rfl, by rw [HNN.out]; exact Rep.leaf _ _ 0 false []⟩
        have s1I : ¬ (100 : Int) < (xt.length : Int) := by omega
        have s2I : ¬ (60 : Int) < (xm.length : Int) := by omega
        have HSN : Hid (shortN ⟨xk, xn, xy, xt, xm⟩ = true) := Lib.hid (by unfold shortN; simp only [decide_eq_true s1, decide_eq_true s2, Bool.and_self])
        go_upto_region 10 with (fail)
        generalize hw3 : w2.alloc _ = w3
        have hb3 : Below w2.heap.size w2 w3 := by rw [← hw3]; exact (Below.refl _ _).alloc (Nat.le_refl _) _
        have hx3 : w3.heap[w2.heap.size]? = some (.cells #[.int .i64 xk, .bool xy, .string ⟨xt.toArray⟩, .slice none 0 0, .slice none 0 0] 31 (0, 0)) := by rw [← hw3]; exact heap_alloc_new _ _
        have hs3 : w2.heap.size < w3.heap.size := by rw [← hw3]; simp
        have HB3 := Lib.hid (HB2.out.trans (hb3.mono (by omega)))
        have HX3 := Lib.hid hx3
        have HBX3 := Lib.hid (show Below wo.heap.size wo w3 from HBX2.out.trans (hb3.mono (by omega)))
        have HXN := Lib.hid ((hb3.block _ (by omega)).trans HX2.out)
        have HW3 := Lib.hid (own_below HW2.out hb3)
        have HRM3 := Lib.hid (HRM2.out.lt.keep fun b hb _ => hb3.block b hb.2)
        clear hw3 hb3 hx3 m0 m1 m2 m3 m4
        have m0 : w3.cell? ⟨wo.heap.size, 0, none⟩ = some (.int .i64 xk) := by rw [Lib.cell_of_heap HXN.out]; rfl
        have m1 : w3.cell? ⟨wo.heap.size, 1, none⟩ = some (.int .i64 xn) := by rw [Lib.cell_of_heap HXN.out]; rfl
        obtain ⟨n, hn⟩ : ∃ n, cutN ⟨xk, xn, xy, xt, xm⟩ o.length = n := ⟨_, rfl⟩
        have hno : n ≤ o.length := by rw [← hn]; exact (cutN_le _ _).1
        have hn6 : n ≤ 6 := by rw [← hn]; exact (cutN_le _ _).2
        have HN := Lib.hid hn
        have HOB : Hid (∀ b, (Value.slice ro o.length rc).ownBlock = some b → b < wo.heap.size) := Lib.hid fun b hb => (HW.out.lt b hb).2
        have hcs : xk = 5 ∨ xk = 6 ∨ (xk ≠ 5 ∧ xk ≠ 6) := by omega
        unfold cutN kidsN at hn
        obtain ⟨q, hq⟩ : ∃ q, o.length - n = q := ⟨_, rfl⟩
        have hqI : (o.length : Int) - (n : Int) = (q : Int) := by omega
        rcases hcs with hk5 | hk6 | ⟨hk5, hk6⟩
        · subst hk5
          rw [if_pos (.inl rfl)] at hn
          simp only at hn
          have hnn : (if (6 : Int) < (if (o.length : Int) < max xn 0 then (o.length : Int) else max xn 0) then (6 : Int) else if (o.length : Int) < max xn 0 then (o.length : Int) else max xn 0) = (n : Int) := by split <;> split <;> omega
          have hqn : o.length - q = n := by omega
          go_upto_region 14 with (fail)
          try simp only [hqn]
          have HKR := Lib.hid (kids_rd (q := q) HRO.out HRM.out.1 (reps_rows HRM.out) (by omega) hrc)
          generalize (if rc = q then ro else Option.map (fun x => x.add (q * 6)) ro) = KA at *
          have hdl : (o.drop q).length = n := by rw [List.length_drop]; exact hqn
          have HKM := Lib.hid (HRM.out.drop q)
          clear hnn m0 m1
          go_wp2_with fail
          go_loopg [62] n (fun k iv wr => ∃ (i : Nat) (LV : Value), iv = .int .i64 (i : Int) ∧ i + k = n ∧ Hid (wr.heap[w2.heap.size]? = some (.cells #[.int .i64 5, .bool xy, .string ⟨xt.toArray⟩, LV, .slice none 0 0] 31 (0, 0))) ∧ Hid (wr.ownsRow w3.heap.size 31 5 LV i (((cm.drop q).take i).flatten)) ∧ Hid (ButV w3.heap.size w2.heap.size w2.heap.size w3 wr))
          case atStart => exact ⟨0, .slice none 0 0, rfl, by omega, HX3, Lib.hid (by simpa [memCells] using World.ownsRow_nil _ _ _ _), Lib.hid (ButV.refl _ _ _ _)⟩
          case round =>
            obtain ⟨i, LV, rfl, hi, HVB, HLV, HBV⟩ := hrel
            have hsz2 : w3.heap.size ≤ wr.heap.size := HBV.out.size
            by_cases hin : i < n
            · have hinI : (i : Int) < (n : Int) := by omega
              have HBR := Lib.hid (show Below wo.heap.size wo wr from HBX3.out.trans (below_butv HBV.out (by omega) (by omega)))
              obtain ⟨kb, koff, k2, y2, t2, a2, l2, c2, a3, l3, c3, eka, hcmi, g0, g1, g2, g3, g4, g5⟩ := mem_row (HKR.out.below HBR.out) (HKM.out.lt.keep fun b hb _ => HBR.out.block b hb.2) i (by omega)
              subst eka
              have HROW : Hid (((cm.drop q).take (i + 1)).flatten = ((cm.drop q).take i).flatten ++ (#[.int .i64 k2, .bool y2, .string ⟨t2⟩, .slice a2 l2 c2, .slice a3 l3 c3]).toList) := Lib.hid (by
                rw [List.take_succ_eq_append_getElem (by rw [HKM.out.1]; omega), List.flatten_append]
                rw [List.getElem?_eq_getElem (by rw [HKM.out.1]; omega)] at hcmi
                simp only [Option.some.injEq] at hcmi
                rw [hcmi]
                simp)
              generalize ((o.drop q)[i]'(by omega)).1 = nm at *
              go_upto_region 17 with (fail)
              generalize hw4 : wr.alloc _ = w4
              have hb4 : Below wr.heap.size wr w4 := by rw [← hw4]; exact (Below.refl _ _).alloc (Nat.le_refl _) _
              have hx4 : w4.heap[wr.heap.size]? = some (.cells #[.string ⟨nm.toArray⟩, .int .i64 k2, .bool y2, .string ⟨t2⟩, .slice a2 l2 c2, .slice a3 l3 c3] 49 (0, 0)) := by rw [← hw4]; exact heap_alloc_new _ _
              have hs4 : wr.heap.size < w4.heap.size := by rw [← hw4]; simp
              have HBV4 := Lib.hid (butv_below HBV.out (hb4.mono hsz2))
              have HVB4 := Lib.hid ((hb4.block _ (by omega)).trans HVB.out)
              have HLV4 := Lib.hid (own_below HLV.out hb4)
              have HNB4 := Lib.hid ((HBV4.out.block wo.heap.size (by omega) (by omega) (by omega)).trans HXN.out)
              clear hw4 hb4 g0 g1 g2 g3 g4 g5
              have m0 : w4.cell? ⟨wo.heap.size, 0, none⟩ = some (.int .i64 5) := by rw [Lib.cell_of_heap HNB4.out]; rfl
              have z : w4.cell? ⟨w2.heap.size, 3, none⟩ = some LV := by rw [Lib.cell_of_heap HVB4.out]; rfl
              have x0 : w4.cell? ⟨wr.heap.size, 0, none⟩ = some (.string ⟨nm.toArray⟩) := by rw [Lib.cell_of_heap hx4]; rfl
              have x1 : w4.cell? ⟨wr.heap.size, 1, none⟩ = some (.int .i64 k2) := by rw [Lib.cell_of_heap hx4]; rfl
              have x2 : w4.cell? ⟨wr.heap.size, 2, none⟩ = some (.bool y2) := by rw [Lib.cell_of_heap hx4]; rfl
              have x3 : w4.cell? ⟨wr.heap.size, 3, none⟩ = some (.string ⟨t2⟩) := by rw [Lib.cell_of_heap hx4]; rfl
              have x4 : w4.cell? ⟨wr.heap.size, 4, none⟩ = some (.slice a2 l2 c2) := by rw [Lib.cell_of_heap hx4]; rfl
              have x5 : w4.cell? ⟨wr.heap.size, 5, none⟩ = some (.slice a3 l3 c3) := by rw [Lib.cell_of_heap hx4]; rfl
              clear hx4
              go_wp2_with (at_builtin; refine wpList_append_at rfl (.tmp 70) (.tmp 73) 28 rfl w3.heap.size 31 5 80 Try.underlying28 (by kernel_rfl) (by decide) LV i _ rfl (HLV4.out.alloc _) w4.heap.size 1 #[.int .i64 k2, .bool y2, .string ⟨t2⟩, .slice a2 l2 c2, .slice a3 l3 c3] 31 (0, 0) (heap_alloc_new _ _) rfl rfl ?c2 ?c3 ?c4 ?c5 ?_)
              case c2 => exact ⟨rfl, rfl, rfl, rfl, rfl⟩
              case c3 => omega
              case c4 => omega
              case c5 => omega
              intro v' w6 hown' hgrow _
              obtain ⟨va, vc, hva, -, -⟩ := RdC.of_own hown'
              subst hva
              have hBg : Below w3.heap.size w4 w6 := below_own ((Below.refl _ _).alloc (by omega) _) (HLV4.out.alloc _) hgrow (by simp; omega)
              have hvb6 := (hBg.block w2.heap.size (by omega)).trans HVB4.out
              have HBV6 := Lib.hid (butv_below HBV4.out hBg)
              have zc : w6.cell? ⟨w2.heap.size, 3, none⟩ = some LV := by rw [Lib.cell_of_heap hvb6]; rfl
              have zf := Lib.frozen_of_heap hvb6 3
              have HVB7 := Lib.hid (setCell_block hvb6 (o := 3) (v := .slice va (i + 1) vc))
              have hbut : But w2.heap.size w6 (w6.setCell ⟨w2.heap.size, 3, none⟩ (.slice va (i + 1) vc)) := But.setCell _ _ _ _
              have HLV7 := Lib.hid (own_butg hown' hbut (by omega))
              have HBV7 := Lib.hid (HBV6.out.trans ⟨hbut.os, hbut.tape, hbut.output, hbut.size, fun k hk h1 _ => hbut.block k (by have := HBV6.out.size; omega) h1⟩)
              clear hown' hgrow hBg hvb6 hbut m0 z x0 x1 x2 x3 x4 x5
              go_wp2_with fail
              go_roundg (gk - 1)
              case measure => omega
              case rel => exact ⟨i + 1, .slice va (i + 1) vc, by first | rfl | (congr 1), by omega, Lib.hid (by have := HVB7.out; simpa using this), Lib.hid (by rw [HROW.out]; exact HLV7.out), HBV7⟩
            · have hinI : ¬ (i : Int) < (n : Int) := by omega
              obtain rfl : i = n := by omega
              have HBRE := Lib.hid (show Below wo.heap.size wo wr from HBX3.out.trans (below_butv HBV.out (by omega) (by omega)))
              obtain ⟨la, lc, hLV, hld, hlc⟩ := own_rdo HLV.out
              subst hLV
              have HRP : Hid (Rep (fun b => w1.heap.size ≤ b ∧ (Value.slice ro o.length rc).ownBlock ≠ some b) wr [.int .i64 5, .bool xy, strV xt, .slice la i lc, .slice none 0 0] (nodeJ ⟨5, xn, xy, xt, xm⟩ (o.drop q))) := Lib.hid (by
                have hfl : (cm.drop q).take i = cm.drop q := List.take_of_length_le (by rw [HKM.out.1]; omega)
                rw [hfl] at hld
                have hkids := HKM.out.lt.keep fun b hb _ => (show wr.heap[b]? = wo.heap[b]? from HBRE.out.block b hb.2)
                have := rep_of (k := 5) (y := xy) (t := xt) (l := (o.drop q).map Prod.snd) (m := []) (c := lc) (c' := 0) (a' := none) (cm := []) (ok := fun b => w1.heap.size ≤ b ∧ (Value.slice ro o.length rc).ownBlock ≠ some b) (hld.mono fun b hb => ⟨by omega, fun e => by have := HOB.out b e; omega⟩) (RepsM.snd (hkids.mono fun b hb => hb.1)) (.inl rfl) (RepsM.nil _ _) (by rw [List.length_map]; omega) (Nat.le_refl _)
                unfold nodeJ
                rw [if_pos rfl, if_pos rfl]
                rw [List.length_map, hdl] at this
                exact this)
              have HNB8 := Lib.hid ((HBV.out.block wo.heap.size (by omega) (by omega) (by omega)).trans HXN.out)
              have HVB8 := Lib.hid HVB.out
              have HTQ : Hid (treeOpen (l.take (j + 1)) = o.take q ++ [(xm, nodeJ ⟨5, xn, xy, xt, xm⟩ (o.drop q))]) := Lib.hid (by
                rw [HTS.out]
                unfold treeStep
                rw [HN.out, hq])
              have HW8 := Lib.hid (own_cut (own_below HW.out HBRE.out) q (by omega))
              have HRT := Lib.hid ((HRM.out.lt.keep fun b hb _ => (HBRE.out).block b hb.2).take q)
              have HB8 := Lib.hid (HB.out.trans ((HBRE.out).mono hszB))
              have hsz8 : w1.heap.size ≤ wr.heap.size := HB8.out.size
              go_upto_region 21 with (fail)
              refine wp_region_grow_tail 11 (by kernel_rfl) (by kernel_rfl) (by decide) (by kernel_rfl) [83, 84, 85, 86, 87, 88, 89, 90, 91, 92, 93] rfl (by decide) (by kernel_rfl) (fun iX => [VIs (Value.slice ro o.length rc), VIs (Value.slice ro o.length rc), VIs (Value.int .i64 ((o.length : Nat) : Int)), VIs (Value.int .i64 ((i : Nat) : Int)), VIs (Value.int .i64 ((q : Nat) : Int)), VIs (Value.slice ro q rc), VIs (Value.pointer (some ⟨wo.heap.size, 4, none⟩)), VIs (Value.string ⟨xm.toArray⟩), VIs (Value.agg #[.int .i64 5, .bool xy, .string ⟨xt.toArray⟩, .slice la i lc, .slice none 0 0]), VIs (Value.agg #[.string ⟨xm.toArray⟩, .int .i64 5, .bool xy, .string ⟨xt.toArray⟩, .slice la i lc, .slice none 0 0]), VM #[.string ⟨xm.toArray⟩, .int .i64 5, .bool xy, .string ⟨xt.toArray⟩, .slice la i lc, .slice none 0 0]].getD iX fun _ _ => True) (stab_list _ ?_) ?_ ?_
              · skip
                intro V hV
                simp only [List.mem_cons, List.mem_nil_iff, or_false] at hV
                rcases hV with rfl | rfl | rfl | rfl | rfl | rfl | rfl | rfl | rfl | rfl | rfl <;> first | exact VIs.stab _ | exact VM.stab _
              · intro iX op ho ax w' hf hb hd
                rcases iX with _ | _ | _ | _ | _ | _ | _ | _ | _ | _ | _ | iX
                · cases ho
                  refine grow_op rfl rfl rfl (grow_move rfl ?_)
                  exact (hf.same 4 (by decide)).trans rfl
                · cases ho
                  refine grow_op rfl rfl rfl (grow_move rfl ?_)
                  exact (hf.same 4 (by decide)).trans rfl
                · cases ho
                  refine grow_op rfl rfl rfl ?_
                  have e1 : ax.tmps.getD 84 undef = .slice ro o.length rc := hd 1 (by kernel_rfl)
                  refine grow_value (v := Value.int .i64 ((o.length : Nat) : Int)) (w' := w') ?_ rfl (Below.refl _ _)
                  simp only [execOp, resolve, invoke, builtin]
                  go_simp
                · cases ho
                  refine grow_op rfl rfl rfl (grow_move rfl ?_)
                  exact (hf.same 8 (by decide)).trans rfl
                · cases ho
                  refine grow_op rfl rfl rfl ?_
                  have e2 : ax.tmps.getD 85 undef = Value.int .i64 ((o.length : Nat) : Int) := hd 2 (by kernel_rfl)
                  have e3 : ax.tmps.getD 86 undef = Value.int .i64 ((i : Nat) : Int) := hd 3 (by kernel_rfl)
                  refine grow_value (v := Value.int .i64 ((q : Nat) : Int)) (w' := w') ?_ rfl (Below.refl _ _)
                  simp only [execOp, Act.eval, e2, e3]
                  go_simp
                  first | exact IntWalk.i64_in _ (by omega) | (rw [IntWalk.i64_in _ (by omega)]; omega)
                · cases ho
                  refine grow_op rfl rfl rfl ?_
                  have e0 : ax.tmps.getD 83 undef = .slice ro o.length rc := hd 0 (by kernel_rfl)
                  have e4 : ax.tmps.getD 87 undef = Value.int .i64 ((q : Nat) : Int) := hd 4 (by kernel_rfl)
                  refine grow_value (v := Value.slice ro q rc) (w' := w') ?_ rfl (Below.refl _ _)
                  simp only [execOp, Act.eval, e0]
                  go_simp
                  try (intro hx; omega)
                · cases ho
                  refine grow_op rfl rfl rfl ?_
                  have e6 : ax.tmps.getD 6 undef = .pointer (some ⟨wo.heap.size, 0, none⟩) := (hf.same 6 (by decide)).trans rfl
                  refine grow_value (v := Value.pointer (some ⟨wo.heap.size, 4, none⟩)) (w' := w') ?_ rfl (Below.refl _ _)
                  simp only [execOp, Act.eval, e6]
                  go_simp
                · cases ho
                  refine grow_op rfl rfl rfl ?_
                  have e6 : ax.tmps.getD 89 undef = Value.pointer (some ⟨wo.heap.size, 4, none⟩) := hd 6 (by kernel_rfl)
                  have c4 : w'.cell? ⟨wo.heap.size, 4, none⟩ = some (.string ⟨xm.toArray⟩) := by rw [Lib.cell_of_heap ((hb.block _ (by omega)).trans HNB8.out)]; rfl
                  refine grow_value (v := Value.string ⟨xm.toArray⟩) (w' := w') ?_ rfl (Below.refl _ _)
                  simp only [execOp, Act.eval, e6]
                  go_simp
                · cases ho
                  refine grow_op rfl rfl rfl ?_
                  have e7 : ax.tmps.getD 7 undef = .pointer (some ⟨w2.heap.size, 0, none⟩) := (hf.same 7 (by decide)).trans (by first | rfl | rw [hs2])
                  have hvb := (hb.block _ (by omega)).trans HVB8.out
                  have c0 : w'.cell? ⟨w2.heap.size, 0, none⟩ = some (.int .i64 5) := by rw [Lib.cell_of_heap hvb]; rfl
                  have c1 : w'.cell? ⟨w2.heap.size, 1, none⟩ = some (.bool xy) := by rw [Lib.cell_of_heap hvb]; rfl
                  have c2 : w'.cell? ⟨w2.heap.size, 2, none⟩ = some (.string ⟨xt.toArray⟩) := by rw [Lib.cell_of_heap hvb]; rfl
                  have c3 : w'.cell? ⟨w2.heap.size, 3, none⟩ = some (.slice la i lc) := by rw [Lib.cell_of_heap hvb]; rfl
                  have c4 : w'.cell? ⟨w2.heap.size, 4, none⟩ = some (.slice none 0 0) := by rw [Lib.cell_of_heap hvb]; rfl
                  refine grow_value (v := Value.agg #[.int .i64 5, .bool xy, .string ⟨xt.toArray⟩, .slice la i lc, .slice none 0 0]) (w' := w') ?_ rfl (Below.refl _ _)
                  simp only [execOp, Act.eval, e7]
                  go_simp
                · cases ho
                  refine grow_op rfl rfl rfl ?_
                  have e7 : ax.tmps.getD 90 undef = Value.string ⟨xm.toArray⟩ := hd 7 (by kernel_rfl)
                  have e8 : ax.tmps.getD 91 undef = Value.agg #[.int .i64 5, .bool xy, .string ⟨xt.toArray⟩, .slice la i lc, .slice none 0 0] := hd 8 (by kernel_rfl)
                  refine grow_value (v := Value.agg #[.string ⟨xm.toArray⟩, .int .i64 5, .bool xy, .string ⟨xt.toArray⟩, .slice la i lc, .slice none 0 0]) (w' := w') ?_ rfl (Below.refl _ _)
                  simp only [execOp, Act.eval, List.map_toArray, List.map_cons, List.map_nil, e7, e8]
                  go_simp
                  try rfl
                · cases ho
                  refine grow_op rfl rfl rfl ?_
                  have e9 : ax.tmps.getD 92 undef = Value.agg #[.string ⟨xm.toArray⟩, .int .i64 5, .bool xy, .string ⟨xt.toArray⟩, .slice la i lc, .slice none 0 0] := hd 9 (by kernel_rfl)
                  refine grow_value (v := .slice (some ⟨w'.heap.size, 0, none⟩) 1 1) (w' := w'.alloc (.cells #[.string ⟨xm.toArray⟩, .int .i64 5, .bool xy, .string ⟨xt.toArray⟩, .slice la i lc, .slice none 0 0] 49)) ?_ ⟨_, rfl, heap_alloc_new _ _⟩ ((Below.refl _ _).alloc (Nat.le_refl _) _)
                  simp only [execOp, Act.eval, List.map_toArray, List.map_cons, List.map_nil, e9]
                  go_simp
                  try rfl
                · simp at ho
              · intro ax w' hf hb hd
                obtain ⟨gb, hv93, hbk⟩ := hd 10 (by decide)
                obtain rfl := hf.eq [Value.slice ro o.length rc, Value.slice ro o.length rc, Value.int .i64 ((o.length : Nat) : Int), Value.int .i64 ((i : Nat) : Int), Value.int .i64 ((q : Nat) : Int), Value.slice ro q rc, Value.pointer (some ⟨wo.heap.size, 4, none⟩), Value.string ⟨xm.toArray⟩, Value.agg #[.int .i64 5, .bool xy, .string ⟨xt.toArray⟩, .slice la i lc, .slice none 0 0], Value.agg #[.string ⟨xm.toArray⟩, .int .i64 5, .bool xy, .string ⟨xt.toArray⟩, .slice la i lc, .slice none 0 0], Value.slice (some ⟨gb, 0, none⟩) 1 1] (fun j hj => match j, hj with
                  | 0, _ => hd 0 (by decide)
                  | 1, _ => hd 1 (by decide)
                  | 2, _ => hd 2 (by decide)
                  | 3, _ => hd 3 (by decide)
                  | 4, _ => hd 4 (by decide)
                  | 5, _ => hd 5 (by decide)
                  | 6, _ => hd 6 (by decide)
                  | 7, _ => hd 7 (by decide)
                  | 8, _ => hd 8 (by decide)
                  | 9, _ => hd 9 (by decide)
                  | 10, _ => hv93
                  | k + 11, h => absurd h (by simp)) (by decide) (by kernel_rfl) rfl
                simp only [List.zip_cons_cons, List.zip_nil_right, List.foldl_cons, List.foldl_nil, Act.put, List.setIfInBounds_toArray, List.set_cons_succ, List.set_cons_zero]
                have HW9 := Lib.hid (own_below HW8.out hb)
                have HB9 := Lib.hid (HB8.out.trans (hb.mono hsz8))
                have HRT9 := Lib.hid (HRT.out.lt.keep fun b hb' _ => hb.block b hb'.2)
                have HRP9 := Lib.hid (HRP.out.lt.keep fun b hb' _ => hb.block b hb'.2)
                have HG9 := Lib.hid hbk
                have hsz9 : wr.heap.size ≤ w'.heap.size := hb.size
                clear hd hf hb hbk hv93
                (refine wpList_append_at rfl (.tmp 88) (.tmp 93) 29 rfl w1.heap.size 49 6 96 Try.underlying29 (by kernel_rfl) (by decide) (.slice ro q rc) q _ rfl HW9.out gb 1 #[.string ⟨xm.toArray⟩, .int .i64 5, .bool xy, .string ⟨xt.toArray⟩, .slice la i lc, .slice none 0 0] 49 (0, 0) HG9.out rfl rfl ?c2 ?c3 ?c4 ?c5 ?_)
                case c2 => intro u hu; simp at hu; rcases hu with rfl | rfl | rfl | rfl | rfl | rfl <;> rfl
                case c3 => omega
                case c4 => omega
                case c5 => omega
                intro v' w9 hown' hgrow hinfo
                have HOWN : Hid (w9.ownsRow w1.heap.size 49 6 v' (treeOpen (l.take (j + 1))).length (memCells (treeOpen (l.take (j + 1))) (cm.take q ++ [[.int .i64 5, .bool xy, strV xt, .slice la i lc, .slice none 0 0]]))) := Lib.hid (by
                  rw [HTQ.out, memCells_snoc _ _ _ _ _ (by simp [HRM.out.1]), memCells_take o cm q HRM.out.1 (reps_rows HRM.out)]
                  have e : (o.take q ++ [(xm, nodeJ ⟨5, xn, xy, xt, xm⟩ (o.drop q))]).length = q + 1 := by simp <;> omega
                  rw [e]
                  exact hown')
                have hkeep : ∀ b, b < w'.heap.size → (Value.slice ro q rc).ownBlock ≠ some b → w9.heap[b]? = w'.heap[b]? := fun b hb hne => hgrow.block b hb (fun e => hne e.symm)
                have hsame : (Value.slice ro q rc).ownBlock = (Value.slice ro o.length rc).ownBlock := by cases ro <;> rfl
                have hok : ∀ b, b < w'.heap.size → (Value.slice ro o.length rc).ownBlock ≠ some b → v'.ownBlock ≠ some b := by
                  intro b hb hne e
                  rcases hinfo with h | h
                  · rw [h, hsame] at e; exact hne e
                  · rw [h] at e; simp only [Option.some.injEq] at e; omega
                have HREPS : Hid (RepsM (fun b => w1.heap.size ≤ b ∧ v'.ownBlock ≠ some b) w9 (cm.take q ++ [[.int .i64 5, .bool xy, strV xt, .slice la i lc, .slice none 0 0]]) (treeOpen (l.take (j + 1)))) := Lib.hid (by
                  rw [HTQ.out]
                  refine RepsM.snoc ?_ ?_
                  · exact (HRT9.out.lt.keep fun b hb _ => hkeep b hb.2 (by rw [hsame]; exact hb.1.1.1.2)).mono fun b hb => ⟨hb.1.1.1.1, hok b hb.2 hb.1.1.1.2⟩
                  · exact (HRP9.out.lt.keep fun b hb _ => hkeep b hb.2 (by rw [hsame]; exact hb.1.1.2)).mono fun b hb => ⟨hb.1.1.1, hok b hb.2 hb.1.1.2⟩)
                have HBE := Lib.hid (below_own HB9.out HW9.out hgrow (by omega))
                have hlen9 : (treeOpen (l.take (j + 1))).length ≤ j + 1 := by rw [HTQ.out]; simp <;> omega
                have HALL2 : Hid ((l.take (j + 1)).all shortN = true) := Lib.hid (by rw [HALL.out, HSH.out, HSN.out]; rfl)
                clear hown' hgrow hinfo hkeep hok
                go_wp2_with fail
                go_roundg (gO - 1)
                case measure => omega
                case rel => exact ⟨j + 1, v', _, rfl, by first | rfl | (congr 1), by omega, hlen9, HALL2, HOWN, HREPS, HBE⟩
        · subst hk6
          rw [if_pos (.inr rfl)] at hn
          simp only at hn
          have hnn : (if (6 : Int) < (if (o.length : Int) < max xn 0 then (o.length : Int) else max xn 0) then (6 : Int) else if (o.length : Int) < max xn 0 then (o.length : Int) else max xn 0) = (n : Int) := by split <;> split <;> omega
          have hqn : o.length - q = n := by omega
          go_upto_region 14 with (fail)
          try simp only [hqn]
          have HKR := Lib.hid (kids_rd (q := q) HRO.out HRM.out.1 (reps_rows HRM.out) (by omega) hrc)
          generalize (if rc = q then ro else Option.map (fun x => x.add (q * 6)) ro) = KA at *
          have hdl : (o.drop q).length = n := by rw [List.length_drop]; exact hqn
          have HKM := Lib.hid (HRM.out.drop q)
          clear hnn m0 m1
          go_wp2_with fail
          go_loopg [62] n (fun k iv wr => ∃ (i : Nat) (LV : Value), iv = .int .i64 (i : Int) ∧ i + k = n ∧ Hid (wr.heap[w2.heap.size]? = some (.cells #[.int .i64 6, .bool xy, .string ⟨xt.toArray⟩, .slice none 0 0, LV] 31 (0, 0))) ∧ Hid (wr.ownsRow w3.heap.size 49 6 LV i (memCells ((o.drop q).take i) ((cm.drop q).take i))) ∧ Hid (ButV w3.heap.size w2.heap.size w2.heap.size w3 wr))
          case atStart => exact ⟨0, .slice none 0 0, rfl, by omega, HX3, Lib.hid (by simpa [memCells] using World.ownsRow_nil _ _ _ _), Lib.hid (ButV.refl _ _ _ _)⟩
          case round =>
            obtain ⟨i, LV, rfl, hi, HVB, HLV, HBV⟩ := hrel
            have hsz2 : w3.heap.size ≤ wr.heap.size := HBV.out.size
            by_cases hin : i < n
            · have hinI : (i : Int) < (n : Int) := by omega
              have HBR := Lib.hid (show Below wo.heap.size wo wr from HBX3.out.trans (below_butv HBV.out (by omega) (by omega)))
              obtain ⟨kb, koff, k2, y2, t2, a2, l2, c2, a3, l3, c3, eka, hcmi, g0, g1, g2, g3, g4, g5⟩ := mem_row (HKR.out.below HBR.out) (HKM.out.lt.keep fun b hb _ => HBR.out.block b hb.2) i (by omega)
              subst eka
              have HROW : Hid (memCells ((o.drop q).take (i + 1)) ((cm.drop q).take (i + 1)) = memCells ((o.drop q).take i) ((cm.drop q).take i) ++ (#[.string ⟨((o.drop q)[i]'(by omega)).1.toArray⟩, .int .i64 k2, .bool y2, .string ⟨t2⟩, .slice a2 l2 c2, .slice a3 l3 c3]).toList) := Lib.hid (by
                rw [List.take_succ_eq_append_getElem (by omega), List.take_succ_eq_append_getElem (by rw [HKM.out.1]; omega), memCells_snoc _ _ _ _ _ (by simp [HKM.out.1])]
                rw [List.getElem?_eq_getElem (by rw [HKM.out.1]; omega)] at hcmi
                simp only [Option.some.injEq] at hcmi
                rw [hcmi]
                rfl)
              generalize ((o.drop q)[i]'(by omega)).1 = nm at *
              go_upto_region 17 with (fail)
              generalize hw4 : wr.alloc _ = w4
              have hb4 : Below wr.heap.size wr w4 := by rw [← hw4]; exact (Below.refl _ _).alloc (Nat.le_refl _) _
              have hx4 : w4.heap[wr.heap.size]? = some (.cells #[.string ⟨nm.toArray⟩, .int .i64 k2, .bool y2, .string ⟨t2⟩, .slice a2 l2 c2, .slice a3 l3 c3] 49 (0, 0)) := by rw [← hw4]; exact heap_alloc_new _ _
              have hs4 : wr.heap.size < w4.heap.size := by rw [← hw4]; simp
              have HBV4 := Lib.hid (butv_below HBV.out (hb4.mono hsz2))
              have HVB4 := Lib.hid ((hb4.block _ (by omega)).trans HVB.out)
              have HLV4 := Lib.hid (own_below HLV.out hb4)
              have HNB4 := Lib.hid ((HBV4.out.block wo.heap.size (by omega) (by omega) (by omega)).trans HXN.out)
              clear hw4 hb4 g0 g1 g2 g3 g4 g5
              have m0 : w4.cell? ⟨wo.heap.size, 0, none⟩ = some (.int .i64 6) := by rw [Lib.cell_of_heap HNB4.out]; rfl
              have z : w4.cell? ⟨w2.heap.size, 4, none⟩ = some LV := by rw [Lib.cell_of_heap HVB4.out]; rfl
              have x0 : w4.cell? ⟨wr.heap.size, 0, none⟩ = some (.string ⟨nm.toArray⟩) := by rw [Lib.cell_of_heap hx4]; rfl
              have x1 : w4.cell? ⟨wr.heap.size, 1, none⟩ = some (.int .i64 k2) := by rw [Lib.cell_of_heap hx4]; rfl
              have x2 : w4.cell? ⟨wr.heap.size, 2, none⟩ = some (.bool y2) := by rw [Lib.cell_of_heap hx4]; rfl
              have x3 : w4.cell? ⟨wr.heap.size, 3, none⟩ = some (.string ⟨t2⟩) := by rw [Lib.cell_of_heap hx4]; rfl
              have x4 : w4.cell? ⟨wr.heap.size, 4, none⟩ = some (.slice a2 l2 c2) := by rw [Lib.cell_of_heap hx4]; rfl
              have x5 : w4.cell? ⟨wr.heap.size, 5, none⟩ = some (.slice a3 l3 c3) := by rw [Lib.cell_of_heap hx4]; rfl
              clear hx4
              go_wp2_with (at_builtin; refine wpList_append_at rfl (.tmp 77) (.tmp 79) 29 rfl w3.heap.size 49 6 96 Try.underlying29 (by kernel_rfl) (by decide) LV i _ rfl (HLV4.out.alloc _) w4.heap.size 1 #[.string ⟨nm.toArray⟩, .int .i64 k2, .bool y2, .string ⟨t2⟩, .slice a2 l2 c2, .slice a3 l3 c3] 49 (0, 0) (heap_alloc_new _ _) rfl rfl ?c2 ?c3 ?c4 ?c5 ?_)
              case c2 => exact ⟨rfl, rfl, rfl, rfl, rfl, rfl⟩
              case c3 => omega
              case c4 => omega
              case c5 => omega
              intro v' w6 hown' hgrow _
              obtain ⟨va, vc, hva, -, -⟩ := RdC.of_own hown'
              subst hva
              have hBg : Below w3.heap.size w4 w6 := below_own ((Below.refl _ _).alloc (by omega) _) (HLV4.out.alloc _) hgrow (by simp; omega)
              have hvb6 := (hBg.block w2.heap.size (by omega)).trans HVB4.out
              have HBV6 := Lib.hid (butv_below HBV4.out hBg)
              have zc : w6.cell? ⟨w2.heap.size, 4, none⟩ = some LV := by rw [Lib.cell_of_heap hvb6]; rfl
              have zf := Lib.frozen_of_heap hvb6 4
              have HVB7 := Lib.hid (setCell_block hvb6 (o := 4) (v := .slice va (i + 1) vc))
              have hbut : But w2.heap.size w6 (w6.setCell ⟨w2.heap.size, 4, none⟩ (.slice va (i + 1) vc)) := But.setCell _ _ _ _
              have HLV7 := Lib.hid (own_butg hown' hbut (by omega))
              have HBV7 := Lib.hid (HBV6.out.trans ⟨hbut.os, hbut.tape, hbut.output, hbut.size, fun k hk h1 _ => hbut.block k (by have := HBV6.out.size; omega) h1⟩)
              clear hown' hgrow hBg hvb6 hbut m0 z x0 x1 x2 x3 x4 x5
              go_wp2_with fail
              go_roundg (gk - 1)
              case measure => omega
              case rel => exact ⟨i + 1, .slice va (i + 1) vc, by first | rfl | (congr 1), by omega, Lib.hid (by have := HVB7.out; simpa using this), Lib.hid (by rw [HROW.out]; exact HLV7.out), HBV7⟩
            · have hinI : ¬ (i : Int) < (n : Int) := by omega
              obtain rfl : i = n := by omega
              have HBRE := Lib.hid (show Below wo.heap.size wo wr from HBX3.out.trans (below_butv HBV.out (by omega) (by omega)))
              obtain ⟨la, lc, hLV, hld, hlc⟩ := own_rdo HLV.out
              subst hLV
              have HRP : Hid (Rep (fun b => w1.heap.size ≤ b ∧ (Value.slice ro o.length rc).ownBlock ≠ some b) wr [.int .i64 6, .bool xy, strV xt, .slice none 0 0, .slice la i lc] (nodeJ ⟨6, xn, xy, xt, xm⟩ (o.drop q))) := Lib.hid (by
                have hfl : (cm.drop q).take i = cm.drop q := List.take_of_length_le (by rw [HKM.out.1]; omega)
                have hfo : (o.drop q).take i = o.drop q := List.take_of_length_le (by omega)
                rw [hfl, hfo] at hld
                have hkids := HKM.out.lt.keep fun b hb _ => (show wr.heap[b]? = wo.heap[b]? from HBRE.out.block b hb.2)
                have := rep_of (k := 6) (y := xy) (t := xt) (l := []) (m := o.drop q) (c := 0) (c' := lc) (a := none) (cl := []) (ok := fun b => w1.heap.size ≤ b ∧ (Value.slice ro o.length rc).ownBlock ≠ some b) (.inl rfl) (Reps.nil _ _) (hld.mono fun b hb => ⟨by omega, fun e => by have := HOB.out b e; omega⟩) (hkids.mono fun b hb => hb.1) (Nat.le_refl _) (by omega)
                unfold nodeJ
                rw [if_neg (show ¬ (6 : Int) = 5 by decide), if_neg (show ¬ (6 : Int) = 5 by decide)]
                rw [hdl] at this
                exact this)
              have HNB8 := Lib.hid ((HBV.out.block wo.heap.size (by omega) (by omega) (by omega)).trans HXN.out)
              have HVB8 := Lib.hid HVB.out
              have HTQ : Hid (treeOpen (l.take (j + 1)) = o.take q ++ [(xm, nodeJ ⟨6, xn, xy, xt, xm⟩ (o.drop q))]) := Lib.hid (by
                rw [HTS.out]
                unfold treeStep
                rw [HN.out, hq])
              have HW8 := Lib.hid (own_cut (own_below HW.out HBRE.out) q (by omega))
              have HRT := Lib.hid ((HRM.out.lt.keep fun b hb _ => (HBRE.out).block b hb.2).take q)
              have HB8 := Lib.hid (HB.out.trans ((HBRE.out).mono hszB))
              have hsz8 : w1.heap.size ≤ wr.heap.size := HB8.out.size
              go_upto_region 21 with (fail)
              refine wp_region_grow_tail 11 (by kernel_rfl) (by kernel_rfl) (by decide) (by kernel_rfl) [83, 84, 85, 86, 87, 88, 89, 90, 91, 92, 93] rfl (by decide) (by kernel_rfl) (fun iX => [VIs (Value.slice ro o.length rc), VIs (Value.slice ro o.length rc), VIs (Value.int .i64 ((o.length : Nat) : Int)), VIs (Value.int .i64 ((i : Nat) : Int)), VIs (Value.int .i64 ((q : Nat) : Int)), VIs (Value.slice ro q rc), VIs (Value.pointer (some ⟨wo.heap.size, 4, none⟩)), VIs (Value.string ⟨xm.toArray⟩), VIs (Value.agg #[.int .i64 6, .bool xy, .string ⟨xt.toArray⟩, .slice none 0 0, .slice la i lc]), VIs (Value.agg #[.string ⟨xm.toArray⟩, .int .i64 6, .bool xy, .string ⟨xt.toArray⟩, .slice none 0 0, .slice la i lc]), VM #[.string ⟨xm.toArray⟩, .int .i64 6, .bool xy, .string ⟨xt.toArray⟩, .slice none 0 0, .slice la i lc]].getD iX fun _ _ => True) (stab_list _ ?_) ?_ ?_
              · skip
                intro V hV
                simp only [List.mem_cons, List.mem_nil_iff, or_false] at hV
                rcases hV with rfl | rfl | rfl | rfl | rfl | rfl | rfl | rfl | rfl | rfl | rfl <;> first | exact VIs.stab _ | exact VM.stab _
              · intro iX op ho ax w' hf hb hd
                rcases iX with _ | _ | _ | _ | _ | _ | _ | _ | _ | _ | _ | iX
                · cases ho
                  refine grow_op rfl rfl rfl (grow_move rfl ?_)
                  exact (hf.same 4 (by decide)).trans rfl
                · cases ho
                  refine grow_op rfl rfl rfl (grow_move rfl ?_)
                  exact (hf.same 4 (by decide)).trans rfl
                · cases ho
                  refine grow_op rfl rfl rfl ?_
                  have e1 : ax.tmps.getD 84 undef = .slice ro o.length rc := hd 1 (by kernel_rfl)
                  refine grow_value (v := Value.int .i64 ((o.length : Nat) : Int)) (w' := w') ?_ rfl (Below.refl _ _)
                  simp only [execOp, resolve, invoke, builtin]
                  go_simp
                · cases ho
                  refine grow_op rfl rfl rfl (grow_move rfl ?_)
                  exact (hf.same 8 (by decide)).trans rfl
                · cases ho
                  refine grow_op rfl rfl rfl ?_
                  have e2 : ax.tmps.getD 85 undef = Value.int .i64 ((o.length : Nat) : Int) := hd 2 (by kernel_rfl)
                  have e3 : ax.tmps.getD 86 undef = Value.int .i64 ((i : Nat) : Int) := hd 3 (by kernel_rfl)
                  refine grow_value (v := Value.int .i64 ((q : Nat) : Int)) (w' := w') ?_ rfl (Below.refl _ _)
                  simp only [execOp, Act.eval, e2, e3]
                  go_simp
                  first | exact IntWalk.i64_in _ (by omega) | (rw [IntWalk.i64_in _ (by omega)]; omega)
                · cases ho
                  refine grow_op rfl rfl rfl ?_
                  have e0 : ax.tmps.getD 83 undef = .slice ro o.length rc := hd 0 (by kernel_rfl)
                  have e4 : ax.tmps.getD 87 undef = Value.int .i64 ((q : Nat) : Int) := hd 4 (by kernel_rfl)
                  refine grow_value (v := Value.slice ro q rc) (w' := w') ?_ rfl (Below.refl _ _)
                  simp only [execOp, Act.eval, e0]
                  go_simp
                  try (intro hx; omega)
                · cases ho
                  refine grow_op rfl rfl rfl ?_
                  have e6 : ax.tmps.getD 6 undef = .pointer (some ⟨wo.heap.size, 0, none⟩) := (hf.same 6 (by decide)).trans rfl
                  refine grow_value (v := Value.pointer (some ⟨wo.heap.size, 4, none⟩)) (w' := w') ?_ rfl (Below.refl _ _)
                  simp only [execOp, Act.eval, e6]
                  go_simp
                · cases ho
                  refine grow_op rfl rfl rfl ?_
                  have e6 : ax.tmps.getD 89 undef = Value.pointer (some ⟨wo.heap.size, 4, none⟩) := hd 6 (by kernel_rfl)
                  have c4 : w'.cell? ⟨wo.heap.size, 4, none⟩ = some (.string ⟨xm.toArray⟩) := by rw [Lib.cell_of_heap ((hb.block _ (by omega)).trans HNB8.out)]; rfl
                  refine grow_value (v := Value.string ⟨xm.toArray⟩) (w' := w') ?_ rfl (Below.refl _ _)
                  simp only [execOp, Act.eval, e6]
                  go_simp
                · cases ho
                  refine grow_op rfl rfl rfl ?_
                  have e7 : ax.tmps.getD 7 undef = .pointer (some ⟨w2.heap.size, 0, none⟩) := (hf.same 7 (by decide)).trans (by first | rfl | rw [hs2])
                  have hvb := (hb.block _ (by omega)).trans HVB8.out
                  have c0 : w'.cell? ⟨w2.heap.size, 0, none⟩ = some (.int .i64 6) := by rw [Lib.cell_of_heap hvb]; rfl
                  have c1 : w'.cell? ⟨w2.heap.size, 1, none⟩ = some (.bool xy) := by rw [Lib.cell_of_heap hvb]; rfl
                  have c2 : w'.cell? ⟨w2.heap.size, 2, none⟩ = some (.string ⟨xt.toArray⟩) := by rw [Lib.cell_of_heap hvb]; rfl
                  have c3 : w'.cell? ⟨w2.heap.size, 3, none⟩ = some (.slice none 0 0) := by rw [Lib.cell_of_heap hvb]; rfl
                  have c4 : w'.cell? ⟨w2.heap.size, 4, none⟩ = some (.slice la i lc) := by rw [Lib.cell_of_heap hvb]; rfl
                  refine grow_value (v := Value.agg #[.int .i64 6, .bool xy, .string ⟨xt.toArray⟩, .slice none 0 0, .slice la i lc]) (w' := w') ?_ rfl (Below.refl _ _)
                  simp only [execOp, Act.eval, e7]
                  go_simp
                · cases ho
                  refine grow_op rfl rfl rfl ?_
                  have e7 : ax.tmps.getD 90 undef = Value.string ⟨xm.toArray⟩ := hd 7 (by kernel_rfl)
                  have e8 : ax.tmps.getD 91 undef = Value.agg #[.int .i64 6, .bool xy, .string ⟨xt.toArray⟩, .slice none 0 0, .slice la i lc] := hd 8 (by kernel_rfl)
                  refine grow_value (v := Value.agg #[.string ⟨xm.toArray⟩, .int .i64 6, .bool xy, .string ⟨xt.toArray⟩, .slice none 0 0, .slice la i lc]) (w' := w') ?_ rfl (Below.refl _ _)
                  simp only [execOp, Act.eval, List.map_toArray, List.map_cons, List.map_nil, e7, e8]
                  go_simp
                  try rfl
                · cases ho
                  refine grow_op rfl rfl rfl ?_
                  have e9 : ax.tmps.getD 92 undef = Value.agg #[.string ⟨xm.toArray⟩, .int .i64 6, .bool xy, .string ⟨xt.toArray⟩, .slice none 0 0, .slice la i lc] := hd 9 (by kernel_rfl)
                  refine grow_value (v := .slice (some ⟨w'.heap.size, 0, none⟩) 1 1) (w' := w'.alloc (.cells #[.string ⟨xm.toArray⟩, .int .i64 6, .bool xy, .string ⟨xt.toArray⟩, .slice none 0 0, .slice la i lc] 49)) ?_ ⟨_, rfl, heap_alloc_new _ _⟩ ((Below.refl _ _).alloc (Nat.le_refl _) _)
                  simp only [execOp, Act.eval, List.map_toArray, List.map_cons, List.map_nil, e9]
                  go_simp
                  try rfl
                · simp at ho
              · intro ax w' hf hb hd
                obtain ⟨gb, hv93, hbk⟩ := hd 10 (by decide)
                obtain rfl := hf.eq [Value.slice ro o.length rc, Value.slice ro o.length rc, Value.int .i64 ((o.length : Nat) : Int), Value.int .i64 ((i : Nat) : Int), Value.int .i64 ((q : Nat) : Int), Value.slice ro q rc, Value.pointer (some ⟨wo.heap.size, 4, none⟩), Value.string ⟨xm.toArray⟩, Value.agg #[.int .i64 6, .bool xy, .string ⟨xt.toArray⟩, .slice none 0 0, .slice la i lc], Value.agg #[.string ⟨xm.toArray⟩, .int .i64 6, .bool xy, .string ⟨xt.toArray⟩, .slice none 0 0, .slice la i lc], Value.slice (some ⟨gb, 0, none⟩) 1 1] (fun j hj => match j, hj with
                  | 0, _ => hd 0 (by decide)
                  | 1, _ => hd 1 (by decide)
                  | 2, _ => hd 2 (by decide)
                  | 3, _ => hd 3 (by decide)
                  | 4, _ => hd 4 (by decide)
                  | 5, _ => hd 5 (by decide)
                  | 6, _ => hd 6 (by decide)
                  | 7, _ => hd 7 (by decide)
                  | 8, _ => hd 8 (by decide)
                  | 9, _ => hd 9 (by decide)
                  | 10, _ => hv93
                  | k + 11, h => absurd h (by simp)) (by decide) (by kernel_rfl) rfl
                simp only [List.zip_cons_cons, List.zip_nil_right, List.foldl_cons, List.foldl_nil, Act.put, List.setIfInBounds_toArray, List.set_cons_succ, List.set_cons_zero]
                have HW9 := Lib.hid (own_below HW8.out hb)
                have HB9 := Lib.hid (HB8.out.trans (hb.mono hsz8))
                have HRT9 := Lib.hid (HRT.out.lt.keep fun b hb' _ => hb.block b hb'.2)
                have HRP9 := Lib.hid (HRP.out.lt.keep fun b hb' _ => hb.block b hb'.2)
                have HG9 := Lib.hid hbk
                have hsz9 : wr.heap.size ≤ w'.heap.size := hb.size
                clear hd hf hb hbk hv93
                (refine wpList_append_at rfl (.tmp 88) (.tmp 93) 29 rfl w1.heap.size 49 6 96 Try.underlying29 (by kernel_rfl) (by decide) (.slice ro q rc) q _ rfl HW9.out gb 1 #[.string ⟨xm.toArray⟩, .int .i64 6, .bool xy, .string ⟨xt.toArray⟩, .slice none 0 0, .slice la i lc] 49 (0, 0) HG9.out rfl rfl ?c2 ?c3 ?c4 ?c5 ?_)
                case c2 => intro u hu; simp at hu; rcases hu with rfl | rfl | rfl | rfl | rfl | rfl <;> rfl
                case c3 => omega
                case c4 => omega
                case c5 => omega
                intro v' w9 hown' hgrow hinfo
                have HOWN : Hid (w9.ownsRow w1.heap.size 49 6 v' (treeOpen (l.take (j + 1))).length (memCells (treeOpen (l.take (j + 1))) (cm.take q ++ [[.int .i64 6, .bool xy, strV xt, .slice none 0 0, .slice la i lc]]))) := Lib.hid (by
                  rw [HTQ.out, memCells_snoc _ _ _ _ _ (by simp [HRM.out.1]), memCells_take o cm q HRM.out.1 (reps_rows HRM.out)]
                  have e : (o.take q ++ [(xm, nodeJ ⟨6, xn, xy, xt, xm⟩ (o.drop q))]).length = q + 1 := by simp <;> omega
                  rw [e]
                  exact hown')
                have hkeep : ∀ b, b < w'.heap.size → (Value.slice ro q rc).ownBlock ≠ some b → w9.heap[b]? = w'.heap[b]? := fun b hb hne => hgrow.block b hb (fun e => hne e.symm)
                have hsame : (Value.slice ro q rc).ownBlock = (Value.slice ro o.length rc).ownBlock := by cases ro <;> rfl
                have hok : ∀ b, b < w'.heap.size → (Value.slice ro o.length rc).ownBlock ≠ some b → v'.ownBlock ≠ some b := by
                  intro b hb hne e
                  rcases hinfo with h | h
                  · rw [h, hsame] at e; exact hne e
                  · rw [h] at e; simp only [Option.some.injEq] at e; omega
                have HREPS : Hid (RepsM (fun b => w1.heap.size ≤ b ∧ v'.ownBlock ≠ some b) w9 (cm.take q ++ [[.int .i64 6, .bool xy, strV xt, .slice none 0 0, .slice la i lc]]) (treeOpen (l.take (j + 1)))) := Lib.hid (by
                  rw [HTQ.out]
                  refine RepsM.snoc ?_ ?_
                  · exact (HRT9.out.lt.keep fun b hb _ => hkeep b hb.2 (by rw [hsame]; exact hb.1.1.1.2)).mono fun b hb => ⟨hb.1.1.1.1, hok b hb.2 hb.1.1.1.2⟩
                  · exact (HRP9.out.lt.keep fun b hb _ => hkeep b hb.2 (by rw [hsame]; exact hb.1.1.2)).mono fun b hb => ⟨hb.1.1.1, hok b hb.2 hb.1.1.2⟩)
                have HBE := Lib.hid (below_own HB9.out HW9.out hgrow (by omega))
                have hlen9 : (treeOpen (l.take (j + 1))).length ≤ j + 1 := by rw [HTQ.out]; simp <;> omega
                have HALL2 : Hid ((l.take (j + 1)).all shortN = true) := Lib.hid (by rw [HALL.out, HSH.out, HSN.out]; rfl)
                clear hown' hgrow hinfo hkeep hok
                go_wp2_with fail
                go_roundg (gO - 1)
                case measure => omega
                case rel => exact ⟨j + 1, v', _, rfl, by first | rfl | (congr 1), by omega, hlen9, HALL2, HOWN, HREPS, HBE⟩
        · have q5 : (xk == 5) = false := by simpa using hk5
          have q6 : (xk == 6) = false := by simpa using hk6
          rw [if_neg (by rintro (e | e); exact hk5 e; exact hk6 e)] at hn
          subst hn
          clear hq hqI q
          go_upto_region 14 with (fail)
          try simp only [Nat.sub_self]
          generalize (if rc = o.length then ro else Option.map (fun x => x.add (o.length * 6)) ro) = KA at *
          clear m0 m1
          go_wp2_with fail
          go_loopg [62] 0 (fun k iv wr => iv = .int .i64 0 ∧ wr = w3)
          case atStart => exact ⟨rfl, rfl⟩
          case round =>
            obtain ⟨rfl, rfl⟩ := hrel
            have HRP : Hid (Rep (fun b => w1.heap.size ≤ b ∧ (Value.slice ro o.length rc).ownBlock ≠ some b) wr [.int .i64 xk, .bool xy, strV xt, .slice none 0 0, .slice none 0 0] (nodeJ ⟨xk, xn, xy, xt, xm⟩ (o.drop o.length))) := Lib.hid (by
              rw [List.drop_of_length_le (Nat.le_refl _)]
              unfold nodeJ
              rw [if_neg hk5, if_neg hk5]
              exact Rep.leaf _ _ xk xy xt)
            have HNB8 := Lib.hid HXN.out
            have HVB8 := Lib.hid HX3.out
            have HTQ : Hid (treeOpen (l.take (j + 1)) = o.take o.length ++ [(xm, nodeJ ⟨xk, xn, xy, xt, xm⟩ (o.drop o.length))]) := Lib.hid (by
              rw [HTS.out]
              unfold treeStep
              rw [HN.out, Nat.sub_zero])
            have HW8 := Lib.hid (own_cut (own_below HW.out HBX3.out) o.length (by omega))
            have HRT := Lib.hid ((HRM.out.lt.keep fun b hb _ => (HBX3.out).block b hb.2).take o.length)
            have HB8 := Lib.hid (HB.out.trans ((HBX3.out).mono hszB))
            have hsz8 : w1.heap.size ≤ wr.heap.size := HB8.out.size
            go_upto_region 21 with (fail)
            refine wp_region_grow_tail 11 (by kernel_rfl) (by kernel_rfl) (by decide) (by kernel_rfl) [83, 84, 85, 86, 87, 88, 89, 90, 91, 92, 93] rfl (by decide) (by kernel_rfl) (fun iX => [VIs (Value.slice ro o.length rc), VIs (Value.slice ro o.length rc), VIs (Value.int .i64 ((o.length : Nat) : Int)), VIs (Value.int .i64 ((0 : Nat) : Int)), VIs (Value.int .i64 ((o.length : Nat) : Int)), VIs (Value.slice ro o.length rc), VIs (Value.pointer (some ⟨wo.heap.size, 4, none⟩)), VIs (Value.string ⟨xm.toArray⟩), VIs (Value.agg #[.int .i64 xk, .bool xy, .string ⟨xt.toArray⟩, .slice none 0 0, .slice none 0 0]), VIs (Value.agg #[.string ⟨xm.toArray⟩, .int .i64 xk, .bool xy, .string ⟨xt.toArray⟩, .slice none 0 0, .slice none 0 0]), VM #[.string ⟨xm.toArray⟩, .int .i64 xk, .bool xy, .string ⟨xt.toArray⟩, .slice none 0 0, .slice none 0 0]].getD iX fun _ _ => True) (stab_list _ ?_) ?_ ?_
            · skip
              intro V hV
              simp only [List.mem_cons, List.mem_nil_iff, or_false] at hV
              rcases hV with rfl | rfl | rfl | rfl | rfl | rfl | rfl | rfl | rfl | rfl | rfl <;> first | exact VIs.stab _ | exact VM.stab _
            · intro iX op ho ax w' hf hb hd
              rcases iX with _ | _ | _ | _ | _ | _ | _ | _ | _ | _ | _ | iX
              · cases ho
                refine grow_op rfl rfl rfl (grow_move rfl ?_)
                exact (hf.same 4 (by decide)).trans rfl
              · cases ho
                refine grow_op rfl rfl rfl (grow_move rfl ?_)
                exact (hf.same 4 (by decide)).trans rfl
              · cases ho
                refine grow_op rfl rfl rfl ?_
                have e1 : ax.tmps.getD 84 undef = .slice ro o.length rc := hd 1 (by kernel_rfl)
                refine grow_value (v := Value.int .i64 ((o.length : Nat) : Int)) (w' := w') ?_ rfl (Below.refl _ _)
                simp only [execOp, resolve, invoke, builtin]
                go_simp
              · cases ho
                refine grow_op rfl rfl rfl (grow_move rfl ?_)
                exact (hf.same 8 (by decide)).trans rfl
              · cases ho
                refine grow_op rfl rfl rfl ?_
                have e2 : ax.tmps.getD 85 undef = Value.int .i64 ((o.length : Nat) : Int) := hd 2 (by kernel_rfl)
                have e3 : ax.tmps.getD 86 undef = Value.int .i64 ((0 : Nat) : Int) := hd 3 (by kernel_rfl)
                refine grow_value (v := Value.int .i64 ((o.length : Nat) : Int)) (w' := w') ?_ rfl (Below.refl _ _)
                simp only [execOp, Act.eval, e2, e3]
                go_simp
                first | exact IntWalk.i64_in _ (by omega) | (rw [IntWalk.i64_in _ (by omega)]; omega)
              · cases ho
                refine grow_op rfl rfl rfl ?_
                have e0 : ax.tmps.getD 83 undef = .slice ro o.length rc := hd 0 (by kernel_rfl)
                have e4 : ax.tmps.getD 87 undef = Value.int .i64 ((o.length : Nat) : Int) := hd 4 (by kernel_rfl)
                refine grow_value (v := Value.slice ro o.length rc) (w' := w') ?_ rfl (Below.refl _ _)
                simp only [execOp, Act.eval, e0]
                go_simp
                try (intro hx; omega)
              · cases ho
                refine grow_op rfl rfl rfl ?_
                have e6 : ax.tmps.getD 6 undef = .pointer (some ⟨wo.heap.size, 0, none⟩) := (hf.same 6 (by decide)).trans rfl
                refine grow_value (v := Value.pointer (some ⟨wo.heap.size, 4, none⟩)) (w' := w') ?_ rfl (Below.refl _ _)
                simp only [execOp, Act.eval, e6]
                go_simp
              · cases ho
                refine grow_op rfl rfl rfl ?_
                have e6 : ax.tmps.getD 89 undef = Value.pointer (some ⟨wo.heap.size, 4, none⟩) := hd 6 (by kernel_rfl)
                have c4 : w'.cell? ⟨wo.heap.size, 4, none⟩ = some (.string ⟨xm.toArray⟩) := by rw [Lib.cell_of_heap ((hb.block _ (by omega)).trans HNB8.out)]; rfl
                refine grow_value (v := Value.string ⟨xm.toArray⟩) (w' := w') ?_ rfl (Below.refl _ _)
                simp only [execOp, Act.eval, e6]
                go_simp
              · cases ho
                refine grow_op rfl rfl rfl ?_
                have e7 : ax.tmps.getD 7 undef = .pointer (some ⟨w2.heap.size, 0, none⟩) := (hf.same 7 (by decide)).trans (by first | rfl | rw [hs2])
                have hvb := (hb.block _ (by omega)).trans HVB8.out
                have c0 : w'.cell? ⟨w2.heap.size, 0, none⟩ = some (.int .i64 xk) := by rw [Lib.cell_of_heap hvb]; rfl
                have c1 : w'.cell? ⟨w2.heap.size, 1, none⟩ = some (.bool xy) := by rw [Lib.cell_of_heap hvb]; rfl
                have c2 : w'.cell? ⟨w2.heap.size, 2, none⟩ = some (.string ⟨xt.toArray⟩) := by rw [Lib.cell_of_heap hvb]; rfl
                have c3 : w'.cell? ⟨w2.heap.size, 3, none⟩ = some (.slice none 0 0) := by rw [Lib.cell_of_heap hvb]; rfl
                have c4 : w'.cell? ⟨w2.heap.size, 4, none⟩ = some (.slice none 0 0) := by rw [Lib.cell_of_heap hvb]; rfl
                refine grow_value (v := Value.agg #[.int .i64 xk, .bool xy, .string ⟨xt.toArray⟩, .slice none 0 0, .slice none 0 0]) (w' := w') ?_ rfl (Below.refl _ _)
                simp only [execOp, Act.eval, e7]
                go_simp
              · cases ho
                refine grow_op rfl rfl rfl ?_
                have e7 : ax.tmps.getD 90 undef = Value.string ⟨xm.toArray⟩ := hd 7 (by kernel_rfl)
                have e8 : ax.tmps.getD 91 undef = Value.agg #[.int .i64 xk, .bool xy, .string ⟨xt.toArray⟩, .slice none 0 0, .slice none 0 0] := hd 8 (by kernel_rfl)
                refine grow_value (v := Value.agg #[.string ⟨xm.toArray⟩, .int .i64 xk, .bool xy, .string ⟨xt.toArray⟩, .slice none 0 0, .slice none 0 0]) (w' := w') ?_ rfl (Below.refl _ _)
                simp only [execOp, Act.eval, List.map_toArray, List.map_cons, List.map_nil, e7, e8]
                go_simp
                try rfl
              · cases ho
                refine grow_op rfl rfl rfl ?_
                have e9 : ax.tmps.getD 92 undef = Value.agg #[.string ⟨xm.toArray⟩, .int .i64 xk, .bool xy, .string ⟨xt.toArray⟩, .slice none 0 0, .slice none 0 0] := hd 9 (by kernel_rfl)
                refine grow_value (v := .slice (some ⟨w'.heap.size, 0, none⟩) 1 1) (w' := w'.alloc (.cells #[.string ⟨xm.toArray⟩, .int .i64 xk, .bool xy, .string ⟨xt.toArray⟩, .slice none 0 0, .slice none 0 0] 49)) ?_ ⟨_, rfl, heap_alloc_new _ _⟩ ((Below.refl _ _).alloc (Nat.le_refl _) _)
                simp only [execOp, Act.eval, List.map_toArray, List.map_cons, List.map_nil, e9]
                go_simp
                try rfl
              · simp at ho
            · intro ax w' hf hb hd
              obtain ⟨gb, hv93, hbk⟩ := hd 10 (by decide)
              obtain rfl := hf.eq [Value.slice ro o.length rc, Value.slice ro o.length rc, Value.int .i64 ((o.length : Nat) : Int), Value.int .i64 ((0 : Nat) : Int), Value.int .i64 ((o.length : Nat) : Int), Value.slice ro o.length rc, Value.pointer (some ⟨wo.heap.size, 4, none⟩), Value.string ⟨xm.toArray⟩, Value.agg #[.int .i64 xk, .bool xy, .string ⟨xt.toArray⟩, .slice none 0 0, .slice none 0 0], Value.agg #[.string ⟨xm.toArray⟩, .int .i64 xk, .bool xy, .string ⟨xt.toArray⟩, .slice none 0 0, .slice none 0 0], Value.slice (some ⟨gb, 0, none⟩) 1 1] (fun j hj => match j, hj with
                | 0, _ => hd 0 (by decide)
                | 1, _ => hd 1 (by decide)
                | 2, _ => hd 2 (by decide)
                | 3, _ => hd 3 (by decide)
                | 4, _ => hd 4 (by decide)
                | 5, _ => hd 5 (by decide)
                | 6, _ => hd 6 (by decide)
                | 7, _ => hd 7 (by decide)
                | 8, _ => hd 8 (by decide)
                | 9, _ => hd 9 (by decide)
                | 10, _ => hv93
                | k + 11, h => absurd h (by simp)) (by decide) (by kernel_rfl) rfl
              simp only [List.zip_cons_cons, List.zip_nil_right, List.foldl_cons, List.foldl_nil, Act.put, List.setIfInBounds_toArray, List.set_cons_succ, List.set_cons_zero]
              have HW9 := Lib.hid (own_below HW8.out hb)
              have HB9 := Lib.hid (HB8.out.trans (hb.mono hsz8))
              have HRT9 := Lib.hid (HRT.out.lt.keep fun b hb' _ => hb.block b hb'.2)
              have HRP9 := Lib.hid (HRP.out.lt.keep fun b hb' _ => hb.block b hb'.2)
              have HG9 := Lib.hid hbk
              have hsz9 : wr.heap.size ≤ w'.heap.size := hb.size
              clear hd hf hb hbk hv93
              (refine wpList_append_at rfl (.tmp 88) (.tmp 93) 29 rfl w1.heap.size 49 6 96 Try.underlying29 (by kernel_rfl) (by decide) (.slice ro o.length rc) o.length _ rfl HW9.out gb 1 #[.string ⟨xm.toArray⟩, .int .i64 xk, .bool xy, .string ⟨xt.toArray⟩, .slice none 0 0, .slice none 0 0] 49 (0, 0) HG9.out rfl rfl ?c2 ?c3 ?c4 ?c5 ?_)
              case c2 => intro u hu; simp at hu; rcases hu with rfl | rfl | rfl | rfl | rfl | rfl <;> rfl
              case c3 => omega
              case c4 => omega
              case c5 => omega
              intro v' w9 hown' hgrow hinfo
              have HOWN : Hid (w9.ownsRow w1.heap.size 49 6 v' (treeOpen (l.take (j + 1))).length (memCells (treeOpen (l.take (j + 1))) (cm.take o.length ++ [[.int .i64 xk, .bool xy, strV xt, .slice none 0 0, .slice none 0 0]]))) := Lib.hid (by
                rw [HTQ.out, memCells_snoc _ _ _ _ _ (by simp [HRM.out.1]), memCells_take o cm o.length HRM.out.1 (reps_rows HRM.out)]
                have e : (o.take o.length ++ [(xm, nodeJ ⟨xk, xn, xy, xt, xm⟩ (o.drop o.length))]).length = o.length + 1 := by simp <;> omega
                rw [e]
                exact hown')
              have hkeep : ∀ b, b < w'.heap.size → (Value.slice ro o.length rc).ownBlock ≠ some b → w9.heap[b]? = w'.heap[b]? := fun b hb hne => hgrow.block b hb (fun e => hne e.symm)
              have hsame : (Value.slice ro o.length rc).ownBlock = (Value.slice ro o.length rc).ownBlock := by cases ro <;> rfl
              have hok : ∀ b, b < w'.heap.size → (Value.slice ro o.length rc).ownBlock ≠ some b → v'.ownBlock ≠ some b := by
                intro b hb hne e
                rcases hinfo with h | h
                · rw [h, hsame] at e; exact hne e
                · rw [h] at e; simp only [Option.some.injEq] at e; omega
              have HREPS : Hid (RepsM (fun b => w1.heap.size ≤ b ∧ v'.ownBlock ≠ some b) w9 (cm.take o.length ++ [[.int .i64 xk, .bool xy, strV xt, .slice none 0 0, .slice none 0 0]]) (treeOpen (l.take (j + 1)))) := Lib.hid (by
                rw [HTQ.out]
                refine RepsM.snoc ?_ ?_
                · exact (HRT9.out.lt.keep fun b hb _ => hkeep b hb.2 (by rw [hsame]; exact hb.1.1.1.2)).mono fun b hb => ⟨hb.1.1.1.1, hok b hb.2 hb.1.1.1.2⟩
                · exact (HRP9.out.lt.keep fun b hb _ => hkeep b hb.2 (by rw [hsame]; exact hb.1.1.2)).mono fun b hb => ⟨hb.1.1.1, hok b hb.2 hb.1.1.2⟩)
              have HBE := Lib.hid (below_own HB9.out HW9.out hgrow (by omega))
              have hlen9 : (treeOpen (l.take (j + 1))).length ≤ j + 1 := by rw [HTQ.out]; simp <;> omega
              have HALL2 : Hid ((l.take (j + 1)).all shortN = true) := Lib.hid (by rw [HALL.out, HSH.out, HSN.out]; rfl)
              clear hown' hgrow hinfo hkeep hok
              go_wp2_with fail
              go_roundg (gO - 1)
              case measure => omega
              case rel => exact ⟨j + 1, v', _, rfl, by first | rfl | (congr 1), by omega, hlen9, HALL2, HOWN, HREPS, HBE⟩
      · have hge : ¬ (j : Int) < (l.length : Int) := by omega
        obtain rfl : j = l.length := by omega
        have hta : l.take l.length = l := List.take_of_length_le (Nat.le_refl _)
        have HTV2 : Hid (treeV l = (treeOpen (l.take l.length)).getLast?.map Prod.snd) := Lib.hid (by
          have h1 := HSH.out
          rw [hta] at h1
          rw [HTV.out, if_pos ⟨hl, h1⟩, hta])
        generalize treeOpen (l.take l.length) = o at *
        clear hta
        have HBW := Lib.hid (HB1.out.trans (HB.out.mono (by omega)))
        have HRZ := Lib.hid ((HB.out.block w.heap.size (by omega)).trans HX1.out)
        by_cases ho : o.length = 0
        · have HNN : Hid (treeV l = none) := Lib.hid (by
            rw [HTV2.out, List.eq_nil_of_length_eq_zero ho]; rfl)
          have hoI : ((o.length : Int) == 0) = true := by rw [ho]; rfl
          clear ho
          have d0 : wo.cell? ⟨w.heap.size, 0, none⟩ = some (.int .i64 0) := by rw [Lib.cell_of_heap HRZ.out]; rfl
          have d1 : wo.cell? ⟨w.heap.size, 1, none⟩ = some (.bool false) := by rw [Lib.cell_of_heap HRZ.out]; rfl
          have d2 : wo.cell? ⟨w.heap.size, 2, none⟩ = some (.string ⟨#[]⟩) := by rw [Lib.cell_of_heap HRZ.out]; rfl
          have d3 : wo.cell? ⟨w.heap.size, 3, none⟩ = some (.slice none 0 0) := by rw [Lib.cell_of_heap HRZ.out]; rfl
          have d4 : wo.cell? ⟨w.heap.size, 4, none⟩ = some (.slice none 0 0) := by rw [Lib.cell_of_heap HRZ.out]; rfl
          have f0 := Lib.frozen_of_heap HRZ.out 0
          have f1 := Lib.frozen_of_heap HRZ.out 1
          have f2 := Lib.frozen_of_heap HRZ.out 2
          have f3 := Lib.frozen_of_heap HRZ.out 3
          have f4 := Lib.frozen_of_heap HRZ.out 4
          go_wp2_with fail
          have hst := value_stored HRZ.out (.int .i64 0) (.bool false) (.string ⟨#[]⟩) (.slice none 0 0) (.slice none 0 0)
          have hbe := zero_stored HBW.out (Nat.le_refl _) (.int .i64 0) (.bool false) (.string ⟨#[]⟩) (.slice none 0 0) (.slice none 0 0)
          have e0 := Lib.cell_of_heap hst 0
          have e1 := Lib.cell_of_heap hst 1
          have e2 := Lib.cell_of_heap hst 2
          have e3 := Lib.cell_of_heap hst 3
          have e4 := Lib.cell_of_heap hst 4
          simp only [List.getElem?_toArray] at e0 e1 e2 e3 e4
          refine bodyPost_ret (v := .tuple #[.agg #[.int .i64 0, .bool false, .string ⟨#[]⟩, .slice none 0 0, .slice none 0 0], .bool false]) (by simp [results, Try.results13, go_sem, e0, e1, e2, e3, e4]) rfl ?_
          exact ⟨hbe, zero5, by rw [HNN.out]; rfl, by rw [HNN.out]; exact Rep.leaf _ _ 0 false []⟩
        · have hoI : ((o.length : Int) == 0) = false := by rw [beq_eq_false_iff_ne]; omega
          obtain ⟨m, hm⟩ : ∃ m, o.length = m + 1 := ⟨o.length - 1, by omega⟩
          have hmI : ((o.length : Nat) : Int) - 1 = (m : Int) := by omega
          obtain ⟨kb, koff, k2, y2, t2, a2, l2, c2, a3, l3, c3, ero, hcmi, g0, g1, g2, g3, g4, g5⟩ := mem_row HRO.out HRM.out m (by omega)
          subst ero
          have HSS : Hid (treeV l = some (o[m]'(by omega)).2) := Lib.hid (by
            rw [HTV2.out, List.getLast?_eq_getElem?, show o.length - 1 = m by omega, List.getElem?_eq_getElem (by omega)]
            rfl)
          have HREP : Hid (Rep (fun b => w1.heap.size ≤ b ∧ b < wo.heap.size) wo [.int .i64 k2, .bool y2, .string ⟨t2⟩, .slice a2 l2 c2, .slice a3 l3 c3] (o[m]'(by omega)).2) := Lib.hid (by
            have h1 := HRM.out.lt.2 m (by rw [HRM.out.1]; omega) (by omega)
            rw [List.getElem?_eq_getElem (by rw [HRM.out.1]; omega)] at hcmi
            simp only [Option.some.injEq] at hcmi
            rw [hcmi] at h1
            exact h1.mono fun b hb => ⟨hb.1.1, hb.2⟩)
          have hmo : m < o.length := by omega
          clear hcmi g0
          generalize (o[m]'(by omega)).2 = OV at HSS HREP
          clear ho hm
          have d0 : wo.cell? ⟨w.heap.size, 0, none⟩ = some (.int .i64 0) := by rw [Lib.cell_of_heap HRZ.out]; rfl
          have d1 : wo.cell? ⟨w.heap.size, 1, none⟩ = some (.bool false) := by rw [Lib.cell_of_heap HRZ.out]; rfl
          have d2 : wo.cell? ⟨w.heap.size, 2, none⟩ = some (.string ⟨#[]⟩) := by rw [Lib.cell_of_heap HRZ.out]; rfl
          have d3 : wo.cell? ⟨w.heap.size, 3, none⟩ = some (.slice none 0 0) := by rw [Lib.cell_of_heap HRZ.out]; rfl
          have d4 : wo.cell? ⟨w.heap.size, 4, none⟩ = some (.slice none 0 0) := by rw [Lib.cell_of_heap HRZ.out]; rfl
          have f0 := Lib.frozen_of_heap HRZ.out 0
          have f1 := Lib.frozen_of_heap HRZ.out 1
          have f2 := Lib.frozen_of_heap HRZ.out 2
          have f3 := Lib.frozen_of_heap HRZ.out 3
          have f4 := Lib.frozen_of_heap HRZ.out 4
          go_wp2_with fail
          have hst := value_stored HRZ.out (.int .i64 k2) (.bool y2) (.string ⟨t2⟩) (.slice a2 l2 c2) (.slice a3 l3 c3)
          have hbe := zero_stored HBW.out (Nat.le_refl _) (.int .i64 k2) (.bool y2) (.string ⟨t2⟩) (.slice a2 l2 c2) (.slice a3 l3 c3)
          have e0 := Lib.cell_of_heap hst 0
          have e1 := Lib.cell_of_heap hst 1
          have e2 := Lib.cell_of_heap hst 2
          have e3 := Lib.cell_of_heap hst 3
          have e4 := Lib.cell_of_heap hst 4
          simp only [List.getElem?_toArray] at e0 e1 e2 e3 e4
          refine bodyPost_ret (v := .tuple #[.agg #[.int .i64 k2, .bool y2, .string ⟨t2⟩, .slice a2 l2 c2, .slice a3 l3 c3], .bool true]) (by simp [results, Try.results13, go_sem, e0, e1, e2, e3, e4]) rfl ?_
          exact ⟨hbe, [.int .i64 k2, .bool y2, .string ⟨t2⟩, .slice a2 l2 c2, .slice a3 l3 c3], by rw [HSS.out]; rfl, by
            rw [HSS.out]
            refine (HREP.out.keep fun b hb hlt => ?_).mono fun b hb => (show w.heap.size ≤ b by omega)
            exact stored_other _ _ _ _ _ _ _ (by omega)⟩
  · have hlI : (40 : Int) < (l.length : Int) := by omega
    have HNN : Hid (treeV l = none) := Lib.hid (by rw [HTV.out, if_neg (fun h => hl h.1)])
    have HRZ := Lib.hid HX1.out
    have d0 : w1.cell? ⟨w.heap.size, 0, none⟩ = some (.int .i64 0) := by rw [Lib.cell_of_heap HRZ.out]; rfl
    have d1 : w1.cell? ⟨w.heap.size, 1, none⟩ = some (.bool false) := by rw [Lib.cell_of_heap HRZ.out]; rfl
    have d2 : w1.cell? ⟨w.heap.size, 2, none⟩ = some (.string ⟨#[]⟩) := by rw [Lib.cell_of_heap HRZ.out]; rfl
    have d3 : w1.cell? ⟨w.heap.size, 3, none⟩ = some (.slice none 0 0) := by rw [Lib.cell_of_heap HRZ.out]; rfl
    have d4 : w1.cell? ⟨w.heap.size, 4, none⟩ = some (.slice none 0 0) := by rw [Lib.cell_of_heap HRZ.out]; rfl
    have f0 := Lib.frozen_of_heap HRZ.out 0
    have f1 := Lib.frozen_of_heap HRZ.out 1
    have f2 := Lib.frozen_of_heap HRZ.out 2
    have f3 := Lib.frozen_of_heap HRZ.out 3
    have f4 := Lib.frozen_of_heap HRZ.out 4
    go_wp2_with fail
    have hst := value_stored HRZ.out (.int .i64 0) (.bool false) (.string ⟨#[]⟩) (.slice none 0 0) (.slice none 0 0)
    have hbe := zero_stored HB1.out (Nat.le_refl _) (.int .i64 0) (.bool false) (.string ⟨#[]⟩) (.slice none 0 0) (.slice none 0 0)
    have e0 := Lib.cell_of_heap hst 0
    have e1 := Lib.cell_of_heap hst 1
    have e2 := Lib.cell_of_heap hst 2
    have e3 := Lib.cell_of_heap hst 3
    have e4 := Lib.cell_of_heap hst 4
    simp only [List.getElem?_toArray] at e0 e1 e2 e3 e4
    refine bodyPost_ret (v := .tuple #[.agg #[.int .i64 0, .bool false, .string ⟨#[]⟩, .slice none 0 0, .slice none 0 0], .bool false]) (by simp [results, Try.results13, go_sem, e0, e1, e2, e3, e4]) rfl ?_
    exact ⟨hbe, zero5, by rw [HNN.out]; rfl, by rw [HNN.out]; exact Rep.leaf _ _ 0 false []⟩
end Go.Proofs.Ytgcfikiajingcaa
/- A parameter that is a row of nodes, opened. -/
set_option linter.unusedVariables false
namespace Go.Proofs.Ytgcfikiajingcaa
open Go.RowKit

section
variable {H : Type} {enc : TypeId × Value → H} {w : World} {base : Nat} {spare : Nat → Bool} {held : Bool}
theorem cellsNode : Try.prog.cellsOf 69 = 5 := by kernel_rfl
theorem cellsStrN : Try.prog.cellsOf 9 = 1 := by kernel_rfl
theorem cellsIntN : Try.prog.cellsOf 3 = 1 := by kernel_rfl
theorem cellsBoolN : Try.prog.cellsOf 4 = 1 := by kernel_rfl
theorem ndCell_len (x : ND) : (ndCell x).length = 5 := rfl
set_option maxRecDepth 100000 in
/-- One node. -/
theorem open_node {fuel : Nat} {cs : List Value} {x : DataW H × List MemPlace} (h : DataW.trod enc Try.prog w base spare held fuel 69 cs = some x) :
    ∃ p : ND, cs = ndCell p := by
  obtain ⟨ys, n, _, _, hlen, _, hf⟩ := DataW.trod_struct Try.underlying69 h
  rw [cellsNode] at hlen
  match cs, hlen with
  | [c0, c1, c2, c3, c4], _ =>
    have f0 : DataW.trod enc Try.prog w base spare held n 3 (([c0, c1, c2, c3, c4].drop 0).take (Try.prog.cellsOf 3)) = ys[0]? := hf 0 _ rfl
    have f1 : DataW.trod enc Try.prog w base spare held n 3 (([c0, c1, c2, c3, c4].drop 1).take (Try.prog.cellsOf 3)) = ys[1]? := hf 1 _ rfl
    have f2 : DataW.trod enc Try.prog w base spare held n 4 (([c0, c1, c2, c3, c4].drop 2).take (Try.prog.cellsOf 4)) = ys[2]? := hf 2 _ rfl
    have f3 : DataW.trod enc Try.prog w base spare held n 9 (([c0, c1, c2, c3, c4].drop 3).take (Try.prog.cellsOf 9)) = ys[3]? := hf 3 _ rfl
    have f4 : DataW.trod enc Try.prog w base spare held n 9 (([c0, c1, c2, c3, c4].drop 4).take (Try.prog.cellsOf 9)) = ys[4]? := hf 4 _ rfl
    rw [cellsIntN] at f0 f1
    rw [cellsBoolN] at f2
    rw [cellsStrN] at f3 f4
    have g : ∀ i, i < 5 → ∃ y, ys[i]? = some y := by
      intro i hi
      cases e : ys[i]? with
      | some y => exact ⟨y, rfl⟩
      | none => exfalso; simp at e; simp_all; omega
    obtain ⟨y0, e0⟩ := g 0 (by omega)
    obtain ⟨y1, e1⟩ := g 1 (by omega)
    obtain ⟨y2, e2⟩ := g 2 (by omega)
    obtain ⟨y3, e3⟩ := g 3 (by omega)
    obtain ⟨y4, e4⟩ := g 4 (by omega)
    rw [e0] at f0
    rw [e1] at f1
    rw [e2] at f2
    rw [e3] at f3
    rw [e4] at f4
    obtain ⟨x0, h0, _, _⟩ := DataW.trod_int Try.underlying3 f0
    obtain ⟨x1, h1, _, _⟩ := DataW.trod_int Try.underlying3 f1
    obtain ⟨x2, h2, _⟩ := DataW.trod_bool Try.underlying4 f2
    obtain ⟨s3, h3, _, _⟩ := DataW.trod_string Try.underlying9 f3
    obtain ⟨s4, h4, _, _⟩ := DataW.trod_string Try.underlying9 f4
    simp at h0 h1 h2 h3 h4
    subst h0 h1 h2 h3 h4
    exact ⟨⟨x0, x1, x2, s3.data.toList, s4.data.toList⟩, rfl⟩
set_option maxRecDepth 100000 in
/-- A row of nodes. -/
theorem open_nodes {fuel : Nat} {a : Option Addr} {len cap : Nat} {x : DataW H × List MemPlace} (h : DataW.trod enc Try.prog w base spare held fuel 40 [.slice a len cap] = some x) :
    ∃ l : List ND, len = l.length ∧ RdC w a (l.flatMap ndCell) ∧ l.length ≤ maxLen := by
  rcases Go.Deep.open_slice Try.underlying40 h with ⟨h0, _⟩ | ⟨ad, len', cap', m, n, D, Pl, h0, hb, hl, hm, hmm, hx, hi⟩
  · simp at h0
    obtain ⟨rfl, rfl, rfl⟩ := h0
    exact ⟨[], rfl, .inl rfl, Nat.zero_le _⟩
  · simp at h0
    obtain ⟨rfl, rfl, rfl⟩ := h0
    have hml : len ≤ m := by rw [hmm]; split <;> omega
    rw [cellsNode] at hi
    have key : ∀ i, i < len → ∃ p : ND, ∀ j, j < 5 → w.cell? ((ad.add (i * 5)).add j) = some ((ndCell p).getD j undef) := by
      intro i hil
      obtain ⟨cs', hc, ht⟩ := hi i (by omega)
      obtain ⟨p, rfl⟩ := open_node ht
      obtain ⟨_, _, hat⟩ := World.cells?_some hc
      refine ⟨p, fun j hj => ?_⟩
      rw [hat j (by omega)]
      rw [List.getD_eq_getElem?_getD, List.getElem?_eq_getElem (by rw [ndCell_len]; exact hj)]
      rfl
    by_cases h0 : len = 0
    · subst h0
      exact ⟨[], rfl, .inl rfl, Nat.zero_le _⟩
    · have hsp : ad.spot = none := by
        obtain ⟨p, h1⟩ := key 0 (by omega)
        have h1 := h1 0 (by omega)
        obtain ⟨b, off, spot⟩ := ad
        cases spot with
        | none => rfl
        | some k =>
          have e0 : ((⟨b, off, some k⟩ : Addr).add (0 * 5)).add 0 = ⟨b, off, some k⟩ := by simp [Addr.add]
          rw [e0] at h1
          unfold World.cell? at h1
          split at h1 <;> simp at h1
      obtain ⟨b, off, spot⟩ := ad
      simp only at hsp
      subst hsp
      have key2 : ∀ i, ∃ p : ND, i < len → ∀ j, j < 5 → w.cell? ⟨b, off + i * 5 + j, none⟩ = some ((ndCell p).getD j undef) := by
        intro i
        by_cases h : i < len
        · obtain ⟨p, h2⟩ := key i h
          simp only [Addr.add_lit] at h2
          exact ⟨p, fun _ => h2⟩
        · exact ⟨⟨0, 0, false, [], []⟩, fun h' => absurd h' h⟩
      obtain ⟨f, hf⟩ : ∃ f : Nat → ND, ∀ i, i < len → ∀ j, j < 5 → w.cell? ⟨b, off + i * 5 + j, none⟩ = some ((ndCell (f i)).getD j undef) :=
        ⟨fun i => Classical.choose (key2 i), fun i => Classical.choose_spec (key2 i)⟩
      refine ⟨(List.range len).map f, by simp, .inr ⟨b, off, rfl, fun i u hu => ?_⟩, by simp; omega⟩
      have hlen := flat_len ndCell 5 ndCell_len ((List.range len).map f)
      simp only [List.length_map, List.length_range] at hlen
      have hi2 := (List.getElem?_eq_some_iff.1 hu).1
      rw [hlen] at hi2
      have hj : i / 5 < len := by omega
      have hg := flat_get ndCell 5 ndCell_len ((List.range len).map f) (i / 5) (i % 5) (by simpa using hj) (by omega)
      rw [show i / 5 * 5 + i % 5 = i by omega, hu] at hg
      simp only [List.getElem_map, List.getElem_range] at hg
      have k1 := hf (i / 5) hj (i % 5) (by omega)
      rw [List.getD_eq_getElem?_getD, ← hg] at k1
      rw [show off + i = off + i / 5 * 5 + i % 5 by omega, k1]
      rfl
end
end Go.Proofs.Ytgcfikiajingcaa
/- Lines: a right value's plain text over lines is its text in lines. -/
set_option linter.unusedVariables false
namespace Go.Proofs.Ytgcfikiajingcaa

/-- A text that neither begins with a closing sign nor ends with an opening one. -/
def firm (t : List UInt8) : Prop := (∃ c q, t = c :: q ∧ c ≠ 93 ∧ c ≠ 125) ∧ ∃ q c, t = q ++ [c] ∧ c ≠ 91 ∧ c ≠ 123
theorem firm_ends {a z : UInt8} {q : List UInt8} (h1 : a ≠ 93 ∧ a ≠ 125) (h2 : z ≠ 91 ∧ z ≠ 123) : firm (a :: (q ++ [z])) := ⟨⟨a, q ++ [z], rfl, h1⟩, a :: q, z, rfl, h2⟩
theorem firm_num {t : List UInt8} (h : numericB t = true) : firm t := by
  obtain ⟨c, q, e, hc⟩ := num_head h
  refine ⟨⟨c, q, e, ?_, ?_⟩, ?_⟩
  · rintro rfl; rcases hc with hc | hc <;> simp [digB] at hc
  · rintro rfl; rcases hc with hc | hc <;> simp [digB] at hc
  · have hne : t ≠ [] := by rw [e]; simp
    refine ⟨t.dropLast, t.getLast hne, (List.dropLast_concat_getLast hne).symm, ?_, ?_⟩
    all_goals
      intro he
      have := num_chars h _ (List.getLast_mem hne)
      rw [he] at this
      revert this
      decide
theorem firm_val {v : JV} (h : rightJ v = true) : firm (plainJ v) := by
  rcases right_cases h with rfl | ⟨y, rfl⟩ | ⟨t, rfl, ht⟩ | ⟨t, rfl, ht⟩ | ⟨l, rfl, hl⟩ | ⟨m, rfl, hm⟩
  · exact ⟨⟨110, [117, 108, 108], rfl, by decide, by decide⟩, [110, 117, 108], 108, rfl, by decide, by decide⟩
  · cases y
    · exact ⟨⟨102, [97, 108, 115, 101], rfl, by decide, by decide⟩, [102, 97, 108, 115], 101, rfl, by decide, by decide⟩
    · exact ⟨⟨116, [114, 117, 101], rfl, by decide, by decide⟩, [116, 114, 117], 101, rfl, by decide, by decide⟩
  · exact firm_num ht
  · exact firm_ends (q := t.flatMap quoteC) (by decide) (by decide)
  · exact firm_ends (q := plainL true l) (by decide) (by decide)
  · exact firm_ends (q := plainM true m) (by decide) (by decide)
theorem firm_quote (s : List UInt8) : firm (quoteL s) := firm_ends (q := s.flatMap quoteC) (by decide) (by decide)
theorem mild_num {t : List UInt8} (h : numericB t = true) : ∀ c ∈ t, mild c := by
  intro c hc
  have := num_chars h c hc
  refine ⟨?_, ?_, ?_, ?_, ?_, ?_, ?_⟩ <;> (rintro rfl; revert this; decide)
/-- A step at an opening sign that opens. -/
theorem step_open {c : UInt8} (hc : c = 91 ∨ c = 123) {p r : List UInt8} {n : Nat} (h : ∃ a q, r = a :: q ∧ a ≠ 93 ∧ a ≠ 125) : lineGo p (c :: r) (n : Int) false = c :: (nlL (n + 1) ++ lineGo (p ++ [c]) r ((n + 1 : Nat) : Int) false) := by
  obtain ⟨a, q, rfl, h1, h2⟩ := h
  have e : lineStep p c (a :: q) (n : Int) false = (c :: nlL (n + 1), ((n + 1 : Nat) : Int), false) := by
    unfold lineStep
    rw [if_neg (by simp), if_neg (by rcases hc with rfl | rfl <;> decide), if_pos ⟨hc, by simp, by simpa using h1, by simpa using h2⟩]
    rw [show ((n : Int) + 1).toNat = n + 1 by omega]
    rfl
  rw [lineGo_cons, e]
  rfl
/-- .. that is closed at once. -/
theorem step_shut {c z : UInt8} (hc : c = 91 ∧ z = 93 ∨ c = 123 ∧ z = 125) {p r : List UInt8} {d : Int} : lineGo p (c :: z :: r) d false = c :: z :: lineGo (p ++ [c, z]) r d false := by
  have e1 : lineStep p c (z :: r) d false = ([c], d, false) := by
    unfold lineStep
    rcases hc with ⟨rfl, rfl⟩ | ⟨rfl, rfl⟩ <;> simp
  have e2 : lineStep (p ++ [c]) z r d false = ([z], d, false) := by
    unfold lineStep
    rcases hc with ⟨rfl, rfl⟩ | ⟨rfl, rfl⟩ <;> simp
  rw [lineGo_cons, e1, lineGo_cons, e2]
  simp
/-- A step at a closing sign that closes. -/
theorem step_close {z : UInt8} (hz : z = 93 ∨ z = 125) {p r : List UInt8} {n : Nat} (h : ∃ q a, p = q ++ [a] ∧ a ≠ 91 ∧ a ≠ 123) : lineGo p (z :: r) ((n + 1 : Nat) : Int) false = nlL n ++ (z :: lineGo (p ++ [z]) r (n : Int) false) := by
  obtain ⟨q, a, rfl, h1, h2⟩ := h
  have e : lineStep (q ++ [a]) z r ((n + 1 : Nat) : Int) false = (nlL n ++ [z], (n : Int), false) := by
    unfold lineStep
    rw [if_neg (by simp), if_neg (by rcases hz with rfl | rfl <;> decide), if_neg (by rcases hz with rfl | rfl <;> simp), if_pos ⟨hz, by simp, by simpa using h1, by simpa using h2⟩]
    rw [show (((n + 1 : Nat) : Int) - 1) = (n : Int) by omega, show ((n : Int)).toNat = n by omega]
  rw [lineGo_cons, e]
  simp
theorem step_comma {p r : List UInt8} {n : Nat} : lineGo p (44 :: r) (n : Int) false = 44 :: (nlL n ++ lineGo (p ++ [44]) r (n : Int) false) := by
  have e : lineStep p 44 r (n : Int) false = (44 :: nlL n, (n : Int), false) := by
    unfold lineStep
    simp
  rw [lineGo_cons, e]
  rfl
theorem step_colon {p r : List UInt8} {d : Int} : lineGo p (58 :: r) d false = 58 :: 32 :: lineGo (p ++ [58]) r d false := by
  have e : lineStep p 58 r d false = ([58, 32], d, false) := by
    unfold lineStep
    simp
  rw [lineGo_cons, e]
  rfl
theorem styL_cons (S : Sty) (n : Nat) (b e : List UInt8) (v : JV) (l : List JV) : styL S n b e (v :: l) = b ++ (styJ S (n + 1) v ++ (if l.isEmpty then e else styL S n (44 :: S.com n) e l)) := by rw [styL]
theorem styM_cons (S : Sty) (n : Nat) (b e : List UInt8) (v : List UInt8 × JV) (l : List (List UInt8 × JV)) : styM S n b e (v :: l) = b ++ (quoteL v.1 ++ (58 :: (S.col ++ (styJ S (n + 1) v.2 ++ (if l.isEmpty then e else styM S n (44 :: S.com n) e l))))) := by rw [styM]
theorem styL_end (S : Sty) (n : Nat) (e : List UInt8) : ∀ (l : List JV) (b : List UInt8), l ≠ [] → styL S n b e l = styL S n b [] l ++ e
  | [v], b, _ => by simp [styL]
  | v :: x :: l, b, _ => by
    have := styL_end S n e (x :: l) (44 :: S.com n) (by simp)
    rw [styL_cons S n b e, styL_cons S n b [], if_neg (by simp), if_neg (by simp), this]
    simp
theorem styM_end (S : Sty) (n : Nat) (e : List UInt8) : ∀ (l : List (List UInt8 × JV)) (b : List UInt8), l ≠ [] → styM S n b e l = styM S n b [] l ++ e
  | [v], b, _ => by simp [styM]
  | v :: x :: l, b, _ => by
    have := styM_end S n e (x :: l) (44 :: S.com n) (by simp)
    rw [styM_cons S n b e, styM_cons S n b [], if_neg (by simp), if_neg (by simp), this]
    simp
theorem styL_front (S : Sty) (n : Nat) (b e : List UInt8) (v : JV) (l : List JV) : styL S n b e (v :: l) = b ++ styL S n [] e (v :: l) := by
  rw [styL_cons, styL_cons S n [] e]; rfl
theorem styM_front (S : Sty) (n : Nat) (b e : List UInt8) (v : List UInt8 × JV) (l : List (List UInt8 × JV)) : styM S n b e (v :: l) = b ++ styM S n [] e (v :: l) := by
  rw [styM_cons, styM_cons S n [] e]; rfl
theorem styL_plainend (S : Sty) (n : Nat) (b : List UInt8) (v : JV) (l : List JV) : styL S n b [] (v :: l) = b ++ (styJ S (n + 1) v ++ styL S n (44 :: S.com n) [] l) := by
  rw [styL_cons]
  cases l with
  | nil => simp [styL]
  | cons x l => rw [if_neg (by simp)]
theorem styM_plainend (S : Sty) (n : Nat) (b : List UInt8) (v : List UInt8 × JV) (l : List (List UInt8 × JV)) : styM S n b [] (v :: l) = b ++ (quoteL v.1 ++ (58 :: (S.col ++ (styJ S (n + 1) v.2 ++ styM S n (44 :: S.com n) [] l)))) := by
  rw [styM_cons]
  cases l with
  | nil => simp [styM]
  | cons x l => rw [if_neg (by simp)]
def tailOK (t : List UInt8) : Prop := ∃ q a, t = q ++ [a] ∧ a ≠ 91 ∧ a ≠ 123
theorem tail_app (s : List UInt8) {t : List UInt8} (h : tailOK t) : tailOK (s ++ t) := by
  obtain ⟨q, a, rfl, ha⟩ := h
  exact ⟨s ++ q, a, by simp, ha⟩
theorem tail_L : ∀ (l : List JV) (f : Bool), l ≠ [] → rightL l = true → tailOK (plainL f l)
  | [v], f, _, h => by
    rw [rightL, Bool.and_eq_true] at h
    rw [plainL, plainL, List.append_nil]
    exact tail_app _ (firm_val h.1).2
  | v :: x :: l, f, _, h => by
    rw [rightL, Bool.and_eq_true] at h
    rw [plainL]
    exact tail_app _ (tail_app _ (tail_L (x :: l) false (by simp) h.2))
theorem tail_M : ∀ (l : List (List UInt8 × JV)) (f : Bool), l ≠ [] → rightM l = true → tailOK (plainM f l)
  | [(n, v)], f, _, h => by
    rw [rightM, Bool.and_eq_true, Bool.and_eq_true, Bool.and_eq_true] at h
    rw [plainM, plainM, List.append_nil, show quoteL n ++ 58 :: plainJ v = (quoteL n ++ [58]) ++ plainJ v by simp]
    exact tail_app _ (tail_app _ (firm_val h.1.1.2).2)
  | (n, v) :: x :: l, f, _, h => by
    rw [rightM, Bool.and_eq_true, Bool.and_eq_true, Bool.and_eq_true] at h
    rw [plainM, show quoteL n ++ 58 :: (plainJ v ++ plainM false (x :: l)) = (quoteL n ++ 58 :: plainJ v) ++ plainM false (x :: l) by simp]
    exact tail_app _ (tail_app _ (tail_M (x :: l) false (by simp) h.2))
mutual
theorem go_val : ∀ (v : JV), rightJ v = true → ∀ (p r : List UInt8) (n : Nat), lineGo p (plainJ v ++ r) (n : Int) false = styJ linesS n v ++ lineGo (p ++ plainJ v) r (n : Int) false
  | .mk k y t l m, h, p, r, n => by
    have hl := go_L l
    have hm := go_M m
    rcases right_cases h with e | ⟨y', e⟩ | ⟨t', e, ht⟩ | ⟨t', e, ht⟩ | ⟨l', e, hr⟩ | ⟨m', e, hr⟩
    · simp only [jnull, JV.mk.injEq] at e
      obtain ⟨rfl, rfl, rfl, rfl, rfl⟩ := e
      exact go_mild [110, 117, 108, 108] p r n (by simp [mild])
    · simp only [jbool, JV.mk.injEq] at e
      obtain ⟨rfl, rfl, rfl, rfl, rfl⟩ := e
      cases y
      · exact go_mild [102, 97, 108, 115, 101] p r n (by simp [mild])
      · exact go_mild [116, 114, 117, 101] p r n (by simp [mild])
    · simp only [jnum, JV.mk.injEq] at e
      obtain ⟨rfl, rfl, rfl, rfl, rfl⟩ := e
      exact go_mild t p r n (mild_num ht)
    · simp only [jstr, JV.mk.injEq] at e
      obtain ⟨rfl, rfl, rfl, rfl, rfl⟩ := e
      exact go_quote t p r n
    · simp only [jarr, JV.mk.injEq] at e
      obtain ⟨rfl, rfl, rfl, rfl, rfl⟩ := e
      have e1 : plainJ (.mk 5 false [] l []) = 91 :: (plainL true l ++ [93]) := by rw [plainJ]; rfl
      have e2 : styJ linesS n (.mk 5 false [] l []) = 91 :: (styL linesS n (nlL (n + 1)) (nlL n) l ++ [93]) := by rw [styJ]; rfl
      rw [e1, e2]
      cases l with
      | nil =>
        simp only [plainL, styL, List.nil_append, List.cons_append]
        rw [step_shut (.inl ⟨rfl, rfl⟩)]
      | cons x l =>
        obtain ⟨hA, -⟩ := hl hr
        have hx : rightJ x = true := by rw [rightL, Bool.and_eq_true] at hr; exact hr.1
        obtain ⟨a, q, ea, ha⟩ := (firm_val hx).1
        rw [show (91 :: (plainL true (x :: l) ++ [93])) ++ r = 91 :: (plainL true (x :: l) ++ 93 :: r) by simp]
        rw [step_open (.inl rfl) ⟨a, q ++ (plainL false l ++ 93 :: r), by rw [plainL, ea]; simp, ha⟩, hA, step_close (.inl rfl) (tail_app _ (tail_L (x :: l) true (by simp) hr)), styL_end linesS n (nlL n) _ _ (by simp), styL_front linesS n (nlL (n + 1))]
        simp
    · simp only [jobj, JV.mk.injEq] at e
      obtain ⟨rfl, rfl, rfl, rfl, rfl⟩ := e
      have e1 : plainJ (.mk 6 false [] [] m) = 123 :: (plainM true m ++ [125]) := by rw [plainJ]; rfl
      have e2 : styJ linesS n (.mk 6 false [] [] m) = 123 :: (styM linesS n (nlL (n + 1)) (nlL n) m ++ [125]) := by rw [styJ]; rfl
      rw [e1, e2]
      cases m with
      | nil =>
        simp only [plainM, styM, List.nil_append, List.cons_append]
        rw [step_shut (.inr ⟨rfl, rfl⟩)]
      | cons x m =>
        obtain ⟨hA, -⟩ := hm hr
        obtain ⟨nm, x⟩ := x
        obtain ⟨a, q, ea, ha⟩ := (firm_quote nm).1
        rw [show (123 :: (plainM true ((nm, x) :: m) ++ [125])) ++ r = 123 :: (plainM true ((nm, x) :: m) ++ 125 :: r) by simp]
        rw [step_open (.inr rfl) ⟨a, q ++ (58 :: (plainJ x ++ plainM false m) ++ 125 :: r), by rw [plainM, ea]; simp, ha⟩, hA, step_close (.inr rfl) (tail_app _ (tail_M ((nm, x) :: m) true (by simp) hr)), styM_end linesS n (nlL n) _ _ (by simp), styM_front linesS n (nlL (n + 1))]
        simp
theorem go_L : ∀ (l : List JV), rightL l = true → (∀ (p r : List UInt8) (n : Nat), lineGo p (plainL true l ++ r) ((n + 1 : Nat) : Int) false = styL linesS n [] [] l ++ lineGo (p ++ plainL true l) r ((n + 1 : Nat) : Int) false) ∧
    ∀ (p r : List UInt8) (n : Nat), lineGo p (plainL false l ++ r) ((n + 1 : Nat) : Int) false = styL linesS n (44 :: nlL (n + 1)) [] l ++ lineGo (p ++ plainL false l) r ((n + 1 : Nat) : Int) false
  | [], h => by simp [plainL, styL]
  | v :: l, h => by
    have hv := go_val v
    have hl := go_L l
    rw [rightL, Bool.and_eq_true] at h
    have key : ∀ (p r : List UInt8) (n : Nat), lineGo p (plainJ v ++ (plainL false l ++ r)) ((n + 1 : Nat) : Int) false = (styJ linesS (n + 1) v ++ styL linesS n (44 :: nlL (n + 1)) [] l) ++ lineGo (p ++ (plainJ v ++ plainL false l)) r ((n + 1 : Nat) : Int) false := by
      intro p r n
      rw [hv h.1, (hl h.2).2]
      simp
    refine ⟨fun p r n => ?_, fun p r n => ?_⟩
    · rw [styL_plainend, plainL]
      have := key p r n
      simpa [linesS] using this
    · rw [styL_plainend, plainL]
      rw [show (if false = true then ([] : List UInt8) else [44]) ++ (plainJ v ++ plainL false l) ++ r = 44 :: (plainJ v ++ (plainL false l ++ r)) by simp, step_comma, key]
      simp [linesS]
theorem go_M : ∀ (l : List (List UInt8 × JV)), rightM l = true → (∀ (p r : List UInt8) (n : Nat), lineGo p (plainM true l ++ r) ((n + 1 : Nat) : Int) false = styM linesS n [] [] l ++ lineGo (p ++ plainM true l) r ((n + 1 : Nat) : Int) false) ∧
    ∀ (p r : List UInt8) (n : Nat), lineGo p (plainM false l ++ r) ((n + 1 : Nat) : Int) false = styM linesS n (44 :: nlL (n + 1)) [] l ++ lineGo (p ++ plainM false l) r ((n + 1 : Nat) : Int) false
  | [], h => by simp [plainM, styM]
  | (nm, v) :: l, h => by
    have hv := go_val v
    have hl := go_M l
    rw [rightM, Bool.and_eq_true, Bool.and_eq_true, Bool.and_eq_true] at h
    have key : ∀ (p r : List UInt8) (n : Nat), lineGo p (quoteL nm ++ (58 :: (plainJ v ++ (plainM false l ++ r)))) ((n + 1 : Nat) : Int) false = (quoteL nm ++ (58 :: 32 :: (styJ linesS (n + 1) v ++ styM linesS n (44 :: nlL (n + 1)) [] l))) ++ lineGo (p ++ (quoteL nm ++ (58 :: (plainJ v ++ plainM false l)))) r ((n + 1 : Nat) : Int) false := by
      intro p r n
      rw [go_quote, step_colon, hv h.1.1.2, (hl h.2).2]
      simp
    refine ⟨fun p r n => ?_, fun p r n => ?_⟩
    · rw [styM_plainend, plainM]
      have := key p r n
      simpa [linesS] using this
    · rw [styM_plainend, plainM]
      rw [show (if false = true then ([] : List UInt8) else [44]) ++ (quoteL nm ++ 58 :: (plainJ v ++ plainM false l)) ++ r = 44 :: (quoteL nm ++ (58 :: (plainJ v ++ (plainM false l ++ r)))) by simp, step_comma, key]
      simp [linesS]
end
/-- A right value's plain text over lines. -/
theorem lines_plain (v : JV) (h : rightJ v = true) : linesL (plainJ v) = styJ linesS 0 v ++ [10] := by
  have := go_val v h [] [] 0
  simp only [List.append_nil, List.nil_append] at this
  rw [show ((0 : Nat) : Int) = 0 from rfl] at this
  unfold linesL
  rw [this]
  simp [lineGo]
end Go.Proofs.Ytgcfikiajingcaa
/- The law's own way over lines: odd, the margin. -/
set_option linter.unusedVariables false
namespace Go.Proofs.Ytgcfikiajingcaa
open Go.RowKit

theorem signs_at {s : List UInt8} {n : Nat} (h : n < s.length) : signs s = n + ((s.reverse.drop n).takeWhile (· == 92)).length → signs s = if s[s.length - 1 - n] = 92 then (n + 1) + ((s.reverse.drop (n + 1)).takeWhile (· == 92)).length else n := by
  intro e
  have hr : n < s.reverse.length := by simpa using h
  rw [e, List.drop_eq_getElem_cons hr, List.takeWhile_cons, List.getElem_reverse]
  by_cases hc : s[s.length - 1 - n] = 92
  · rw [if_pos (by simpa using hc), if_pos hc, List.length_cons]
    omega
  · rw [if_neg (by simpa using hc), if_neg hc]
    rfl
set_option maxRecDepth 100000 in
set_option maxHeartbeats 16000000 in
theorem odd_any (s : List UInt8) (w : World) (hs : s.length ≤ 1000000) :
    Calls Try.prog 31 #[.string ⟨s.toArray⟩] w fun e w' => e = .returned (.bool (oddB s)) ∧ w' = w := by
  have HO : Hid (∀ n, signs s = n → oddB s = ((n : Int) % 2 == 1)) := Lib.hid fun n e => by
    unfold oddB
    rw [e, Bool.eq_iff_iff]
    simp
    omega
  go_enter Try.func31, Try.ntmps31
  go_wp2_with fail
  go_loopg [3] s.length (fun k iv wr => ∃ n : Nat, iv = .int .i64 (n : Int) ∧ n + k = s.length ∧ Hid (signs s = n + ((s.reverse.drop n).takeWhile (· == 92)).length) ∧ wr = w)
  case atStart => exact ⟨0, rfl, by omega, Lib.hid (by simp [signs]), rfl⟩
  case round =>
    obtain ⟨n, rfl, hn, HS, rfl⟩ := hrel
    by_cases hlt : n < s.length
    · have hltI : (n : Int) < (s.length : Int) := by omega
      obtain ⟨q, hq⟩ : ∃ q, s.length - 1 - n = q := ⟨_, rfl⟩
      have hqI : (s.length : Int) - 1 - (n : Int) = (q : Int) := by omega
      have hql : q < s.length := by omega
      have HT := Lib.hid (signs_at hlt HS.out)
      simp only [hq] at HT
      have hat := str_at s q hql wr
      by_cases hc : s[q] = 92
      · rw [if_pos hc] at HT
        have hcb : (((s[q].toNat : Nat) : Int) == 92) = true := by rw [hc]; rfl
        generalize s[q] = ch at *
        clear hq hc
        go_wp2_with fail
        go_roundg (gk - 1)
        case measure => omega
        case rel => exact ⟨n + 1, by first | rfl | (congr 1), by omega, HT, rfl⟩
      · rw [if_neg hc] at HT
        have hcb : (((s[q].toNat : Nat) : Int) == 92) = false := by
          rw [beq_eq_false_iff_ne]
          intro e
          exact hc (UInt8.toNat_inj.1 (by show s[q].toNat = 92; omega))
        generalize s[q] = ch at *
        have HQ := Lib.hid (HO.out n HT.out)
        clear hq hc
        go_wp2_with fail
        refine bodyPost_ret (results_tmp rfl _ _ _) rfl ?_
        exact ⟨by rw [HQ.out]; first | rfl | (simp [Int.emod_def]), rfl⟩
    · have hge : ¬ (n : Int) < (s.length : Int) := by omega
      have HQ := Lib.hid (HO.out n (by rw [HS.out, List.drop_of_length_le (by simp; omega)]; rfl))
      go_wp2_with fail
      refine bodyPost_ret (results_tmp rfl _ _ _) rfl ?_
      exact ⟨by rw [HQ.out]; first | rfl | (simp [Int.emod_def]), rfl⟩
/-- A margin. -/
theorem nl_snoc (n : Nat) : nlL n ++ [32, 32] = nlL (n + 1) := by
  unfold nlL
  rw [show 2 * (n + 1) = 2 * n + 2 by omega, ← List.replicate_append_replicate]
  rfl
theorem nl_len (n : Nat) : (nlL n).length = 2 * n + 1 := by simp [nlL]
set_option maxRecDepth 100000 in
set_option maxHeartbeats 16000000 in
theorem lines1_any (g : Nat) (d : Int) (w : World) (T : TypeId) (hg : w.heap[g]? = some (.cells #[.int .i64 d] T (0, 0))) (hd : d ≤ 1000000) :
    Calls Try.prog 30 #[.pointer (some ⟨g, 0, none⟩)] w fun e w' => e = .returned (.string ⟨(nlL d.toNat).toArray⟩) ∧ w' = w := by
  have HG := Lib.hid hg
  have c0 : w.cell? ⟨g, 0, none⟩ = some (.int .i64 d) := by rw [Lib.cell_of_heap hg]; rfl
  clear hg
  go_enter Try.func30, Try.ntmps30
  go_wp2_with fail
  go_loopg [2, 4] d.toNat (fun k mv iv wr => ∃ j : Nat, mv = .string ⟨(nlL j).toArray⟩ ∧ iv = .int .i64 (j : Int) ∧ j + k = d.toNat ∧ wr = w)
  case atStart => exact ⟨0, rfl, rfl, by omega, rfl⟩
  case round =>
    obtain ⟨j, rfl, rfl, hj, rfl⟩ := hrel
    by_cases hlt : (j : Int) < d
    · have hcat : (⟨(nlL j).toArray⟩ : ByteArray) ++ ⟨#[32, 32]⟩ = ⟨(nlL (j + 1)).toArray⟩ := by rw [← nl_snoc]; exact st_cat (nlL j) [32, 32]
      have hnl : (nlL j).length ≤ 3000000 := by rw [nl_len]; omega
      go_wp2_with fail
      go_roundg (gk - 1)
      case measure => omega
      case rel => exact ⟨j + 1, by first | rfl | exact congrArg Value.string hcat, by first | rfl | (congr 1), by omega, rfl⟩
    · have HE : Hid (d.toNat = j) := Lib.hid (by omega)
      go_wp2_with fail
      refine bodyPost_ret (results_tmp rfl _ _ _) rfl ?_
      exact ⟨by rw [HE.out]; rfl, rfl⟩
end Go.Proofs.Ytgcfikiajingcaa
/- The law's own way over lines: lines. -/
set_option linter.unusedVariables false
namespace Go.Proofs.Ytgcfikiajingcaa
open Go.RowKit

theorem line_len (p : List UInt8) (c : UInt8) (r : List UInt8) (d : Int) (ins : Bool) (i : Nat) (h1 : -(i : Int) ≤ d) (h2 : d ≤ (i : Int)) : (lineStep p c r d ins).1.length ≤ 2 * i + 5 ∧ -((i + 1 : Nat) : Int) ≤ (lineStep p c r d ins).2.1 ∧ (lineStep p c r d ins).2.1 ≤ ((i + 1 : Nat) : Int) := by
  unfold lineStep
  split
  · simp; omega
  split
  · simp; omega
  split
  · simp only [List.length_cons, nl_len]; omega
  split
  · simp only [List.length_append, List.length_cons, List.length_nil, nl_len]; omega
  split
  · simp only [List.length_cons, nl_len]; omega
  split
  · simp; omega
  · simp; omega
set_option maxRecDepth 100000 in
set_option maxHeartbeats 64000000 in
theorem lines_any (s : List UInt8) (w : World) (hs : s.length ≤ 100000) :
    Calls Try.prog 15 #[.string ⟨s.toArray⟩] w fun e w' => e = .returned (.string ⟨(linesL s).toArray⟩) ∧ Below w.heap.size w w' := by
  have hmf : ∀ (fn : Fn) (first cap : Array Value) (w : World), (Instr.makeFunc fn first cap).run Try.prog w = .ok (.func fn first cap) w := fun _ _ _ _ => rfl
  go_enter Try.func15, Try.ntmps15
  go_upto_region 2 with (fail)
  generalize hw1 : w.alloc _ = w1
  have hb1 : Below w.heap.size w w1 := by rw [← hw1]; exact (Below.refl _ _).alloc (Nat.le_refl _) _
  have hx1 : w1.heap[w.heap.size]? = some (.cells #[.int .i64 0] 3 (0, 0)) := by rw [← hw1]; exact heap_alloc_new _ _
  have HB1 := Lib.hid hb1
  have HX1 := Lib.hid hx1
  clear hw1 hb1 hx1
  go_wp2_with fail
  go_loopg [3, 5, 12] s.length (fun k ov bv iv wr => ∃ (i : Nat) (O : List UInt8) (d : Int) (ins : Bool), ov = .string ⟨O.toArray⟩ ∧ bv = .bool ins ∧ iv = .int .i64 (i : Int) ∧ i + k = s.length ∧ -(i : Int) ≤ d ∧ d ≤ (i : Int) ∧ O.length ≤ 300000 * i ∧ Hid (lineGo [] s 0 false = O ++ lineGo (s.take i) (s.drop i) d ins) ∧ Hid (wr.heap[w.heap.size]? = some (.cells #[.int .i64 d] 3 (0, 0))) ∧ Hid (Below w.heap.size w wr))
  case atStart => exact ⟨0, [], 0, false, rfl, rfl, rfl, by omega, by omega, by omega, by simp, Lib.hid rfl, HX1, HB1⟩
  case round =>
    obtain ⟨i, O, d, ins, rfl, rfl, rfl, hi, hd1, hd2, hO, HG, HX, HB⟩ := hrel
    obtain ⟨gO, rfl⟩ : ∃ x : Nat, x = gk := ⟨_, rfl⟩
    by_cases hlt : i < s.length
    case neg =>
      have hge : ¬ (i : Int) < (s.length : Int) := by omega
      have HE : Hid (linesL s = O ++ [10]) := Lib.hid (by
        unfold linesL
        rw [HG.out, List.drop_of_length_le (by omega)]
        simp [lineGo])
      have hcat : (⟨O.toArray⟩ : ByteArray) ++ ⟨#[10]⟩ = ⟨(O ++ [10]).toArray⟩ := st_cat O [10]
      have hOl : O.length ≤ 30000000000 := by omega
      go_wp2_with fail
      refine bodyPost_ret (results_tmp rfl _ _ _) rfl ?_
      exact ⟨by rw [HE.out]; first | rfl | exact congrArg (fun x => Ending.returned (Value.string x)) hcat, HB.out⟩
    have hltI : (i : Int) < (s.length : Int) := by omega
    obtain ⟨c, hc⟩ : ∃ c, s[i] = c := ⟨_, rfl⟩
    obtain ⟨R, hR⟩ : ∃ R, s.drop (i + 1) = R := ⟨_, rfl⟩
    have HSD : Hid (s.drop i = c :: R) := Lib.hid (by rw [List.drop_eq_getElem_cons hlt, hc, hR])
    have HST : Hid (s.take (i + 1) = s.take i ++ [c]) := Lib.hid (by rw [List.take_succ_eq_append_getElem hlt, hc])
    have HF : Hid (∀ X d' ins', lineStep (s.take i) c R d ins = (X, d', ins') → lineGo [] s 0 false = (O ++ X) ++ lineGo (s.take (i + 1)) (s.drop (i + 1)) d' ins' ∧ -((i + 1 : Nat) : Int) ≤ d' ∧ d' ≤ ((i + 1 : Nat) : Int) ∧ (O ++ X).length ≤ 300000 * (i + 1)) := Lib.hid fun X d' ins' e => by
      have h1 := line_len (s.take i) c R d ins i hd1 hd2
      have h2 : lineGo [] s 0 false = (O ++ (lineStep (s.take i) c R d ins).1) ++ lineGo (s.take (i + 1)) (s.drop (i + 1)) (lineStep (s.take i) c R d ins).2.1 (lineStep (s.take i) c R d ins).2.2 := by
        rw [HG.out, HSD.out, lineGo_cons, HST.out, hR, List.append_assoc]
      rw [e] at h1 h2
      refine ⟨h2, h1.2.1, h1.2.2, ?_⟩
      rw [List.length_append]
      have := h1.1
      simp only at this
      omega
    have hone := st_one s i hlt wr
    rw [hc] at hone
    have hOl : O.length ≤ 30000000000 := by omega
    have HOC := Lib.hid (st_cat O [c])
    cases ins with
    | true =>
      by_cases h34 : c = 34
      · have hhd := str_head s i (by omega) (i : Int) rfl wr
        subst h34
        have HS := Lib.hid (HF.out [34] d (oddB (s.take i)) (by unfold lineStep; rw [if_pos rfl]; rfl))
        clear HF HG
        go_wp2_with fail
        refine (odd_any (s.take i) wr (by simp; omega)).mono ?_
        rintro e w' ⟨rfl, hw'⟩
        subst w'
        go_wp2_with fail
        go_roundg (gO - 1)
        case measure => omega
        case rel => exact ⟨i + 1, O ++ [34], d, (oddB (s.take i)), by first | rfl | exact congrArg Value.string (HOC.out) | exact congrArg Value.string (by simp only [st_cat, List.append_assoc]; rfl), by first | rfl | (congr 1), by first | rfl | (congr 1), by omega, HS.out.2.1, HS.out.2.2.1, HS.out.2.2.2, Lib.hid HS.out.1, HX, HB⟩
      · have hq : (c == 34) = false := by simpa using h34
        have HS := Lib.hid (HF.out [c] d true (by
          unfold lineStep
          rw [if_pos rfl, show (c != 34) = true by simpa using h34]
          rfl))
        clear HF HG h34
        go_wp2_with fail
        go_roundg (gO - 1)
        case measure => omega
        case rel => exact ⟨i + 1, O ++ [c], d, true, by first | rfl | exact congrArg Value.string (HOC.out) | exact congrArg Value.string (by simp only [st_cat, List.append_assoc]; rfl), by first | rfl | (congr 1), by first | rfl | (congr 1), by omega, HS.out.2.1, HS.out.2.2.1, HS.out.2.2.2, Lib.hid HS.out.1, HX, HB⟩
    | false =>
      by_cases h34 : c = 34
      · subst h34
        have HS := Lib.hid (HF.out [34] d true (by unfold lineStep; rw [if_neg (by simp), if_pos rfl]))
        clear HF HG
        go_wp2_with fail
        go_roundg (gO - 1)
        case measure => omega
        case rel => exact ⟨i + 1, O ++ [34], d, true, by first | rfl | exact congrArg Value.string (HOC.out) | exact congrArg Value.string (by simp only [st_cat, List.append_assoc]; rfl), by first | rfl | (congr 1), by first | rfl | (congr 1), by omega, HS.out.2.1, HS.out.2.2.1, HS.out.2.2.2, Lib.hid HS.out.1, HX, HB⟩
      by_cases h91 : c = 91
      · subst h91
        by_cases hn : i + 1 < s.length
        case neg =>
          have hnI : ¬ (i : Int) + 1 < (s.length : Int) := by omega
          have hR0 : R = [] := by rw [← hR, List.drop_of_length_le (by omega)]
          have HS := Lib.hid (HF.out [91] d false (by unfold lineStep; simp [hR0]))
          clear HF HG
          go_wp2_with fail
          go_roundg (gO - 1)
          case measure => omega
          case rel => exact ⟨i + 1, O ++ [91], d, false, by first | rfl | exact congrArg Value.string (HOC.out) | exact congrArg Value.string (by simp only [st_cat, List.append_assoc]; rfl), by first | rfl | (congr 1), by first | rfl | (congr 1), by omega, HS.out.2.1, HS.out.2.2.1, HS.out.2.2.2, Lib.hid HS.out.1, HX, HB⟩
        have hnI : (i : Int) + 1 < (s.length : Int) := by omega
        obtain ⟨e, he⟩ : ∃ e, s[i + 1] = e := ⟨_, rfl⟩
        have hRe : R = e :: s.drop (i + 1 + 1) := by rw [← hR, List.drop_eq_getElem_cons hn, he]
        have hat : (Instr.index 9 (.string ⟨s.toArray⟩) (.int .i64 ((i : Int) + 1))).run Try.prog wr = .ok (.int .u8 (s[i + 1].toNat : Nat)) wr := str_at s (i + 1) hn wr
        rw [he] at hat
        by_cases h93 : e = 93
        · subst h93
          have HS := Lib.hid (HF.out [91] d false (by unfold lineStep; simp [hRe]))
          clear HF HG
          go_wp2_with fail
          go_roundg (gO - 1)
          case measure => omega
          case rel => exact ⟨i + 1, O ++ [91], d, false, by first | rfl | exact congrArg Value.string (HOC.out) | exact congrArg Value.string (by simp only [st_cat, List.append_assoc]; rfl), by first | rfl | (congr 1), by first | rfl | (congr 1), by omega, HS.out.2.1, HS.out.2.2.1, HS.out.2.2.2, Lib.hid HS.out.1, HX, HB⟩
        have m93 : (((e.toNat : Nat) : Int) != 93) = true := by
          rw [bne_iff_ne]
          intro hh
          exact h93 (UInt8.toNat_inj.1 (by show e.toNat = 93; omega))
        by_cases h125 : e = 125
        · subst h125
          have HS := Lib.hid (HF.out [91] d false (by unfold lineStep; simp [hRe]))
          clear HF HG
          go_wp2_with fail
          go_roundg (gO - 1)
          case measure => omega
          case rel => exact ⟨i + 1, O ++ [91], d, false, by first | rfl | exact congrArg Value.string (HOC.out) | exact congrArg Value.string (by simp only [st_cat, List.append_assoc]; rfl), by first | rfl | (congr 1), by first | rfl | (congr 1), by omega, HS.out.2.1, HS.out.2.2.1, HS.out.2.2.2, Lib.hid HS.out.1, HX, HB⟩
        have m125 : (((e.toNat : Nat) : Int) != 125) = true := by
          rw [bne_iff_ne]
          intro hh
          exact h125 (UInt8.toNat_inj.1 (by show e.toNat = 125; omega))
        have HS := Lib.hid (HF.out (91 :: nlL (d + 1).toNat) (d + 1) false (by unfold lineStep; rw [if_neg (by simp), if_neg (by decide), if_pos ⟨by simp, by rw [hRe]; simp, by rw [hRe]; simpa using h93, by rw [hRe]; simpa using h125⟩]))
        have c0 : wr.cell? ⟨w.heap.size, 0, none⟩ = some (.int .i64 d) := by rw [Lib.cell_of_heap HX.out]; rfl
        have f0 := Lib.frozen_of_heap HX.out 0
        clear HF HG hRe h93 h125 HSD HST hR
        have hst : (wr.setCell ⟨w.heap.size, 0, none⟩ (.int .i64 (d + 1))).heap[w.heap.size]? = some (.cells #[.int .i64 (d + 1)] 3 (0, 0)) := by simp [World.setCell, Array.getElem?_modify, HX.out]
        have HST := Lib.hid hst
        have HBS := Lib.hid (HB.out.setCell (p := ⟨w.heap.size, 0, none⟩) (Nat.le_refl _) (.int .i64 (d + 1)))
        have HML := Lib.hid (lines1_any w.heap.size (d + 1) _ 3 hst (by omega))
        have hnl : (nlL (d + 1).toNat).length ≤ 300001 := by rw [nl_len]; omega
        generalize nlL (d + 1).toNat = NL at *
        clear hst
        go_wp2_with fail
        refine HML.out.mono ?_
        rintro e w' ⟨rfl, hw'⟩
        subst w'
        have hsm : (⟨#[91]⟩ : ByteArray) ++ ⟨NL.toArray⟩ = ⟨(91 :: NL).toArray⟩ := st_cat [91] NL
        have hsl : (91 :: NL).length ≤ 300002 := by simp; omega
        have HCT := Lib.hid (st_cat O (91 :: NL))
        go_wp2_with fail
        go_roundg (gO - 1)
        case measure => omega
        case rel => exact ⟨i + 1, O ++ (91 :: NL), (d + 1), false, by first | rfl | exact congrArg Value.string HCT.out | exact congrArg Value.string (by simp only [st_cat, List.append_assoc]; rfl), by first | rfl | (congr 1), by first | rfl | (congr 1), by omega, HS.out.2.1, HS.out.2.2.1, HS.out.2.2.2, Lib.hid HS.out.1, HST, HBS⟩
      by_cases h123 : c = 123
      · subst h123
        by_cases hn : i + 1 < s.length
        case neg =>
          have hnI : ¬ (i : Int) + 1 < (s.length : Int) := by omega
          have hR0 : R = [] := by rw [← hR, List.drop_of_length_le (by omega)]
          have HS := Lib.hid (HF.out [123] d false (by unfold lineStep; simp [hR0]))
          clear HF HG
          go_wp2_with fail
          go_roundg (gO - 1)
          case measure => omega
          case rel => exact ⟨i + 1, O ++ [123], d, false, by first | rfl | exact congrArg Value.string (HOC.out) | exact congrArg Value.string (by simp only [st_cat, List.append_assoc]; rfl), by first | rfl | (congr 1), by first | rfl | (congr 1), by omega, HS.out.2.1, HS.out.2.2.1, HS.out.2.2.2, Lib.hid HS.out.1, HX, HB⟩
        have hnI : (i : Int) + 1 < (s.length : Int) := by omega
        obtain ⟨e, he⟩ : ∃ e, s[i + 1] = e := ⟨_, rfl⟩
        have hRe : R = e :: s.drop (i + 1 + 1) := by rw [← hR, List.drop_eq_getElem_cons hn, he]
        have hat : (Instr.index 9 (.string ⟨s.toArray⟩) (.int .i64 ((i : Int) + 1))).run Try.prog wr = .ok (.int .u8 (s[i + 1].toNat : Nat)) wr := str_at s (i + 1) hn wr
        rw [he] at hat
        by_cases h93 : e = 93
        · subst h93
          have HS := Lib.hid (HF.out [123] d false (by unfold lineStep; simp [hRe]))
          clear HF HG
          go_wp2_with fail
          go_roundg (gO - 1)
          case measure => omega
          case rel => exact ⟨i + 1, O ++ [123], d, false, by first | rfl | exact congrArg Value.string (HOC.out) | exact congrArg Value.string (by simp only [st_cat, List.append_assoc]; rfl), by first | rfl | (congr 1), by first | rfl | (congr 1), by omega, HS.out.2.1, HS.out.2.2.1, HS.out.2.2.2, Lib.hid HS.out.1, HX, HB⟩
        have m93 : (((e.toNat : Nat) : Int) != 93) = true := by
          rw [bne_iff_ne]
          intro hh
          exact h93 (UInt8.toNat_inj.1 (by show e.toNat = 93; omega))
        by_cases h125 : e = 125
        · subst h125
          have HS := Lib.hid (HF.out [123] d false (by unfold lineStep; simp [hRe]))
          clear HF HG
          go_wp2_with fail
          go_roundg (gO - 1)
          case measure => omega
          case rel => exact ⟨i + 1, O ++ [123], d, false, by first | rfl | exact congrArg Value.string (HOC.out) | exact congrArg Value.string (by simp only [st_cat, List.append_assoc]; rfl), by first | rfl | (congr 1), by first | rfl | (congr 1), by omega, HS.out.2.1, HS.out.2.2.1, HS.out.2.2.2, Lib.hid HS.out.1, HX, HB⟩
        have m125 : (((e.toNat : Nat) : Int) != 125) = true := by
          rw [bne_iff_ne]
          intro hh
          exact h125 (UInt8.toNat_inj.1 (by show e.toNat = 125; omega))
        have HS := Lib.hid (HF.out (123 :: nlL (d + 1).toNat) (d + 1) false (by unfold lineStep; rw [if_neg (by simp), if_neg (by decide), if_pos ⟨by simp, by rw [hRe]; simp, by rw [hRe]; simpa using h93, by rw [hRe]; simpa using h125⟩]))
        have c0 : wr.cell? ⟨w.heap.size, 0, none⟩ = some (.int .i64 d) := by rw [Lib.cell_of_heap HX.out]; rfl
        have f0 := Lib.frozen_of_heap HX.out 0
        clear HF HG hRe h93 h125 HSD HST hR
        have hst : (wr.setCell ⟨w.heap.size, 0, none⟩ (.int .i64 (d + 1))).heap[w.heap.size]? = some (.cells #[.int .i64 (d + 1)] 3 (0, 0)) := by simp [World.setCell, Array.getElem?_modify, HX.out]
        have HST := Lib.hid hst
        have HBS := Lib.hid (HB.out.setCell (p := ⟨w.heap.size, 0, none⟩) (Nat.le_refl _) (.int .i64 (d + 1)))
        have HML := Lib.hid (lines1_any w.heap.size (d + 1) _ 3 hst (by omega))
        have hnl : (nlL (d + 1).toNat).length ≤ 300001 := by rw [nl_len]; omega
        generalize nlL (d + 1).toNat = NL at *
        clear hst
        go_wp2_with fail
        refine HML.out.mono ?_
        rintro e w' ⟨rfl, hw'⟩
        subst w'
        have hsm : (⟨#[123]⟩ : ByteArray) ++ ⟨NL.toArray⟩ = ⟨(123 :: NL).toArray⟩ := st_cat [123] NL
        have hsl : (123 :: NL).length ≤ 300002 := by simp; omega
        have HCT := Lib.hid (st_cat O (123 :: NL))
        go_wp2_with fail
        go_roundg (gO - 1)
        case measure => omega
        case rel => exact ⟨i + 1, O ++ (123 :: NL), (d + 1), false, by first | rfl | exact congrArg Value.string HCT.out | exact congrArg Value.string (by simp only [st_cat, List.append_assoc]; rfl), by first | rfl | (congr 1), by first | rfl | (congr 1), by omega, HS.out.2.1, HS.out.2.2.1, HS.out.2.2.2, Lib.hid HS.out.1, HST, HBS⟩
      by_cases h93 : c = 93
      · subst h93
        by_cases hn : i = 0
        · have hnI : ¬ (0 : Int) < (i : Int) := by omega
          have ht0 : s.take i = [] := by rw [hn, List.take_zero]
          have HS := Lib.hid (HF.out [93] d false (by unfold lineStep; simp [ht0]))
          clear hn ht0 HSD HST hR
          clear HF HG
          go_wp2_with fail
          go_roundg (gO - 1)
          case measure => omega
          case rel => exact ⟨i + 1, O ++ [93], d, false, by first | rfl | exact congrArg Value.string (HOC.out) | exact congrArg Value.string (by simp only [st_cat, List.append_assoc]; rfl), by first | rfl | (congr 1), by first | rfl | (congr 1), by omega, HS.out.2.1, HS.out.2.2.1, HS.out.2.2.2, Lib.hid HS.out.1, HX, HB⟩
        have hnI : (0 : Int) < (i : Int) := by omega
        obtain ⟨e, he⟩ : ∃ e, s[i - 1] = e := ⟨_, rfl⟩
        have hLe : (s.take i).getLast? = some e := by
          rw [List.getLast?_eq_getElem?, List.length_take, List.getElem?_take, if_pos (by omega), show min i s.length - 1 = i - 1 by omega, List.getElem?_eq_getElem (by omega), he]
        have hne : s.take i ≠ [] := by
          intro hh
          rw [hh] at hLe
          cases hLe
        have hat := str_at s (i - 1) (by omega) wr
        rw [he, show ((i - 1 : Nat) : Int) = (i : Int) - 1 by omega] at hat
        by_cases h91' : e = 91
        · subst h91'
          have HS := Lib.hid (HF.out [93] d false (by unfold lineStep; simp [hLe]))
          clear HF HG
          go_wp2_with fail
          go_roundg (gO - 1)
          case measure => omega
          case rel => exact ⟨i + 1, O ++ [93], d, false, by first | rfl | exact congrArg Value.string (HOC.out) | exact congrArg Value.string (by simp only [st_cat, List.append_assoc]; rfl), by first | rfl | (congr 1), by first | rfl | (congr 1), by omega, HS.out.2.1, HS.out.2.2.1, HS.out.2.2.2, Lib.hid HS.out.1, HX, HB⟩
        have m91 : (((e.toNat : Nat) : Int) != 91) = true := by
          rw [bne_iff_ne]
          intro hh
          exact h91' (UInt8.toNat_inj.1 (by show e.toNat = 91; omega))
        by_cases h123' : e = 123
        · subst h123'
          have HS := Lib.hid (HF.out [93] d false (by unfold lineStep; simp [hLe]))
          clear HF HG
          go_wp2_with fail
          go_roundg (gO - 1)
          case measure => omega
          case rel => exact ⟨i + 1, O ++ [93], d, false, by first | rfl | exact congrArg Value.string (HOC.out) | exact congrArg Value.string (by simp only [st_cat, List.append_assoc]; rfl), by first | rfl | (congr 1), by first | rfl | (congr 1), by omega, HS.out.2.1, HS.out.2.2.1, HS.out.2.2.2, Lib.hid HS.out.1, HX, HB⟩
        have m123 : (((e.toNat : Nat) : Int) != 123) = true := by
          rw [bne_iff_ne]
          intro hh
          exact h123' (UInt8.toNat_inj.1 (by show e.toNat = 123; omega))
        have HS := Lib.hid (HF.out (nlL (d - 1).toNat ++ [93]) (d - 1) false (by unfold lineStep; rw [if_neg (by simp), if_neg (by decide), if_neg (by simp), if_pos ⟨by simp, hne, by rw [hLe]; simpa using h91', by rw [hLe]; simpa using h123'⟩]))
        have c0 : wr.cell? ⟨w.heap.size, 0, none⟩ = some (.int .i64 d) := by rw [Lib.cell_of_heap HX.out]; rfl
        have f0 := Lib.frozen_of_heap HX.out 0
        clear HF HG hLe hne h91' h123' HSD HST hR
        have hst : (wr.setCell ⟨w.heap.size, 0, none⟩ (.int .i64 (d - 1))).heap[w.heap.size]? = some (.cells #[.int .i64 (d - 1)] 3 (0, 0)) := by simp [World.setCell, Array.getElem?_modify, HX.out]
        have HST := Lib.hid hst
        have HBS := Lib.hid (HB.out.setCell (p := ⟨w.heap.size, 0, none⟩) (Nat.le_refl _) (.int .i64 (d - 1)))
        have HML := Lib.hid (lines1_any w.heap.size (d - 1) _ 3 hst (by omega))
        have hnl : (nlL (d - 1).toNat).length ≤ 300001 := by rw [nl_len]; omega
        generalize nlL (d - 1).toNat = NL at *
        clear hst
        go_wp2_with fail
        refine HML.out.mono ?_
        rintro e w' ⟨rfl, hw'⟩
        subst w'
        have hsm : (⟨NL.toArray⟩ : ByteArray) ++ ⟨#[93]⟩ = ⟨(NL ++ [93]).toArray⟩ := st_cat NL [93]
        have hsl : (NL ++ [93]).length ≤ 300002 := by simp; omega
        have HCT := Lib.hid (st_cat O (NL ++ [93]))
        go_wp2_with fail
        go_roundg (gO - 1)
        case measure => omega
        case rel => exact ⟨i + 1, O ++ (NL ++ [93]), (d - 1), false, by first | rfl | exact congrArg Value.string HCT.out | exact congrArg Value.string (by simp only [st_cat, List.append_assoc]; rfl), by first | rfl | (congr 1), by first | rfl | (congr 1), by omega, HS.out.2.1, HS.out.2.2.1, HS.out.2.2.2, Lib.hid HS.out.1, HST, HBS⟩
      by_cases h125 : c = 125
      · subst h125
        by_cases hn : i = 0
        · have hnI : ¬ (0 : Int) < (i : Int) := by omega
          have ht0 : s.take i = [] := by rw [hn, List.take_zero]
          have HS := Lib.hid (HF.out [125] d false (by unfold lineStep; simp [ht0]))
          clear hn ht0 HSD HST hR
          clear HF HG
          go_wp2_with fail
          go_roundg (gO - 1)
          case measure => omega
          case rel => exact ⟨i + 1, O ++ [125], d, false, by first | rfl | exact congrArg Value.string (HOC.out) | exact congrArg Value.string (by simp only [st_cat, List.append_assoc]; rfl), by first | rfl | (congr 1), by first | rfl | (congr 1), by omega, HS.out.2.1, HS.out.2.2.1, HS.out.2.2.2, Lib.hid HS.out.1, HX, HB⟩
        have hnI : (0 : Int) < (i : Int) := by omega
        obtain ⟨e, he⟩ : ∃ e, s[i - 1] = e := ⟨_, rfl⟩
        have hLe : (s.take i).getLast? = some e := by
          rw [List.getLast?_eq_getElem?, List.length_take, List.getElem?_take, if_pos (by omega), show min i s.length - 1 = i - 1 by omega, List.getElem?_eq_getElem (by omega), he]
        have hne : s.take i ≠ [] := by
          intro hh
          rw [hh] at hLe
          cases hLe
        have hat := str_at s (i - 1) (by omega) wr
        rw [he, show ((i - 1 : Nat) : Int) = (i : Int) - 1 by omega] at hat
        by_cases h91' : e = 91
        · subst h91'
          have HS := Lib.hid (HF.out [125] d false (by unfold lineStep; simp [hLe]))
          clear HF HG
          go_wp2_with fail
          go_roundg (gO - 1)
          case measure => omega
          case rel => exact ⟨i + 1, O ++ [125], d, false, by first | rfl | exact congrArg Value.string (HOC.out) | exact congrArg Value.string (by simp only [st_cat, List.append_assoc]; rfl), by first | rfl | (congr 1), by first | rfl | (congr 1), by omega, HS.out.2.1, HS.out.2.2.1, HS.out.2.2.2, Lib.hid HS.out.1, HX, HB⟩
        have m91 : (((e.toNat : Nat) : Int) != 91) = true := by
          rw [bne_iff_ne]
          intro hh
          exact h91' (UInt8.toNat_inj.1 (by show e.toNat = 91; omega))
        by_cases h123' : e = 123
        · subst h123'
          have HS := Lib.hid (HF.out [125] d false (by unfold lineStep; simp [hLe]))
          clear HF HG
          go_wp2_with fail
          go_roundg (gO - 1)
          case measure => omega
          case rel => exact ⟨i + 1, O ++ [125], d, false, by first | rfl | exact congrArg Value.string (HOC.out) | exact congrArg Value.string (by simp only [st_cat, List.append_assoc]; rfl), by first | rfl | (congr 1), by first | rfl | (congr 1), by omega, HS.out.2.1, HS.out.2.2.1, HS.out.2.2.2, Lib.hid HS.out.1, HX, HB⟩
        have m123 : (((e.toNat : Nat) : Int) != 123) = true := by
          rw [bne_iff_ne]
          intro hh
          exact h123' (UInt8.toNat_inj.1 (by show e.toNat = 123; omega))
        have HS := Lib.hid (HF.out (nlL (d - 1).toNat ++ [125]) (d - 1) false (by unfold lineStep; rw [if_neg (by simp), if_neg (by decide), if_neg (by simp), if_pos ⟨by simp, hne, by rw [hLe]; simpa using h91', by rw [hLe]; simpa using h123'⟩]))
        have c0 : wr.cell? ⟨w.heap.size, 0, none⟩ = some (.int .i64 d) := by rw [Lib.cell_of_heap HX.out]; rfl
        have f0 := Lib.frozen_of_heap HX.out 0
        clear HF HG hLe hne h91' h123' HSD HST hR
        have hst : (wr.setCell ⟨w.heap.size, 0, none⟩ (.int .i64 (d - 1))).heap[w.heap.size]? = some (.cells #[.int .i64 (d - 1)] 3 (0, 0)) := by simp [World.setCell, Array.getElem?_modify, HX.out]
        have HST := Lib.hid hst
        have HBS := Lib.hid (HB.out.setCell (p := ⟨w.heap.size, 0, none⟩) (Nat.le_refl _) (.int .i64 (d - 1)))
        have HML := Lib.hid (lines1_any w.heap.size (d - 1) _ 3 hst (by omega))
        have hnl : (nlL (d - 1).toNat).length ≤ 300001 := by rw [nl_len]; omega
        generalize nlL (d - 1).toNat = NL at *
        clear hst
        go_wp2_with fail
        refine HML.out.mono ?_
        rintro e w' ⟨rfl, hw'⟩
        subst w'
        have hsm : (⟨NL.toArray⟩ : ByteArray) ++ ⟨#[125]⟩ = ⟨(NL ++ [125]).toArray⟩ := st_cat NL [125]
        have hsl : (NL ++ [125]).length ≤ 300002 := by simp; omega
        have HCT := Lib.hid (st_cat O (NL ++ [125]))
        go_wp2_with fail
        go_roundg (gO - 1)
        case measure => omega
        case rel => exact ⟨i + 1, O ++ (NL ++ [125]), (d - 1), false, by first | rfl | exact congrArg Value.string HCT.out | exact congrArg Value.string (by simp only [st_cat, List.append_assoc]; rfl), by first | rfl | (congr 1), by first | rfl | (congr 1), by omega, HS.out.2.1, HS.out.2.2.1, HS.out.2.2.2, Lib.hid HS.out.1, HST, HBS⟩
      by_cases h44 : c = 44
      · subst h44
        have HS := Lib.hid (HF.out (44 :: nlL d.toNat) d false (by unfold lineStep; simp))
        clear HF HG HSD HST hR
        have HML := Lib.hid (lines1_any w.heap.size d wr 3 HX.out (by omega))
        have hnl : (nlL d.toNat).length ≤ 300001 := by rw [nl_len]; omega
        generalize nlL d.toNat = NL at *
        go_wp2_with fail
        refine HML.out.mono ?_
        rintro e w' ⟨rfl, hw'⟩
        subst w'
        have hsm : (⟨#[44]⟩ : ByteArray) ++ ⟨NL.toArray⟩ = ⟨(44 :: NL).toArray⟩ := st_cat [44] NL
        have hsl : (44 :: NL).length ≤ 300002 := by simp; omega
        have HCT := Lib.hid (st_cat O (44 :: NL))
        go_wp2_with fail
        go_roundg (gO - 1)
        case measure => omega
        case rel => exact ⟨i + 1, O ++ (44 :: NL), d, false, by first | rfl | exact congrArg Value.string HCT.out | exact congrArg Value.string (by simp only [st_cat, List.append_assoc]; rfl), by first | rfl | (congr 1), by first | rfl | (congr 1), by omega, HS.out.2.1, HS.out.2.2.1, HS.out.2.2.2, Lib.hid HS.out.1, HX, HB⟩
      by_cases h58 : c = 58
      · subst h58
        have HS := Lib.hid (HF.out [58, 32] d false (by unfold lineStep; simp))
        have HCT := Lib.hid (st_cat O [58, 32])
        clear HF HG HSD HST hR
        go_wp2_with fail
        go_roundg (gO - 1)
        case measure => omega
        case rel => exact ⟨i + 1, O ++ [58, 32], d, false, by first | rfl | exact congrArg Value.string HCT.out | exact congrArg Value.string (by simp only [st_cat, List.append_assoc]; rfl), by first | rfl | (congr 1), by first | rfl | (congr 1), by omega, HS.out.2.1, HS.out.2.2.1, HS.out.2.2.2, Lib.hid HS.out.1, HX, HB⟩
      have HS := Lib.hid (HF.out [c] d false (by unfold lineStep; simp [h34, h91, h123, h93, h125, h44, h58]))
      have q34 : (c == 34) = false := by simpa using h34
      have q91 : (c == 91) = false := by simpa using h91
      have q123 : (c == 123) = false := by simpa using h123
      have q93 : (c == 93) = false := by simpa using h93
      have q125 : (c == 125) = false := by simpa using h125
      have q44 : (c == 44) = false := by simpa using h44
      have q58 : (c == 58) = false := by simpa using h58
      clear HF HG HSD HST hR h34 h91 h123 h93 h125 h44 h58
      go_wp2_with fail
      go_roundg (gO - 1)
      case measure => omega
      case rel => exact ⟨i + 1, O ++ [c], d, false, by first | rfl | exact congrArg Value.string (HOC.out) | exact congrArg Value.string (by simp only [st_cat, List.append_assoc]; rfl), by first | rfl | (congr 1), by first | rfl | (congr 1), by omega, HS.out.2.1, HS.out.2.2.1, HS.out.2.2.2, Lib.hid HS.out.1, HX, HB⟩
end Go.Proofs.Ytgcfikiajingcaa
/- json: pretty, of arrays. -/
set_option linter.unusedVariables false
namespace Go.Proofs.Ytgcfikiajingcaa
open Go.RowKit

theorem pr_nl_snoc (n : Nat) : nlL n ++ [32, 32] = nlL (n + 1) := by
  unfold nlL
  rw [show 2 * (n + 1) = 2 * n + 2 by omega, ← List.replicate_append_replicate]
  rfl
theorem pr_nl_len (n : Nat) : (nlL n).length = 2 * n + 1 := by simp [nlL]
set_option maxRecDepth 100000 in
set_option maxHeartbeats 16000000 in
theorem jmargin_any (b : Nat) (l : List UInt8) (D : Nat) (w : World) (h : BldZ b l w) (hl : l.length + (nlL D).length ≤ 1000000) :
    Calls Try.prog 51 #[.pointer (some ⟨b, 0, none⟩), .int .i64 (D : Int)] w fun e w' => e = .returned (.tuple #[]) ∧ BldZ b (l ++ nlL D) w' ∧ FrZ b w w' := by
  rw [pr_nl_len] at hl
  have H := Lib.hid h
  clear h
  go_enter Try.func51, Try.ntmps51
  go_wp2_with fail
  refine (WriteByte_z b l 10 10 rfl w H.out (by omega)).mono ?_
  rintro e w1 ⟨rfl, hb1, hf1⟩
  have HB1 := Lib.hid hb1
  have HF1 := Lib.hid hf1
  clear hb1 hf1
  go_wp2_with fail
  go_loopg [7] D (fun k iv wr => ∃ j : Nat, iv = .int .i64 (j : Int) ∧ j + k = D ∧ Hid (BldZ b (l ++ nlL j) wr) ∧ Hid (FrZ b w wr))
  case atStart => exact ⟨0, rfl, by omega, Lib.hid (by simpa [nlL] using HB1.out), HF1⟩
  case round =>
    obtain ⟨j, rfl, hj, HBW, HFW⟩ := hrel
    by_cases hlt : j < D
    · have hltI : (j : Int) < (D : Int) := by omega
      go_wp2_with fail
      refine (WriteString_z b (l ++ nlL j) [32, 32] wr HBW.out (by rw [List.length_append, pr_nl_len]; simp; omega)).mono ?_
      rintro e w2 ⟨rfl, hb2, hf2⟩
      have HB2 : Hid (BldZ b (l ++ nlL (j + 1)) w2) := Lib.hid (by rw [← pr_nl_snoc, ← List.append_assoc]; exact hb2)
      have HF2 := Lib.hid (HFW.out.trans hf2)
      clear hb2 hf2
      go_wp2_with fail
      go_roundg (gk - 1)
      case measure => omega
      case rel => exact ⟨j + 1, by first | rfl | (congr 1), by omega, HB2, HF2⟩
    · have hge : ¬ (j : Int) < (D : Int) := by omega
      have HE : Hid (D = j) := Lib.hid (by omega)
      go_wp2_with fail
      go_end0
      exact ⟨rfl, by rw [HE.out]; exact HBW.out, HFW.out⟩
/-- What is written of an array, but for its end. -/
def prL (n : Nat) (l : List JV) : List UInt8 := styL linesS n (nlL (n + 1)) [] l
def prM (n : Nat) (l : List (List UInt8 × JV)) : List UInt8 := styM linesS n (nlL (n + 1)) [] l
theorem styL_snoc (S : Sty) (n : Nat) (v : JV) : ∀ (l : List JV) (b : List UInt8), styL S n b [] (l ++ [v]) = styL S n b [] l ++ ((if l = [] then b else 44 :: S.com n) ++ styJ S (n + 1) v)
  | [], b => by simp [styL]
  | x :: l, b => by
    have := styL_snoc S n v l (44 :: S.com n)
    rw [List.cons_append, styL_plainend, styL_plainend, this, if_neg (show ¬ x :: l = [] by simp)]
    by_cases e : l = []
    · subst e; simp [styL]
    · rw [if_neg e]; simp
theorem styM_snoc (S : Sty) (n : Nat) (v : List UInt8 × JV) : ∀ (l : List (List UInt8 × JV)) (b : List UInt8), styM S n b [] (l ++ [v]) = styM S n b [] l ++ ((if l = [] then b else 44 :: S.com n) ++ (quoteL v.1 ++ (58 :: (S.col ++ styJ S (n + 1) v.2))))
  | [], b => by simp [styM]
  | x :: l, b => by
    have := styM_snoc S n v l (44 :: S.com n)
    rw [List.cons_append, styM_plainend, styM_plainend, this, if_neg (show ¬ x :: l = [] by simp)]
    by_cases e : l = []
    · subst e; simp [styM]
    · rw [if_neg e]; simp
theorem prL_take (n : Nat) (l : List JV) (j : Nat) (h : j < l.length) : prL n (l.take (j + 1)) = prL n (l.take j) ++ ((if j = 0 then [] else [44]) ++ (nlL (n + 1) ++ styJ linesS (n + 1) l[j])) := by
  unfold prL
  rw [List.take_succ_eq_append_getElem h, styL_snoc]
  congr 1
  by_cases e : j = 0
  · subst e; simp
  · rw [if_neg e, if_neg]
    · simp [linesS]
    · intro h2
      have := congrArg List.length h2
      simp only [List.length_take, List.length_nil] at this
      omega
theorem prM_take (n : Nat) (l : List (List UInt8 × JV)) (j : Nat) (h : j < l.length) : prM n (l.take (j + 1)) = prM n (l.take j) ++ ((if j = 0 then [] else [44]) ++ (nlL (n + 1) ++ (quoteL l[j].1 ++ (58 :: 32 :: styJ linesS (n + 1) l[j].2)))) := by
  unfold prM
  rw [List.take_succ_eq_append_getElem h, styM_snoc]
  congr 1
  by_cases e : j = 0
  · subst e; simp [linesS]
  · rw [if_neg e, if_neg]
    · simp [linesS]
    · intro h2
      have := congrArg List.length h2
      simp only [List.length_take, List.length_nil] at this
      omega
theorem prL_le (n : Nat) (l : List JV) : ∀ (k j : Nat), (prL n (l.take j)).length ≤ (prL n (l.take (j + k))).length
  | 0, j => Nat.le_refl _
  | k + 1, j => by
    refine Nat.le_trans (prL_le n l k j) ?_
    by_cases h : j + k < l.length
    · rw [show j + (k + 1) = j + k + 1 by omega, prL_take n l (j + k) h, List.length_append]
      omega
    · rw [List.take_of_length_le (by omega), List.take_of_length_le (by omega)]
      exact Nat.le_refl _
theorem prL_take_le (n : Nat) (l : List JV) (j : Nat) : (prL n (l.take j)).length ≤ (prL n l).length := by
  have := prL_le n l l.length j
  rwa [List.take_of_length_le (i := j + l.length) (by omega)] at this
theorem prM_le (n : Nat) (l : List (List UInt8 × JV)) : ∀ (k j : Nat), (prM n (l.take j)).length ≤ (prM n (l.take (j + k))).length
  | 0, j => Nat.le_refl _
  | k + 1, j => by
    refine Nat.le_trans (prM_le n l k j) ?_
    by_cases h : j + k < l.length
    · rw [show j + (k + 1) = j + k + 1 by omega, prM_take n l (j + k) h, List.length_append]
      omega
    · rw [List.take_of_length_le (by omega), List.take_of_length_le (by omega)]
      exact Nat.le_refl _
theorem prM_take_le (n : Nat) (l : List (List UInt8 × JV)) (j : Nat) : (prM n (l.take j)).length ≤ (prM n l).length := by
  have := prM_le n l l.length j
  rwa [List.take_of_length_le (i := j + l.length) (by omega)] at this
theorem sty_arr (n : Nat) (y : Bool) (t : List UInt8) (l : List JV) (m : List (List UInt8 × JV)) (h : l ≠ []) : styJ linesS n (.mk 5 y t l m) = 91 :: (prL n l ++ (nlL n ++ [93])) := by
  rw [styJ]
  have := styL_end linesS n (nlL n) l (nlL (n + 1)) h
  show 91 :: (styL linesS n (nlL (n + 1)) (nlL n) l ++ [93]) = _
  rw [this]
  simp [prL]
theorem sty_obj (n : Nat) (y : Bool) (t : List UInt8) (l : List JV) (m : List (List UInt8 × JV)) (h : m ≠ []) : styJ linesS n (.mk 6 y t l m) = 123 :: (prM n m ++ (nlL n ++ [125])) := by
  rw [styJ]
  have := styM_end linesS n (nlL n) m (nlL (n + 1)) h
  show 123 :: (styM linesS n (nlL (n + 1)) (nlL n) m ++ [125]) = _
  rw [this]
  simp [prM]
/-- What pretty writes of a value. -/
def PrettyC (b : Nat) (v : JV) : Prop := ∀ cs l w (n : Nat), Rep (· < b) w cs v → BldZ b l w → l.length + (styJ linesS n v).length ≤ 100000 → n ≤ 100000 →
  Calls Try.prog 28 #[.agg cs.toArray, .pointer (some ⟨b, 0, none⟩), .int .i64 (n : Int)] w fun e w' => e = .returned (.tuple #[]) ∧ BldZ b (l ++ styJ linesS n v) w' ∧ FrZ b w w'
end Go.Proofs.Ytgcfikiajingcaa
