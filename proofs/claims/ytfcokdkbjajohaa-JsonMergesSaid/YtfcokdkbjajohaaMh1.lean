/- Merged: JsMs, JsOn, JsMg. -/
import Derived.Test.YtfcokdkbjajohaaMg1
import Derived.Test.YtfcokdkbjajohaaMg2
import Derived.Test.YtfcokdkbjajohaaMg3
import Derived.Test.YtfcokdkbjajohaaMg4
import Derived.Test.YtfcokdkbjajohaaMg5
import Derived.Test.YtfcokdkbjajohaaMg6
import Derived.Test.YtfcokdkbjajohaaMg7
/- json: a merge's steps, and its size. Plain. -/
set_option linter.unusedVariables false
namespace Go.Proofs.Ytfcokdkbjajohaa

/-- One member of a patch. -/
def stepM (o : List (List UInt8 × JV)) (p : List UInt8 × JV) : List (List UInt8 × JV) :=
  if p.2.kind = 1 then withoutM p.1 o else withM p.1 (mergeJ ((getM p.1 o).getD .zero) p.2) o
theorem mergeM_cons (o : List (List UInt8 × JV)) (p : List UInt8 × JV) (m : List (List UInt8 × JV)) : mergeM o (p :: m) = mergeM (stepM o p) m := by
  obtain ⟨n, u⟩ := p
  rw [mergeM]
  rfl
theorem mergeM_snoc : ∀ (m o : List (List UInt8 × JV)) (p : List UInt8 × JV), mergeM o (m ++ [p]) = stepM (mergeM o m) p
  | [], o, p => by rw [List.nil_append, mergeM_cons, mergeM, mergeM]
  | q :: m, o, p => by rw [List.cons_append, mergeM_cons, mergeM_snoc m, mergeM_cons]
theorem sizeM_app' : ∀ (a b : List (List UInt8 × JV)), sizeM (a ++ b) = sizeM a + sizeM b
  | [], b => by simp [sizeM]
  | x :: a, b => by
    obtain ⟨k, v⟩ := x
    rw [List.cons_append, sizeM, sizeM, sizeM_app' a b]; omega
theorem without_size (n : List UInt8) : ∀ m, sizeM (withoutM n m) ≤ sizeM m
  | [] => by simp [withoutM]
  | (k, v) :: m => by
    have ih := without_size n m
    unfold withoutM at ih ⊢
    rw [List.filter_cons]
    split
    · rw [sizeM, sizeM]; omega
    · rw [sizeM]; omega
theorem with_size (n : List UInt8) (x : JV) : ∀ m, sizeM (withM n x m) + (if (getM n m).isSome then sizeJ ((getM n m).getD .zero) else 0) = sizeM m + sizeJ x + (if (getM n m).isSome then 0 else 1 + n.length)
  | [] => by simp [withM, sizeM, getM]; omega
  | (k, v) :: m => by
    have ih := with_size n x m
    rw [withM, getM]
    by_cases e : k = n
    · simp only [e, if_true, sizeM, Option.isSome_some, Option.getD_some]
      omega
    · simp only [e, if_false, sizeM]
      omega
mutual
theorem mergeJ_size : ∀ (u v : JV), sizeJ (mergeJ v u) ≤ (if v.kind = 6 then sizeJ v else 0) + sizeJ u
  | .mk k y t l m, v => by
    have hm := mergeM_size m (if v.kind = 6 then v.mem else [])
    rw [mergeJ]
    by_cases h6 : k = 6
    · rw [if_pos h6]
      simp only [jobj, sizeJ, sizeL, List.length_nil]
      by_cases hv : v.kind = 6
      · rw [if_pos hv] at hm ⊢
        obtain ⟨k', y', t', l', m'⟩ := v
        have hk : k' = 6 := hv
        have e : sizeJ (.mk k' y' t' l' m') = 1 + t'.length + sizeL l' + sizeM m' := by rw [sizeJ]
        simp only [JV.mem] at hm ⊢
        rw [e, if_pos (show (JV.mk k' y' t' l' m').kind = 6 from hk)]
        omega
      · rw [if_neg hv] at hm ⊢
        simp only [sizeM] at hm
        omega
    · rw [if_neg h6]
      omega
theorem mergeM_size : ∀ (m o : List (List UInt8 × JV)), sizeM (mergeM o m) ≤ sizeM o + sizeM m
  | [], o => by rw [mergeM, sizeM]; omega
  | (n, u) :: m, o => by
    have hj := mergeJ_size u ((getM n o).getD .zero)
    have hr := mergeM_size m (if u.kind = 1 then withoutM n o else withM n (mergeJ ((getM n o).getD .zero) u) o)
    rw [mergeM, sizeM]
    refine Nat.le_trans hr ?_
    by_cases h1 : u.kind = 1
    · rw [if_pos h1]
      have := without_size n o
      omega
    · rw [if_neg h1]
      have h2 := with_size n (mergeJ ((getM n o).getD .zero) u) o
      cases hg : getM n o with
      | none =>
        rw [hg] at h2 hj
        simp [JV.zero, JV.kind] at h2 hj
        simp only [JV.zero, Option.getD_none] at h2 hj ⊢
        omega
      | some x =>
        rw [hg] at h2 hj
        simp only [Option.isSome_some, Option.getD_some, if_true] at h2 hj ⊢
        split at hj <;> omega
end
theorem step_right {o : List (List UInt8 × JV)} {p : List UInt8 × JV} (ho : rightM o = true) (hn : toldB p.1 = true) (hp : rightJ p.2 = true) : rightM (stepM o p) = true := by
  have h := mergeM_right [p] o ho (by obtain ⟨n, u⟩ := p; simp [rightM, getM]; exact ⟨hn, hp⟩)
  rw [mergeM_cons, mergeM] at h
  exact h
theorem right_at : ∀ {m : List (List UInt8 × JV)}, rightM m = true → ∀ p ∈ m, toldB p.1 = true ∧ rightJ p.2 = true
  | [], _, p, hp => by simp at hp
  | (n, v) :: m, h, p, hp => by
    rw [rightM, Bool.and_eq_true, Bool.and_eq_true, Bool.and_eq_true] at h
    rcases List.mem_cons.1 hp with rfl | hp
    · exact ⟨h.1.1.1, h.1.1.2⟩
    · exact right_at h.2 p hp
theorem right_obj {v : JV} (h : rightJ v = true) (hk : v.kind = 6) : v = jobj v.mem ∧ rightM v.mem = true := by
  rcases right_cases h with e | ⟨_, e⟩ | ⟨_, e, _⟩ | ⟨_, e, _⟩ | ⟨_, e, _⟩ | ⟨m, e, hm⟩ <;> subst e <;> simp [jnull, jbool, jnum, jstr, jarr, jobj, JV.kind] at hk
  exact ⟨rfl, hm⟩
end Go.Proofs.Ytfcokdkbjajohaa
/- json.Obj of nothing. -/
set_option linter.unusedVariables false
namespace Go.Proofs.Ytfcokdkbjajohaa
open Go.RowKit

theorem cloneM_nil (w : World) : Calls Try.prog 36 #[.slice none 0 0] w fun e w' => e = .returned (.slice none 0 0) ∧ w' = w := by
  have q := fun (w : World) (a : Option Addr) (n c n' c' : Nat) => Lib.run_eql_slice_nil (P := Try.prog) w 26 38 a n c n' c' Try.underlying26
  go_enter Try.func36, Try.ntmps36
  go_wp2_with fail
  refine bodyPost_ret (results_tmp rfl _ _ _) rfl ?_
  exact ⟨rfl, rfl⟩
set_option maxHeartbeats 4000000 in
theorem obj_nil (w : World) : Calls Try.prog 21 #[.slice none 0 0] w fun e w' => e = .returned (.agg #[.int .i64 6, .bool false, .string ⟨#[]⟩, .slice none 0 0, .slice none 0 0]) ∧ Below w.heap.size w w' := by
  have hba : Below w.heap.size w (w.alloc (.cells #[.int .i64 0, .bool false, .string ⟨#[]⟩, .slice none 0 0, .slice none 0 0] 28)) := (Below.refl _ _).alloc (Nat.le_refl _) _
  have hx := heap_alloc_new w (.cells #[.int .i64 0, .bool false, .string ⟨#[]⟩, .slice none 0 0, .slice none 0 0] 28)
  go_enter Try.func21, Try.ntmps21
  go_upto_region 1 with (fail)
  generalize w.alloc _ = w1 at *
  have HB1 := Lib.hid hba
  have HX1 := Lib.hid hx
  have hs1 : w.heap.size < w1.heap.size := (Array.getElem?_eq_some_iff.1 hx).1
  clear hba hx
  go_wp2_with fail
  refine (cloneM_nil w1).mono ?_
  rintro e w2 ⟨rfl, rfl⟩
  have hx2 := HX1.out
  have d0 : w2.cell? ⟨w.heap.size, 0, none⟩ = some (.int .i64 0) := by rw [Lib.cell_of_heap hx2]; rfl
  have d1 : w2.cell? ⟨w.heap.size, 1, none⟩ = some (.bool false) := by rw [Lib.cell_of_heap hx2]; rfl
  have d2 : w2.cell? ⟨w.heap.size, 2, none⟩ = some (.string ⟨#[]⟩) := by rw [Lib.cell_of_heap hx2]; rfl
  have d3 : w2.cell? ⟨w.heap.size, 3, none⟩ = some (.slice none 0 0) := by rw [Lib.cell_of_heap hx2]; rfl
  have d4 : w2.cell? ⟨w.heap.size, 4, none⟩ = some (.slice none 0 0) := by rw [Lib.cell_of_heap hx2]; rfl
  have f0 := Lib.frozen_of_heap hx2 0
  have f1 := Lib.frozen_of_heap hx2 1
  have f2 := Lib.frozen_of_heap hx2 2
  have f3 := Lib.frozen_of_heap hx2 3
  have f4 := Lib.frozen_of_heap hx2 4
  clear hx2
  go_wp2_with fail
  have hst := value_stored HX1.out (.int .i64 6) (.bool false) (.string ⟨#[]⟩) (.slice none 0 0) (.slice none 0 0)
  have hbe := zero_stored HB1.out (Nat.le_refl _) (.int .i64 6) (.bool false) (.string ⟨#[]⟩) (.slice none 0 0) (.slice none 0 0)
  have e0 := Lib.cell_of_heap hst 0
  have e1 := Lib.cell_of_heap hst 1
  have e2 := Lib.cell_of_heap hst 2
  have e3 := Lib.cell_of_heap hst 3
  have e4 := Lib.cell_of_heap hst 4
  simp only [List.getElem?_toArray] at e0 e1 e2 e3 e4
  refine bodyPost_ret (v := .agg #[.int .i64 6, .bool false, .string ⟨#[]⟩, .slice none 0 0, .slice none 0 0]) (by simp [results, Try.results21, go_sem, e0, e1, e2, e3, e4]) rfl ?_
  exact ⟨rfl, hbe⟩
end Go.Proofs.Ytfcokdkbjajohaa
/- json: Merge. -/
set_option linter.unusedVariables false
namespace Go.Proofs.Ytfcokdkbjajohaa
open Go.RowKit

theorem ent_jmerge : ∀ args w, (callFunc 8 args).run Try.prog w = .ok (.enter 8 args) w := run_enters Try.func8 (by kernel_rfl) rfl
theorem ent_jwith : ∀ args w, (callFunc 23 args).run Try.prog w = .ok (.enter 23 args) w := run_enters Try.func23 (by kernel_rfl) rfl
/-- Merge of any value with the patch u. -/
def MergeC (u : JV) : Prop := ∀ (v : JV) (ok : Nat → Prop) (cs cu : List Value) (w : World), Rep ok w cs v → Rep ok w cu u → (rightJ v = true ∨ v.kind ≠ 6) → rightJ u = true → sizeJ v + sizeJ u ≤ 500000 →
  Calls Try.prog 8 #[.agg cs.toArray, .agg cu.toArray] w fun e w' => Below w.heap.size w w' ∧ ∃ cs', e = .returned (.agg cs'.toArray) ∧ Rep (fun b => (ok b ∧ b < w.heap.size) ∨ w.heap.size ≤ b) w' cs' (mergeJ v u)
/-- A value's cells, of blocks that may be. -/
def VRp (ok : Nat → Prop) (v : JV) : Value → World → Prop := fun x w => ∃ cs, x = .agg cs.toArray ∧ Rep ok w cs v
theorem VRp.stab (ok : Nat → Prop) (v : JV) : Stab (VRp ok v) := fun x w1 w2 ⟨cs, e, h⟩ hb => ⟨cs, e, h.under hb⟩
theorem six_atM {B x : Nat} {w w' : World} {a b c d e f : Value} {T : TypeId} {fr : Nat × Nat} (h : w.heap[x]? = some (.cells #[a, b, c, d, e, f] T fr)) (hb : Below B w w') (hx : x < B) :
    w'.cell? ⟨x, 0, none⟩ = some a ∧ w'.cell? ⟨x, 1, none⟩ = some b ∧ w'.cell? ⟨x, 2, none⟩ = some c ∧ w'.cell? ⟨x, 3, none⟩ = some d ∧ w'.cell? ⟨x, 4, none⟩ = some e ∧ w'.cell? ⟨x, 5, none⟩ = some f := by
  have h' := (hb.block x hx).trans h
  exact ⟨by rw [Lib.cell_of_heap h']; rfl, by rw [Lib.cell_of_heap h']; rfl, by rw [Lib.cell_of_heap h']; rfl, by rw [Lib.cell_of_heap h']; rfl, by rw [Lib.cell_of_heap h']; rfl, by rw [Lib.cell_of_heap h']; rfl⟩
def OKB (ok : Nat → Prop) (s b0 b1 b2 b : Nat) : Prop := ((ok b ∧ b < s) ∨ s ≤ b) ∧ b ≠ b0 ∧ b ≠ b1 ∧ b ≠ b2
theorem OKB.new {ok : Nat → Prop} {s b0 b1 b2 z : Nat} (hs : s ≤ z) (h0 : b0 < z) (h1 : b1 < z) (h2 : b2 < z) : ∀ b, ((OKB ok s b0 b1 b2 b ∧ b < z) ∨ z ≤ b) → OKB ok s b0 b1 b2 b := by
  intro b hb
  rcases hb with hb | hb
  · exact hb.1
  · exact ⟨.inr (by omega), by omega, by omega, by omega⟩
theorem OKB.old {ok : Nat → Prop} {s b0 b1 b2 : Nat} (h0 : s ≤ b0) (h1 : s ≤ b1) (h2 : s ≤ b2) : ∀ b, ok b ∧ b < s → OKB ok s b0 b1 b2 b := fun b hb => ⟨.inl hb, by omega, by omega, by omega⟩
theorem rep_kind {ok : Nat → Prop} {w : World} {k : Int} {r : List Value} {v : JV} (h : Rep ok w (.int .i64 k :: r) v) : v.kind = k := by
  obtain ⟨a, c, a', c', cl, cm, e, -⟩ := h.parts
  simp only [List.cons.injEq, Value.int.injEq, true_and] at e
  exact e.1.symm
theorem take_size (m : List (List UInt8 × JV)) (i : Nat) : sizeM (m.take i) ≤ sizeM m := by
  have h := sizeM_app' (m.take i) (m.drop i)
  rw [List.take_append_drop] at h
  omega
theorem take_at_size (m : List (List UInt8 × JV)) (i : Nat) (h : i < m.length) : sizeM (m.take i) + (1 + m[i].1.length + sizeJ m[i].2) ≤ sizeM m := by
  have h1 := sizeM_app' (m.take i) (m.drop i)
  rw [List.take_append_drop, List.drop_eq_getElem_cons h] at h1
  generalize m[i] = p at *
  obtain ⟨n, u⟩ := p
  rw [sizeM] at h1
  show _ + (1 + n.length + sizeJ u) ≤ _
  omega
theorem get_size {n : List UInt8} {x : JV} : ∀ {m : List (List UInt8 × JV)}, getM n m = some x → sizeJ x ≤ sizeM m
  | p :: m, h => by
    obtain ⟨k, v⟩ := p
    rw [getM] at h
    rw [sizeM]
    by_cases e : k = n
    · rw [if_pos e] at h
      rw [← Option.some.inj h]
      show sizeJ v ≤ _
      omega
    · rw [if_neg e] at h
      have := get_size h
      omega
theorem mergeJ_not {v u : JV} (h : u.kind ≠ 6) : mergeJ v u = u := by
  obtain ⟨k, y, t, l, m⟩ := u
  rw [mergeJ, if_neg (show ¬ k = 6 from h)]
theorem mergeJ_obj (v : JV) (m : List (List UInt8 × JV)) : mergeJ v (jobj m) = jobj (mergeM (if v.kind = 6 then v.mem else []) m) := by
  rw [jobj, mergeJ, if_pos rfl]
set_option maxRecDepth 100000 in
set_option maxHeartbeats 16000000 in
theorem jmerge_leaf (u : JV) (hk : u.kind ≠ 6) : MergeC u := by
  intro v ok cs cu w hv hu hvr hur hsz
  rw [mergeJ_not hk]
  have HU := Lib.hid hu.lt
  have hkb : (u.kind != 6) = true := by simpa using hk
  clear hvr hur hsz
  obtain ⟨a1, c1, a1', c1', _, _, rfl, -⟩ := hv.parts
  unfold strV at *
  obtain ⟨k1, y1, t1, n1, m1, hk1, hy1, ht1, hn1, hm1⟩ : ∃ k y t n1 n2, (v).kind = k ∧ (v).yes = y ∧ (⟨(v).text.toArray⟩ : ByteArray) = t ∧ (v).list.length = n1 ∧ (v).mem.length = n2 := ⟨_, _, _, _, _, rfl, rfl, rfl, rfl, rfl⟩
  rw [hk1, hy1, ht1, hn1, hm1]
  obtain ⟨a2, c2, a2', c2', _, _, rfl, -⟩ := hu.parts
  unfold strV at *
  obtain ⟨k2, y2, t2, n2, m2, hk2, hy2, ht2, hn2, hm2⟩ : ∃ k y t n1 n2, (u).kind = k ∧ (u).yes = y ∧ (⟨(u).text.toArray⟩ : ByteArray) = t ∧ (u).list.length = n1 ∧ (u).mem.length = n2 := ⟨_, _, _, _, _, rfl, rfl, rfl, rfl, rfl⟩
  rw [hk2, hy2, ht2, hn2, hm2]
  rw [hk2] at hkb
  rw [hk2, hy2, ht2, hn2, hm2] at HU
  clear hk1 hy1 ht1 hn1 hm1 hk2 hy2 ht2 hn2 hm2 hv hu hk
  go_enter Try.func8, Try.ntmps8
  go_upto_region 1 with (fail)
  obtain ⟨hb, g0, g1, g2⟩ := three_alloc w (.cells #[.int .i64 k1, .bool y1, .string t1, .slice a1 n1 c1, .slice a1' m1 c1'] 28) (.cells #[.int .i64 k2, .bool y2, .string t2, .slice a2 n2 c2, .slice a2' m2 c2'] 28) (.cells #[.int .i64 0, .bool false, .string ⟨#[]⟩, .slice none 0 0, .slice none 0 0] 28)
  generalize ((w.alloc _).alloc _).alloc _ = w1 at *
  have HB1 := Lib.hid hb
  have G2 := Lib.hid g2
  have hs2 : w.heap.size + 1 + 1 < w1.heap.size := (Array.getElem?_eq_some_iff.1 g2).1
  obtain ⟨v0, v1, v2, v3, v4⟩ := five_at g1 (Below.refl w1.heap.size w1) (by omega)
  obtain ⟨r0, r1, r2, r3, r4⟩ := five_at g2 (Below.refl w1.heap.size w1) (by omega)
  have f0 := Lib.frozen_of_heap g2 0
  have f1 := Lib.frozen_of_heap g2 1
  have f2 := Lib.frozen_of_heap g2 2
  have f3 := Lib.frozen_of_heap g2 3
  have f4 := Lib.frozen_of_heap g2 4
  clear hb g0 g1 g2
  go_wp2_with fail
  have hst := value_stored G2.out (.int .i64 k2) (.bool y2) (.string t2) (.slice a2 n2 c2) (.slice a2' m2 c2')
  have hbe := zero_stored (gv := w.heap.size + 1 + 1) HB1.out (by omega) (.int .i64 k2) (.bool y2) (.string t2) (.slice a2 n2 c2) (.slice a2' m2 c2')
  clear v0 v1 v2 v3 v4 r0 r1 r2 r3 r4 f0 f1 f2 f3 f4
  generalize ((((w1.setCell _ _).setCell _ _).setCell _ _).setCell _ _).setCell _ _ = w2 at *
  have e0 := Lib.cell_of_heap hst 0
  have e1 := Lib.cell_of_heap hst 1
  have e2 := Lib.cell_of_heap hst 2
  have e3 := Lib.cell_of_heap hst 3
  have e4 := Lib.cell_of_heap hst 4
  simp only [List.getElem?_toArray] at e0 e1 e2 e3 e4
  refine bodyPost_ret (v := .agg #[.int .i64 k2, .bool y2, .string t2, .slice a2 n2 c2, .slice a2' m2 c2']) (by simp [results, Try.results8, go_sem, e0, e1, e2, e3, e4]) rfl ?_
  exact ⟨hbe, [.int .i64 k2, .bool y2, .string t2, .slice a2 n2 c2, .slice a2' m2 c2'], rfl, (HU.out.keep fun b hb _ => hbe.block b hb.2).mono fun b hb => .inl hb⟩
set_option maxRecDepth 100000 in
set_option maxHeartbeats 64000000 in
theorem jmerge_obj (m : List (List UInt8 × JV)) (ih : ∀ p ∈ m, MergeC p.2) : MergeC (jobj m) := by
  intro v ok cs cu w hv hu hvr hur hsz
  rw [mergeJ_obj]
  have hmr : rightM m = true := by simpa [jobj, rightJ] using hur
  have hsm : sizeJ v + sizeM m ≤ 500000 := by simp only [jobj, sizeJ, sizeL, List.length_nil] at hsz; omega
  have hlm := lenM_size m
  obtain ⟨au, cu1, au', cu1', cmu, rfl, hru, hmu, hcu⟩ := rep_obj hu rfl
  have hro : rightM (if v.kind = 6 then v.mem else []) = true := by
    by_cases h : v.kind = 6
    · rw [if_pos h]
      exact (right_obj (hvr.resolve_right fun e => e h) h).2
    · rw [if_neg h]
      rfl
  have hso : sizeM (if v.kind = 6 then v.mem else []) ≤ sizeJ v := by
    by_cases h : v.kind = 6
    · rw [if_pos h]
      obtain ⟨k, y, t, l, mm⟩ := v
      show sizeM mm ≤ _
      rw [sizeJ]
      omega
    · rw [if_neg h]
      simp [sizeM]
  have hvo : v.kind = 6 → v = jobj (if v.kind = 6 then v.mem else []) := fun h => by
    rw [if_pos h]
    exact (right_obj (hvr.resolve_right fun e => e h) h).1
  obtain ⟨o0, ho0⟩ : ∃ o, (if v.kind = 6 then v.mem else []) = o := ⟨_, rfl⟩
  have HOZ := Lib.hid ho0
  rw [ho0] at hro hso hvo ⊢
  have HRU := Lib.hid hru.lt
  have HMU := Lib.hid hmu.lt
  have HV := Lib.hid hv.lt
  have HVO := Lib.hid hvo
  have HIH := Lib.hid ih
  have HMR := Lib.hid hmr
  have HRO := Lib.hid hro
  clear hur hvr hru hmu ih ho0 hvo hu hsz hmr hro
  obtain ⟨a1, c1, a1', c1', _, _, rfl, -⟩ := hv.parts
  unfold strV at *
  obtain ⟨k1, y1, t1, n1, m1, hk1, hy1, ht1, hn1, hm1⟩ : ∃ k y t n1 n2, (v).kind = k ∧ (v).yes = y ∧ (⟨(v).text.toArray⟩ : ByteArray) = t ∧ (v).list.length = n1 ∧ (v).mem.length = n2 := ⟨_, _, _, _, _, rfl, rfl, rfl, rfl, rfl⟩
  rw [hk1, hy1, ht1, hn1, hm1]
  have HV1 := HV
  rw [hk1, hy1, ht1, hn1, hm1] at HV1
  have HK1 := Lib.hid (And.intro hk1 (And.intro hy1 (And.intro ht1 (And.intro hn1 hm1))))
  clear hk1 hy1 ht1 hn1 hm1 hv HV
  go_enter Try.func8, Try.ntmps8
  go_upto_region 1 with (fail)
  obtain ⟨hb, g0, g1, g2⟩ := three_alloc w (.cells #[.int .i64 k1, .bool y1, .string t1, .slice a1 n1 c1, .slice a1' m1 c1'] 28) (.cells #[.int .i64 6, .bool false, .string ⟨#[]⟩, .slice au 0 cu1, .slice au' m.length cu1'] 28) (.cells #[.int .i64 0, .bool false, .string ⟨#[]⟩, .slice none 0 0, .slice none 0 0] 28)
  generalize ((w.alloc _).alloc _).alloc _ = w1 at *
  obtain ⟨b0, hb0⟩ : ∃ b, w.heap.size = b := ⟨_, rfl⟩
  obtain ⟨b1, hb1⟩ : ∃ b, w.heap.size + 1 = b := ⟨_, rfl⟩
  obtain ⟨b2, hb2⟩ : ∃ b, w.heap.size + 1 + 1 = b := ⟨_, rfl⟩
  have hd01 : b0 ≠ b1 := by omega
  have hd02 : b0 ≠ b2 := by omega
  have hd12 : b1 ≠ b2 := by omega
  have hlt12 : b1 < b2 := by omega
  have hl0 : w.heap.size ≤ b0 := by omega
  have hl1 : w.heap.size ≤ b1 := by omega
  have hl2 : w.heap.size ≤ b2 := by omega
  rw [hb2] at g2 ⊢
  rw [hb1] at g1 ⊢
  rw [hb0] at g0
  have hG : (⟨w.heap.size, 0, none⟩ : Addr) = ⟨b0, 0, none⟩ := by rw [hb0]
  rw [hG]
  have HB1 := Lib.hid hb
  have G0 := Lib.hid g0
  have G1 := Lib.hid g1
  have G2 := Lib.hid g2
  have hs0 : b0 < w1.heap.size := (Array.getElem?_eq_some_iff.1 g0).1
  have hs1 : b1 < w1.heap.size := (Array.getElem?_eq_some_iff.1 g1).1
  have hs2 : b2 < w1.heap.size := (Array.getElem?_eq_some_iff.1 g2).1
  have HVW : Hid (Rep (OKB ok w.heap.size b0 b1 b2) w1 [.int .i64 k1, .bool y1, .string t1, .slice a1 n1 c1, .slice a1' m1 c1'] v) := Lib.hid ((HV1.out.keep fun b hb' _ => hb.block b hb'.2).mono (OKB.old hl0 hl1 hl2))
  clear hb g0 g1 g2 hb0 hb1 hb2 hG HV1
  obtain ⟨v0, v1, v2, v3, v4⟩ := five_at G1.out (Below.refl w1.heap.size w1) hs1
  obtain ⟨u0, u1, u2, u3, u4⟩ := five_at G0.out (Below.refl w1.heap.size w1) hs0
  go_upto_if 15 with (fail)
  go_cut [] (fun wc => ∃ (ao ao' : Option Addr) (co no co' : Nat), Hid (no = o0.length) ∧ Hid (wc.heap[b0]? = some (.cells #[.int .i64 6, .bool false, .string ⟨#[]⟩, .slice ao 0 co, .slice ao' no co'] 28 (0, 0))) ∧ Hid (Rep (OKB ok w.heap.size b0 b1 b2) wc [.int .i64 6, .bool false, .string ⟨#[]⟩, .slice ao 0 co, .slice ao' no co'] (jobj o0)) ∧ Hid (wc.heap[b1]? = some (.cells #[.int .i64 6, .bool false, .string ⟨#[]⟩, .slice au 0 cu1, .slice au' m.length cu1'] 28 (0, 0))) ∧ Hid (wc.heap[b2]? = some (.cells #[.int .i64 0, .bool false, .string ⟨#[]⟩, .slice none 0 0, .slice none 0 0] 28 (0, 0))) ∧ Hid (Below w.heap.size w wc))
  case first =>
    by_cases h6 : k1 = 6
    · obtain ⟨q1, q2, q3, q4, q5⟩ := HK1.out
      have e := HVO.out (by rw [q1, h6])
      rw [e] at q2 q3 q4 q5 HVW
      simp only [jobj, JV.yes, JV.text, JV.list, JV.mem, List.length_nil] at q2 q3 q4 q5
      subst h6 q2 q3 q4
      have HW6 := HVW
      clear HVW HK1 HVO q1 e
      subst q5
      go_wp2_with fail
      go_meet
      exact ⟨a1, a1', c1, _, c1', Lib.hid rfl, G0, HW6, G1, G2, HB1⟩
    · have HO0 : Hid (o0 = []) := Lib.hid (by
        obtain ⟨q1, -⟩ := HK1.out
        have h : v.kind ≠ 6 := by rw [q1]; exact h6
        rw [← HOZ.out, if_neg h])
      go_wp2_with fail
      refine (obj_nil w1).mono ?_
      rintro e w2 ⟨rfl, hb2'⟩
      have HB2 := Lib.hid (HB1.out.trans (hb2'.mono HB1.out.size))
      have K0 := Lib.hid ((hb2'.block _ hs0).trans G0.out)
      have K1 := Lib.hid ((hb2'.block _ hs1).trans G1.out)
      have K2 := Lib.hid ((hb2'.block _ hs2).trans G2.out)
      have ht0 : b0 < w2.heap.size := Nat.lt_of_lt_of_le hs0 hb2'.size
      clear hb2' v0 v1 v2 v3 v4 u0 u1 u2 u3 u4
      obtain ⟨u0, u1, u2, u3, u4⟩ := five_at K0.out (Below.refl w2.heap.size w2) ht0
      have f0 := Lib.frozen_of_heap K0.out 0
      have f1 := Lib.frozen_of_heap K0.out 1
      have f2 := Lib.frozen_of_heap K0.out 2
      have f3 := Lib.frozen_of_heap K0.out 3
      have f4 := Lib.frozen_of_heap K0.out 4
      go_wp2_with fail
      go_meet
      have hst := value_stored K0.out (.int .i64 6) (.bool false) (.string ⟨#[]⟩) (.slice none 0 0) (.slice none 0 0)
      have hbe := zero_stored (gv := b0) HB2.out hl0 (.int .i64 6) (.bool false) (.string ⟨#[]⟩) (.slice none 0 0) (.slice none 0 0)
      have hot := five_else w2 b0 (.int .i64 6) (.bool false) (.string ⟨#[]⟩) (.slice none 0 0) (.slice none 0 0)
      refine ⟨none, none, 0, 0, 0, Lib.hid (by rw [HO0.out]; rfl), Lib.hid hst, Lib.hid ?_, Lib.hid ((hot _ hd01.symm).trans K1.out), Lib.hid ((hot _ hd02.symm).trans K2.out), Lib.hid hbe⟩
      rw [HO0.out]
      exact Rep.leaf _ _ 6 false []
  case rest =>
  obtain ⟨ao, ao', co, no, co', hno, HX0, HR0, HX1, HX2, HBC⟩ := hcut
  clear HVW HK1 HVO HB1 G0 G1 G2 hs0 hs1 hs2 v0 v1 v2 v3 v4 u0 u1 u2 u3 u4 HOZ
  have ht1 : b1 < wc.heap.size := (Array.getElem?_eq_some_iff.1 HX1.out).1
  obtain ⟨v0, v1, v2, v3, v4⟩ := five_at HX1.out (Below.refl wc.heap.size wc) ht1
  clear ht1
  go_wp2_with fail
  clear v0 v1 v2 v3 v4
  go_loopg [20] m.length (fun k x20 wr => ∃ (i : Nat) (ao ao' : Option Addr) (co no co' : Nat), x20 = .int .i64 (i : Int) ∧ i + k = m.length ∧ Hid (no = (mergeM o0 (m.take i)).length) ∧ Hid (rightM (mergeM o0 (m.take i)) = true) ∧ Hid (wr.heap[b0]? = some (.cells #[.int .i64 6, .bool false, .string ⟨#[]⟩, .slice ao 0 co, .slice ao' no co'] 28 (0, 0))) ∧ Hid (Rep (OKB ok w.heap.size b0 b1 b2) wr [.int .i64 6, .bool false, .string ⟨#[]⟩, .slice ao 0 co, .slice ao' no co'] (jobj (mergeM o0 (m.take i)))) ∧ Hid (wr.heap[b2]? = some (.cells #[.int .i64 0, .bool false, .string ⟨#[]⟩, .slice none 0 0, .slice none 0 0] 28 (0, 0))) ∧ Hid (Below w.heap.size w wr))
  case atStart => exact ⟨0, ao, ao', co, no, co', rfl, by omega, hno, HRO, HX0, HR0, HX2, HBC⟩
  case round =>
    clear hno HX0 HR0 HX2 HBC HX1
    obtain ⟨i, ao, ao', co, no, co', rfl, hik, hno, HRI, HX0, HR0, HX2, HBR⟩ := hrel
    by_cases hlt : i < m.length
    · have hltI : (i : Int) < (m.length : Int) := by omega
      have hst : mergeM o0 (m.take (i + 1)) = stepM (mergeM o0 (m.take i)) m[i] := by rw [List.take_succ_eq_append_getElem hlt, mergeM_snoc]
      have hos : sizeM (mergeM o0 (m.take i)) + (1 + m[i].1.length + sizeJ m[i].2) ≤ sizeM o0 + sizeM m := by
        have h1 := mergeM_size (m.take i) o0
        have h2 := take_at_size m i hlt
        omega
      have hps := size_mem (List.getElem_mem hlt)
      have hpr := right_at HMR.out m[i] (List.getElem_mem hlt)
      have hpi := HIH.out m[i] (List.getElem_mem hlt)
      have hrs := step_right HRI.out hpr.1 hpr.2
      obtain ⟨gv, ov, k7, y7, t7, a7, n7, c7, a7', m7, c7', ev, hrv, z0, z1, z2, z3, z4, z5⟩ := mem_cells' HRU.out HMU.out i hlt
      subst ev
      obtain ⟨p, hp⟩ : ∃ p, m[i] = p := ⟨_, rfl⟩
      rw [hp] at hst hps hpr hpi hrs hrv z0 hos
      obtain ⟨nm, uv⟩ := p
      simp only at hps hpr hpi hrs hrv z0 hos
      have hkk := rep_kind hrv
      obtain ⟨o, ho⟩ : ∃ o, mergeM o0 (m.take i) = o := ⟨_, rfl⟩
      rw [ho] at hst hos hrs hno HRI HR0
      have dv : ∀ q u, w.cell? ⟨gv, q, none⟩ = some u → wr.cell? ⟨gv, q, none⟩ = some u := fun q u h => (HBR.out.cell (World.block_lt_of_cell? _ _ h)).trans h
      have d0 := dv _ _ z0
      have d1 := dv _ _ z1
      have d2 := dv _ _ z2
      have d3 := dv _ _ z3
      have d4 := dv _ _ z4
      have d5 := dv _ _ z5
      have HST := Lib.hid hst
      have HRS := Lib.hid hrs
      have HPI := Lib.hid hpi
      have HPR := Lib.hid hpr
      have HRV := Lib.hid hrv
      have HKK := Lib.hid hkk
      have hol := lenM_size o
      clear hst hrs hpi hpr hrv hkk z0 z1 z2 z3 z4 z5 dv hp ho
      obtain ⟨b6, hb6⟩ : ∃ b, wr.heap.size = b := ⟨_, rfl⟩
      go_upto_region 8 with (fail)
      generalize hw2 : wr.alloc _ = w2
      have hb2' : Below wr.heap.size wr w2 := by rw [← hw2]; exact (Below.refl _ _).alloc (Nat.le_refl _) _
      have hx6 : w2.heap[b6]? = some (.cells #[.string ⟨nm.toArray⟩, .int .i64 k7, .bool y7, .string ⟨t7⟩, .slice a7 n7 c7, .slice a7' m7 c7'] 38 (0, 0)) := by rw [← hw2, ← hb6]; exact heap_alloc_new _ _
      have hrs6 : b0 < wr.heap.size := (Array.getElem?_eq_some_iff.1 HX0.out).1
      have hrs2 : b2 < wr.heap.size := (Array.getElem?_eq_some_iff.1 HX2.out).1
      have hs6 : b6 < w2.heap.size := (Array.getElem?_eq_some_iff.1 hx6).1
      have hd6 : b6 ≠ b0 := by omega
      have hs20 : b0 < w2.heap.size := by omega
      have hs22 : b2 < w2.heap.size := by omega
      have HB2 := Lib.hid (HBR.out.trans (hb2'.mono HBR.out.size))
      have HX6 := Lib.hid hx6
      have HY0 := Lib.hid ((hb2'.block _ hrs6).trans HX0.out)
      have HY2 := Lib.hid ((hb2'.block _ hrs2).trans HX2.out)
      have HR2 := Lib.hid (HR0.out.under hb2')
      have hws2 : w.heap.size ≤ w2.heap.size := HB2.out.size
      clear hw2 hb2' hx6 hb6 d0 d1 d2 d3 d4 d5 HX0 HX2 HR0 HBR hrs6 hrs2
      obtain ⟨x0, x1, x2, x3, x4⟩ := five_at HY0.out (Below.refl w2.heap.size w2) hs20
      obtain ⟨m0, m1', m2', m3, m4, m5⟩ := six_atM HX6.out (Below.refl w2.heap.size w2) hs6
      by_cases hk1 : k7 = 1
      · have hst2 : Hid (mergeM o0 (m.take (i + 1)) = withoutM nm o) := Lib.hid (by rw [HST.out]; unfold stepM; rw [if_pos (by rw [HKK.out, hk1])])
        have HWO := Lib.hid (jwithout_any 6 false [] [] o nm (OKB ok w.heap.size b0 b1 b2) [.int .i64 6, .bool false, .string ⟨#[]⟩, .slice ao 0 co, .slice ao' no co'] w2 HR2.out (by omega))
        have HRS2 := HRS
        rw [← HST.out, hst2.out] at HRS2
        clear HST HRS HPI HKK
        subst hk1
        go_wp2_with fail
        refine HWO.out.mono ?_
        rintro e w3 ⟨hb3, cs3, rfl, hr3⟩
        obtain ⟨ni, hni⟩ : ∃ n, (withoutM nm o).length = n := ⟨_, rfl⟩
        obtain ⟨ai, ci, ai', ci', cmi, rfl, -, -, -⟩ := rep_obj hr3 hni
        have HB3 := Lib.hid (HB2.out.trans (hb3.mono HB2.out.size))
        have HZ0 := Lib.hid ((hb3.block _ hs20).trans HY0.out)
        have HZ2 := Lib.hid ((hb3.block _ hs22).trans HY2.out)
        have hs30 : b0 < w3.heap.size := Nat.lt_of_lt_of_le hs20 hb3.size
        have HR3 : Hid (Rep (OKB ok w.heap.size b0 b1 b2) w3 [.int .i64 6, .bool false, .string ⟨#[]⟩, .slice ai 0 ci, .slice ai' ni ci'] (jobj (withoutM nm o))) := Lib.hid (hr3.mono (OKB.new hws2 (by omega) (by omega) (by omega)))
        have HNI := Lib.hid hni
        clear hb3 hr3 hni HWO x0 x1 x2 x3 x4 m0 m1' m2' m3 m4 m5 HY0 HY2 HX6 HR2 HB2
        obtain ⟨x0, x1, x2, x3, x4⟩ := five_at HZ0.out (Below.refl w3.heap.size w3) hs30
        have f0 := Lib.frozen_of_heap HZ0.out 0
        have f1 := Lib.frozen_of_heap HZ0.out 1
        have f2 := Lib.frozen_of_heap HZ0.out 2
        have f3 := Lib.frozen_of_heap HZ0.out 3
        have f4 := Lib.frozen_of_heap HZ0.out 4
        go_upto_region 12 with (fail)
        have hst := value_stored HZ0.out (.int .i64 6) (.bool false) (.string ⟨#[]⟩) (.slice ai 0 ci) (.slice ai' ni ci')
        have hbe := zero_stored (gv := b0) HB3.out hl0 (.int .i64 6) (.bool false) (.string ⟨#[]⟩) (.slice ai 0 ci) (.slice ai' ni ci')
        have hot := five_else w3 b0 (.int .i64 6) (.bool false) (.string ⟨#[]⟩) (.slice ai 0 ci) (.slice ai' ni ci')
        clear x0 x1 x2 x3 x4 f0 f1 f2 f3 f4
        generalize ((((w3.setCell ⟨b0, 0, none⟩ (.int .i64 6)).setCell ⟨b0, 1, none⟩ (.bool false)).setCell ⟨b0, 2, none⟩ (.string ⟨#[]⟩)).setCell ⟨b0, 3, none⟩ (.slice ai 0 ci)).setCell ⟨b0, 4, none⟩ (.slice ai' ni ci') = w4 at *
        have HST4 := Lib.hid hst
        have HBE4 := Lib.hid hbe
        have HR4 := Lib.hid (HR3.out.keep fun b hb _ => hot b hb.2.1)
        have HZ4 := Lib.hid ((hot _ hd02.symm).trans HZ2.out)
        clear hst hbe hot HZ0 HZ2 HR3 HB3
        go_wp2_with fail
        go_roundg (gk - 1)
        case measure => omega
        case rel => exact ⟨i + 1, ai, ai', ci, ni, ci', by first | rfl | (congr 1), by omega, Lib.hid (by rw [hst2.out]; exact HNI.out.symm), by rw [hst2.out]; exact HRS2, HST4, by rw [hst2.out]; exact HR4, HZ4, HBE4⟩
      · have hst2 : Hid (mergeM o0 (m.take (i + 1)) = withM nm (mergeJ ((getM nm o).getD .zero) uv) o) := Lib.hid (by rw [HST.out]; unfold stepM; rw [if_neg (by rw [HKK.out]; exact hk1)])
        have HRS2 := HRS
        rw [← HST.out, hst2.out] at HRS2
        clear HST HRS HKK
        have HGE := Lib.hid (get_any _ _ (jobj o) nm w2 HR2.out (show o.length ≤ 10000000 by omega))
        have hgj : getJ nm (jobj o) = getM nm o := rfl
        rw [hgj] at HGE
        have hor : rightJ ((getM nm o).getD .zero) = true ∨ ((getM nm o).getD .zero).kind ≠ 6 := by
          cases hg : getM nm o with
          | none => exact .inr (by simp [JV.zero, JV.kind])
          | some x => exact .inl (get_right HRI.out hg)
        have hoz : sizeJ ((getM nm o).getD .zero) ≤ sizeM o + 1 := by
          cases hg : getM nm o with
          | none => simp [JV.zero, sizeJ, sizeL, sizeM]
          | some x => have := get_size hg; simp only [Option.getD_some]; omega
        obtain ⟨TH, hTH⟩ : ∃ b, (getM nm o).isSome = b := ⟨_, rfl⟩
        rw [hTH] at HGE
        obtain ⟨G, hG⟩ : ∃ g, (getM nm o).getD .zero = g := ⟨_, rfl⟩
        rw [hG] at HGE hst2 HRS2 hor hoz
        clear hgj hTH hG
        go_wp2_with fail
        refine HGE.out.mono ?_
        rintro e w3 ⟨hb3, cs3, rfl, hrep⟩
        have HB3 := Lib.hid (HB2.out.trans (hb3.mono HB2.out.size))
        have HZ0 := Lib.hid ((hb3.block _ hs20).trans HY0.out)
        have HZ2 := Lib.hid ((hb3.block _ hs22).trans HY2.out)
        have HZ6 := Lib.hid ((hb3.block _ hs6).trans HX6.out)
        have hs30 : b0 < w3.heap.size := Nat.lt_of_lt_of_le hs20 hb3.size
        have hs32 : b2 < w3.heap.size := Nat.lt_of_lt_of_le hs22 hb3.size
        have hs36 : b6 < w3.heap.size := Nat.lt_of_lt_of_le hs6 hb3.size
        have HR3 := Lib.hid (HR2.out.under hb3)
        obtain ⟨a9, c9, a9', c9', _, _, rfl, -⟩ := hrep.parts
        unfold strV at *
        obtain ⟨k9, y9, t9, n9, m9, hk, hy, ht, hn1, hn2⟩ : ∃ k y t n1 n2, (G).kind = k ∧ (G).yes = y ∧ (⟨(G).text.toArray⟩ : ByteArray) = t ∧ (G).list.length = n1 ∧ (G).mem.length = n2 := ⟨_, _, _, _, _, rfl, rfl, rfl, rfl, rfl⟩
        rw [hk, hy, ht, hn1, hn2] at hrep ⊢
        have HG3 := Lib.hid hrep
        clear hk hy ht hn1 hn2 hrep
        clear hb3 HGE x0 x1 x2 x3 x4 m0 m1' m2' m3 m4 m5 HY0 HY2 HX6 HR2 HB2 hs20 hs22 hs6
        obtain ⟨b7, hb7⟩ : ∃ b, w3.heap.size = b := ⟨_, rfl⟩
        go_upto_region 11 with (fail)
        generalize hww4 : w3.alloc _ = w4
        have hbw4 : Below w3.heap.size w3 w4 := by rw [← hww4]; exact (Below.refl _ _).alloc (Nat.le_refl _) _
        have hxw4 : w4.heap[b7]? = some (.cells #[.int .i64 k9, .bool y9, .string t9, .slice a9 n9 c9, .slice a9' m9 c9'] 28 (0, 0)) := by rw [← hww4, ← hb7]; exact heap_alloc_new _ _
        have hsb7 : b7 < w4.heap.size := (Array.getElem?_eq_some_iff.1 hxw4).1
        have HXb7w4 := Lib.hid hxw4
        clear hww4 hxw4 hb7
        have HB4 := Lib.hid (HB3.out.trans (hbw4.mono HB3.out.size))
        have HY0 := Lib.hid ((hbw4.block _ hs30).trans HZ0.out)
        have HY2 := Lib.hid ((hbw4.block _ hs32).trans HZ2.out)
        have HY6 := Lib.hid ((hbw4.block _ hs36).trans HZ6.out)
        have ht40 : b0 < w4.heap.size := Nat.lt_of_lt_of_le hs30 hbw4.size
        have ht42 : b2 < w4.heap.size := Nat.lt_of_lt_of_le hs32 hbw4.size
        have ht46 : b6 < w4.heap.size := Nat.lt_of_lt_of_le hs36 hbw4.size
        have HR4 := Lib.hid (HR3.out.under hbw4)
        have HG4 := Lib.hid (HG3.out.under hbw4)
        have hws4 : w.heap.size ≤ w4.heap.size := HB4.out.size
        have HRV4 : Hid (Rep (OKB ok w.heap.size b0 b1 b2) w4 [.int .i64 k7, .bool y7, .string ⟨t7⟩, .slice a7 n7 c7, .slice a7' m7 c7'] uv) := Lib.hid ((HRV.out.keep fun b hb _ => HB4.out.block b hb.2).mono (OKB.old hl0 hl1 hl2))
        clear hbw4 HB3 HZ0 HZ2 HZ6 hs30 hs32 hs36 HR3 HG3
        have HIM : Hid (∀ w', Below w4.heap.size w4 w' → _) := Lib.hid fun w' (hb : Below w4.heap.size w4 w') => HPI.out G (OKB ok w.heap.size b0 b1 b2) [.int .i64 k9, .bool y9, .string t9, .slice a9 n9 c9, .slice a9' m9 c9'] [.int .i64 k7, .bool y7, .string ⟨t7⟩, .slice a7 n7 c7, .slice a7' m7 c7'] w' (HG4.out.under hb) (HRV4.out.under hb) hor HPR.out.2 (by omega)
        have hol9 : o.length ≤ 900000 := by omega
        have HWI : Hid (∀ w' cx, Below w4.heap.size w4 w' → Rep (OKB ok w.heap.size b0 b1 b2) w' cx (mergeJ G uv) → _) := Lib.hid fun w' cx (hb : Below w4.heap.size w4 w') hx => jwith_any 6 false [] [] o nm (mergeJ G uv) (OKB ok w.heap.size b0 b1 b2) [.int .i64 6, .bool false, .string ⟨#[]⟩, .slice ao 0 co, .slice ao' no co'] cx w' (HR4.out.under hb) hx hol9
        obtain ⟨WM, hWM⟩ : ∃ x, withM nm (mergeJ G uv) o = x := ⟨_, rfl⟩
        rw [hWM] at HWI hst2 HRS2
        obtain ⟨ni, hni⟩ : ∃ n, WM.length = n := ⟨_, rfl⟩
        have HNI := Lib.hid hni
        obtain ⟨MG, hMG⟩ : ∃ x, mergeJ G uv = x := ⟨_, rfl⟩
        rw [hMG] at HIM HWI
        clear hWM hMG HPI
        refine wp_region_grow_tail 8 (by kernel_rfl) (by kernel_rfl) (by decide) (by kernel_rfl) [39, 40, 41, 42, 43, 44, 45, 46] rfl (by decide) (by kernel_rfl) (fun iX => [VIs (.agg #[.int .i64 6, .bool false, .string ⟨#[]⟩, .slice ao 0 co, .slice ao' no co']), VIs (.pointer (some ⟨b6, 0, none⟩)), VIs (.string ⟨nm.toArray⟩), VIs (.agg #[.int .i64 k9, .bool y9, .string t9, .slice a9 n9 c9, .slice a9' m9 c9']), VIs (.pointer (some ⟨b6, 1, none⟩)), VIs (.agg #[.int .i64 k7, .bool y7, .string ⟨t7⟩, .slice a7 n7 c7, .slice a7' m7 c7']), VRp (OKB ok w.heap.size b0 b1 b2) MG, VRp (OKB ok w.heap.size b0 b1 b2) (jobj WM)].getD iX fun _ _ => True) (stab_list _ ?_) ?_ ?_
        · skip
          intro V hV
          simp only [List.mem_cons, List.mem_nil_iff, or_false] at hV
          rcases hV with rfl | rfl | rfl | rfl | rfl | rfl | rfl | rfl <;> first | exact VIs.stab _ | exact VBytes.stab _ | exact VStr.stab _ | exact VParts.stab _ | exact VRow.stab _ | exact VRow8.stab _ _ | exact VRowIs.stab _ _ _ | exact VRp.stab _ _
        · intro iX o ho a' w' hf hb hd
          rcases iX with _ | _ | _ | _ | _ | _ | _ | _ | iX
          · cases ho
            refine grow_op rfl rfl rfl ?_
            have f2 : a'.tmps.getD 2 undef = .pointer (some ⟨b0, 0, none⟩) := (hf.same 2 (by decide)).trans rfl
            obtain ⟨x0, x1, x2, x3, x4⟩ := five_at HY0.out hb ht40
            refine grow_value (v := .agg #[.int .i64 6, .bool false, .string ⟨#[]⟩, .slice ao 0 co, .slice ao' no co']) (w' := w') ?_ rfl (Below.refl _ _)
            simp only [execOp, Act.eval]
            go_simp
          · cases ho
            refine grow_op rfl rfl rfl ?_
            have f6 : a'.tmps.getD 6 undef = .pointer (some ⟨b6, 0, none⟩) := (hf.same 6 (by decide)).trans rfl
            refine grow_value (v := .pointer (some ⟨b6, 0, none⟩)) (w' := w') ?_ rfl (Below.refl _ _)
            simp only [execOp, Act.eval]
            go_simp
          · cases ho
            refine grow_op rfl rfl rfl ?_
            have e1 : a'.tmps.getD 40 undef = .pointer (some ⟨b6, 0, none⟩) := hd 1 (by kernel_rfl)
            obtain ⟨m0, m1', m2', m3, m4, m5⟩ := six_atM HY6.out hb ht46
            refine grow_value (v := .string ⟨nm.toArray⟩) (w' := w') ?_ rfl (Below.refl _ _)
            simp only [execOp, Act.eval, e1]
            go_simp
          · cases ho
            refine grow_op rfl rfl rfl ?_
            have f7 : a'.tmps.getD 7 undef = .pointer (some ⟨b7, 0, none⟩) := (hf.same 7 (by decide)).trans rfl
            obtain ⟨x0, x1, x2, x3, x4⟩ := five_at HXb7w4.out hb hsb7
            refine grow_value (v := .agg #[.int .i64 k9, .bool y9, .string t9, .slice a9 n9 c9, .slice a9' m9 c9']) (w' := w') ?_ rfl (Below.refl _ _)
            simp only [execOp, Act.eval]
            go_simp
          · cases ho
            refine grow_op rfl rfl rfl ?_
            have f6 : a'.tmps.getD 6 undef = .pointer (some ⟨b6, 0, none⟩) := (hf.same 6 (by decide)).trans rfl
            refine grow_value (v := .pointer (some ⟨b6, 1, none⟩)) (w' := w') ?_ rfl (Below.refl _ _)
            simp only [execOp, Act.eval]
            go_simp
          · cases ho
            refine grow_op rfl rfl rfl ?_
            have e4 : a'.tmps.getD 43 undef = .pointer (some ⟨b6, 1, none⟩) := hd 4 (by kernel_rfl)
            obtain ⟨m0, m1', m2', m3, m4, m5⟩ := six_atM HY6.out hb ht46
            refine grow_value (v := .agg #[.int .i64 k7, .bool y7, .string ⟨t7⟩, .slice a7 n7 c7, .slice a7' m7 c7']) (w' := w') ?_ rfl (Below.refl _ _)
            simp only [execOp, Act.eval, e4]
            go_simp
          · cases ho
            refine grow_op rfl rfl rfl ?_
            have e42 : a'.tmps.getD 42 undef = .agg #[.int .i64 k9, .bool y9, .string t9, .slice a9 n9 c9, .slice a9' m9 c9'] := hd 3 (by kernel_rfl)
            have e44 : a'.tmps.getD 44 undef = .agg #[.int .i64 k7, .bool y7, .string ⟨t7⟩, .slice a7 n7 c7, .slice a7' m7 c7'] := hd 5 (by kernel_rfl)
            refine grow_call ent_jmerge rfl ?_
            simp only [List.map_toArray, List.map_cons, List.map_nil, Act.eval, e42, e44]
            refine (HIM.out w' hb).mono ?_
            rintro e w'' ⟨h2, cs, rfl, h3⟩
            have hsw := hb.size
            exact ⟨_, rfl, ⟨cs, rfl, h3.mono (OKB.new (by omega) (by omega) (by omega) (by omega))⟩, h2⟩
          · cases ho
            refine grow_op rfl rfl rfl ?_
            have e39 : a'.tmps.getD 39 undef = .agg #[.int .i64 6, .bool false, .string ⟨#[]⟩, .slice ao 0 co, .slice ao' no co'] := hd 0 (by kernel_rfl)
            have e41 : a'.tmps.getD 41 undef = .string ⟨nm.toArray⟩ := hd 2 (by kernel_rfl)
            obtain ⟨cx, ex, hx⟩ : VRp _ _ _ _ := hd 6 (by kernel_rfl)
            refine grow_call ent_jwith rfl ?_
            have ex' : a'.tmps.getD 45 undef = _ := ex
            simp only [List.map_toArray, List.map_cons, List.map_nil, Act.eval, e39, e41, ex']
            refine (HWI.out w' cx hb hx).mono ?_
            rintro e w'' ⟨h2, cs, rfl, h3⟩
            have hsw := hb.size
            exact ⟨_, rfl, ⟨cs, rfl, h3.mono (OKB.new (by omega) (by omega) (by omega) (by omega))⟩, h2⟩
          · simp at ho
        · intro a' w' hf hb hd
          obtain ⟨cs45, hv45, -⟩ := hd 6 (by decide)
          obtain ⟨cs46, hv46, hr46⟩ := hd 7 (by decide)
          obtain ⟨ai, ci, ai', ci', cmi, rfl, -, -, -⟩ := rep_obj hr46 hni
          change _ = Value.agg #[.int .i64 6, .bool false, .string ⟨#[]⟩, .slice ai 0 ci, .slice ai' ni ci'] at hv46
          obtain rfl := hf.eq [Value.agg #[.int IntKind.i64 6, .bool false, .string ⟨#[]⟩, .slice ao 0 co, .slice ao' no co'], Value.pointer (some ⟨b6, 0, none⟩), Value.string ⟨nm.toArray⟩, Value.agg #[.int IntKind.i64 k9, .bool y9, .string t9, .slice a9 n9 c9, .slice a9' m9 c9'], Value.pointer (some ⟨b6, 1, none⟩), Value.agg #[.int IntKind.i64 k7, .bool y7, .string ⟨t7⟩, .slice a7 n7 c7, .slice a7' m7 c7'], Value.agg cs45.toArray, Value.agg #[.int IntKind.i64 6, .bool false, .string ⟨#[]⟩, .slice ai 0 ci, .slice ai' ni ci']] (fun j hj => match j, hj with
            | 0, _ => hd 0 (by decide)
            | 1, _ => hd 1 (by decide)
            | 2, _ => hd 2 (by decide)
            | 3, _ => hd 3 (by decide)
            | 4, _ => hd 4 (by decide)
            | 5, _ => hd 5 (by decide)
            | 6, _ => hv45
            | 7, _ => hv46
            | k + 8, h => absurd h (by simp)) (by decide) (by kernel_rfl) rfl
          simp only [List.zip_cons_cons, List.zip_nil_right, List.foldl_cons, List.foldl_nil, Act.put, List.setIfInBounds_toArray, List.set_cons_succ, List.set_cons_zero]
          obtain ⟨w5, rfl⟩ : ∃ x : World, x = w' := ⟨_, rfl⟩
          have HB5 := Lib.hid (HB4.out.trans (hb.mono HB4.out.size))
          have HU0 := Lib.hid ((hb.block _ ht40).trans HY0.out)
          have HU2 := Lib.hid ((hb.block _ ht42).trans HY2.out)
          have hs50 : b0 < w5.heap.size := Nat.lt_of_lt_of_le ht40 hb.size
          have HR5 := Lib.hid hr46
          clear hd hf hb hv45 hv46 hr46 hni HIM HWI HY0 HY2 HY6 HR4 HG4 HRV4 HB4 HXb7w4 hsb7
          obtain ⟨x0, x1, x2, x3, x4⟩ := five_at HU0.out (Below.refl w5.heap.size w5) hs50
          have f0 := Lib.frozen_of_heap HU0.out 0
          have f1 := Lib.frozen_of_heap HU0.out 1
          have f2 := Lib.frozen_of_heap HU0.out 2
          have f3 := Lib.frozen_of_heap HU0.out 3
          have f4 := Lib.frozen_of_heap HU0.out 4
          go_upto_region 12 with (fail)
          have hst := value_stored HU0.out (.int .i64 6) (.bool false) (.string ⟨#[]⟩) (.slice ai 0 ci) (.slice ai' ni ci')
          have hbe := zero_stored (gv := b0) HB5.out hl0 (.int .i64 6) (.bool false) (.string ⟨#[]⟩) (.slice ai 0 ci) (.slice ai' ni ci')
          have hot := five_else w5 b0 (.int .i64 6) (.bool false) (.string ⟨#[]⟩) (.slice ai 0 ci) (.slice ai' ni ci')
          clear x0 x1 x2 x3 x4 f0 f1 f2 f3 f4
          generalize ((((w5.setCell ⟨b0, 0, none⟩ (.int .i64 6)).setCell ⟨b0, 1, none⟩ (.bool false)).setCell ⟨b0, 2, none⟩ (.string ⟨#[]⟩)).setCell ⟨b0, 3, none⟩ (.slice ai 0 ci)).setCell ⟨b0, 4, none⟩ (.slice ai' ni ci') = w6 at *
          have HST6 := Lib.hid hst
          have HBE6 := Lib.hid hbe
          have HR6 := Lib.hid (HR5.out.keep fun b hb _ => hot b hb.2.1)
          have HZ6 := Lib.hid ((hot _ hd02.symm).trans HU2.out)
          clear hst hbe hot HU0 HU2 HR5 HB5
          go_wp2_with fail
          go_roundg (gk - 1)
          case measure => omega
          case rel => exact ⟨i + 1, ai, ai', ci, ni, ci', by first | rfl | (congr 1), by omega, Lib.hid (by rw [hst2.out]; exact HNI.out.symm), by rw [hst2.out]; exact HRS2, HST6, by rw [hst2.out]; exact HR6, HZ6, HBE6⟩
    · have hie : i = m.length := by omega
      subst hie
      have hltI : ¬ (m.length : Int) < (m.length : Int) := by omega
      rw [List.take_length] at HR0
      have hs0 : b0 < wr.heap.size := (Array.getElem?_eq_some_iff.1 HX0.out).1
      have hs2 : b2 < wr.heap.size := (Array.getElem?_eq_some_iff.1 HX2.out).1
      obtain ⟨v0, v1, v2, v3, v4⟩ := five_at HX0.out (Below.refl wr.heap.size wr) hs0
      obtain ⟨r0, r1, r2, r3, r4⟩ := five_at HX2.out (Below.refl wr.heap.size wr) hs2
      have f0 := Lib.frozen_of_heap HX2.out 0
      have f1 := Lib.frozen_of_heap HX2.out 1
      have f2 := Lib.frozen_of_heap HX2.out 2
      have f3 := Lib.frozen_of_heap HX2.out 3
      have f4 := Lib.frozen_of_heap HX2.out 4
      clear hs0 hs2
      go_wp2_with fail
      have hst := value_stored HX2.out (.int .i64 6) (.bool false) (.string ⟨#[]⟩) (.slice ao 0 co) (.slice ao' no co')
      have hbe := zero_stored (gv := b2) HBR.out hl2 (.int .i64 6) (.bool false) (.string ⟨#[]⟩) (.slice ao 0 co) (.slice ao' no co')
      have hot := five_else wr b2 (.int .i64 6) (.bool false) (.string ⟨#[]⟩) (.slice ao 0 co) (.slice ao' no co')
      clear v0 v1 v2 v3 v4 r0 r1 r2 r3 r4 f0 f1 f2 f3 f4
      generalize ((((wr.setCell ⟨b2, 0, none⟩ (.int .i64 6)).setCell ⟨b2, 1, none⟩ (.bool false)).setCell ⟨b2, 2, none⟩ (.string ⟨#[]⟩)).setCell ⟨b2, 3, none⟩ (.slice ao 0 co)).setCell ⟨b2, 4, none⟩ (.slice ao' no co') = w2 at *
      have e0 := Lib.cell_of_heap hst 0
      have e1 := Lib.cell_of_heap hst 1
      have e2 := Lib.cell_of_heap hst 2
      have e3 := Lib.cell_of_heap hst 3
      have e4 := Lib.cell_of_heap hst 4
      simp only [List.getElem?_toArray] at e0 e1 e2 e3 e4
      refine bodyPost_ret (v := .agg #[.int .i64 6, .bool false, .string ⟨#[]⟩, .slice ao 0 co, .slice ao' no co']) (by simp [results, Try.results8, go_sem, e0, e1, e2, e3, e4]) rfl ?_
      exact ⟨hbe, [.int .i64 6, .bool false, .string ⟨#[]⟩, .slice ao 0 co, .slice ao' no co'], rfl, (HR0.out.keep fun b hb _ => hot b hb.2.2.2).mono fun b hb => hb.1⟩
theorem jmerge_size : ∀ (N : Nat) (u : JV), sizeJ u ≤ N → MergeC u := by
  intro N
  induction N with
  | zero => intro u h; have := size_pos u; omega
  | succ N ih =>
    intro u h
    by_cases hk : u.kind = 6
    · intro v ok cs cu w hv hu hvr hur hsz
      have e := (right_obj hur hk).1
      rw [e] at hu hur hsz ⊢
      refine jmerge_obj u.mem (fun p hp => ih p.2 ?_) v ok cs cu w hv hu hvr hur hsz
      have h1 := size_mem hp
      obtain ⟨k, y, t, l, mm⟩ := u
      simp only [JV.mem] at h1
      rw [sizeJ] at h
      omega
    · exact jmerge_leaf u hk
theorem jmerge_any (u : JV) : MergeC u := jmerge_size _ u (Nat.le_refl _)
end Go.Proofs.Ytfcokdkbjajohaa
