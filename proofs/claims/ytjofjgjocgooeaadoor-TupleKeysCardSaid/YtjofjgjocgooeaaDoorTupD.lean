/- Two parts, compared. -/
import Derived.Test.YtjofjgjocgooeaaDoorTupC
import Derived.Test.YtjofjgjocgooeaaDoorTupN
import Derived.WalkLawsBesides
set_option linter.unusedVariables false
namespace Go.Proofs.YtjofjgjocgooeaaDoor
open Go.RowKit

theorem compareInt_cmpI (x y : Int) : Lib.compareInt x y = cmpI x y := by
  unfold Lib.compareInt cmpI
  rfl

theorem cmp_bytes : ∀ (t u : List UInt8), Lib.compareBytes t u = if Op.bytesLess t u = true then -1 else if (t == u) = true then 0 else 1
  | [], [] => rfl
  | [], _ :: _ => rfl
  | _ :: _, [] => rfl
  | a :: t, b :: u => by
    have ih := cmp_bytes t u
    have e : (a :: t == b :: u) = ((a == b) && (t == u)) := rfl
    rw [less_cons, e]
    rcases Nat.lt_trichotomy a.toNat b.toNat with h | h | h
    · have h1 : a < b := by rw [UInt8.lt_iff_toNat_lt]; exact h
      rw [cmp_lt _ _ h1]; simp [h1]
    · obtain rfl := UInt8.toNat_inj.1 h
      rw [cmp_same, ih]; simp [UInt8.lt_irrefl]
    · have h1 : b < a := by rw [UInt8.lt_iff_toNat_lt]; exact h
      have h2 : ¬ a < b := by rw [UInt8.lt_iff_toNat_lt]; omega
      have h3 : (a == b) = false := by simp only [beq_eq_false_iff_ne, ne_eq]; rintro rfl; omega
      rw [cmp_gt _ _ h1]; simp [h2, h3]

set_option maxRecDepth 100000 in
set_option maxHeartbeats 4000000 in
theorem partcmp_any (p q : TP) (w : World) :
    Calls Tryd.prog 28 #[.agg #[.bool p.isNum, .int .i64 p.num, .string ⟨p.text.toArray⟩], .agg #[.bool q.isNum, .int .i64 q.num, .string ⟨q.text.toArray⟩]] w fun e w' => e = .returned (.int .i64 (cmpP p q)) ∧ Below w.heap.size w w' := by
  obtain ⟨a, x, t⟩ := p
  obtain ⟨b, y, u⟩ := q
  have hb : Below w.heap.size w ((w.alloc (.cells #[.bool a, .int .i64 x, .string ⟨t.toArray⟩] 39)).alloc (.cells #[.bool b, .int .i64 y, .string ⟨u.toArray⟩] 39)) := ((Below.refl _ _).alloc (Nat.le_refl _) _).alloc (by simp) _
  have HB := Lib.hid hb
  clear hb
  cases a <;> cases b
  · go_enter Tryd.func28, Tryd.ntmps28
    go_wp2_with fail
    refine (Tryd.strings_Compare ⟨t.toArray⟩ ⟨u.toArray⟩ _).mono ?_
    rintro e w1 ⟨rfl, rfl⟩
    go_wp2_with fail
    refine bodyPost_ret (results_tmp rfl _ _ _) rfl ?_
    exact ⟨rfl, HB.out⟩
  · go_enter Tryd.func28, Tryd.ntmps28
    go_wp2_with fail
    refine bodyPost_ret (results_tmp rfl _ _ _) rfl ?_
    exact ⟨rfl, HB.out⟩
  · go_enter Tryd.func28, Tryd.ntmps28
    go_wp2_with fail
    refine bodyPost_ret (results_tmp rfl _ _ _) rfl ?_
    exact ⟨rfl, HB.out⟩
  · go_enter Tryd.func28, Tryd.ntmps28
    go_wp2_with fail
    refine (Tryd.cmp_Compare_int x y _).mono ?_
    rintro e w1 ⟨rfl, rfl⟩
    go_wp2_with fail
    refine bodyPost_ret (results_tmp rfl _ _ _) rfl ?_
    exact ⟨by rw [compareInt_cmpI]; rfl, HB.out⟩

set_option maxHeartbeats 4000000 in
theorem texts_any (t u : List UInt8) (w : World) :
    Calls Tryd.prog 26 #[.string ⟨t.toArray⟩, .string ⟨u.toArray⟩] w fun e w' => e = .returned (.int .i64 (Lib.compareBytes t u)) ∧ w' = w := by
  have h1 := cmp_bytes t u
  have H := Lib.hid h1
  clear h1
  cases ha : Op.bytesLess t u
  · cases hb : t == u
    · have e1 : Lib.compareBytes t u = 1 := by rw [H.out, ha, hb]; rfl
      have E := Lib.hid e1
      clear e1
      go_enter Tryd.func26, Tryd.ntmps26
      go_wp2_with fail
      go_ret
      exact ⟨by rw [E.out]; rfl, rfl⟩
    · have e1 : Lib.compareBytes t u = 0 := by rw [H.out, ha, hb]; rfl
      have E := Lib.hid e1
      clear e1
      go_enter Tryd.func26, Tryd.ntmps26
      go_wp2_with fail
      go_ret
      exact ⟨by rw [E.out]; rfl, rfl⟩
  · have e1 : Lib.compareBytes t u = -1 := by rw [H.out, ha]; rfl
    have E := Lib.hid e1
    clear e1
    go_enter Tryd.func26, Tryd.ntmps26
    go_wp2_with fail
    go_ret
    exact ⟨by rw [E.out]; rfl, rfl⟩
end Go.Proofs.YtjofjgjocgooeaaDoor
