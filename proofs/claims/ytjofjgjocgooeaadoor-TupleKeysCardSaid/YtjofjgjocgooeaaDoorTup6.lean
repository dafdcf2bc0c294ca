/- The walk of the law TupleNext. -/
import Derived.Test.YtjofjgjocgooeaaDoorTup5
import Derived.Test.YtjofjgjocgooeaaDoorTup1
import Derived.WalkLawsBesides
set_option linter.unusedVariables false
namespace Go.Proofs.YtjofjgjocgooeaaDoor
open Go.RowKit

theorem ret_true {b : Bool} (h : b = true) : Ending.returned (.bool b) = .returned (.bool true) := by rw [h]
theorem bytes_list (s : ByteArray) : ∃ l : List UInt8, s = ⟨l.toArray⟩ := ⟨s.data.toList, by cases s; rfl⟩

set_option maxRecDepth 100000 in
set_option maxHeartbeats 4000000 in
theorem tupleNext_walk (p s : ByteArray) (w : World) (hp : p.size ≤ maxLen) (hs : s.size ≤ maxLen) (hm : ∃ m, w.cell? ⟨0, 0, none⟩ = some (.int .i64 m)) :
    Calls Tryd.prog 4 #[.string p, .string s] w fun e w' => e = .returned (.bool true) ∧ Below w.heap.size w w' := by
  obtain ⟨m, hm⟩ := hm
  unfold maxLen at hp hs
  obtain ⟨P, rfl⟩ := bytes_list p
  obtain ⟨S, rfl⟩ := bytes_list s
  simp only [ByteArray.size, List.size_toArray] at hp hs
  have HM := Lib.hid hm
  clear hm
  go_enter Tryd.func4, Tryd.ntmps4
  go_wp2_with fail
  refine (anchor10_any m _ HM.out).mono ?_
  rintro e w1 ⟨rfl, hb1⟩
  have HB1 := Lib.hid hb1
  clear hb1
  by_cases hg : P.length ≤ 100 ∧ S.length ≤ 200
  · obtain ⟨h1, h2⟩ := hg
    go_wp2_with fail
    refine (next_any ⟨P.toArray⟩ w1 (by simp only [ByteArray.size, List.size_toArray]; omega)).mono ?_
    rintro e w2 ⟨x, rfl, hn, hb2⟩
    have HB2 := Lib.hid (HB1.out.trans (hb2.mono HB1.out.size))
    clear hb2 HB1
    have law := next_law hn S
    have more := next_more hn
    have HPR := Lib.hid law
    have HMO := Lib.hid more
    clear law more hn
    go_wp2_with fail
    refine (Tryd.strings_HasPrefix ⟨S.toArray⟩ ⟨P.toArray⟩ w2).mono ?_
    rintro e w3 ⟨rfl, rfl⟩
    have hpr : Lib.hasPrefix (⟨S.toArray⟩ : ByteArray).data.toList (⟨P.toArray⟩ : ByteArray).data.toList = (!(Op.bytesLess S P) && (x == [] || Op.bytesLess S x)) := HPR.out
    rw [hpr]
    clear hpr HPR
    go_wp2_with fail
    all_goals
      refine bodyPost_ret (results_tmp rfl _ _ _) rfl ?_
      refine ⟨ret_true ?_, HB2.out⟩
      have more := HMO.out
      clear HMO HB2 HM
      cases hE : x.isEmpty <;> cases hA : Op.bytesLess S P <;> cases hB : Op.bytesLess S x <;> cases hC : Op.bytesLess x P <;> cases hD : x == P <;> simp_all
  · by_cases h1 : P.length ≤ 100
    · have h2 : 200 < S.length := by omega
      clear hg
      go_wp2_with fail
      refine bodyPost_ret (results_tmp rfl _ _ _) rfl ?_
      exact ⟨rfl, HB1.out⟩
    · have h2 : 100 < P.length := by omega
      clear hg
      go_wp2_with fail
      refine bodyPost_ret (results_tmp rfl _ _ _) rfl ?_
      exact ⟨rfl, HB1.out⟩
end Go.Proofs.YtjofjgjocgooeaaDoor
