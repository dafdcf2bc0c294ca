/- A text's part, a number's part. -/
import Derived.Test.YtjofjgjocgooeaaDoorRd
import Derived.Laws.ResultCell
import Derived.Laws.Rows
set_option linter.unusedVariables false
namespace Go.Proofs.YtjofjgjocgooeaaDoor
open Go.RowKit

set_option maxHeartbeats 1000000 in
theorem text_any (s : ByteArray) (w : World) :
    Calls Tryd.prog 21 #[.string s] w fun e w' => e = .returned (.agg #[.bool false, .int .i64 0, .string s]) ∧ Below w.heap.size w w' := by
  go_enter Tryd.func21, Tryd.ntmps21
  go_wp2
  refine bodyPost_ret (v := .agg #[.bool false, .int .i64 0, .string s]) (by simp [results, Tryd.results21, go_sem]) rfl ⟨rfl, ?_⟩
  exact ((Below.refl _ _).alloc (Nat.le_refl _) _)
set_option maxHeartbeats 1000000 in
theorem num_any (x : Int) (w : World) :
    Calls Tryd.prog 22 #[.int .i64 x] w fun e w' => e = .returned (.agg #[.bool true, .int .i64 x, .string ⟨#[]⟩]) ∧ Below w.heap.size w w' := by
  go_enter Tryd.func22, Tryd.ntmps22
  go_wp2
  refine bodyPost_ret (v := .agg #[.bool true, .int .i64 x, .string ⟨#[]⟩]) (by simp [results, Tryd.results22, go_sem]) rfl ⟨rfl, ?_⟩
  exact ((Below.refl _ _).alloc (Nat.le_refl _) _)
end Go.Proofs.YtjofjgjocgooeaaDoor
