/- Operations that only add: unequal strings. -/
import Derived.Test.YtofoadpnfeamoaaGrowS
set_option linter.unusedVariables false
namespace Go.Proofs.Ytofoadpnfeamoaa
open Go.RowKit
section
variable {Q : Exit → Act → World → Prop} {o : Oper} {a : Act} {w : World}
theorem grow_ne_same {x y : Operand} {r : TypeId} {m : List UInt8} (ho : o.op = .binOp .neq 9 x y r) (hx : VStr m (a.eval x) w) (hy : VStr m (a.eval y) w) : o.wp Try.prog a w (Grew o.dst (VIs (.bool false)) a w) Q := by
  have hx' : a.eval x = .string ⟨m.toArray⟩ := hx
  have hy' : a.eval y = .string ⟨m.toArray⟩ := hy
  refine grow_value (v := .bool false) (w' := w) ?_ rfl (Below.refl _ _)
  obtain ⟨s, hs⟩ : ∃ s : ByteArray, (⟨m.toArray⟩ : ByteArray) = s := ⟨_, rfl⟩
  rw [hs] at hx' hy'
  simp only [execOp, ho, hx', hy']
  go_simp
end
end Go.Proofs.Ytofoadpnfeamoaa
