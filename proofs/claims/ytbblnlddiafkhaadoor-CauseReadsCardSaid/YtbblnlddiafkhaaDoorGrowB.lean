/- Operations that only add: bytes and strings (no hash in sight). -/
import Derived.Test.YtbblnlddiafkhaaDoorProg
import Derived.Test.YtbblnlddiafkhaaDoorGrow
import Derived.Test.YtbblnlddiafkhaaDoorTl
import Derived.WalkSpells
set_option linter.unusedVariables false
namespace Go.Proofs.YtbblnlddiafkhaaDoor
open Go.RowKit

def VBytes (m : List UInt8) : Value → World → Prop := fun v w => ∃ a c, v = .slice a m.length c ∧ Rd w a m
def VStr (m : List UInt8) : Value → World → Prop := fun v _ => v = .string ⟨m.toArray⟩
theorem VBytes.stab (m : List UInt8) : Stab (VBytes m) := fun v w1 w2 ⟨a, c, e, h⟩ hb => ⟨a, c, e, h.below hb⟩
theorem VStr.stab (m : List UInt8) : Stab (VStr m) := fun v w1 w2 h hb => h
section
variable {Q : Exit → Act → World → Prop} {o : Oper} {a : Act} {w : World} {V : Value → World → Prop}
theorem grow_str {x : Operand} {m : List UInt8} (ho : o.op = .convert 28 9 x) (hx : VBytes m (a.eval x) w) : o.wp Tryd.prog a w (Grew o.dst (VStr m) a w) Q := by
  obtain ⟨ad, c, e, h⟩ := hx
  refine grow_convert (v := .string ⟨m.toArray⟩) ho ?_ rfl
  rw [e]
  exact str_of_rd h _ c rfl
theorem grow_byte1 {x : Operand} {b : UInt8} (ho : o.op = .buildSlice 28 1 #[(0, x)]) (hx : a.eval x = .int .u8 (b.toNat : Nat)) : o.wp Tryd.prog a w (Grew o.dst (VBytes [b]) a w) Q := by
  refine grow_value (v := .slice (some ⟨w.heap.size, 0, none⟩) 1 1) (w' := w.alloc (.cells #[.int .u8 (b.toNat : Nat)] 5)) ?_ ⟨_, _, rfl, Rd.of_lit (T := 5) (fr := (0, 0)) _ (by rw [heap_alloc_new]; rfl)⟩ ((Below.refl _ _).alloc (Nat.le_refl _) _)
  simp only [execOp, ho, List.map_toArray, List.map_cons, List.map_nil, hx]
  go_simp
end
end Go.Proofs.YtbblnlddiafkhaaDoor
