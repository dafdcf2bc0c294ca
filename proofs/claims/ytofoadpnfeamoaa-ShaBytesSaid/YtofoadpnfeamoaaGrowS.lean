/- Operations that only add, of this program's types. -/
import Derived.Test.YtofoadpnfeamoaaProg
import Derived.Test.YtofoadpnfeamoaaGrow
import Derived.Test.YtofoadpnfeamoaaShaG
import Derived.WalkSpells
set_option linter.unusedVariables false
namespace Go.Proofs.Ytofoadpnfeamoaa
open Go.RowKit

def VBytes (m : List UInt8) : Value → World → Prop := fun v w => ∃ a c, v = .slice a m.length c ∧ Rd w a m
def VStr (m : List UInt8) : Value → World → Prop := fun v _ => v = .string ⟨m.toArray⟩
def VParts (ps : List (List UInt8)) : Value → World → Prop := fun v w => ∃ a c, v = .slice a ps.length c ∧ RdS w a ps
theorem VBytes.stab (m : List UInt8) : Stab (VBytes m) := fun v w1 w2 ⟨a, c, e, h⟩ hb => ⟨a, c, e, h.below hb⟩
theorem VStr.stab (m : List UInt8) : Stab (VStr m) := fun v w1 w2 h hb => h
theorem VParts.stab (ps : List (List UInt8)) : Stab (VParts ps) := fun v w1 w2 ⟨a, c, e, h⟩ hb => ⟨a, c, e, h.below hb⟩

section
variable {Q : Exit → Act → World → Prop} {o : Oper} {a : Act} {w : World} {V : Value → World → Prop}
theorem grow_str {x : Operand} {m : List UInt8} (ho : o.op = .convert 22 9 x) (hx : VBytes m (a.eval x) w) : o.wp Try.prog a w (Grew o.dst (VStr m) a w) Q := by
  obtain ⟨ad, c, e, h⟩ := hx
  refine grow_convert (v := .string ⟨m.toArray⟩) ho ?_ rfl
  rw [e]
  exact str_of_rd h _ c rfl
theorem grow_part {x : Operand} {l : List UInt8} {ad : Option Addr} {c : Nat} (ho : o.op = .buildSlice 34 1 #[(0, x)]) (hx : a.eval x = .slice ad l.length c) (h : Rd w ad l) : o.wp Try.prog a w (Grew o.dst (VParts [l]) a w) Q := by
  refine grow_value (v := .slice (some ⟨w.heap.size, 0, none⟩) 1 1) (w' := w.alloc (.cells #[.slice ad l.length c] 22)) ?_ ⟨_, _, rfl, RdS.one h _⟩ ((Below.refl _ _).alloc (Nat.le_refl _) _)
  simp only [execOp, ho, List.map_toArray, List.map_cons, List.map_nil, hx]
  go_simp
theorem grow_eqs {x y : Operand} {r : TypeId} {s t : ByteArray} (ho : o.op = .binOp .eql 9 x y r) (hx : a.eval x = .string s) (hy : a.eval y = .string t) (hV : V (.bool (s.toList == t.toList)) w) : o.wp Try.prog a w (Grew o.dst V a w) Q := by
  refine grow_value (v := .bool (s.toList == t.toList)) (w' := w) ?_ hV (Below.refl _ _)
  simp only [execOp, ho, hx, hy]
  go_simp
theorem grow_eq_same {x y : Operand} {r : TypeId} {m : List UInt8} (ho : o.op = .binOp .eql 9 x y r) (hx : VStr m (a.eval x) w) (hy : VStr m (a.eval y) w) : o.wp Try.prog a w (Grew o.dst (VIs (.bool true)) a w) Q :=
  grow_eqs ho hx hy (by show Value.bool _ = _; rw [beq_self_eq_true])
end
theorem ent_sum : ∀ args w, (callFunc 23 args).run Try.prog w = .ok (.enter 23 args) w := run_enters Try.func23 (by kernel_rfl) rfl
theorem ent_hsum : ∀ args w, (callFunc 27 args).run Try.prog w = .ok (.enter 27 args) w := run_enters Try.func27 (by kernel_rfl) rfl
section
variable {Q : Exit → Act → World → Prop} {o : Oper} {a : Act} {w : World}
theorem grow_sum {x : Operand} {ts : Array TypeId} {ps : List (List UInt8)} {m : List UInt8} (he : ps.flatten = m) (ho : o.op = .call { callee := .value (.func 23), args := #[x], argTypes := ts }) (hx : VParts ps (a.eval x) w) (hps : ps.length ≤ 1000000) (hlen : m.length ≤ 900000) :
    o.wp Try.prog a w (Grew o.dst (VBytes (sha m)) a w) Q := by
  subst he
  obtain ⟨ad, c, e, h⟩ := hx
  refine grow_call ent_sum ho ?_
  simp only [List.map_toArray, List.map_cons, List.map_nil, e]
  refine (sum_any ps ad _ c w h rfl hps hlen).mono ?_
  rintro e w' ⟨v', rfl, ht, hb⟩
  obtain ⟨a', c', h1, h2, _⟩ := ht.shape
  exact ⟨v', rfl, ⟨a', c', h1, h2⟩, hb⟩
theorem grow_hsum {x : Operand} {ts : Array TypeId} {B p : Nat} {v : Value} {m : List UInt8} (ho : o.op = .call { callee := .value (.func 27), args := #[x], argTypes := ts }) (hx : a.eval x = .pointer (some ⟨p, 0, none⟩)) (h : HM B w p v m) (hlen : m.length ≤ 900000) :
    o.wp Try.prog a w (Grew o.dst (VBytes (sha m)) a w) Q := by
  refine grow_call ent_hsum ho ?_
  simp only [List.map_toArray, List.map_cons, List.map_nil, hx]
  refine (hsum_any B p v m w h hlen).mono ?_
  rintro e w' ⟨v', rfl, ht, hb⟩
  obtain ⟨a', c', h1, h2, _⟩ := ht.shape
  exact ⟨v', rfl, ⟨a', c', h1, h2⟩, hb⟩
end
end Go.Proofs.Ytofoadpnfeamoaa
