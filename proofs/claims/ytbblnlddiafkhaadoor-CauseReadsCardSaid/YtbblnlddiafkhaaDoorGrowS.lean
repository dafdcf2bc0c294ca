/- Operations that only add, of this program's types. -/
import Derived.Test.YtbblnlddiafkhaaDoorProg
import Derived.Test.YtbblnlddiafkhaaDoorGrowB
import Derived.Test.YtbblnlddiafkhaaDoorShaG
import Derived.WalkSpells
set_option linter.unusedVariables false
namespace Go.Proofs.YtbblnlddiafkhaaDoor
open Go.RowKit

def VParts (ps : List (List UInt8)) : Value → World → Prop := fun v w => ∃ a c, v = .slice a ps.length c ∧ RdS w a ps
theorem VParts.stab (ps : List (List UInt8)) : Stab (VParts ps) := fun v w1 w2 ⟨a, c, e, h⟩ hb => ⟨a, c, e, h.below hb⟩

/-- A new row of one number. -/
def VRow (x : Nat) : Value → World → Prop := fun v w => ∃ g, v = .slice (some ⟨g, 0, none⟩) 1 1 ∧ w.cell? ⟨g, 0, none⟩ = some (.int .i64 (x : Nat))
theorem VRow.stab (x : Nat) : Stab (VRow x) := fun v w1 w2 ⟨g, e, h⟩ hb => ⟨g, e, by rw [hb.cell (World.block_lt_of_cell? _ _ h)]; exact h⟩

/-- Numbers lie in block g. -/
def RowI (w : World) (g : Nat) (ns : List Nat) : Prop := ∀ i (h : i < ns.length), w.cell? ⟨g, i, none⟩ = some (.int .i64 (ns[i] : Nat))
theorem RowI.below {w w' : World} {g : Nat} {ns : List Nat} (h : RowI w g ns) (hb : Below w.heap.size w w') : RowI w' g ns := fun i hi => by
  rw [hb.cell (World.block_lt_of_cell? _ _ (h i hi))]
  exact h i hi
def VRow8 (B : Nat) (ns : List Nat) : Value → World → Prop := fun v w => ∃ g, v = .slice (some ⟨g, 0, none⟩) 8 8 ∧ B ≤ g ∧ RowI w g ns
theorem VRow8.stab (B : Nat) (ns : List Nat) : Stab (VRow8 B ns) := fun v w1 w2 ⟨g, e, hB, h⟩ hb => ⟨g, e, hB, h.below hb⟩

section
variable {Q : Exit → Act → World → Prop} {o : Oper} {a : Act} {w : World} {V : Value → World → Prop}
theorem grow_part {x : Operand} {l : List UInt8} {ad : Option Addr} {c : Nat} (ho : o.op = .buildSlice 89 1 #[(0, x)]) (hx : a.eval x = .slice ad l.length c) (h : Rd w ad l) : o.wp Tryd.prog a w (Grew o.dst (VParts [l]) a w) Q := by
  refine grow_value (v := .slice (some ⟨w.heap.size, 0, none⟩) 1 1) (w' := w.alloc (.cells #[.slice ad l.length c] 28)) ?_ ⟨_, _, rfl, RdS.one h _⟩ ((Below.refl _ _).alloc (Nat.le_refl _) _)
  simp only [execOp, ho, List.map_toArray, List.map_cons, List.map_nil, hx]
  go_simp
theorem grow_row {x : Operand} {n : Nat} (ho : o.op = .buildSlice 103 1 #[(0, x)]) (hx : a.eval x = .int .i64 (n : Nat)) : o.wp Tryd.prog a w (Grew o.dst (VRow n) a w) Q := by
  refine grow_value (v := .slice (some ⟨w.heap.size, 0, none⟩) 1 1) (w' := w.alloc (.cells #[.int .i64 (n : Nat)] 3)) ?_ ⟨_, rfl, by rw [Lib.cell_of_heap (heap_alloc_new w _)]; rfl⟩ ((Below.refl _ _).alloc (Nat.le_refl _) _)
  simp only [execOp, ho, List.map_toArray, List.map_cons, List.map_nil, hx]
  go_simp
theorem grow_row8 {B : Nat} (hB : B ≤ w.heap.size) {x0 x1 x2 x3 x4 x5 x6 x7 : Operand} {n0 n1 n2 n3 n4 n5 n6 n7 : Nat} (ho : o.op = .buildSlice 103 8 #[(0, x0), (1, x1), (2, x2), (3, x3), (4, x4), (5, x5), (6, x6), (7, x7)])
    (h0 : a.eval x0 = .int .i64 (n0 : Nat)) (h1 : a.eval x1 = .int .i64 (n1 : Nat)) (h2 : a.eval x2 = .int .i64 (n2 : Nat)) (h3 : a.eval x3 = .int .i64 (n3 : Nat)) (h4 : a.eval x4 = .int .i64 (n4 : Nat)) (h5 : a.eval x5 = .int .i64 (n5 : Nat)) (h6 : a.eval x6 = .int .i64 (n6 : Nat)) (h7 : a.eval x7 = .int .i64 (n7 : Nat)) :
    o.wp Tryd.prog a w (Grew o.dst (VRow8 B [n0, n1, n2, n3, n4, n5, n6, n7]) a w) Q := by
  refine grow_value (v := .slice (some ⟨w.heap.size, 0, none⟩) 8 8) (w' := w.alloc (.cells #[.int .i64 (n0 : Nat), .int .i64 (n1 : Nat), .int .i64 (n2 : Nat), .int .i64 (n3 : Nat), .int .i64 (n4 : Nat), .int .i64 (n5 : Nat), .int .i64 (n6 : Nat), .int .i64 (n7 : Nat)] 3)) ?_ ⟨_, rfl, hB, fun i hi => ?_⟩ ((Below.refl _ _).alloc (Nat.le_refl _) _)
  · simp only [execOp, ho, List.map_toArray, List.map_cons, List.map_nil, h0, h1, h2, h3, h4, h5, h6, h7]
    go_simp
  · rw [Lib.cell_of_heap (heap_alloc_new w _)]
    match i, hi with
    | 0, _ => rfl
    | 1, _ => rfl
    | 2, _ => rfl
    | 3, _ => rfl
    | 4, _ => rfl
    | 5, _ => rfl
    | 6, _ => rfl
    | 7, _ => rfl
    | k + 8, h => exact absurd h (by simp)
theorem grow_bytes4 {x0 x1 x2 x3 : Operand} {b0 b1 b2 b3 : UInt8} (ho : o.op = .buildSlice 28 4 #[(0, x0), (1, x1), (2, x2), (3, x3)])
    (h0 : a.eval x0 = .int .u8 (b0.toNat : Nat)) (h1 : a.eval x1 = .int .u8 (b1.toNat : Nat)) (h2 : a.eval x2 = .int .u8 (b2.toNat : Nat)) (h3 : a.eval x3 = .int .u8 (b3.toNat : Nat)) :
    o.wp Tryd.prog a w (Grew o.dst (VBytes [b0, b1, b2, b3]) a w) Q := by
  refine grow_value (v := .slice (some ⟨w.heap.size, 0, none⟩) 4 4) (w' := w.alloc (.cells #[.int .u8 (b0.toNat : Nat), .int .u8 (b1.toNat : Nat), .int .u8 (b2.toNat : Nat), .int .u8 (b3.toNat : Nat)] 5)) ?_ ⟨_, _, rfl, Rd.of_lit (T := 5) (fr := (0, 0)) _ (by rw [heap_alloc_new]; rfl)⟩ ((Below.refl _ _).alloc (Nat.le_refl _) _)
  simp only [execOp, ho, List.map_toArray, List.map_cons, List.map_nil, h0, h1, h2, h3]
  go_simp
theorem grow_eqs {x y : Operand} {r : TypeId} {s t : ByteArray} (ho : o.op = .binOp .eql 9 x y r) (hx : a.eval x = .string s) (hy : a.eval y = .string t) (hV : V (.bool (s.toList == t.toList)) w) : o.wp Tryd.prog a w (Grew o.dst V a w) Q := by
  refine grow_value (v := .bool (s.toList == t.toList)) (w' := w) ?_ hV (Below.refl _ _)
  simp only [execOp, ho, hx, hy]
  go_simp
theorem grow_eq_same {x y : Operand} {r : TypeId} {m : List UInt8} (ho : o.op = .binOp .eql 9 x y r) (hx : VStr m (a.eval x) w) (hy : VStr m (a.eval y) w) : o.wp Tryd.prog a w (Grew o.dst (VIs (.bool true)) a w) Q :=
  grow_eqs ho hx hy (by show Value.bool _ = _; rw [beq_self_eq_true])
end
theorem ent_sum : ∀ args w, (callFunc 57 args).run Tryd.prog w = .ok (.enter 57 args) w := run_enters Tryd.func57 (by kernel_rfl) rfl
theorem ent_hsum : ∀ args w, (callFunc 58 args).run Tryd.prog w = .ok (.enter 58 args) w := run_enters Tryd.func58 (by kernel_rfl) rfl
section
variable {Q : Exit → Act → World → Prop} {o : Oper} {a : Act} {w : World}
theorem grow_sum {x : Operand} {ts : Array TypeId} {ps : List (List UInt8)} {m : List UInt8} (he : ps.flatten = m) (ho : o.op = .call { callee := .value (.func 57), args := #[x], argTypes := ts }) (hx : VParts ps (a.eval x) w) (hps : ps.length ≤ 1000000) (hlen : m.length ≤ 900000) :
    o.wp Tryd.prog a w (Grew o.dst (VBytes (sha m)) a w) Q := by
  subst he
  obtain ⟨ad, c, e, h⟩ := hx
  refine grow_call ent_sum ho ?_
  simp only [List.map_toArray, List.map_cons, List.map_nil, e]
  refine (sum_any ps ad _ c w h rfl hps hlen).mono ?_
  rintro e w' ⟨v', rfl, ht, hb⟩
  obtain ⟨a', c', h1, h2, _⟩ := ht.shape
  exact ⟨v', rfl, ⟨a', c', h1, h2⟩, hb⟩
theorem grow_hsum {x : Operand} {ts : Array TypeId} {B p : Nat} {v : Value} {m : List UInt8} (ho : o.op = .call { callee := .value (.func 58), args := #[x], argTypes := ts }) (hx : a.eval x = .pointer (some ⟨p, 0, none⟩)) (h : HM B w p v m) (hlen : m.length ≤ 900000) :
    o.wp Tryd.prog a w (Grew o.dst (VBytes (sha m)) a w) Q := by
  refine grow_call ent_hsum ho ?_
  simp only [List.map_toArray, List.map_cons, List.map_nil, hx]
  refine (hsum_any B p v m w h hlen).mono ?_
  rintro e w' ⟨v', rfl, ht, hb⟩
  obtain ⟨a', c', h1, h2, _⟩ := ht.shape
  exact ⟨v', rfl, ⟨a', c', h1, h2⟩, hb⟩
end
end Go.Proofs.YtbblnlddiafkhaaDoor
