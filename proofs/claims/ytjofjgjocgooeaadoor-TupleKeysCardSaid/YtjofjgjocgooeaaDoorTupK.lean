/- Parts that lie in memory. -/
import Derived.Test.YtjofjgjocgooeaaDoorTup3
import Derived.Test.YtjofjgjocgooeaaDoorBuildS
set_option linter.unusedVariables false
namespace Go.Proofs.YtjofjgjocgooeaaDoor
open Go.RowKit

/-- The parts l lie at a. -/
def RdP (w : World) (a : Option Addr) (l : List TP) : Prop :=
  l = [] ∨ ∃ b off, a = some ⟨b, off, none⟩ ∧ ∀ i (h : i < l.length), w.cell? ⟨b, off + i * 3, none⟩ = some (.bool l[i].isNum) ∧ w.cell? ⟨b, off + i * 3 + 1, none⟩ = some (.int .i64 l[i].num) ∧ w.cell? ⟨b, off + i * 3 + 2, none⟩ = some (.string ⟨l[i].text.toArray⟩)
theorem RdP.below {w w' : World} {a : Option Addr} {l : List TP} (h : RdP w a l) (hb : Below w.heap.size w w') : RdP w' a l := by
  rcases h with h | ⟨b, off, e, h⟩
  · exact .inl h
  · refine .inr ⟨b, off, e, fun i hi => ?_⟩
    obtain ⟨h1, h2, h3⟩ := h i hi
    refine ⟨?_, ?_, ?_⟩
    · rw [hb.cell (World.block_lt_of_cell? _ _ h1)]; exact h1
    · rw [hb.cell (World.block_lt_of_cell? _ _ h2)]; exact h2
    · rw [hb.cell (World.block_lt_of_cell? _ _ h3)]; exact h3
theorem Bld.below {b : Nat} {l : List UInt8} {w w' : World} (h : Bld b l w) (hb : Below w.heap.size w w') : Bld b l w' := by
  have go : ∀ p, Lib.BuilderAtF 49 5 b b p (Lib.byteCells l) w → Lib.BuilderAtF 49 5 b b p (Lib.byteCells l) w' := by
    intro p h
    have hlt := h.lt
    obtain ⟨hB, v, hbk, hown, hne⟩ := h
    exact ⟨hB, v, (hb.block b hlt).trans hbk, hown.kept (row := none) ⟨hb.os, hb.tape, hb.output, hb.size, fun k hk _ => hb.block k hk⟩ (by cases hv : v.ownBlock <;> simp), hne⟩
  exact h.elim (fun x => .inl (go _ x)) (fun x => .inr (go _ x))
/-- A part's bytes. -/
theorem bytes_any (p : TP) (m : Int) (w : World) (hp : p.ok) (hm : w.cell? ⟨0, 0, none⟩ = some (.int .i64 m)) (hs : p.text.length ≤ 1000000) :
    Calls Tryd.prog 24 #[.agg #[.bool p.isNum, .int .i64 p.num, .string ⟨p.text.toArray⟩]] w fun e w' => e = .returned (.string ⟨(pb p).toArray⟩) ∧ Below w.heap.size w w' := by
  obtain ⟨k, x, t⟩ := p
  cases k
  · have h := bytes_text x m ⟨t.toArray⟩ w hm (by show t.toArray.size ≤ _; simpa using hs)
    simpa using h
  · have h := bytes_num x ⟨t.toArray⟩ w hp.1 hp.2
    simpa using h
end Go.Proofs.YtjofjgjocgooeaaDoor
