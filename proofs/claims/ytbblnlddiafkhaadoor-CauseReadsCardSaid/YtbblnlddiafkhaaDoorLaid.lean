/- What a card's listed variables give a walk. -/
import Derived.Test.YtbblnlddiafkhaaDoorStd
import Derived.Stop.LaidErr
import Derived.Lib.LaidTab
import Derived.MakeChecks
set_option linter.unusedVariables false
namespace Go.Proofs.YtbblnlddiafkhaaDoor
open Go.RowKit Go.ChangeShapes

theorem laid_drop {P : Program} {w : World} : ∀ (l : List (String × DataW Unit)) (i : Nat), laidMet P l w → laidMet P (l.drop i) w
  | l, 0, h => h
  | [], i + 1, h => h
  | x :: l, i + 1, h => laid_drop l i h.tail
theorem sent_of_head {n nm : String} {d : DataW Unit} {r : List (String × DataW Unit)} {W : World} {g : Nat} {ti : TypeId} {ms : Array (String × TypeId)}
    (h : laidMet Tryd.prog ((n, .iface nm d) :: r) W) (hg : Tryd.prog.globalNamed n = some g) (ht : (Tryd.prog.globals[g]?).map (·.type) = some ti) (hi : Tryd.prog.underlying ti = some (.interface ms)) : Sent W n := by
  obtain ⟨ps, ⟨g0, t0, cs0, f0, p0, q0, hg0, ht0, hv0, hd0, _, e0⟩, _, hrows⟩ := h
  obtain rfl := Option.some.inj (hg.symm.trans hg0)
  obtain rfl := Option.some.inj (ht.symm.trans ht0)
  obtain ⟨l0⟩ := cs0
  obtain ⟨f1, u, v, hcs, _, _⟩ := iface_of_trod hi hd0
  refine ⟨u, v, ?_⟩
  rw [hv0]
  simp only at hcs
  rw [hcs]
theorem std_of {W : World} {laid : List (String × DataW Unit)} (hL : laidMetH Tryd.prog laid W) (hp : (laid.all fun x => x.2.handleName?.isNone) = true)
    {i j k : Nat} {r1 r2 r3 : List (String × DataW Unit)} {n1 n2 : String} {d1 d2 : DataW Unit}
    (h1 : laid.drop i = ("internal/strconv.uint64pow10", Lib.tabData .u64 Lib.pow10Tab) :: r1) (h2 : laid.drop j = ("strconv.ErrRange", .iface n1 d1) :: r2) (h3 : laid.drop k = ("strconv.ErrSyntax", .iface n2 d2) :: r3) :
    Pow W ∧ Sent W "strconv.ErrRange" ∧ Sent W "strconv.ErrSyntax" := by
  rw [MakeChecks.laidMetH_plain _ _ _ hp] at hL
  have a1 := laid_drop _ i hL
  have a2 := laid_drop _ j hL
  have a3 := laid_drop _ k hL
  rw [h1] at a1
  rw [h2] at a2
  rw [h3] at a3
  refine ⟨?_, ?_, ?_⟩
  · exact Lib.tabIs_of_head (g := 3) (t := 142) (e := 117) (n := 20) (by kernel_rfl) (by kernel_rfl) (by kernel_rfl) (by kernel_rfl) (by kernel_rfl) (by kernel_rfl) a1
  · exact sent_of_head (g := 2) (ti := 53) (ms := #[("Error", 88)]) a2 (by kernel_rfl) (by kernel_rfl) (by kernel_rfl)
  · exact sent_of_head (g := 1) (ti := 53) (ms := #[("Error", 88)]) a3 (by kernel_rfl) (by kernel_rfl) (by kernel_rfl)
end Go.Proofs.YtbblnlddiafkhaaDoor
