/- Package klaxonref01: Sum, among operations that only add. -/
import Derived.Test.YtofoadpnfeamoaaRefD
import Derived.Test.YtofoadpnfeamoaaGrowS
set_option linter.unusedVariables false
namespace Go.Proofs.Ytofoadpnfeamoaa
open Go.RowKit
theorem ent_rsum : ∀ args w, (callFunc 24 args).run Try.prog w = .ok (.enter 24 args) w := run_enters Try.func24 (by kernel_rfl) rfl
theorem grow_rsum {Q : Exit → Act → World → Prop} {o : Oper} {a : Act} {w : World} {x : Operand} {ts : Array TypeId} {m : List UInt8} {ad : Option Addr} {c : Nat} (ho : o.op = .call { callee := .value (.func 24), args := #[x], argTypes := ts }) (hx : a.eval x = .slice ad m.length c) (h : Rd w ad m) (hlen : m.length ≤ 900000) :
    o.wp Try.prog a w (Grew o.dst (VBytes (sha m)) a w) Q := by
  refine grow_call ent_rsum ho ?_
  simp only [List.map_toArray, List.map_cons, List.map_nil, hx]
  refine (sum_ref m ad _ c w h rfl hlen).mono ?_
  rintro e w' ⟨v', rfl, ht, hb⟩
  obtain ⟨a', c', h1, h2, _⟩ := ht.shape
  exact ⟨v', rfl, ⟨a', c', h1, h2⟩, hb⟩
end Go.Proofs.Ytofoadpnfeamoaa
