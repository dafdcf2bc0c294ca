/-
  DERIVED. GIVEN WITH THE SEED: THE CARDS: each row of YtjofjgjocgooeaaDoorRows.lean that lists a variable, with what it lists TIED to the program's text (the seventh form; the later family's looks); each row that meets fmt, with fmt's text TOLD by the authors' own Lean function (tested against real Go, not proved from fmt's source: count such statements apart). THE CARD IS WHAT COUNTS. Prove the row's statement (the work); the ties are given (YtjofjgjocgooeaaDoorTie.lean); close each card by the builder's one call (the guide's Derived/Test/ToyasCard.lean, 'card_holds'). Laid BY PROGRAM, IN A SANDBOX (cutbox-door.mjs). By AI agents, Wed Nov 11 2026. No macro, syntax, notation, axiom, sorry.
-/
import Derived.Test.YtjofjgjocgooeaaDoorRows
import GoSem.ClaimSeven
namespace Go.Proofs.YtjofjgjocgooeaaDoor
namespace Rows

/-- THE TIED CARD OF 'klaxonlaw10.TupleBegins'. -/
def tupleBeginsCard : Claim7 := { stood := { row := tupleBeginsRow, standIns := [], harness := (true, "c208efd9a6922e951ca9a8de23b23ee74f6190182f03180f661bd8c8fd9b4fef"), looks := false }, kinds := [], alts := [], laidByText := true, laidKinds := [.data, .pinned], laidTests := true, laidLooks := .later }
def TupleBeginsCardSaid : Prop := Claim7.holds Tryd.pinned (.plain (OpenSpec.ofChange tupleBeginsSpec)) tupleBeginsCard

/-- THE TIED CARD OF 'klaxonlaw10.TupleNext'. -/
def tupleNextCard : Claim7 := { stood := { row := tupleNextRow, standIns := [], harness := (true, "c208efd9a6922e951ca9a8de23b23ee74f6190182f03180f661bd8c8fd9b4fef"), looks := false }, kinds := [], alts := [], laidByText := true, laidKinds := [.data, .pinned], laidTests := true, laidLooks := .later }
def TupleNextCardSaid : Prop := Claim7.holds Tryd.pinned (.plain (OpenSpec.ofChange tupleNextSpec)) tupleNextCard

/-- THE TIED CARD OF 'klaxonlaw10.TupleOrder'. -/
def tupleOrderCard : Claim7 := { stood := { row := tupleOrderRow, standIns := [], harness := (true, "c208efd9a6922e951ca9a8de23b23ee74f6190182f03180f661bd8c8fd9b4fef"), looks := false }, kinds := [], alts := [], laidByText := true, laidKinds := [.data, .pinned], laidTests := true, laidLooks := .later }
def TupleOrderCardSaid : Prop := Claim7.holds Tryd.pinned (.plain (OpenSpec.ofChange tupleOrderSpec)) tupleOrderCard

/-- THE TIED CARD OF 'klaxonlaw10.TupleKeys'. -/
def tupleKeysCard : Claim7 := { stood := { row := tupleKeysRow, standIns := [], harness := (true, "c208efd9a6922e951ca9a8de23b23ee74f6190182f03180f661bd8c8fd9b4fef"), looks := false }, kinds := [], alts := [], laidByText := true, laidKinds := [.data, .pinned], laidTests := true, laidLooks := .later }
def TupleKeysCardSaid : Prop := Claim7.holds Tryd.pinned (.plain (OpenSpec.ofChange tupleKeysSpec)) tupleKeysCard

/-- THE TIED CARD OF 'klaxonlaw10.TupleReads'. -/
def tupleReadsCard : Claim7 := { stood := { row := tupleReadsRow, standIns := [], harness := (true, "c208efd9a6922e951ca9a8de23b23ee74f6190182f03180f661bd8c8fd9b4fef"), looks := false }, kinds := [], alts := [], laidByText := true, laidKinds := [.data, .pinned], laidTests := true, laidLooks := .later }
def TupleReadsCardSaid : Prop := Claim7.holds Tryd.pinned (.plain (OpenSpec.ofChange tupleReadsSpec)) tupleReadsCard

/-- THE SECOND FORM's CARD OF 'klaxonlaw10.TupleBegins'. -/
def tupleBeginsUptoCard : Claim7 := { stood := { row := tupleBeginsUptoRow, standIns := [], harness := (true, "c208efd9a6922e951ca9a8de23b23ee74f6190182f03180f661bd8c8fd9b4fef"), looks := false }, kinds := [], alts := [], laidByText := true, laidKinds := [.data, .pinned], laidTests := true, laidLooks := .later }
def TupleBeginsUptoCardSaid : Prop := Claim7.holds Tryd.pinned (.plain (OpenSpec.upto tupleBeginsSpec)) tupleBeginsUptoCard

/-- THE SECOND FORM's CARD OF 'klaxonlaw10.TupleNext'. -/
def tupleNextUptoCard : Claim7 := { stood := { row := tupleNextUptoRow, standIns := [], harness := (true, "c208efd9a6922e951ca9a8de23b23ee74f6190182f03180f661bd8c8fd9b4fef"), looks := false }, kinds := [], alts := [], laidByText := true, laidKinds := [.data, .pinned], laidTests := true, laidLooks := .later }
def TupleNextUptoCardSaid : Prop := Claim7.holds Tryd.pinned (.plain (OpenSpec.upto tupleNextSpec)) tupleNextUptoCard

/-- THE SECOND FORM's CARD OF 'klaxonlaw10.TupleOrder'. -/
def tupleOrderUptoCard : Claim7 := { stood := { row := tupleOrderUptoRow, standIns := [], harness := (true, "c208efd9a6922e951ca9a8de23b23ee74f6190182f03180f661bd8c8fd9b4fef"), looks := false }, kinds := [], alts := [], laidByText := true, laidKinds := [.data, .pinned], laidTests := true, laidLooks := .later }
def TupleOrderUptoCardSaid : Prop := Claim7.holds Tryd.pinned (.plain (OpenSpec.upto tupleOrderSpec)) tupleOrderUptoCard

/-- THE SECOND FORM's CARD OF 'klaxonlaw10.TupleKeys'. -/
def tupleKeysUptoCard : Claim7 := { stood := { row := tupleKeysUptoRow, standIns := [], harness := (true, "c208efd9a6922e951ca9a8de23b23ee74f6190182f03180f661bd8c8fd9b4fef"), looks := false }, kinds := [], alts := [], laidByText := true, laidKinds := [.data, .pinned], laidTests := true, laidLooks := .later }
def TupleKeysUptoCardSaid : Prop := Claim7.holds Tryd.pinned (.plain (OpenSpec.upto tupleKeysSpec)) tupleKeysUptoCard

/-- THE SECOND FORM's CARD OF 'klaxonlaw10.TupleReads'. -/
def tupleReadsUptoCard : Claim7 := { stood := { row := tupleReadsUptoRow, standIns := [], harness := (true, "c208efd9a6922e951ca9a8de23b23ee74f6190182f03180f661bd8c8fd9b4fef"), looks := false }, kinds := [], alts := [], laidByText := true, laidKinds := [.data, .pinned], laidTests := true, laidLooks := .later }
def TupleReadsUptoCardSaid : Prop := Claim7.holds Tryd.pinned (.plain (OpenSpec.upto tupleReadsSpec)) tupleReadsUptoCard
end Rows
end Go.Proofs.YtjofjgjocgooeaaDoor
