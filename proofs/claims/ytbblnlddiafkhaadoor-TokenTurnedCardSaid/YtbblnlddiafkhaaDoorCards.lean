/-
  DERIVED. GIVEN WITH THE SEED: THE CARDS: each row of YtbblnlddiafkhaaDoorRows.lean that lists a variable, with what it lists TIED to the program's text (the seventh form; the later family's looks); each row that meets fmt, with fmt's text TOLD by the authors' own Lean function (tested against real Go, not proved from fmt's source: count such statements apart). THE CARD IS WHAT COUNTS. Prove the row's statement (the work); the ties are given (YtbblnlddiafkhaaDoorTie.lean); close each card by the builder's one call (the guide's Derived/Test/ToyasCard.lean, 'card_holds'). Laid BY PROGRAM, IN A SANDBOX (cutbox-door.mjs). By AI agents, Wed Nov 11 2026. No macro, syntax, notation, axiom, sorry.
-/
import Derived.Test.YtbblnlddiafkhaaDoorRows
import GoSem.ClaimSeven
namespace Go.Proofs.YtbblnlddiafkhaaDoor
namespace Rows

/-- THE TIED CARD OF 'klaxonlaw21.CauseReads'. -/
def causeReadsCard : Claim7 := { stood := { row := causeReadsRow, standIns := [], harness := (true, "60e383d71eddee9361cd888b96b1f64c49955cdb1dc6e82dd5f7095f63bf597e"), looks := true }, kinds := [], alts := [], laidByText := true, laidKinds := [.data, .data, .data, .sentinel, .sentinel], laidTests := true, laidLooks := .later }
def CauseReadsCardSaid : Prop := Claim7.holds Tryd.pinned (.plain (OpenSpec.ofChange causeReadsSpec)) causeReadsCard

/-- THE TIED CARD OF 'klaxonlaw15.TokenMakes'. -/
def tokenMakesCard : Claim7 := { stood := { row := tokenMakesRow, standIns := [], harness := (true, "60e383d71eddee9361cd888b96b1f64c49955cdb1dc6e82dd5f7095f63bf597e"), looks := true }, kinds := [], alts := [], laidByText := true, laidKinds := [.data, .data, .data, .sentinel, .sentinel], laidTests := true, laidLooks := .later }
def TokenMakesCardSaid : Prop := Claim7.holds Tryd.pinned (.plain (OpenSpec.ofChange tokenMakesSpec)) tokenMakesCard

/-- THE TIED CARD OF 'klaxonlaw15.TokenReads'. -/
def tokenReadsCard : Claim7 := { stood := { row := tokenReadsRow, standIns := [], harness := (true, "60e383d71eddee9361cd888b96b1f64c49955cdb1dc6e82dd5f7095f63bf597e"), looks := true }, kinds := [], alts := [], laidByText := true, laidKinds := [.data, .data, .data, .sentinel, .sentinel], laidTests := true, laidLooks := .later }
def TokenReadsCardSaid : Prop := Claim7.holds Tryd.pinned (.plain (OpenSpec.ofChange tokenReadsSpec)) tokenReadsCard

/-- THE TIED CARD OF 'klaxonlaw15.TokenTurned'. -/
def tokenTurnedCard : Claim7 := { stood := { row := tokenTurnedRow, standIns := [], harness := (true, "60e383d71eddee9361cd888b96b1f64c49955cdb1dc6e82dd5f7095f63bf597e"), looks := true }, kinds := [], alts := [], laidByText := true, laidKinds := [.data, .data, .data, .sentinel, .sentinel], laidTests := true, laidLooks := .later }
def TokenTurnedCardSaid : Prop := Claim7.holds Tryd.pinned (.plain (OpenSpec.ofChange tokenTurnedSpec)) tokenTurnedCard

/-- THE TIED CARD OF 'klaxonlaw15.TokenUnlike'. -/
def tokenUnlikeCard : Claim7 := { stood := { row := tokenUnlikeRow, standIns := [], harness := (true, "60e383d71eddee9361cd888b96b1f64c49955cdb1dc6e82dd5f7095f63bf597e"), looks := true }, kinds := [], alts := [], laidByText := true, laidKinds := [.data, .data, .data, .sentinel, .sentinel], laidTests := true, laidLooks := .later }
def TokenUnlikeCardSaid : Prop := Claim7.holds Tryd.pinned (.plain (OpenSpec.ofChange tokenUnlikeSpec)) tokenUnlikeCard

/-- THE TIED CARD OF 'klaxonlaw15.TokenHashes'. -/
def tokenHashesCard : Claim7 := { stood := { row := tokenHashesRow, standIns := [], harness := (true, "60e383d71eddee9361cd888b96b1f64c49955cdb1dc6e82dd5f7095f63bf597e"), looks := true }, kinds := [], alts := [], laidByText := true, laidKinds := [.data, .data, .data, .sentinel, .sentinel], laidTests := true, laidLooks := .later }
def TokenHashesCardSaid : Prop := Claim7.holds Tryd.pinned (.plain (OpenSpec.ofChange tokenHashesSpec)) tokenHashesCard

/-- THE SECOND FORM's CARD OF 'klaxonlaw21.CauseReads'. -/
def causeReadsUptoCard : Claim7 := { stood := { row := causeReadsUptoRow, standIns := [], harness := (true, "60e383d71eddee9361cd888b96b1f64c49955cdb1dc6e82dd5f7095f63bf597e"), looks := true }, kinds := [], alts := [], laidByText := true, laidKinds := [.data, .data, .data, .sentinel, .sentinel], laidTests := true, laidLooks := .later }
def CauseReadsUptoCardSaid : Prop := Claim7.holds Tryd.pinned (.plain (OpenSpec.upto causeReadsSpec)) causeReadsUptoCard

/-- THE SECOND FORM's CARD OF 'klaxonlaw15.TokenMakes'. -/
def tokenMakesUptoCard : Claim7 := { stood := { row := tokenMakesUptoRow, standIns := [], harness := (true, "60e383d71eddee9361cd888b96b1f64c49955cdb1dc6e82dd5f7095f63bf597e"), looks := true }, kinds := [], alts := [], laidByText := true, laidKinds := [.data, .data, .data, .sentinel, .sentinel], laidTests := true, laidLooks := .later }
def TokenMakesUptoCardSaid : Prop := Claim7.holds Tryd.pinned (.plain (OpenSpec.upto tokenMakesSpec)) tokenMakesUptoCard

/-- THE SECOND FORM's CARD OF 'klaxonlaw15.TokenReads'. -/
def tokenReadsUptoCard : Claim7 := { stood := { row := tokenReadsUptoRow, standIns := [], harness := (true, "60e383d71eddee9361cd888b96b1f64c49955cdb1dc6e82dd5f7095f63bf597e"), looks := true }, kinds := [], alts := [], laidByText := true, laidKinds := [.data, .data, .data, .sentinel, .sentinel], laidTests := true, laidLooks := .later }
def TokenReadsUptoCardSaid : Prop := Claim7.holds Tryd.pinned (.plain (OpenSpec.upto tokenReadsSpec)) tokenReadsUptoCard

/-- THE SECOND FORM's CARD OF 'klaxonlaw15.TokenTurned'. -/
def tokenTurnedUptoCard : Claim7 := { stood := { row := tokenTurnedUptoRow, standIns := [], harness := (true, "60e383d71eddee9361cd888b96b1f64c49955cdb1dc6e82dd5f7095f63bf597e"), looks := true }, kinds := [], alts := [], laidByText := true, laidKinds := [.data, .data, .data, .sentinel, .sentinel], laidTests := true, laidLooks := .later }
def TokenTurnedUptoCardSaid : Prop := Claim7.holds Tryd.pinned (.plain (OpenSpec.upto tokenTurnedSpec)) tokenTurnedUptoCard

/-- THE SECOND FORM's CARD OF 'klaxonlaw15.TokenUnlike'. -/
def tokenUnlikeUptoCard : Claim7 := { stood := { row := tokenUnlikeUptoRow, standIns := [], harness := (true, "60e383d71eddee9361cd888b96b1f64c49955cdb1dc6e82dd5f7095f63bf597e"), looks := true }, kinds := [], alts := [], laidByText := true, laidKinds := [.data, .data, .data, .sentinel, .sentinel], laidTests := true, laidLooks := .later }
def TokenUnlikeUptoCardSaid : Prop := Claim7.holds Tryd.pinned (.plain (OpenSpec.upto tokenUnlikeSpec)) tokenUnlikeUptoCard

/-- THE SECOND FORM's CARD OF 'klaxonlaw15.TokenHashes'. -/
def tokenHashesUptoCard : Claim7 := { stood := { row := tokenHashesUptoRow, standIns := [], harness := (true, "60e383d71eddee9361cd888b96b1f64c49955cdb1dc6e82dd5f7095f63bf597e"), looks := true }, kinds := [], alts := [], laidByText := true, laidKinds := [.data, .data, .data, .sentinel, .sentinel], laidTests := true, laidLooks := .later }
def TokenHashesUptoCardSaid : Prop := Claim7.holds Tryd.pinned (.plain (OpenSpec.upto tokenHashesSpec)) tokenHashesUptoCard
end Rows
end Go.Proofs.YtbblnlddiafkhaaDoor
