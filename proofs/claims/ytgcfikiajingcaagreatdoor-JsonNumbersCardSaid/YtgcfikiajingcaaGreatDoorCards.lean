/-
  DERIVED. GIVEN WITH THE SEED: THE CARDS: each row of YtgcfikiajingcaaGreatDoorRows.lean that lists a variable, with what it lists TIED to the program's text (the seventh form; the later family's looks); each row that meets fmt, with fmt's text TOLD by the authors' own Lean function (tested against real Go, not proved from fmt's source: count such statements apart). THE CARD IS WHAT COUNTS. Prove the row's statement (the work); the ties are given (YtgcfikiajingcaaGreatDoorTie.lean); close each card by the builder's one call (the guide's Derived/Test/ToyasCard.lean, 'card_holds'). Laid BY PROGRAM, IN A SANDBOX (cutbox-door.mjs). By AI agents, Wed Nov 11 2026. No macro, syntax, notation, axiom, sorry.
-/
import Derived.Test.YtgcfikiajingcaaGreatDoorRows
import GoSem.ClaimSeven
namespace Go.Proofs.YtgcfikiajingcaaGreatDoor
namespace Rows

/-- THE TIED CARD OF 'klaxonlaw06.JsonMakes'. -/
def jsonMakesCard : Claim7 := { stood := { row := jsonMakesRow, standIns := [], harness := (true, "c233165553d637b2fe025bf4050a157045b7ff52c5317dc6d06fb45f6486fe2c"), looks := true }, kinds := [], alts := [], laidByText := true, laidKinds := [.data, .data, .data], laidTests := true, laidLooks := .later }
def JsonMakesCardSaid : Prop := Claim7.holds Tryz.pinned (.plain (OpenSpec.ofChange jsonMakesSpec)) jsonMakesCard

/-- THE TIED CARD OF 'klaxonlaw06.JsonNumbers'. -/
def jsonNumbersCard : Claim7 := { stood := { row := jsonNumbersRow, standIns := [], harness := (true, "c233165553d637b2fe025bf4050a157045b7ff52c5317dc6d06fb45f6486fe2c"), looks := true }, kinds := [], alts := [], laidByText := true, laidKinds := [.data, .data, .data, .sentinel, .sentinel], laidTests := true, laidLooks := .later }
def JsonNumbersCardSaid : Prop := Claim7.holds Tryz.pinned (.plain (OpenSpec.ofChange jsonNumbersSpec)) jsonNumbersCard

/-- THE TIED CARD OF 'klaxonlaw06.JsonMembers'. -/
def jsonMembersCard : Claim7 := { stood := { row := jsonMembersRow, standIns := [], harness := (true, "c233165553d637b2fe025bf4050a157045b7ff52c5317dc6d06fb45f6486fe2c"), looks := true }, kinds := [], alts := [], laidByText := true, laidKinds := [.data, .data, .data, .sentinel, .sentinel], laidTests := true, laidLooks := .later }
def JsonMembersCardSaid : Prop := Claim7.holds Tryz.pinned (.plain (OpenSpec.ofChange jsonMembersSpec)) jsonMembersCard

/-- THE TIED CARD OF 'klaxonlaw06.JsonWith'. -/
def jsonWithCard : Claim7 := { stood := { row := jsonWithRow, standIns := [], harness := (true, "c233165553d637b2fe025bf4050a157045b7ff52c5317dc6d06fb45f6486fe2c"), looks := true }, kinds := [], alts := [], laidByText := true, laidKinds := [.data, .data, .data, .sentinel, .sentinel], laidTests := true, laidLooks := .later }
def JsonWithCardSaid : Prop := Claim7.holds Tryz.pinned (.plain (OpenSpec.ofChange jsonWithSpec)) jsonWithCard

/-- THE TIED CARD OF 'klaxonlaw12.SubjectKeys'. -/
def subjectKeysCard : Claim7 := { stood := { row := subjectKeysRow, standIns := [], harness := (true, "c233165553d637b2fe025bf4050a157045b7ff52c5317dc6d06fb45f6486fe2c"), looks := true }, kinds := [], alts := [], laidByText := true, laidKinds := [.data, .pinned], laidTests := true, laidLooks := .later }
def SubjectKeysCardSaid : Prop := Claim7.holds Tryz.pinned (.plain (OpenSpec.ofChange subjectKeysSpec)) subjectKeysCard

/-- THE TIED CARD OF 'klaxonlaw12.SubjectTexts'. -/
def subjectTextsCard : Claim7 := { stood := { row := subjectTextsRow, standIns := [], harness := (true, "c233165553d637b2fe025bf4050a157045b7ff52c5317dc6d06fb45f6486fe2c"), looks := true }, kinds := [], alts := [], laidByText := true, laidKinds := [.data, .data, .data], laidTests := true, laidLooks := .later }
def SubjectTextsCardSaid : Prop := Claim7.holds Tryz.pinned (.plain (OpenSpec.ofChange subjectTextsSpec)) subjectTextsCard

/-- THE SECOND FORM's CARD OF 'klaxonlaw06.JsonMakes'. -/
def jsonMakesUptoCard : Claim7 := { stood := { row := jsonMakesUptoRow, standIns := [], harness := (true, "c233165553d637b2fe025bf4050a157045b7ff52c5317dc6d06fb45f6486fe2c"), looks := true }, kinds := [], alts := [], laidByText := true, laidKinds := [.data, .data, .data], laidTests := true, laidLooks := .later }
def JsonMakesUptoCardSaid : Prop := Claim7.holds Tryz.pinned (.plain (OpenSpec.upto jsonMakesSpec)) jsonMakesUptoCard

/-- THE SECOND FORM's CARD OF 'klaxonlaw06.JsonNumbers'. -/
def jsonNumbersUptoCard : Claim7 := { stood := { row := jsonNumbersUptoRow, standIns := [], harness := (true, "c233165553d637b2fe025bf4050a157045b7ff52c5317dc6d06fb45f6486fe2c"), looks := true }, kinds := [], alts := [], laidByText := true, laidKinds := [.data, .data, .data, .sentinel, .sentinel], laidTests := true, laidLooks := .later }
def JsonNumbersUptoCardSaid : Prop := Claim7.holds Tryz.pinned (.plain (OpenSpec.upto jsonNumbersSpec)) jsonNumbersUptoCard

/-- THE SECOND FORM's CARD OF 'klaxonlaw06.JsonMembers'. -/
def jsonMembersUptoCard : Claim7 := { stood := { row := jsonMembersUptoRow, standIns := [], harness := (true, "c233165553d637b2fe025bf4050a157045b7ff52c5317dc6d06fb45f6486fe2c"), looks := true }, kinds := [], alts := [], laidByText := true, laidKinds := [.data, .data, .data, .sentinel, .sentinel], laidTests := true, laidLooks := .later }
def JsonMembersUptoCardSaid : Prop := Claim7.holds Tryz.pinned (.plain (OpenSpec.upto jsonMembersSpec)) jsonMembersUptoCard

/-- THE SECOND FORM's CARD OF 'klaxonlaw06.JsonWith'. -/
def jsonWithUptoCard : Claim7 := { stood := { row := jsonWithUptoRow, standIns := [], harness := (true, "c233165553d637b2fe025bf4050a157045b7ff52c5317dc6d06fb45f6486fe2c"), looks := true }, kinds := [], alts := [], laidByText := true, laidKinds := [.data, .data, .data, .sentinel, .sentinel], laidTests := true, laidLooks := .later }
def JsonWithUptoCardSaid : Prop := Claim7.holds Tryz.pinned (.plain (OpenSpec.upto jsonWithSpec)) jsonWithUptoCard

/-- THE SECOND FORM's CARD OF 'klaxonlaw12.SubjectKeys'. -/
def subjectKeysUptoCard : Claim7 := { stood := { row := subjectKeysUptoRow, standIns := [], harness := (true, "c233165553d637b2fe025bf4050a157045b7ff52c5317dc6d06fb45f6486fe2c"), looks := true }, kinds := [], alts := [], laidByText := true, laidKinds := [.data, .pinned], laidTests := true, laidLooks := .later }
def SubjectKeysUptoCardSaid : Prop := Claim7.holds Tryz.pinned (.plain (OpenSpec.upto subjectKeysSpec)) subjectKeysUptoCard

/-- THE SECOND FORM's CARD OF 'klaxonlaw12.SubjectTexts'. -/
def subjectTextsUptoCard : Claim7 := { stood := { row := subjectTextsUptoRow, standIns := [], harness := (true, "c233165553d637b2fe025bf4050a157045b7ff52c5317dc6d06fb45f6486fe2c"), looks := true }, kinds := [], alts := [], laidByText := true, laidKinds := [.data, .data, .data], laidTests := true, laidLooks := .later }
def SubjectTextsUptoCardSaid : Prop := Claim7.holds Tryz.pinned (.plain (OpenSpec.upto subjectTextsSpec)) subjectTextsUptoCard
end Rows
end Go.Proofs.YtgcfikiajingcaaGreatDoor
