/-
  DERIVED. GIVEN WITH THE SEED: THE CARDS: each row of YtfdijcdpmgkdkaaGreatDoorRows.lean that lists a variable, with what it lists TIED to the program's text (the seventh form; the later family's looks); each row that meets fmt, with fmt's text TOLD by the authors' own Lean function (tested against real Go, not proved from fmt's source: count such statements apart). THE CARD IS WHAT COUNTS. Prove the row's statement (the work); the ties are given (YtfdijcdpmgkdkaaGreatDoorTie.lean); close each card by the builder's one call (the guide's Derived/Test/ToyasCard.lean, 'card_holds'). Laid BY PROGRAM, IN A SANDBOX (cutbox-door.mjs). By AI agents, Wed Nov 11 2026. No macro, syntax, notation, axiom, sorry.
-/
import Derived.Test.YtfdijcdpmgkdkaaGreatDoorRows
import GoSem.ClaimSeven
namespace Go.Proofs.YtfdijcdpmgkdkaaGreatDoor
namespace Rows

/-- THE TIED CARD OF 'klaxonlaw06.JsonMakes'. -/
def jsonMakesCard : Claim7 := { stood := { row := jsonMakesRow, standIns := [], harness := (true, "08d32fd66a06b1a779463627b5b42df10eb7aa596f50db7ad46a133daf1091e9"), looks := true }, kinds := [], alts := [], laidByText := true, laidKinds := [.data, .data, .data], laidTests := true, laidLooks := .later }
def JsonMakesCardSaid : Prop := Claim7.holds Tryz.pinned (.plain (OpenSpec.ofChange jsonMakesSpec)) jsonMakesCard

/-- THE TIED CARD OF 'klaxonlaw12.SubjectKeys'. -/
def subjectKeysCard : Claim7 := { stood := { row := subjectKeysRow, standIns := [], harness := (true, "08d32fd66a06b1a779463627b5b42df10eb7aa596f50db7ad46a133daf1091e9"), looks := true }, kinds := [], alts := [], laidByText := true, laidKinds := [.data, .pinned], laidTests := true, laidLooks := .later }
def SubjectKeysCardSaid : Prop := Claim7.holds Tryz.pinned (.plain (OpenSpec.ofChange subjectKeysSpec)) subjectKeysCard

/-- THE TIED CARD OF 'klaxonlaw12.SubjectTexts'. -/
def subjectTextsCard : Claim7 := { stood := { row := subjectTextsRow, standIns := [], harness := (true, "08d32fd66a06b1a779463627b5b42df10eb7aa596f50db7ad46a133daf1091e9"), looks := true }, kinds := [], alts := [], laidByText := true, laidKinds := [.data, .data, .data], laidTests := true, laidLooks := .later }
def SubjectTextsCardSaid : Prop := Claim7.holds Tryz.pinned (.plain (OpenSpec.ofChange subjectTextsSpec)) subjectTextsCard

/-- THE TIED CARD OF 'klaxonlaw06.JsonMembers'. -/
def jsonMembersCard : Claim7 := { stood := { row := jsonMembersRow, standIns := [], harness := (true, "08d32fd66a06b1a779463627b5b42df10eb7aa596f50db7ad46a133daf1091e9"), looks := true }, kinds := [], alts := [], laidByText := true, laidKinds := [.data, .data, .data, .sentinel, .sentinel], laidTests := true, laidLooks := .later }
def JsonMembersCardSaid : Prop := Claim7.holds Tryz.pinned (.plain (OpenSpec.ofChange jsonMembersSpec)) jsonMembersCard

/-- THE TIED CARD OF 'klaxonlaw11.JwsSigns'. -/
def jwsSignsCard : Claim7 := { stood := { row := jwsSignsRow, standIns := [], harness := (true, "08d32fd66a06b1a779463627b5b42df10eb7aa596f50db7ad46a133daf1091e9"), looks := true }, kinds := [], alts := [], laidByText := true, laidKinds := [.data, .pinned], laidTests := true, laidLooks := .later }
def JwsSignsCardSaid : Prop := Claim7.holds Tryz.pinned (.plain (OpenSpec.ofChange jwsSignsSpec)) jwsSignsCard

/-- THE TIED CARD OF 'klaxonlaw11.JwsParses'. -/
def jwsParsesCard : Claim7 := { stood := { row := jwsParsesRow, standIns := [], harness := (true, "08d32fd66a06b1a779463627b5b42df10eb7aa596f50db7ad46a133daf1091e9"), looks := true }, kinds := [], alts := [], laidByText := true, laidKinds := [.data, .pinned], laidTests := true, laidLooks := .later }
def JwsParsesCardSaid : Prop := Claim7.holds Tryz.pinned (.plain (OpenSpec.ofChange jwsParsesSpec)) jwsParsesCard

/-- THE TIED CARD OF 'klaxonlaw11.JwsVerifies'. -/
def jwsVerifiesCard : Claim7 := { stood := { row := jwsVerifiesRow, standIns := [], harness := (true, "08d32fd66a06b1a779463627b5b42df10eb7aa596f50db7ad46a133daf1091e9"), looks := true }, kinds := [], alts := [], laidByText := true, laidKinds := [.data, .pinned], laidTests := true, laidLooks := .later }
def JwsVerifiesCardSaid : Prop := Claim7.holds Tryz.pinned (.plain (OpenSpec.ofChange jwsVerifiesSpec)) jwsVerifiesCard

/-- THE TIED CARD OF 'klaxonlaw11.JwsTurned'. -/
def jwsTurnedCard : Claim7 := { stood := { row := jwsTurnedRow, standIns := [], harness := (true, "08d32fd66a06b1a779463627b5b42df10eb7aa596f50db7ad46a133daf1091e9"), looks := true }, kinds := [], alts := [], laidByText := true, laidKinds := [.data, .pinned], laidTests := true, laidLooks := .later }
def JwsTurnedCardSaid : Prop := Claim7.holds Tryz.pinned (.plain (OpenSpec.ofChange jwsTurnedSpec)) jwsTurnedCard

/-- THE TIED CARD OF 'klaxonlaw06.JsonWith'. -/
def jsonWithCard : Claim7 := { stood := { row := jsonWithRow, standIns := [], harness := (true, "08d32fd66a06b1a779463627b5b42df10eb7aa596f50db7ad46a133daf1091e9"), looks := true }, kinds := [], alts := [], laidByText := true, laidKinds := [.data, .data, .data, .sentinel, .sentinel], laidTests := true, laidLooks := .later }
def JsonWithCardSaid : Prop := Claim7.holds Tryz.pinned (.plain (OpenSpec.ofChange jsonWithSpec)) jsonWithCard

/-- THE SECOND FORM's CARD OF 'klaxonlaw06.JsonMakes'. -/
def jsonMakesUptoCard : Claim7 := { stood := { row := jsonMakesUptoRow, standIns := [], harness := (true, "08d32fd66a06b1a779463627b5b42df10eb7aa596f50db7ad46a133daf1091e9"), looks := true }, kinds := [], alts := [], laidByText := true, laidKinds := [.data, .data, .data], laidTests := true, laidLooks := .later }
def JsonMakesUptoCardSaid : Prop := Claim7.holds Tryz.pinned (.plain (OpenSpec.upto jsonMakesSpec)) jsonMakesUptoCard

/-- THE SECOND FORM's CARD OF 'klaxonlaw12.SubjectKeys'. -/
def subjectKeysUptoCard : Claim7 := { stood := { row := subjectKeysUptoRow, standIns := [], harness := (true, "08d32fd66a06b1a779463627b5b42df10eb7aa596f50db7ad46a133daf1091e9"), looks := true }, kinds := [], alts := [], laidByText := true, laidKinds := [.data, .pinned], laidTests := true, laidLooks := .later }
def SubjectKeysUptoCardSaid : Prop := Claim7.holds Tryz.pinned (.plain (OpenSpec.upto subjectKeysSpec)) subjectKeysUptoCard

/-- THE SECOND FORM's CARD OF 'klaxonlaw12.SubjectTexts'. -/
def subjectTextsUptoCard : Claim7 := { stood := { row := subjectTextsUptoRow, standIns := [], harness := (true, "08d32fd66a06b1a779463627b5b42df10eb7aa596f50db7ad46a133daf1091e9"), looks := true }, kinds := [], alts := [], laidByText := true, laidKinds := [.data, .data, .data], laidTests := true, laidLooks := .later }
def SubjectTextsUptoCardSaid : Prop := Claim7.holds Tryz.pinned (.plain (OpenSpec.upto subjectTextsSpec)) subjectTextsUptoCard

/-- THE SECOND FORM's CARD OF 'klaxonlaw06.JsonMembers'. -/
def jsonMembersUptoCard : Claim7 := { stood := { row := jsonMembersUptoRow, standIns := [], harness := (true, "08d32fd66a06b1a779463627b5b42df10eb7aa596f50db7ad46a133daf1091e9"), looks := true }, kinds := [], alts := [], laidByText := true, laidKinds := [.data, .data, .data, .sentinel, .sentinel], laidTests := true, laidLooks := .later }
def JsonMembersUptoCardSaid : Prop := Claim7.holds Tryz.pinned (.plain (OpenSpec.upto jsonMembersSpec)) jsonMembersUptoCard

/-- THE SECOND FORM's CARD OF 'klaxonlaw11.JwsSigns'. -/
def jwsSignsUptoCard : Claim7 := { stood := { row := jwsSignsUptoRow, standIns := [], harness := (true, "08d32fd66a06b1a779463627b5b42df10eb7aa596f50db7ad46a133daf1091e9"), looks := true }, kinds := [], alts := [], laidByText := true, laidKinds := [.data, .pinned], laidTests := true, laidLooks := .later }
def JwsSignsUptoCardSaid : Prop := Claim7.holds Tryz.pinned (.plain (OpenSpec.upto jwsSignsSpec)) jwsSignsUptoCard

/-- THE SECOND FORM's CARD OF 'klaxonlaw11.JwsParses'. -/
def jwsParsesUptoCard : Claim7 := { stood := { row := jwsParsesUptoRow, standIns := [], harness := (true, "08d32fd66a06b1a779463627b5b42df10eb7aa596f50db7ad46a133daf1091e9"), looks := true }, kinds := [], alts := [], laidByText := true, laidKinds := [.data, .pinned], laidTests := true, laidLooks := .later }
def JwsParsesUptoCardSaid : Prop := Claim7.holds Tryz.pinned (.plain (OpenSpec.upto jwsParsesSpec)) jwsParsesUptoCard

/-- THE SECOND FORM's CARD OF 'klaxonlaw11.JwsVerifies'. -/
def jwsVerifiesUptoCard : Claim7 := { stood := { row := jwsVerifiesUptoRow, standIns := [], harness := (true, "08d32fd66a06b1a779463627b5b42df10eb7aa596f50db7ad46a133daf1091e9"), looks := true }, kinds := [], alts := [], laidByText := true, laidKinds := [.data, .pinned], laidTests := true, laidLooks := .later }
def JwsVerifiesUptoCardSaid : Prop := Claim7.holds Tryz.pinned (.plain (OpenSpec.upto jwsVerifiesSpec)) jwsVerifiesUptoCard

/-- THE SECOND FORM's CARD OF 'klaxonlaw11.JwsTurned'. -/
def jwsTurnedUptoCard : Claim7 := { stood := { row := jwsTurnedUptoRow, standIns := [], harness := (true, "08d32fd66a06b1a779463627b5b42df10eb7aa596f50db7ad46a133daf1091e9"), looks := true }, kinds := [], alts := [], laidByText := true, laidKinds := [.data, .pinned], laidTests := true, laidLooks := .later }
def JwsTurnedUptoCardSaid : Prop := Claim7.holds Tryz.pinned (.plain (OpenSpec.upto jwsTurnedSpec)) jwsTurnedUptoCard

/-- THE SECOND FORM's CARD OF 'klaxonlaw06.JsonWith'. -/
def jsonWithUptoCard : Claim7 := { stood := { row := jsonWithUptoRow, standIns := [], harness := (true, "08d32fd66a06b1a779463627b5b42df10eb7aa596f50db7ad46a133daf1091e9"), looks := true }, kinds := [], alts := [], laidByText := true, laidKinds := [.data, .data, .data, .sentinel, .sentinel], laidTests := true, laidLooks := .later }
def JsonWithUptoCardSaid : Prop := Claim7.holds Tryz.pinned (.plain (OpenSpec.upto jsonWithSpec)) jsonWithUptoCard
end Rows
end Go.Proofs.YtfdijcdpmgkdkaaGreatDoor
