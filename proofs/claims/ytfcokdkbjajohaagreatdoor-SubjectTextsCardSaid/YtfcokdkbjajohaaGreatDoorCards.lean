/-
  DERIVED. GIVEN WITH THE SEED: THE CARDS: each row of YtfcokdkbjajohaaGreatDoorRows.lean that lists a variable, with what it lists TIED to the program's text (the seventh form; the later family's looks); each row that meets fmt, with fmt's text TOLD by the authors' own Lean function (tested against real Go, not proved from fmt's source: count such statements apart). THE CARD IS WHAT COUNTS. Prove the row's statement (the work); the ties are given (YtfcokdkbjajohaaGreatDoorTie.lean); close each card by the builder's one call (the guide's Derived/Test/ToyasCard.lean, 'card_holds'). Laid BY PROGRAM, IN A SANDBOX (cutbox-door.mjs). By AI agents, Wed Nov 11 2026. No macro, syntax, notation, axiom, sorry.
-/
import Derived.Test.YtfcokdkbjajohaaGreatDoorRows
import GoSem.ClaimSeven
namespace Go.Proofs.YtfcokdkbjajohaaGreatDoor
namespace Rows

/-- THE TIED CARD OF 'klaxonlaw06.JsonMakes'. -/
def jsonMakesCard : Claim7 := { stood := { row := jsonMakesRow, standIns := [], harness := (true, "e594c0ae58380305f1594beea85e9f6d22af2e01c1c6f08e42f66eb6e08ebfa9"), looks := true }, kinds := [], alts := [], laidByText := true, laidKinds := [.data, .data, .data], laidTests := true, laidLooks := .later }
def JsonMakesCardSaid : Prop := Claim7.holds Tryz.pinned (.plain (OpenSpec.ofChange jsonMakesSpec)) jsonMakesCard

/-- THE TIED CARD OF 'klaxonlaw12.SubjectTexts'. -/
def subjectTextsCard : Claim7 := { stood := { row := subjectTextsRow, standIns := [], harness := (true, "e594c0ae58380305f1594beea85e9f6d22af2e01c1c6f08e42f66eb6e08ebfa9"), looks := true }, kinds := [], alts := [], laidByText := true, laidKinds := [.data, .data, .data], laidTests := true, laidLooks := .later }
def SubjectTextsCardSaid : Prop := Claim7.holds Tryz.pinned (.plain (OpenSpec.ofChange subjectTextsSpec)) subjectTextsCard

/-- THE TIED CARD OF 'klaxonlaw06.JsonMembers'. -/
def jsonMembersCard : Claim7 := { stood := { row := jsonMembersRow, standIns := [], harness := (true, "e594c0ae58380305f1594beea85e9f6d22af2e01c1c6f08e42f66eb6e08ebfa9"), looks := true }, kinds := [], alts := [], laidByText := true, laidKinds := [.data, .data, .data, .sentinel, .sentinel], laidTests := true, laidLooks := .later }
def JsonMembersCardSaid : Prop := Claim7.holds Tryz.pinned (.plain (OpenSpec.ofChange jsonMembersSpec)) jsonMembersCard

/-- THE TIED CARD OF 'klaxonlaw06.JsonWith'. -/
def jsonWithCard : Claim7 := { stood := { row := jsonWithRow, standIns := [], harness := (true, "e594c0ae58380305f1594beea85e9f6d22af2e01c1c6f08e42f66eb6e08ebfa9"), looks := true }, kinds := [], alts := [], laidByText := true, laidKinds := [.data, .data, .data, .sentinel, .sentinel], laidTests := true, laidLooks := .later }
def JsonWithCardSaid : Prop := Claim7.holds Tryz.pinned (.plain (OpenSpec.ofChange jsonWithSpec)) jsonWithCard

/-- THE TIED CARD OF 'klaxonlaw16.RecordAccounts'. -/
def recordAccountsCard : Claim7 := { stood := { row := recordAccountsRow, standIns := [], harness := (true, "e594c0ae58380305f1594beea85e9f6d22af2e01c1c6f08e42f66eb6e08ebfa9"), looks := true }, kinds := [], alts := [], laidByText := true, laidKinds := [.data, .data, .data, .data, .sentinel, .sentinel, .pinned], laidTests := true, laidLooks := .later }
def RecordAccountsCardSaid : Prop := Claim7.holds Tryz.pinned (.plain (OpenSpec.ofChange recordAccountsSpec)) recordAccountsCard

/-- THE TIED CARD OF 'klaxonlaw16.RecordClients'. -/
def recordClientsCard : Claim7 := { stood := { row := recordClientsRow, standIns := [], harness := (true, "e594c0ae58380305f1594beea85e9f6d22af2e01c1c6f08e42f66eb6e08ebfa9"), looks := true }, kinds := [], alts := [], laidByText := true, laidKinds := [.data, .data, .data, .data, .sentinel, .sentinel, .pinned], laidTests := true, laidLooks := .later }
def RecordClientsCardSaid : Prop := Claim7.holds Tryz.pinned (.plain (OpenSpec.ofChange recordClientsSpec)) recordClientsCard

/-- THE TIED CARD OF 'klaxonlaw16.RecordTickets'. -/
def recordTicketsCard : Claim7 := { stood := { row := recordTicketsRow, standIns := [], harness := (true, "e594c0ae58380305f1594beea85e9f6d22af2e01c1c6f08e42f66eb6e08ebfa9"), looks := true }, kinds := [], alts := [], laidByText := true, laidKinds := [.data, .data, .data, .data, .sentinel, .sentinel, .pinned], laidTests := true, laidLooks := .later }
def RecordTicketsCardSaid : Prop := Claim7.holds Tryz.pinned (.plain (OpenSpec.ofChange recordTicketsSpec)) recordTicketsCard

/-- THE SECOND FORM's CARD OF 'klaxonlaw06.JsonMakes'. -/
def jsonMakesUptoCard : Claim7 := { stood := { row := jsonMakesUptoRow, standIns := [], harness := (true, "e594c0ae58380305f1594beea85e9f6d22af2e01c1c6f08e42f66eb6e08ebfa9"), looks := true }, kinds := [], alts := [], laidByText := true, laidKinds := [.data, .data, .data], laidTests := true, laidLooks := .later }
def JsonMakesUptoCardSaid : Prop := Claim7.holds Tryz.pinned (.plain (OpenSpec.upto jsonMakesSpec)) jsonMakesUptoCard

/-- THE SECOND FORM's CARD OF 'klaxonlaw12.SubjectTexts'. -/
def subjectTextsUptoCard : Claim7 := { stood := { row := subjectTextsUptoRow, standIns := [], harness := (true, "e594c0ae58380305f1594beea85e9f6d22af2e01c1c6f08e42f66eb6e08ebfa9"), looks := true }, kinds := [], alts := [], laidByText := true, laidKinds := [.data, .data, .data], laidTests := true, laidLooks := .later }
def SubjectTextsUptoCardSaid : Prop := Claim7.holds Tryz.pinned (.plain (OpenSpec.upto subjectTextsSpec)) subjectTextsUptoCard

/-- THE SECOND FORM's CARD OF 'klaxonlaw06.JsonMembers'. -/
def jsonMembersUptoCard : Claim7 := { stood := { row := jsonMembersUptoRow, standIns := [], harness := (true, "e594c0ae58380305f1594beea85e9f6d22af2e01c1c6f08e42f66eb6e08ebfa9"), looks := true }, kinds := [], alts := [], laidByText := true, laidKinds := [.data, .data, .data, .sentinel, .sentinel], laidTests := true, laidLooks := .later }
def JsonMembersUptoCardSaid : Prop := Claim7.holds Tryz.pinned (.plain (OpenSpec.upto jsonMembersSpec)) jsonMembersUptoCard

/-- THE SECOND FORM's CARD OF 'klaxonlaw06.JsonWith'. -/
def jsonWithUptoCard : Claim7 := { stood := { row := jsonWithUptoRow, standIns := [], harness := (true, "e594c0ae58380305f1594beea85e9f6d22af2e01c1c6f08e42f66eb6e08ebfa9"), looks := true }, kinds := [], alts := [], laidByText := true, laidKinds := [.data, .data, .data, .sentinel, .sentinel], laidTests := true, laidLooks := .later }
def JsonWithUptoCardSaid : Prop := Claim7.holds Tryz.pinned (.plain (OpenSpec.upto jsonWithSpec)) jsonWithUptoCard

/-- THE SECOND FORM's CARD OF 'klaxonlaw16.RecordAccounts'. -/
def recordAccountsUptoCard : Claim7 := { stood := { row := recordAccountsUptoRow, standIns := [], harness := (true, "e594c0ae58380305f1594beea85e9f6d22af2e01c1c6f08e42f66eb6e08ebfa9"), looks := true }, kinds := [], alts := [], laidByText := true, laidKinds := [.data, .data, .data, .data, .sentinel, .sentinel, .pinned], laidTests := true, laidLooks := .later }
def RecordAccountsUptoCardSaid : Prop := Claim7.holds Tryz.pinned (.plain (OpenSpec.upto recordAccountsSpec)) recordAccountsUptoCard

/-- THE SECOND FORM's CARD OF 'klaxonlaw16.RecordClients'. -/
def recordClientsUptoCard : Claim7 := { stood := { row := recordClientsUptoRow, standIns := [], harness := (true, "e594c0ae58380305f1594beea85e9f6d22af2e01c1c6f08e42f66eb6e08ebfa9"), looks := true }, kinds := [], alts := [], laidByText := true, laidKinds := [.data, .data, .data, .data, .sentinel, .sentinel, .pinned], laidTests := true, laidLooks := .later }
def RecordClientsUptoCardSaid : Prop := Claim7.holds Tryz.pinned (.plain (OpenSpec.upto recordClientsSpec)) recordClientsUptoCard

/-- THE SECOND FORM's CARD OF 'klaxonlaw16.RecordTickets'. -/
def recordTicketsUptoCard : Claim7 := { stood := { row := recordTicketsUptoRow, standIns := [], harness := (true, "e594c0ae58380305f1594beea85e9f6d22af2e01c1c6f08e42f66eb6e08ebfa9"), looks := true }, kinds := [], alts := [], laidByText := true, laidKinds := [.data, .data, .data, .data, .sentinel, .sentinel, .pinned], laidTests := true, laidLooks := .later }
def RecordTicketsUptoCardSaid : Prop := Claim7.holds Tryz.pinned (.plain (OpenSpec.upto recordTicketsSpec)) recordTicketsUptoCard
end Rows
end Go.Proofs.YtfcokdkbjajohaaGreatDoor
