/-
  DERIVED. GIVEN WITH THE SEED: THE CARDS: each row of YtgmieceebchmfaaDoorRows.lean that lists a variable, with what it lists TIED to the program's text (the seventh form; the later family's looks); each row that meets fmt, with fmt's text TOLD by the authors' own Lean function (tested against real Go, not proved from fmt's source: count such statements apart). THE CARD IS WHAT COUNTS. Prove the row's statement (the work); the ties are given (YtgmieceebchmfaaDoorTie.lean); close each card by the builder's one call (the guide's Derived/Test/ToyasCard.lean, 'card_holds'). Laid BY PROGRAM, IN A SANDBOX (cutbox-door.mjs). By AI agents, Wed Nov 11 2026. No macro, syntax, notation, axiom, sorry.
-/
import Derived.Test.YtgmieceebchmfaaDoorRows
import GoSem.ClaimSeven
namespace Go.Proofs.YtgmieceebchmfaaDoor
namespace Rows

/-- THE TIED CARD OF 'klaxonlaw05.TextTold'. -/
def textToldCard : Claim7 := { stood := { row := textToldRow, standIns := [], harness := (true, "692fe132d99c2588f5a884623c647645e7274e403ad913e3ba6960dbbfccd33b"), looks := false }, kinds := [], alts := [], laidByText := true, laidKinds := [.data, .pinned], laidTests := true, laidLooks := .later }
def TextToldCardSaid : Prop := Claim7.holds Tryd.pinned (.plain (OpenSpec.ofChange textToldSpec)) textToldCard

/-- THE TIED CARD OF 'klaxonlaw05.TextRunes'. -/
def textRunesCard : Claim7 := { stood := { row := textRunesRow, standIns := [], harness := (true, "692fe132d99c2588f5a884623c647645e7274e403ad913e3ba6960dbbfccd33b"), looks := false }, kinds := [], alts := [], laidByText := true, laidKinds := [.data, .pinned], laidTests := true, laidLooks := .later }
def TextRunesCardSaid : Prop := Claim7.holds Tryd.pinned (.plain (OpenSpec.ofChange textRunesSpec)) textRunesCard

/-- THE TIED CARD OF 'klaxonlaw05.TextEscapes'. -/
def textEscapesCard : Claim7 := { stood := { row := textEscapesRow, standIns := [], harness := (true, "692fe132d99c2588f5a884623c647645e7274e403ad913e3ba6960dbbfccd33b"), looks := false }, kinds := [], alts := [], laidByText := true, laidKinds := [.data, .pinned], laidTests := true, laidLooks := .later }
def TextEscapesCardSaid : Prop := Claim7.holds Tryd.pinned (.plain (OpenSpec.ofChange textEscapesSpec)) textEscapesCard

/-- THE TIED CARD OF 'klaxonlaw05.TextUnescapes'. -/
def textUnescapesCard : Claim7 := { stood := { row := textUnescapesRow, standIns := [], harness := (true, "692fe132d99c2588f5a884623c647645e7274e403ad913e3ba6960dbbfccd33b"), looks := false }, kinds := [], alts := [], laidByText := true, laidKinds := [.data, .pinned], laidTests := true, laidLooks := .later }
def TextUnescapesCardSaid : Prop := Claim7.holds Tryd.pinned (.plain (OpenSpec.ofChange textUnescapesSpec)) textUnescapesCard

/-- THE TIED CARD OF 'klaxonlaw05.TextForms'. -/
def textFormsCard : Claim7 := { stood := { row := textFormsRow, standIns := [], harness := (true, "692fe132d99c2588f5a884623c647645e7274e403ad913e3ba6960dbbfccd33b"), looks := false }, kinds := [], alts := [], laidByText := true, laidKinds := [.data, .pinned], laidTests := true, laidLooks := .later }
def TextFormsCardSaid : Prop := Claim7.holds Tryd.pinned (.plain (OpenSpec.ofChange textFormsSpec)) textFormsCard

/-- THE TIED CARD OF 'klaxonlaw04.B64Commons'. -/
def b64CommonsCard : Claim7 := { stood := { row := b64CommonsRow, standIns := [], harness := (true, "692fe132d99c2588f5a884623c647645e7274e403ad913e3ba6960dbbfccd33b"), looks := false }, kinds := [], alts := [], laidByText := true, laidKinds := [.data, .pinned], laidTests := true, laidLooks := .later }
def B64CommonsCardSaid : Prop := Claim7.holds Tryd.pinned (.plain (OpenSpec.ofChange b64CommonsSpec)) b64CommonsCard

/-- THE TIED CARD OF 'klaxonlaw04.B64Standard'. -/
def b64StandardCard : Claim7 := { stood := { row := b64StandardRow, standIns := [], harness := (true, "692fe132d99c2588f5a884623c647645e7274e403ad913e3ba6960dbbfccd33b"), looks := false }, kinds := [], alts := [], laidByText := true, laidKinds := [.data, .pinned], laidTests := true, laidLooks := .later }
def B64StandardCardSaid : Prop := Claim7.holds Tryd.pinned (.plain (OpenSpec.ofChange b64StandardSpec)) b64StandardCard

/-- THE TIED CARD OF 'klaxonlaw05.TextShows'. -/
def textShowsCard : Claim7 := { stood := { row := textShowsRow, standIns := [], harness := (true, "692fe132d99c2588f5a884623c647645e7274e403ad913e3ba6960dbbfccd33b"), looks := false }, kinds := [], alts := [], laidByText := true, laidKinds := [.data, .pinned], laidTests := true, laidLooks := .later }
def TextShowsCardSaid : Prop := Claim7.holds Tryd.pinned (.plain (OpenSpec.ofChange textShowsSpec)) textShowsCard

/-- THE SECOND FORM's CARD OF 'klaxonlaw05.TextTold'. -/
def textToldUptoCard : Claim7 := { stood := { row := textToldUptoRow, standIns := [], harness := (true, "692fe132d99c2588f5a884623c647645e7274e403ad913e3ba6960dbbfccd33b"), looks := false }, kinds := [], alts := [], laidByText := true, laidKinds := [.data, .pinned], laidTests := true, laidLooks := .later }
def TextToldUptoCardSaid : Prop := Claim7.holds Tryd.pinned (.plain (OpenSpec.upto textToldSpec)) textToldUptoCard

/-- THE SECOND FORM's CARD OF 'klaxonlaw05.TextRunes'. -/
def textRunesUptoCard : Claim7 := { stood := { row := textRunesUptoRow, standIns := [], harness := (true, "692fe132d99c2588f5a884623c647645e7274e403ad913e3ba6960dbbfccd33b"), looks := false }, kinds := [], alts := [], laidByText := true, laidKinds := [.data, .pinned], laidTests := true, laidLooks := .later }
def TextRunesUptoCardSaid : Prop := Claim7.holds Tryd.pinned (.plain (OpenSpec.upto textRunesSpec)) textRunesUptoCard

/-- THE SECOND FORM's CARD OF 'klaxonlaw05.TextEscapes'. -/
def textEscapesUptoCard : Claim7 := { stood := { row := textEscapesUptoRow, standIns := [], harness := (true, "692fe132d99c2588f5a884623c647645e7274e403ad913e3ba6960dbbfccd33b"), looks := false }, kinds := [], alts := [], laidByText := true, laidKinds := [.data, .pinned], laidTests := true, laidLooks := .later }
def TextEscapesUptoCardSaid : Prop := Claim7.holds Tryd.pinned (.plain (OpenSpec.upto textEscapesSpec)) textEscapesUptoCard

/-- THE SECOND FORM's CARD OF 'klaxonlaw05.TextUnescapes'. -/
def textUnescapesUptoCard : Claim7 := { stood := { row := textUnescapesUptoRow, standIns := [], harness := (true, "692fe132d99c2588f5a884623c647645e7274e403ad913e3ba6960dbbfccd33b"), looks := false }, kinds := [], alts := [], laidByText := true, laidKinds := [.data, .pinned], laidTests := true, laidLooks := .later }
def TextUnescapesUptoCardSaid : Prop := Claim7.holds Tryd.pinned (.plain (OpenSpec.upto textUnescapesSpec)) textUnescapesUptoCard

/-- THE SECOND FORM's CARD OF 'klaxonlaw05.TextForms'. -/
def textFormsUptoCard : Claim7 := { stood := { row := textFormsUptoRow, standIns := [], harness := (true, "692fe132d99c2588f5a884623c647645e7274e403ad913e3ba6960dbbfccd33b"), looks := false }, kinds := [], alts := [], laidByText := true, laidKinds := [.data, .pinned], laidTests := true, laidLooks := .later }
def TextFormsUptoCardSaid : Prop := Claim7.holds Tryd.pinned (.plain (OpenSpec.upto textFormsSpec)) textFormsUptoCard

/-- THE SECOND FORM's CARD OF 'klaxonlaw04.B64Commons'. -/
def b64CommonsUptoCard : Claim7 := { stood := { row := b64CommonsUptoRow, standIns := [], harness := (true, "692fe132d99c2588f5a884623c647645e7274e403ad913e3ba6960dbbfccd33b"), looks := false }, kinds := [], alts := [], laidByText := true, laidKinds := [.data, .pinned], laidTests := true, laidLooks := .later }
def B64CommonsUptoCardSaid : Prop := Claim7.holds Tryd.pinned (.plain (OpenSpec.upto b64CommonsSpec)) b64CommonsUptoCard

/-- THE SECOND FORM's CARD OF 'klaxonlaw04.B64Standard'. -/
def b64StandardUptoCard : Claim7 := { stood := { row := b64StandardUptoRow, standIns := [], harness := (true, "692fe132d99c2588f5a884623c647645e7274e403ad913e3ba6960dbbfccd33b"), looks := false }, kinds := [], alts := [], laidByText := true, laidKinds := [.data, .pinned], laidTests := true, laidLooks := .later }
def B64StandardUptoCardSaid : Prop := Claim7.holds Tryd.pinned (.plain (OpenSpec.upto b64StandardSpec)) b64StandardUptoCard

/-- THE SECOND FORM's CARD OF 'klaxonlaw05.TextShows'. -/
def textShowsUptoCard : Claim7 := { stood := { row := textShowsUptoRow, standIns := [], harness := (true, "692fe132d99c2588f5a884623c647645e7274e403ad913e3ba6960dbbfccd33b"), looks := false }, kinds := [], alts := [], laidByText := true, laidKinds := [.data, .pinned], laidTests := true, laidLooks := .later }
def TextShowsUptoCardSaid : Prop := Claim7.holds Tryd.pinned (.plain (OpenSpec.upto textShowsSpec)) textShowsUptoCard
end Rows
end Go.Proofs.YtgmieceebchmfaaDoor
