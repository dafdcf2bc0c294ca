/-
  NARROWER THAN 'FOR EVERY INPUT', by the rows' own cells (each row's printed sentence says how): TextTold: laid · TextRunes: laid · TextEscapes: laid · TextUnescapes: laid · TextForms: laid · B64Commons: laid · B64Standard: laid · TextShows: laid.
  DERIVED. THE GIVEN ROWS OF THIS SEAT. 8 by the template 'for every input the law returns true; each argument reads behind the call as it read before'; 0 by the template 'total and deterministic' (their statements: YtgmieceebchmfaaDoorTotals.lean).
  GIVEN WITH THE SEED: the statements are not yours to turn. If you find one false, say at which input.
  Laid BY PROGRAM, IN A SANDBOX (cutbox-rows.mjs): the forced cells as the released guide's own fill.sh prints them over the translation 73ed9ed011a43bdf… (all of the seat's roots in one cut). By AI agents, Wed Nov 11 2026. No macro, syntax, notation, axiom, sorry.
-/
import Derived.Test.YtgmieceebchmfaaDoorChecked
import GoSem.PinnedTables
import GoSem.Claim
import GoSem.ClaimJoined
import GoSem.ClaimMapViews
import Derived.JoinedTies
import Derived.KernelRfl
namespace Go.Proofs.YtgmieceebchmfaaDoor
/- THE CELL 'sum', in the pinned program and in every row, IS THE sha256 OF THE DUMP (.gsa) THAT YtgmieceebchmfaaDoorProg.lean LOADS. Nothing in Lean hashes anything: it is a label: what it is worth is what the hold of that sum in a sandbox is worth. -/
noncomputable def Tryd.pinned : Pinned := { name := "ytgmieceebchmfaadoor", sum := "73ed9ed011a43bdfbd2cc8cfadbdf2a38ce0e137aa0ad6898cbe86fe13925037", checked := Tryd.checked }
namespace Rows
def none {H : Type} : Left H := { results := [], args := [] }

/- WHAT THE LISTED PACKAGE-LEVEL VARIABLES READ AS WHEN THE CALL BEGINS. Each datum BY PROGRAM (the guide's laid-datum.mjs) off the statement by which the dump's own 'gosem.cut.vars' lays the variable. In a bare row this is a premise. The card (YtgmieceebchmfaaDoorCards.lean) ties it to the program's text. -/
def laid_unicode_utf8_acceptRanges {H : Type} : DataW H := .agg [.agg [.lit (.int .u8 128), .lit (.int .u8 191)], .agg [.lit (.int .u8 160), .lit (.int .u8 191)], .agg [.lit (.int .u8 128), .lit (.int .u8 159)], .agg [.lit (.int .u8 144), .lit (.int .u8 191)], .agg [.lit (.int .u8 128), .lit (.int .u8 143)], .agg [.lit (.int .u8 0), .lit (.int .u8 0)], .agg [.lit (.int .u8 0), .lit (.int .u8 0)], .agg [.lit (.int .u8 0), .lit (.int .u8 0)], .agg [.lit (.int .u8 0), .lit (.int .u8 0)], .agg [.lit (.int .u8 0), .lit (.int .u8 0)], .agg [.lit (.int .u8 0), .lit (.int .u8 0)], .agg [.lit (.int .u8 0), .lit (.int .u8 0)], .agg [.lit (.int .u8 0), .lit (.int .u8 0)], .agg [.lit (.int .u8 0), .lit (.int .u8 0)], .agg [.lit (.int .u8 0), .lit (.int .u8 0)], .agg [.lit (.int .u8 0), .lit (.int .u8 0)]]
/-- One of Go's own tables, pinned by name: the form's constant. -/
def laid_unicode_utf8_first : DataW Unit := Go.Pinned.utf8First

/-- 'klaxonlaw05.TextTold': WHATEVER THE INPUT: true; the input reads as it did. -/
def textToldSpec : ChangeSpec := { name := "textTold", fn := fun _ => fun
  | [d] => { results := [.lit (.bool true)], args := [d] }
  | _ => none }
def textToldRow : OpenClaim := { program := "ytgmieceebchmfaadoor", sum := "73ed9ed011a43bdfbd2cc8cfadbdf2a38ce0e137aa0ad6898cbe86fe13925037", func := "klaxon/klaxonlaw05.TextTold", spec := "textTold", inPlace := ["internal/bytealg.CountString", "internal/bytealg.IndexByteString", "internal/bytealg.IndexString", "internal/abi.NoEscape"], named := ["unicode/utf8.first", "unicode/utf8.acceptRanges", "internal/bytealg.MaxLen"], apart := false, laid := [("unicode/utf8.acceptRanges", laid_unicode_utf8_acceptRanges), ("unicode/utf8.first", laid_unicode_utf8_first)] }
def TextToldSaid : Prop := textToldRow.holds Tryd.pinned (OpenSpec.ofChange textToldSpec)

/-- ITS FALSE NEIGHBOUR: 'it returns false'. Refute it at one input. -/
def textToldWrong : ChangeSpec := { name := "textTold", fn := fun _ => fun
  | [d] => { results := [.lit (.bool false)], args := [d] }
  | _ => none }
def TextToldWrongFalsely : Prop := textToldRow.holds Tryd.pinned (OpenSpec.ofChange textToldWrong)

/-- 'klaxonlaw05.TextRunes': WHATEVER THE INPUT: true; the input reads as it did. -/
def textRunesSpec : ChangeSpec := { name := "textRunes", fn := fun _ => fun
  | [d] => { results := [.lit (.bool true)], args := [d] }
  | _ => none }
def textRunesRow : OpenClaim := { program := "ytgmieceebchmfaadoor", sum := "73ed9ed011a43bdfbd2cc8cfadbdf2a38ce0e137aa0ad6898cbe86fe13925037", func := "klaxon/klaxonlaw05.TextRunes", spec := "textRunes", inPlace := ["internal/bytealg.CountString", "internal/bytealg.IndexByteString", "internal/bytealg.IndexString", "internal/abi.NoEscape"], named := ["unicode/utf8.first", "unicode/utf8.acceptRanges", "internal/bytealg.MaxLen"], apart := false, laid := [("unicode/utf8.acceptRanges", laid_unicode_utf8_acceptRanges), ("unicode/utf8.first", laid_unicode_utf8_first)] }
def TextRunesSaid : Prop := textRunesRow.holds Tryd.pinned (OpenSpec.ofChange textRunesSpec)

/-- ITS FALSE NEIGHBOUR: 'it returns false'. Refute it at one input. -/
def textRunesWrong : ChangeSpec := { name := "textRunes", fn := fun _ => fun
  | [d] => { results := [.lit (.bool false)], args := [d] }
  | _ => none }
def TextRunesWrongFalsely : Prop := textRunesRow.holds Tryd.pinned (OpenSpec.ofChange textRunesWrong)

/-- 'klaxonlaw05.TextEscapes': WHATEVER THE INPUT: true; the input reads as it did. -/
def textEscapesSpec : ChangeSpec := { name := "textEscapes", fn := fun _ => fun
  | [d] => { results := [.lit (.bool true)], args := [d] }
  | _ => none }
def textEscapesRow : OpenClaim := { program := "ytgmieceebchmfaadoor", sum := "73ed9ed011a43bdfbd2cc8cfadbdf2a38ce0e137aa0ad6898cbe86fe13925037", func := "klaxon/klaxonlaw05.TextEscapes", spec := "textEscapes", inPlace := ["internal/bytealg.CountString", "internal/bytealg.IndexByteString", "internal/bytealg.IndexString", "internal/abi.NoEscape"], named := ["unicode/utf8.first", "unicode/utf8.acceptRanges", "internal/bytealg.MaxLen"], apart := false, laid := [("unicode/utf8.acceptRanges", laid_unicode_utf8_acceptRanges), ("unicode/utf8.first", laid_unicode_utf8_first)] }
def TextEscapesSaid : Prop := textEscapesRow.holds Tryd.pinned (OpenSpec.ofChange textEscapesSpec)

/-- ITS FALSE NEIGHBOUR: 'it returns false'. Refute it at one input. -/
def textEscapesWrong : ChangeSpec := { name := "textEscapes", fn := fun _ => fun
  | [d] => { results := [.lit (.bool false)], args := [d] }
  | _ => none }
def TextEscapesWrongFalsely : Prop := textEscapesRow.holds Tryd.pinned (OpenSpec.ofChange textEscapesWrong)

/-- 'klaxonlaw05.TextUnescapes': WHATEVER THE INPUT: true; the input reads as it did. -/
def textUnescapesSpec : ChangeSpec := { name := "textUnescapes", fn := fun _ => fun
  | [d] => { results := [.lit (.bool true)], args := [d] }
  | _ => none }
def textUnescapesRow : OpenClaim := { program := "ytgmieceebchmfaadoor", sum := "73ed9ed011a43bdfbd2cc8cfadbdf2a38ce0e137aa0ad6898cbe86fe13925037", func := "klaxon/klaxonlaw05.TextUnescapes", spec := "textUnescapes", inPlace := ["internal/bytealg.CountString", "internal/bytealg.IndexByteString", "internal/bytealg.IndexString", "internal/abi.NoEscape"], named := ["unicode/utf8.first", "unicode/utf8.acceptRanges", "internal/bytealg.MaxLen"], apart := false, laid := [("unicode/utf8.acceptRanges", laid_unicode_utf8_acceptRanges), ("unicode/utf8.first", laid_unicode_utf8_first)] }
def TextUnescapesSaid : Prop := textUnescapesRow.holds Tryd.pinned (OpenSpec.ofChange textUnescapesSpec)

/-- ITS FALSE NEIGHBOUR: 'it returns false'. Refute it at one input. -/
def textUnescapesWrong : ChangeSpec := { name := "textUnescapes", fn := fun _ => fun
  | [d] => { results := [.lit (.bool false)], args := [d] }
  | _ => none }
def TextUnescapesWrongFalsely : Prop := textUnescapesRow.holds Tryd.pinned (OpenSpec.ofChange textUnescapesWrong)

/-- 'klaxonlaw05.TextForms': WHATEVER THE INPUT: true; the input reads as it did. -/
def textFormsSpec : ChangeSpec := { name := "textForms", fn := fun _ => fun
  | [d] => { results := [.lit (.bool true)], args := [d] }
  | _ => none }
def textFormsRow : OpenClaim := { program := "ytgmieceebchmfaadoor", sum := "73ed9ed011a43bdfbd2cc8cfadbdf2a38ce0e137aa0ad6898cbe86fe13925037", func := "klaxon/klaxonlaw05.TextForms", spec := "textForms", inPlace := ["internal/bytealg.CountString", "internal/bytealg.IndexByteString", "internal/bytealg.IndexString", "internal/abi.NoEscape"], named := ["unicode/utf8.first", "unicode/utf8.acceptRanges", "internal/bytealg.MaxLen"], apart := false, laid := [("unicode/utf8.acceptRanges", laid_unicode_utf8_acceptRanges), ("unicode/utf8.first", laid_unicode_utf8_first)] }
def TextFormsSaid : Prop := textFormsRow.holds Tryd.pinned (OpenSpec.ofChange textFormsSpec)

/-- ITS FALSE NEIGHBOUR: 'it returns false'. Refute it at one input. -/
def textFormsWrong : ChangeSpec := { name := "textForms", fn := fun _ => fun
  | [d] => { results := [.lit (.bool false)], args := [d] }
  | _ => none }
def TextFormsWrongFalsely : Prop := textFormsRow.holds Tryd.pinned (OpenSpec.ofChange textFormsWrong)

/-- 'klaxonlaw04.B64Commons': WHATEVER THE INPUT: true; the input reads as it did. -/
def b64CommonsSpec : ChangeSpec := { name := "b64Commons", fn := fun _ => fun
  | [d] => { results := [.lit (.bool true)], args := [d] }
  | _ => none }
def b64CommonsRow : OpenClaim := { program := "ytgmieceebchmfaadoor", sum := "73ed9ed011a43bdfbd2cc8cfadbdf2a38ce0e137aa0ad6898cbe86fe13925037", func := "klaxon/klaxonlaw04.B64Commons", spec := "b64Commons", inPlace := ["internal/abi.NoEscape", "internal/bytealg.IndexByteString", "internal/bytealg.IndexString", "internal/bytealg.MakeNoZero"], unfollowed := true, recurses := true, named := ["unicode/utf8.first", "unicode/utf8.acceptRanges", "internal/bytealg.MaxLen"], apart := false, laid := [("unicode/utf8.acceptRanges", laid_unicode_utf8_acceptRanges), ("unicode/utf8.first", laid_unicode_utf8_first)] }
def B64CommonsSaid : Prop := b64CommonsRow.holds Tryd.pinned (OpenSpec.ofChange b64CommonsSpec)

/-- ITS FALSE NEIGHBOUR: 'it returns false'. Refute it at one input. -/
def b64CommonsWrong : ChangeSpec := { name := "b64Commons", fn := fun _ => fun
  | [d] => { results := [.lit (.bool false)], args := [d] }
  | _ => none }
def B64CommonsWrongFalsely : Prop := b64CommonsRow.holds Tryd.pinned (OpenSpec.ofChange b64CommonsWrong)

/-- 'klaxonlaw04.B64Standard': WHATEVER THE INPUT: true; the input reads as it did. -/
def b64StandardSpec : ChangeSpec := { name := "b64Standard", fn := fun _ => fun
  | [d] => { results := [.lit (.bool true)], args := [d] }
  | _ => none }
def b64StandardRow : OpenClaim := { program := "ytgmieceebchmfaadoor", sum := "73ed9ed011a43bdfbd2cc8cfadbdf2a38ce0e137aa0ad6898cbe86fe13925037", func := "klaxon/klaxonlaw04.B64Standard", spec := "b64Standard", inPlace := ["internal/abi.NoEscape", "internal/bytealg.IndexByteString", "internal/bytealg.MakeNoZero", "internal/bytealg.IndexString"], unfollowed := true, recurses := true, named := ["unicode/utf8.first", "unicode/utf8.acceptRanges", "internal/bytealg.MaxLen"], apart := false, laid := [("unicode/utf8.acceptRanges", laid_unicode_utf8_acceptRanges), ("unicode/utf8.first", laid_unicode_utf8_first)] }
def B64StandardSaid : Prop := b64StandardRow.holds Tryd.pinned (OpenSpec.ofChange b64StandardSpec)

/-- ITS FALSE NEIGHBOUR: 'it returns false'. Refute it at one input. -/
def b64StandardWrong : ChangeSpec := { name := "b64Standard", fn := fun _ => fun
  | [d] => { results := [.lit (.bool false)], args := [d] }
  | _ => none }
def B64StandardWrongFalsely : Prop := b64StandardRow.holds Tryd.pinned (OpenSpec.ofChange b64StandardWrong)

/-- 'klaxonlaw05.TextShows': WHATEVER THE INPUT: true; the input reads as it did. -/
def textShowsSpec : ChangeSpec := { name := "textShows", fn := fun _ => fun
  | [d] => { results := [.lit (.bool true)], args := [d] }
  | _ => none }
def textShowsRow : OpenClaim := { program := "ytgmieceebchmfaadoor", sum := "73ed9ed011a43bdfbd2cc8cfadbdf2a38ce0e137aa0ad6898cbe86fe13925037", func := "klaxon/klaxonlaw05.TextShows", spec := "textShows", inPlace := ["internal/bytealg.CountString", "internal/bytealg.IndexByteString", "internal/bytealg.IndexString", "internal/abi.NoEscape", "internal/bytealg.MakeNoZero"], named := ["unicode/utf8.first", "unicode/utf8.acceptRanges", "internal/bytealg.MaxLen"], apart := false, laid := [("unicode/utf8.acceptRanges", laid_unicode_utf8_acceptRanges), ("unicode/utf8.first", laid_unicode_utf8_first)] }
def TextShowsSaid : Prop := textShowsRow.holds Tryd.pinned (OpenSpec.ofChange textShowsSpec)

/-- ITS FALSE NEIGHBOUR: 'it returns false'. Refute it at one input. -/
def textShowsWrong : ChangeSpec := { name := "textShows", fn := fun _ => fun
  | [d] => { results := [.lit (.bool false)], args := [d] }
  | _ => none }
def TextShowsWrongFalsely : Prop := textShowsRow.holds Tryd.pinned (OpenSpec.ofChange textShowsWrong)

/- THE SECOND FORM. 'bulk': how many values and letters a reading holds, each counted each time it is reached (what is shared counts as often as it is met; a slice's spare places count too). A statement '..UptoSaid' is the law's where the arguments, and the package variables that the reading takes, are together of bulk at most 1048576: NARROWER than '..Said'. Prove '..Said' where nothing that the law and all that it calls make is longer than what came in: it says more and counts as full. Else prove '..UptoSaid'. A law counts once. -/
mutual
def uptoBulk {H : Type} : DataW H → Nat
  | .lit (.string bytes) => bytes.length + 1
  | .lit _ => 1
  | .nil => 1
  | .ptr d => uptoBulk d + 1
  | .slice elems spare => uptoBulkAll elems + uptoBulkAll spare + 1
  | .agg parts => uptoBulkAll parts + 1
  | .iface _ d => uptoBulk d + 1
  | .map entries => uptoBulkEntries entries + 1
  | .held _ => 1
def uptoBulkAll {H : Type} : List (DataW H) → Nat
  | [] => 0
  | d :: r => uptoBulk d + uptoBulkAll r
def uptoBulkEntries {H : Type} : List (Lit × DataW H) → Nat
  | [] => 0
  | x :: r => uptoBulkEntry x + uptoBulkEntries r
def uptoBulkEntry {H : Type} : Lit × DataW H → Nat
  | (.string bytes, d) => bytes.length + uptoBulk d + 1
  | (_, d) => uptoBulk d + 1
 end
def uptoSmall : (H : Type) → List (DataW H) → Bool := fun _ ds => decide (uptoBulkAll ds ≤ 1048576)
def OpenSpec.upto (s : _root_.Go.ChangeSpec) : _root_.Go.OpenSpec := { _root_.Go.OpenSpec.ofChange s with cond := some uptoSmall }

/-- 'klaxonlaw05.TextTold', WHERE WHAT IT READS IS OF BULK AT MOST 1048576: true; the input reads as it did. -/
def textToldUptoRow : OpenClaim := { program := "ytgmieceebchmfaadoor", sum := "73ed9ed011a43bdfbd2cc8cfadbdf2a38ce0e137aa0ad6898cbe86fe13925037", func := "klaxon/klaxonlaw05.TextTold", spec := "textTold", inPlace := ["internal/bytealg.CountString", "internal/bytealg.IndexByteString", "internal/bytealg.IndexString", "internal/abi.NoEscape"], named := ["unicode/utf8.first", "unicode/utf8.acceptRanges", "internal/bytealg.MaxLen"], apart := false, laid := [("unicode/utf8.acceptRanges", laid_unicode_utf8_acceptRanges), ("unicode/utf8.first", laid_unicode_utf8_first)], narrowed := true }
def TextToldUptoSaid : Prop := textToldUptoRow.holds Tryd.pinned (OpenSpec.upto textToldSpec)

/-- 'klaxonlaw05.TextRunes', WHERE WHAT IT READS IS OF BULK AT MOST 1048576: true; the input reads as it did. -/
def textRunesUptoRow : OpenClaim := { program := "ytgmieceebchmfaadoor", sum := "73ed9ed011a43bdfbd2cc8cfadbdf2a38ce0e137aa0ad6898cbe86fe13925037", func := "klaxon/klaxonlaw05.TextRunes", spec := "textRunes", inPlace := ["internal/bytealg.CountString", "internal/bytealg.IndexByteString", "internal/bytealg.IndexString", "internal/abi.NoEscape"], named := ["unicode/utf8.first", "unicode/utf8.acceptRanges", "internal/bytealg.MaxLen"], apart := false, laid := [("unicode/utf8.acceptRanges", laid_unicode_utf8_acceptRanges), ("unicode/utf8.first", laid_unicode_utf8_first)], narrowed := true }
def TextRunesUptoSaid : Prop := textRunesUptoRow.holds Tryd.pinned (OpenSpec.upto textRunesSpec)

/-- 'klaxonlaw05.TextEscapes', WHERE WHAT IT READS IS OF BULK AT MOST 1048576: true; the input reads as it did. -/
def textEscapesUptoRow : OpenClaim := { program := "ytgmieceebchmfaadoor", sum := "73ed9ed011a43bdfbd2cc8cfadbdf2a38ce0e137aa0ad6898cbe86fe13925037", func := "klaxon/klaxonlaw05.TextEscapes", spec := "textEscapes", inPlace := ["internal/bytealg.CountString", "internal/bytealg.IndexByteString", "internal/bytealg.IndexString", "internal/abi.NoEscape"], named := ["unicode/utf8.first", "unicode/utf8.acceptRanges", "internal/bytealg.MaxLen"], apart := false, laid := [("unicode/utf8.acceptRanges", laid_unicode_utf8_acceptRanges), ("unicode/utf8.first", laid_unicode_utf8_first)], narrowed := true }
def TextEscapesUptoSaid : Prop := textEscapesUptoRow.holds Tryd.pinned (OpenSpec.upto textEscapesSpec)

/-- 'klaxonlaw05.TextUnescapes', WHERE WHAT IT READS IS OF BULK AT MOST 1048576: true; the input reads as it did. -/
def textUnescapesUptoRow : OpenClaim := { program := "ytgmieceebchmfaadoor", sum := "73ed9ed011a43bdfbd2cc8cfadbdf2a38ce0e137aa0ad6898cbe86fe13925037", func := "klaxon/klaxonlaw05.TextUnescapes", spec := "textUnescapes", inPlace := ["internal/bytealg.CountString", "internal/bytealg.IndexByteString", "internal/bytealg.IndexString", "internal/abi.NoEscape"], named := ["unicode/utf8.first", "unicode/utf8.acceptRanges", "internal/bytealg.MaxLen"], apart := false, laid := [("unicode/utf8.acceptRanges", laid_unicode_utf8_acceptRanges), ("unicode/utf8.first", laid_unicode_utf8_first)], narrowed := true }
def TextUnescapesUptoSaid : Prop := textUnescapesUptoRow.holds Tryd.pinned (OpenSpec.upto textUnescapesSpec)

/-- 'klaxonlaw05.TextForms', WHERE WHAT IT READS IS OF BULK AT MOST 1048576: true; the input reads as it did. -/
def textFormsUptoRow : OpenClaim := { program := "ytgmieceebchmfaadoor", sum := "73ed9ed011a43bdfbd2cc8cfadbdf2a38ce0e137aa0ad6898cbe86fe13925037", func := "klaxon/klaxonlaw05.TextForms", spec := "textForms", inPlace := ["internal/bytealg.CountString", "internal/bytealg.IndexByteString", "internal/bytealg.IndexString", "internal/abi.NoEscape"], named := ["unicode/utf8.first", "unicode/utf8.acceptRanges", "internal/bytealg.MaxLen"], apart := false, laid := [("unicode/utf8.acceptRanges", laid_unicode_utf8_acceptRanges), ("unicode/utf8.first", laid_unicode_utf8_first)], narrowed := true }
def TextFormsUptoSaid : Prop := textFormsUptoRow.holds Tryd.pinned (OpenSpec.upto textFormsSpec)

/-- 'klaxonlaw04.B64Commons', WHERE WHAT IT READS IS OF BULK AT MOST 1048576: true; the input reads as it did. -/
def b64CommonsUptoRow : OpenClaim := { program := "ytgmieceebchmfaadoor", sum := "73ed9ed011a43bdfbd2cc8cfadbdf2a38ce0e137aa0ad6898cbe86fe13925037", func := "klaxon/klaxonlaw04.B64Commons", spec := "b64Commons", inPlace := ["internal/abi.NoEscape", "internal/bytealg.IndexByteString", "internal/bytealg.IndexString", "internal/bytealg.MakeNoZero"], unfollowed := true, recurses := true, named := ["unicode/utf8.first", "unicode/utf8.acceptRanges", "internal/bytealg.MaxLen"], apart := false, laid := [("unicode/utf8.acceptRanges", laid_unicode_utf8_acceptRanges), ("unicode/utf8.first", laid_unicode_utf8_first)], narrowed := true }
def B64CommonsUptoSaid : Prop := b64CommonsUptoRow.holds Tryd.pinned (OpenSpec.upto b64CommonsSpec)

/-- 'klaxonlaw04.B64Standard', WHERE WHAT IT READS IS OF BULK AT MOST 1048576: true; the input reads as it did. -/
def b64StandardUptoRow : OpenClaim := { program := "ytgmieceebchmfaadoor", sum := "73ed9ed011a43bdfbd2cc8cfadbdf2a38ce0e137aa0ad6898cbe86fe13925037", func := "klaxon/klaxonlaw04.B64Standard", spec := "b64Standard", inPlace := ["internal/abi.NoEscape", "internal/bytealg.IndexByteString", "internal/bytealg.MakeNoZero", "internal/bytealg.IndexString"], unfollowed := true, recurses := true, named := ["unicode/utf8.first", "unicode/utf8.acceptRanges", "internal/bytealg.MaxLen"], apart := false, laid := [("unicode/utf8.acceptRanges", laid_unicode_utf8_acceptRanges), ("unicode/utf8.first", laid_unicode_utf8_first)], narrowed := true }
def B64StandardUptoSaid : Prop := b64StandardUptoRow.holds Tryd.pinned (OpenSpec.upto b64StandardSpec)

/-- 'klaxonlaw05.TextShows', WHERE WHAT IT READS IS OF BULK AT MOST 1048576: true; the input reads as it did. -/
def textShowsUptoRow : OpenClaim := { program := "ytgmieceebchmfaadoor", sum := "73ed9ed011a43bdfbd2cc8cfadbdf2a38ce0e137aa0ad6898cbe86fe13925037", func := "klaxon/klaxonlaw05.TextShows", spec := "textShows", inPlace := ["internal/bytealg.CountString", "internal/bytealg.IndexByteString", "internal/bytealg.IndexString", "internal/abi.NoEscape", "internal/bytealg.MakeNoZero"], named := ["unicode/utf8.first", "unicode/utf8.acceptRanges", "internal/bytealg.MaxLen"], apart := false, laid := [("unicode/utf8.acceptRanges", laid_unicode_utf8_acceptRanges), ("unicode/utf8.first", laid_unicode_utf8_first)], narrowed := true }
def TextShowsUptoSaid : Prop := textShowsUptoRow.holds Tryd.pinned (OpenSpec.upto textShowsSpec)

end Rows
end Go.Proofs.YtgmieceebchmfaaDoor
