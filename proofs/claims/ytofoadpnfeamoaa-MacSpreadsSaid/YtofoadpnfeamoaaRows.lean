/-
  No cell of these rows narrows 'for every input' (looked for: loops, veiled, ifaces, maps, wideKeys, modest, calm, conditions, laid).
  DERIVED. THE GIVEN ROWS OF THIS SEAT. 16 by the template 'for every input the law returns true; each argument reads behind the call as it read before'; 0 by the template 'total and deterministic' (their statements: YtofoadpnfeamoaaTotals.lean).
  GIVEN WITH THE SEED: the statements are not yours to turn. If you find one false, say at which input.
  Laid BY PROGRAM, IN A SANDBOX (cutbox-rows.mjs): the forced cells as the released guide's own fill.sh prints them over the translation 946ef78a4fd08d08… (all of the seat's roots in one cut). By AI agents, Wed Nov 11 2026. No macro, syntax, notation, axiom, sorry.
-/
import Derived.Test.YtofoadpnfeamoaaChecked
import GoSem.Claim
import GoSem.ClaimJoined
import GoSem.ClaimMapViews
import Derived.JoinedTies
import Derived.KernelRfl
namespace Go.Proofs.Ytofoadpnfeamoaa
/- THE CELL 'sum', in the pinned program and in every row, IS THE sha256 OF THE DUMP (.gsa) THAT YtofoadpnfeamoaaProg.lean LOADS. Nothing in Lean hashes anything: it is a label: what it is worth is what the hold of that sum in a sandbox is worth. -/
noncomputable def Try.pinned : Pinned := { name := "ytofoadpnfeamoaa", sum := "946ef78a4fd08d08aad20750f9e5f5d6732ed2ce1962ee5b45f0a385d3c0174d", checked := Try.checked }
namespace Rows
def none {H : Type} : Left H := { results := [], args := [] }

/-- 'klaxonlaw04.B64Parts': WHATEVER THE INPUT: true; the input reads as it did. -/
def b64PartsSpec : ChangeSpec := { name := "b64Parts", fn := fun _ => fun
  | [d1, d2] => { results := [.lit (.bool true)], args := [d1, d2] }
  | _ => none }
def b64PartsRow : OpenClaim := { program := "ytofoadpnfeamoaa", sum := "946ef78a4fd08d08aad20750f9e5f5d6732ed2ce1962ee5b45f0a385d3c0174d", func := "klaxon/klaxonlaw04.B64Parts", spec := "b64Parts", inPlace := ["internal/abi.NoEscape"], unfollowed := true, recurses := true, apart := false }
def B64PartsSaid : Prop := b64PartsRow.holds Try.pinned (OpenSpec.ofChange b64PartsSpec)

/-- ITS FALSE NEIGHBOUR: 'it returns false'. Refute it at one input. -/
def b64PartsWrong : ChangeSpec := { name := "b64Parts", fn := fun _ => fun
  | [d1, d2] => { results := [.lit (.bool false)], args := [d1, d2] }
  | _ => none }
def B64PartsWrongFalsely : Prop := b64PartsRow.holds Try.pinned (OpenSpec.ofChange b64PartsWrong)

/-- 'klaxonlaw04.B64Lengths': WHATEVER THE INPUT: true; the input reads as it did. -/
def b64LengthsSpec : ChangeSpec := { name := "b64Lengths", fn := fun _ => fun
  | [d1, d2] => { results := [.lit (.bool true)], args := [d1, d2] }
  | _ => none }
def b64LengthsRow : OpenClaim := { program := "ytofoadpnfeamoaa", sum := "946ef78a4fd08d08aad20750f9e5f5d6732ed2ce1962ee5b45f0a385d3c0174d", func := "klaxon/klaxonlaw04.B64Lengths", spec := "b64Lengths", inPlace := ["internal/abi.NoEscape"], unfollowed := true, recurses := true, apart := false }
def B64LengthsSaid : Prop := b64LengthsRow.holds Try.pinned (OpenSpec.ofChange b64LengthsSpec)

/-- ITS FALSE NEIGHBOUR: 'it returns false'. Refute it at one input. -/
def b64LengthsWrong : ChangeSpec := { name := "b64Lengths", fn := fun _ => fun
  | [d1, d2] => { results := [.lit (.bool false)], args := [d1, d2] }
  | _ => none }
def B64LengthsWrongFalsely : Prop := b64LengthsRow.holds Try.pinned (OpenSpec.ofChange b64LengthsWrong)

/-- 'klaxonlaw01.ShaSums': WHATEVER THE INPUT: true; the input reads as it did. -/
def shaSumsSpec : ChangeSpec := { name := "shaSums", fn := fun _ => fun
  | [d] => { results := [.lit (.bool true)], args := [d] }
  | _ => none }
def shaSumsRow : OpenClaim := { program := "ytofoadpnfeamoaa", sum := "946ef78a4fd08d08aad20750f9e5f5d6732ed2ce1962ee5b45f0a385d3c0174d", func := "klaxon/klaxonlaw01.ShaSums", spec := "shaSums", apart := false }
def ShaSumsSaid : Prop := shaSumsRow.holds Try.pinned (OpenSpec.ofChange shaSumsSpec)

/-- ITS FALSE NEIGHBOUR: 'it returns false'. Refute it at one input. -/
def shaSumsWrong : ChangeSpec := { name := "shaSums", fn := fun _ => fun
  | [d] => { results := [.lit (.bool false)], args := [d] }
  | _ => none }
def ShaSumsWrongFalsely : Prop := shaSumsRow.holds Try.pinned (OpenSpec.ofChange shaSumsWrong)

/-- 'klaxonlaw01.ShaParts': WHATEVER THE INPUT: true; the input reads as it did. -/
def shaPartsSpec : ChangeSpec := { name := "shaParts", fn := fun _ => fun
  | [d] => { results := [.lit (.bool true)], args := [d] }
  | _ => none }
def shaPartsRow : OpenClaim := { program := "ytofoadpnfeamoaa", sum := "946ef78a4fd08d08aad20750f9e5f5d6732ed2ce1962ee5b45f0a385d3c0174d", func := "klaxon/klaxonlaw01.ShaParts", spec := "shaParts", apart := false }
def ShaPartsSaid : Prop := shaPartsRow.holds Try.pinned (OpenSpec.ofChange shaPartsSpec)

/-- ITS FALSE NEIGHBOUR: 'it returns false'. Refute it at one input. -/
def shaPartsWrong : ChangeSpec := { name := "shaParts", fn := fun _ => fun
  | [d] => { results := [.lit (.bool false)], args := [d] }
  | _ => none }
def ShaPartsWrongFalsely : Prop := shaPartsRow.holds Try.pinned (OpenSpec.ofChange shaPartsWrong)

/-- 'klaxonlaw01.ShaEdges': WHATEVER THE INPUT: true; the input reads as it did. -/
def shaEdgesSpec : ChangeSpec := { name := "shaEdges", fn := fun _ => fun
  | [d1, d2] => { results := [.lit (.bool true)], args := [d1, d2] }
  | _ => none }
def shaEdgesRow : OpenClaim := { program := "ytofoadpnfeamoaa", sum := "946ef78a4fd08d08aad20750f9e5f5d6732ed2ce1962ee5b45f0a385d3c0174d", func := "klaxon/klaxonlaw01.ShaEdges", spec := "shaEdges", apart := false }
def ShaEdgesSaid : Prop := shaEdgesRow.holds Try.pinned (OpenSpec.ofChange shaEdgesSpec)

/-- ITS FALSE NEIGHBOUR: 'it returns false'. Refute it at one input. -/
def shaEdgesWrong : ChangeSpec := { name := "shaEdges", fn := fun _ => fun
  | [d1, d2] => { results := [.lit (.bool false)], args := [d1, d2] }
  | _ => none }
def ShaEdgesWrongFalsely : Prop := shaEdgesRow.holds Try.pinned (OpenSpec.ofChange shaEdgesWrong)

/-- 'klaxonlaw01.ShaOwn': WHATEVER THE INPUT: true; the input reads as it did. -/
def shaOwnSpec : ChangeSpec := { name := "shaOwn", fn := fun _ => fun
  | [d1, d2] => { results := [.lit (.bool true)], args := [d1, d2] }
  | _ => none }
def shaOwnRow : OpenClaim := { program := "ytofoadpnfeamoaa", sum := "946ef78a4fd08d08aad20750f9e5f5d6732ed2ce1962ee5b45f0a385d3c0174d", func := "klaxon/klaxonlaw01.ShaOwn", spec := "shaOwn", apart := false }
def ShaOwnSaid : Prop := shaOwnRow.holds Try.pinned (OpenSpec.ofChange shaOwnSpec)

/-- ITS FALSE NEIGHBOUR: 'it returns false'. Refute it at one input. -/
def shaOwnWrong : ChangeSpec := { name := "shaOwn", fn := fun _ => fun
  | [d1, d2] => { results := [.lit (.bool false)], args := [d1, d2] }
  | _ => none }
def ShaOwnWrongFalsely : Prop := shaOwnRow.holds Try.pinned (OpenSpec.ofChange shaOwnWrong)

/-- 'klaxonlaw01.ShaBytes': WHATEVER THE INPUT: true; the input reads as it did. -/
def shaBytesSpec : ChangeSpec := { name := "shaBytes", fn := fun _ => fun
  | [d1, d2] => { results := [.lit (.bool true)], args := [d1, d2] }
  | _ => none }
def shaBytesRow : OpenClaim := { program := "ytofoadpnfeamoaa", sum := "946ef78a4fd08d08aad20750f9e5f5d6732ed2ce1962ee5b45f0a385d3c0174d", func := "klaxon/klaxonlaw01.ShaBytes", spec := "shaBytes", apart := false }
def ShaBytesSaid : Prop := shaBytesRow.holds Try.pinned (OpenSpec.ofChange shaBytesSpec)

/-- ITS FALSE NEIGHBOUR: 'it returns false'. Refute it at one input. -/
def shaBytesWrong : ChangeSpec := { name := "shaBytes", fn := fun _ => fun
  | [d1, d2] => { results := [.lit (.bool false)], args := [d1, d2] }
  | _ => none }
def ShaBytesWrongFalsely : Prop := shaBytesRow.holds Try.pinned (OpenSpec.ofChange shaBytesWrong)

/-- 'klaxonlaw01.ShaEmpty': WHATEVER THE INPUT: true; the input reads as it did. -/
def shaEmptySpec : ChangeSpec := { name := "shaEmpty", fn := fun _ => fun
  | [d] => { results := [.lit (.bool true)], args := [d] }
  | _ => none }
def shaEmptyRow : OpenClaim := { program := "ytofoadpnfeamoaa", sum := "946ef78a4fd08d08aad20750f9e5f5d6732ed2ce1962ee5b45f0a385d3c0174d", func := "klaxon/klaxonlaw01.ShaEmpty", spec := "shaEmpty", apart := false }
def ShaEmptySaid : Prop := shaEmptyRow.holds Try.pinned (OpenSpec.ofChange shaEmptySpec)

/-- ITS FALSE NEIGHBOUR: 'it returns false'. Refute it at one input. -/
def shaEmptyWrong : ChangeSpec := { name := "shaEmpty", fn := fun _ => fun
  | [d] => { results := [.lit (.bool false)], args := [d] }
  | _ => none }
def ShaEmptyWrongFalsely : Prop := shaEmptyRow.holds Try.pinned (OpenSpec.ofChange shaEmptyWrong)

/-- 'klaxonlaw04.B64Encodes': WHATEVER THE INPUT: true; the input reads as it did. -/
def b64EncodesSpec : ChangeSpec := { name := "b64Encodes", fn := fun _ => fun
  | [d] => { results := [.lit (.bool true)], args := [d] }
  | _ => none }
def b64EncodesRow : OpenClaim := { program := "ytofoadpnfeamoaa", sum := "946ef78a4fd08d08aad20750f9e5f5d6732ed2ce1962ee5b45f0a385d3c0174d", func := "klaxon/klaxonlaw04.B64Encodes", spec := "b64Encodes", inPlace := ["internal/abi.NoEscape", "internal/bytealg.IndexByteString"], unfollowed := true, recurses := true, apart := false }
def B64EncodesSaid : Prop := b64EncodesRow.holds Try.pinned (OpenSpec.ofChange b64EncodesSpec)

/-- ITS FALSE NEIGHBOUR: 'it returns false'. Refute it at one input. -/
def b64EncodesWrong : ChangeSpec := { name := "b64Encodes", fn := fun _ => fun
  | [d] => { results := [.lit (.bool false)], args := [d] }
  | _ => none }
def B64EncodesWrongFalsely : Prop := b64EncodesRow.holds Try.pinned (OpenSpec.ofChange b64EncodesWrong)

/-- 'klaxonlaw04.B64Decodes': WHATEVER THE INPUT: true; the input reads as it did. -/
def b64DecodesSpec : ChangeSpec := { name := "b64Decodes", fn := fun _ => fun
  | [d] => { results := [.lit (.bool true)], args := [d] }
  | _ => none }
def b64DecodesRow : OpenClaim := { program := "ytofoadpnfeamoaa", sum := "946ef78a4fd08d08aad20750f9e5f5d6732ed2ce1962ee5b45f0a385d3c0174d", func := "klaxon/klaxonlaw04.B64Decodes", spec := "b64Decodes", inPlace := ["internal/abi.NoEscape", "internal/bytealg.IndexByteString"], unfollowed := true, recurses := true, apart := false }
def B64DecodesSaid : Prop := b64DecodesRow.holds Try.pinned (OpenSpec.ofChange b64DecodesSpec)

/-- ITS FALSE NEIGHBOUR: 'it returns false'. Refute it at one input. -/
def b64DecodesWrong : ChangeSpec := { name := "b64Decodes", fn := fun _ => fun
  | [d] => { results := [.lit (.bool false)], args := [d] }
  | _ => none }
def B64DecodesWrongFalsely : Prop := b64DecodesRow.holds Try.pinned (OpenSpec.ofChange b64DecodesWrong)

/-- 'klaxonlaw02.MacKeys': WHATEVER THE INPUT: true; the input reads as it did. -/
def macKeysSpec : ChangeSpec := { name := "macKeys", fn := fun _ => fun
  | [d1, d2, d3] => { results := [.lit (.bool true)], args := [d1, d2, d3] }
  | _ => none }
def macKeysRow : OpenClaim := { program := "ytofoadpnfeamoaa", sum := "946ef78a4fd08d08aad20750f9e5f5d6732ed2ce1962ee5b45f0a385d3c0174d", func := "klaxon/klaxonlaw02.MacKeys", spec := "macKeys", apart := false }
def MacKeysSaid : Prop := macKeysRow.holds Try.pinned (OpenSpec.ofChange macKeysSpec)

/-- ITS FALSE NEIGHBOUR: 'it returns false'. Refute it at one input. -/
def macKeysWrong : ChangeSpec := { name := "macKeys", fn := fun _ => fun
  | [d1, d2, d3] => { results := [.lit (.bool false)], args := [d1, d2, d3] }
  | _ => none }
def MacKeysWrongFalsely : Prop := macKeysRow.holds Try.pinned (OpenSpec.ofChange macKeysWrong)

/-- 'klaxonlaw02.MacLong': WHATEVER THE INPUT: true; the input reads as it did. -/
def macLongSpec : ChangeSpec := { name := "macLong", fn := fun _ => fun
  | [d1, d2] => { results := [.lit (.bool true)], args := [d1, d2] }
  | _ => none }
def macLongRow : OpenClaim := { program := "ytofoadpnfeamoaa", sum := "946ef78a4fd08d08aad20750f9e5f5d6732ed2ce1962ee5b45f0a385d3c0174d", func := "klaxon/klaxonlaw02.MacLong", spec := "macLong", apart := false }
def MacLongSaid : Prop := macLongRow.holds Try.pinned (OpenSpec.ofChange macLongSpec)

/-- ITS FALSE NEIGHBOUR: 'it returns false'. Refute it at one input. -/
def macLongWrong : ChangeSpec := { name := "macLong", fn := fun _ => fun
  | [d1, d2] => { results := [.lit (.bool false)], args := [d1, d2] }
  | _ => none }
def MacLongWrongFalsely : Prop := macLongRow.holds Try.pinned (OpenSpec.ofChange macLongWrong)

/-- 'klaxonlaw02.MacCodes': WHATEVER THE INPUT: true; the input reads as it did. -/
def macCodesSpec : ChangeSpec := { name := "macCodes", fn := fun _ => fun
  | [d1, d2, d3] => { results := [.lit (.bool true)], args := [d1, d2, d3] }
  | _ => none }
def macCodesRow : OpenClaim := { program := "ytofoadpnfeamoaa", sum := "946ef78a4fd08d08aad20750f9e5f5d6732ed2ce1962ee5b45f0a385d3c0174d", func := "klaxon/klaxonlaw02.MacCodes", spec := "macCodes", apart := false }
def MacCodesSaid : Prop := macCodesRow.holds Try.pinned (OpenSpec.ofChange macCodesSpec)

/-- ITS FALSE NEIGHBOUR: 'it returns false'. Refute it at one input. -/
def macCodesWrong : ChangeSpec := { name := "macCodes", fn := fun _ => fun
  | [d1, d2, d3] => { results := [.lit (.bool false)], args := [d1, d2, d3] }
  | _ => none }
def MacCodesWrongFalsely : Prop := macCodesRow.holds Try.pinned (OpenSpec.ofChange macCodesWrong)

/-- 'klaxonlaw02.MacEqual': WHATEVER THE INPUT: true; the input reads as it did. -/
def macEqualSpec : ChangeSpec := { name := "macEqual", fn := fun _ => fun
  | [d1, d2] => { results := [.lit (.bool true)], args := [d1, d2] }
  | _ => none }
def macEqualRow : OpenClaim := { program := "ytofoadpnfeamoaa", sum := "946ef78a4fd08d08aad20750f9e5f5d6732ed2ce1962ee5b45f0a385d3c0174d", func := "klaxon/klaxonlaw02.MacEqual", spec := "macEqual", apart := false }
def MacEqualSaid : Prop := macEqualRow.holds Try.pinned (OpenSpec.ofChange macEqualSpec)

/-- ITS FALSE NEIGHBOUR: 'it returns false'. Refute it at one input. -/
def macEqualWrong : ChangeSpec := { name := "macEqual", fn := fun _ => fun
  | [d1, d2] => { results := [.lit (.bool false)], args := [d1, d2] }
  | _ => none }
def MacEqualWrongFalsely : Prop := macEqualRow.holds Try.pinned (OpenSpec.ofChange macEqualWrong)

/-- 'klaxonlaw02.MacSpreads': WHATEVER THE INPUT: true; the input reads as it did. -/
def macSpreadsSpec : ChangeSpec := { name := "macSpreads", fn := fun _ => fun
  | [d1, d2, d3, d4] => { results := [.lit (.bool true)], args := [d1, d2, d3, d4] }
  | _ => none }
def macSpreadsRow : OpenClaim := { program := "ytofoadpnfeamoaa", sum := "946ef78a4fd08d08aad20750f9e5f5d6732ed2ce1962ee5b45f0a385d3c0174d", func := "klaxon/klaxonlaw02.MacSpreads", spec := "macSpreads", apart := false }
def MacSpreadsSaid : Prop := macSpreadsRow.holds Try.pinned (OpenSpec.ofChange macSpreadsSpec)

/-- ITS FALSE NEIGHBOUR: 'it returns false'. Refute it at one input. -/
def macSpreadsWrong : ChangeSpec := { name := "macSpreads", fn := fun _ => fun
  | [d1, d2, d3, d4] => { results := [.lit (.bool false)], args := [d1, d2, d3, d4] }
  | _ => none }
def MacSpreadsWrongFalsely : Prop := macSpreadsRow.holds Try.pinned (OpenSpec.ofChange macSpreadsWrong)

/-- 'klaxonlaw02.MacBlocks': WHATEVER THE INPUT: true; the input reads as it did. -/
def macBlocksSpec : ChangeSpec := { name := "macBlocks", fn := fun _ => fun
  | [d1, d2, d3] => { results := [.lit (.bool true)], args := [d1, d2, d3] }
  | _ => none }
def macBlocksRow : OpenClaim := { program := "ytofoadpnfeamoaa", sum := "946ef78a4fd08d08aad20750f9e5f5d6732ed2ce1962ee5b45f0a385d3c0174d", func := "klaxon/klaxonlaw02.MacBlocks", spec := "macBlocks", apart := false }
def MacBlocksSaid : Prop := macBlocksRow.holds Try.pinned (OpenSpec.ofChange macBlocksSpec)

/-- ITS FALSE NEIGHBOUR: 'it returns false'. Refute it at one input. -/
def macBlocksWrong : ChangeSpec := { name := "macBlocks", fn := fun _ => fun
  | [d1, d2, d3] => { results := [.lit (.bool false)], args := [d1, d2, d3] }
  | _ => none }
def MacBlocksWrongFalsely : Prop := macBlocksRow.holds Try.pinned (OpenSpec.ofChange macBlocksWrong)

/- THE SECOND FORM. 'bulk': how many values and letters a reading holds, each counted each time it is reached (what is shared counts as often as it is met; a slice's spare places count too). A statement '..UptoSaid' is the law's where the arguments, and the package variables that the reading takes, are together of bulk at most 1048576: NARROWER than '..Said'. Prove '..Said' where nothing that the law and all that it calls make is longer than what came in: it says more and counts as full. Else prove '..UptoSaid'. A law counts once. -/
mutual
def uptoBulk {H : Type} : DataW H → Nat
  | .lit (.string bytes) => bytes.length + 1
  | .lit _ => 1
  | .nil => 1
  | .ptr d => uptoBulk d + 1
  | .slice elems spare => uptoBulkAll elems + uptoBulkAll spare + 1
  | .agg parts => uptoBulkAll parts + 1
  | .iface _ d => uptoBulk d + 1
  | .map entries => uptoBulkEntries entries + 1
  | .held _ => 1
def uptoBulkAll {H : Type} : List (DataW H) → Nat
  | [] => 0
  | d :: r => uptoBulk d + uptoBulkAll r
def uptoBulkEntries {H : Type} : List (Lit × DataW H) → Nat
  | [] => 0
  | x :: r => uptoBulkEntry x + uptoBulkEntries r
def uptoBulkEntry {H : Type} : Lit × DataW H → Nat
  | (.string bytes, d) => bytes.length + uptoBulk d + 1
  | (_, d) => uptoBulk d + 1
 end
def uptoSmall : (H : Type) → List (DataW H) → Bool := fun _ ds => decide (uptoBulkAll ds ≤ 1048576)
def OpenSpec.upto (s : _root_.Go.ChangeSpec) : _root_.Go.OpenSpec := { _root_.Go.OpenSpec.ofChange s with cond := some uptoSmall }

/-- 'klaxonlaw04.B64Parts', WHERE WHAT IT READS IS OF BULK AT MOST 1048576: true; the input reads as it did. -/
def b64PartsUptoRow : OpenClaim := { program := "ytofoadpnfeamoaa", sum := "946ef78a4fd08d08aad20750f9e5f5d6732ed2ce1962ee5b45f0a385d3c0174d", func := "klaxon/klaxonlaw04.B64Parts", spec := "b64Parts", inPlace := ["internal/abi.NoEscape"], unfollowed := true, recurses := true, apart := false, narrowed := true }
def B64PartsUptoSaid : Prop := b64PartsUptoRow.holds Try.pinned (OpenSpec.upto b64PartsSpec)

/-- 'klaxonlaw04.B64Lengths', WHERE WHAT IT READS IS OF BULK AT MOST 1048576: true; the input reads as it did. -/
def b64LengthsUptoRow : OpenClaim := { program := "ytofoadpnfeamoaa", sum := "946ef78a4fd08d08aad20750f9e5f5d6732ed2ce1962ee5b45f0a385d3c0174d", func := "klaxon/klaxonlaw04.B64Lengths", spec := "b64Lengths", inPlace := ["internal/abi.NoEscape"], unfollowed := true, recurses := true, apart := false, narrowed := true }
def B64LengthsUptoSaid : Prop := b64LengthsUptoRow.holds Try.pinned (OpenSpec.upto b64LengthsSpec)

/-- 'klaxonlaw01.ShaSums', WHERE WHAT IT READS IS OF BULK AT MOST 1048576: true; the input reads as it did. -/
def shaSumsUptoRow : OpenClaim := { program := "ytofoadpnfeamoaa", sum := "946ef78a4fd08d08aad20750f9e5f5d6732ed2ce1962ee5b45f0a385d3c0174d", func := "klaxon/klaxonlaw01.ShaSums", spec := "shaSums", apart := false, narrowed := true }
def ShaSumsUptoSaid : Prop := shaSumsUptoRow.holds Try.pinned (OpenSpec.upto shaSumsSpec)

/-- 'klaxonlaw01.ShaParts', WHERE WHAT IT READS IS OF BULK AT MOST 1048576: true; the input reads as it did. -/
def shaPartsUptoRow : OpenClaim := { program := "ytofoadpnfeamoaa", sum := "946ef78a4fd08d08aad20750f9e5f5d6732ed2ce1962ee5b45f0a385d3c0174d", func := "klaxon/klaxonlaw01.ShaParts", spec := "shaParts", apart := false, narrowed := true }
def ShaPartsUptoSaid : Prop := shaPartsUptoRow.holds Try.pinned (OpenSpec.upto shaPartsSpec)

/-- 'klaxonlaw01.ShaEdges', WHERE WHAT IT READS IS OF BULK AT MOST 1048576: true; the input reads as it did. -/
def shaEdgesUptoRow : OpenClaim := { program := "ytofoadpnfeamoaa", sum := "946ef78a4fd08d08aad20750f9e5f5d6732ed2ce1962ee5b45f0a385d3c0174d", func := "klaxon/klaxonlaw01.ShaEdges", spec := "shaEdges", apart := false, narrowed := true }
def ShaEdgesUptoSaid : Prop := shaEdgesUptoRow.holds Try.pinned (OpenSpec.upto shaEdgesSpec)

/-- 'klaxonlaw01.ShaOwn', WHERE WHAT IT READS IS OF BULK AT MOST 1048576: true; the input reads as it did. -/
def shaOwnUptoRow : OpenClaim := { program := "ytofoadpnfeamoaa", sum := "946ef78a4fd08d08aad20750f9e5f5d6732ed2ce1962ee5b45f0a385d3c0174d", func := "klaxon/klaxonlaw01.ShaOwn", spec := "shaOwn", apart := false, narrowed := true }
def ShaOwnUptoSaid : Prop := shaOwnUptoRow.holds Try.pinned (OpenSpec.upto shaOwnSpec)

/-- 'klaxonlaw01.ShaBytes', WHERE WHAT IT READS IS OF BULK AT MOST 1048576: true; the input reads as it did. -/
def shaBytesUptoRow : OpenClaim := { program := "ytofoadpnfeamoaa", sum := "946ef78a4fd08d08aad20750f9e5f5d6732ed2ce1962ee5b45f0a385d3c0174d", func := "klaxon/klaxonlaw01.ShaBytes", spec := "shaBytes", apart := false, narrowed := true }
def ShaBytesUptoSaid : Prop := shaBytesUptoRow.holds Try.pinned (OpenSpec.upto shaBytesSpec)

/-- 'klaxonlaw01.ShaEmpty', WHERE WHAT IT READS IS OF BULK AT MOST 1048576: true; the input reads as it did. -/
def shaEmptyUptoRow : OpenClaim := { program := "ytofoadpnfeamoaa", sum := "946ef78a4fd08d08aad20750f9e5f5d6732ed2ce1962ee5b45f0a385d3c0174d", func := "klaxon/klaxonlaw01.ShaEmpty", spec := "shaEmpty", apart := false, narrowed := true }
def ShaEmptyUptoSaid : Prop := shaEmptyUptoRow.holds Try.pinned (OpenSpec.upto shaEmptySpec)

/-- 'klaxonlaw04.B64Encodes', WHERE WHAT IT READS IS OF BULK AT MOST 1048576: true; the input reads as it did. -/
def b64EncodesUptoRow : OpenClaim := { program := "ytofoadpnfeamoaa", sum := "946ef78a4fd08d08aad20750f9e5f5d6732ed2ce1962ee5b45f0a385d3c0174d", func := "klaxon/klaxonlaw04.B64Encodes", spec := "b64Encodes", inPlace := ["internal/abi.NoEscape", "internal/bytealg.IndexByteString"], unfollowed := true, recurses := true, apart := false, narrowed := true }
def B64EncodesUptoSaid : Prop := b64EncodesUptoRow.holds Try.pinned (OpenSpec.upto b64EncodesSpec)

/-- 'klaxonlaw04.B64Decodes', WHERE WHAT IT READS IS OF BULK AT MOST 1048576: true; the input reads as it did. -/
def b64DecodesUptoRow : OpenClaim := { program := "ytofoadpnfeamoaa", sum := "946ef78a4fd08d08aad20750f9e5f5d6732ed2ce1962ee5b45f0a385d3c0174d", func := "klaxon/klaxonlaw04.B64Decodes", spec := "b64Decodes", inPlace := ["internal/abi.NoEscape", "internal/bytealg.IndexByteString"], unfollowed := true, recurses := true, apart := false, narrowed := true }
def B64DecodesUptoSaid : Prop := b64DecodesUptoRow.holds Try.pinned (OpenSpec.upto b64DecodesSpec)

/-- 'klaxonlaw02.MacKeys', WHERE WHAT IT READS IS OF BULK AT MOST 1048576: true; the input reads as it did. -/
def macKeysUptoRow : OpenClaim := { program := "ytofoadpnfeamoaa", sum := "946ef78a4fd08d08aad20750f9e5f5d6732ed2ce1962ee5b45f0a385d3c0174d", func := "klaxon/klaxonlaw02.MacKeys", spec := "macKeys", apart := false, narrowed := true }
def MacKeysUptoSaid : Prop := macKeysUptoRow.holds Try.pinned (OpenSpec.upto macKeysSpec)

/-- 'klaxonlaw02.MacLong', WHERE WHAT IT READS IS OF BULK AT MOST 1048576: true; the input reads as it did. -/
def macLongUptoRow : OpenClaim := { program := "ytofoadpnfeamoaa", sum := "946ef78a4fd08d08aad20750f9e5f5d6732ed2ce1962ee5b45f0a385d3c0174d", func := "klaxon/klaxonlaw02.MacLong", spec := "macLong", apart := false, narrowed := true }
def MacLongUptoSaid : Prop := macLongUptoRow.holds Try.pinned (OpenSpec.upto macLongSpec)

/-- 'klaxonlaw02.MacCodes', WHERE WHAT IT READS IS OF BULK AT MOST 1048576: true; the input reads as it did. -/
def macCodesUptoRow : OpenClaim := { program := "ytofoadpnfeamoaa", sum := "946ef78a4fd08d08aad20750f9e5f5d6732ed2ce1962ee5b45f0a385d3c0174d", func := "klaxon/klaxonlaw02.MacCodes", spec := "macCodes", apart := false, narrowed := true }
def MacCodesUptoSaid : Prop := macCodesUptoRow.holds Try.pinned (OpenSpec.upto macCodesSpec)

/-- 'klaxonlaw02.MacEqual', WHERE WHAT IT READS IS OF BULK AT MOST 1048576: true; the input reads as it did. -/
def macEqualUptoRow : OpenClaim := { program := "ytofoadpnfeamoaa", sum := "946ef78a4fd08d08aad20750f9e5f5d6732ed2ce1962ee5b45f0a385d3c0174d", func := "klaxon/klaxonlaw02.MacEqual", spec := "macEqual", apart := false, narrowed := true }
def MacEqualUptoSaid : Prop := macEqualUptoRow.holds Try.pinned (OpenSpec.upto macEqualSpec)

/-- 'klaxonlaw02.MacSpreads', WHERE WHAT IT READS IS OF BULK AT MOST 1048576: true; the input reads as it did. -/
def macSpreadsUptoRow : OpenClaim := { program := "ytofoadpnfeamoaa", sum := "946ef78a4fd08d08aad20750f9e5f5d6732ed2ce1962ee5b45f0a385d3c0174d", func := "klaxon/klaxonlaw02.MacSpreads", spec := "macSpreads", apart := false, narrowed := true }
def MacSpreadsUptoSaid : Prop := macSpreadsUptoRow.holds Try.pinned (OpenSpec.upto macSpreadsSpec)

/-- 'klaxonlaw02.MacBlocks', WHERE WHAT IT READS IS OF BULK AT MOST 1048576: true; the input reads as it did. -/
def macBlocksUptoRow : OpenClaim := { program := "ytofoadpnfeamoaa", sum := "946ef78a4fd08d08aad20750f9e5f5d6732ed2ce1962ee5b45f0a385d3c0174d", func := "klaxon/klaxonlaw02.MacBlocks", spec := "macBlocks", apart := false, narrowed := true }
def MacBlocksUptoSaid : Prop := macBlocksUptoRow.holds Try.pinned (OpenSpec.upto macBlocksSpec)

end Rows
end Go.Proofs.Ytofoadpnfeamoaa
