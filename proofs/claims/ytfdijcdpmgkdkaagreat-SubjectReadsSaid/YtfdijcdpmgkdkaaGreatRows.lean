/-
  No cell of these rows narrows 'for every input' (looked for: loops, veiled, ifaces, maps, wideKeys, modest, calm, conditions, laid).
  DERIVED. THE GIVEN ROWS OF THIS SEAT. 3 by the template 'for every input the law returns true; each argument reads behind the call as it read before'; 0 by the template 'total and deterministic' (their statements: YtfdijcdpmgkdkaaGreatTotals.lean).
  GIVEN WITH THE SEED: the statements are not yours to turn. If you find one false, say at which input.
  Laid BY PROGRAM, IN A SANDBOX (cutbox-rows.mjs): the forced cells as the released guide's own fill.sh prints them over the translation 27f09054f9097101… (all of the seat's roots in one cut). By AI agents, Wed Nov 11 2026. No macro, syntax, notation, axiom, sorry.
-/
import Derived.Test.YtfdijcdpmgkdkaaGreatChecked
import GoSem.Claim
import GoSem.ClaimJoined
import GoSem.ClaimMapViews
import Derived.JoinedTies
import Derived.KernelRfl
namespace Go.Proofs.YtfdijcdpmgkdkaaGreat
/- THE CELL 'sum', in the pinned program and in every row, IS THE sha256 OF THE DUMP (.gsa) THAT YtfdijcdpmgkdkaaGreatProg.lean LOADS. Nothing in Lean hashes anything: it is a label: what it is worth is what the hold of that sum in a sandbox is worth. -/
noncomputable def Tryz.pinned : Pinned := { name := "ytfdijcdpmgkdkaagreat", sum := "27f09054f909710112fd44f093634cb053197404f2ba61395ec58406d7962b16", checked := Tryz.checked }
namespace Rows
def none {H : Type} : Left H := { results := [], args := [] }

/-- 'klaxonlaw06.JsonAlikes': WHATEVER THE INPUT: true; the input reads as it did. -/
def jsonAlikesSpec : ChangeSpec := { name := "jsonAlikes", fn := fun _ => fun
  | [d1, d2] => { results := [.lit (.bool true)], args := [d1, d2] }
  | _ => none }
def jsonAlikesRow : OpenClaim := { program := "ytfdijcdpmgkdkaagreat", sum := "27f09054f909710112fd44f093634cb053197404f2ba61395ec58406d7962b16", func := "klaxon/klaxonlaw06.JsonAlikes", spec := "jsonAlikes", inPlace := ["internal/bytealg.IndexByteString", "internal/abi.NoEscape", "internal/bytealg.abigen_runtime_cmpstring"], unfollowed := true, recurses := true, apart := false }
def JsonAlikesSaid : Prop := jsonAlikesRow.holds Tryz.pinned (OpenSpec.ofChange jsonAlikesSpec)

/-- ITS FALSE NEIGHBOUR: 'it returns false'. Refute it at one input. -/
def jsonAlikesWrong : ChangeSpec := { name := "jsonAlikes", fn := fun _ => fun
  | [d1, d2] => { results := [.lit (.bool false)], args := [d1, d2] }
  | _ => none }
def JsonAlikesWrongFalsely : Prop := jsonAlikesRow.holds Tryz.pinned (OpenSpec.ofChange jsonAlikesWrong)

/-- 'klaxonlaw12.SubjectRights': WHATEVER THE INPUT: true; the input reads as it did. -/
def subjectRightsSpec : ChangeSpec := { name := "subjectRights", fn := fun _ => fun
  | [d] => { results := [.lit (.bool true)], args := [d] }
  | _ => none }
def subjectRightsRow : OpenClaim := { program := "ytfdijcdpmgkdkaagreat", sum := "27f09054f909710112fd44f093634cb053197404f2ba61395ec58406d7962b16", func := "klaxon/klaxonlaw12.SubjectRights", spec := "subjectRights", inPlace := ["internal/bytealg.IndexByteString", "internal/bytealg.CountString", "internal/bytealg.IndexString", "internal/abi.NoEscape"], unfollowed := true, recurses := true, named := ["internal/bytealg.MaxLen"], apart := false }
def SubjectRightsSaid : Prop := subjectRightsRow.holds Tryz.pinned (OpenSpec.ofChange subjectRightsSpec)

/-- ITS FALSE NEIGHBOUR: 'it returns false'. Refute it at one input. -/
def subjectRightsWrong : ChangeSpec := { name := "subjectRights", fn := fun _ => fun
  | [d] => { results := [.lit (.bool false)], args := [d] }
  | _ => none }
def SubjectRightsWrongFalsely : Prop := subjectRightsRow.holds Tryz.pinned (OpenSpec.ofChange subjectRightsWrong)

/-- 'klaxonlaw12.SubjectReads': WHATEVER THE INPUT: true; the input reads as it did. -/
def subjectReadsSpec : ChangeSpec := { name := "subjectReads", fn := fun _ => fun
  | [d] => { results := [.lit (.bool true)], args := [d] }
  | _ => none }
def subjectReadsRow : OpenClaim := { program := "ytfdijcdpmgkdkaagreat", sum := "27f09054f909710112fd44f093634cb053197404f2ba61395ec58406d7962b16", func := "klaxon/klaxonlaw12.SubjectReads", spec := "subjectReads", inPlace := ["internal/bytealg.IndexByteString", "internal/bytealg.CountString", "internal/bytealg.IndexString", "internal/abi.NoEscape"], unfollowed := true, recurses := true, named := ["internal/bytealg.MaxLen"], apart := false }
def SubjectReadsSaid : Prop := subjectReadsRow.holds Tryz.pinned (OpenSpec.ofChange subjectReadsSpec)

/-- ITS FALSE NEIGHBOUR: 'it returns false'. Refute it at one input. -/
def subjectReadsWrong : ChangeSpec := { name := "subjectReads", fn := fun _ => fun
  | [d] => { results := [.lit (.bool false)], args := [d] }
  | _ => none }
def SubjectReadsWrongFalsely : Prop := subjectReadsRow.holds Tryz.pinned (OpenSpec.ofChange subjectReadsWrong)

/- THE SECOND FORM. 'bulk': how many values and letters a reading holds, each counted each time it is reached (what is shared counts as often as it is met; a slice's spare places count too). A statement '..UptoSaid' is the law's where the arguments, and the package variables that the reading takes, are together of bulk at most 1048576: NARROWER than '..Said'. Prove '..Said' where nothing that the law and all that it calls make is longer than what came in: it says more and counts as full. Else prove '..UptoSaid'. A law counts once. -/
mutual
def uptoBulk {H : Type} : DataW H → Nat
  | .lit (.string bytes) => bytes.length + 1
  | .lit _ => 1
  | .nil => 1
  | .ptr d => uptoBulk d + 1
  | .slice elems spare => uptoBulkAll elems + uptoBulkAll spare + 1
  | .agg parts => uptoBulkAll parts + 1
  | .iface _ d => uptoBulk d + 1
  | .map entries => uptoBulkEntries entries + 1
  | .held _ => 1
def uptoBulkAll {H : Type} : List (DataW H) → Nat
  | [] => 0
  | d :: r => uptoBulk d + uptoBulkAll r
def uptoBulkEntries {H : Type} : List (Lit × DataW H) → Nat
  | [] => 0
  | x :: r => uptoBulkEntry x + uptoBulkEntries r
def uptoBulkEntry {H : Type} : Lit × DataW H → Nat
  | (.string bytes, d) => bytes.length + uptoBulk d + 1
  | (_, d) => uptoBulk d + 1
 end
def uptoSmall : (H : Type) → List (DataW H) → Bool := fun _ ds => decide (uptoBulkAll ds ≤ 1048576)
def OpenSpec.upto (s : _root_.Go.ChangeSpec) : _root_.Go.OpenSpec := { _root_.Go.OpenSpec.ofChange s with cond := some uptoSmall }

/-- 'klaxonlaw06.JsonAlikes', WHERE WHAT IT READS IS OF BULK AT MOST 1048576: true; the input reads as it did. -/
def jsonAlikesUptoRow : OpenClaim := { program := "ytfdijcdpmgkdkaagreat", sum := "27f09054f909710112fd44f093634cb053197404f2ba61395ec58406d7962b16", func := "klaxon/klaxonlaw06.JsonAlikes", spec := "jsonAlikes", inPlace := ["internal/bytealg.IndexByteString", "internal/abi.NoEscape", "internal/bytealg.abigen_runtime_cmpstring"], unfollowed := true, recurses := true, apart := false, narrowed := true }
def JsonAlikesUptoSaid : Prop := jsonAlikesUptoRow.holds Tryz.pinned (OpenSpec.upto jsonAlikesSpec)

/-- 'klaxonlaw12.SubjectRights', WHERE WHAT IT READS IS OF BULK AT MOST 1048576: true; the input reads as it did. -/
def subjectRightsUptoRow : OpenClaim := { program := "ytfdijcdpmgkdkaagreat", sum := "27f09054f909710112fd44f093634cb053197404f2ba61395ec58406d7962b16", func := "klaxon/klaxonlaw12.SubjectRights", spec := "subjectRights", inPlace := ["internal/bytealg.IndexByteString", "internal/bytealg.CountString", "internal/bytealg.IndexString", "internal/abi.NoEscape"], unfollowed := true, recurses := true, named := ["internal/bytealg.MaxLen"], apart := false, narrowed := true }
def SubjectRightsUptoSaid : Prop := subjectRightsUptoRow.holds Tryz.pinned (OpenSpec.upto subjectRightsSpec)

/-- 'klaxonlaw12.SubjectReads', WHERE WHAT IT READS IS OF BULK AT MOST 1048576: true; the input reads as it did. -/
def subjectReadsUptoRow : OpenClaim := { program := "ytfdijcdpmgkdkaagreat", sum := "27f09054f909710112fd44f093634cb053197404f2ba61395ec58406d7962b16", func := "klaxon/klaxonlaw12.SubjectReads", spec := "subjectReads", inPlace := ["internal/bytealg.IndexByteString", "internal/bytealg.CountString", "internal/bytealg.IndexString", "internal/abi.NoEscape"], unfollowed := true, recurses := true, named := ["internal/bytealg.MaxLen"], apart := false, narrowed := true }
def SubjectReadsUptoSaid : Prop := subjectReadsUptoRow.holds Tryz.pinned (OpenSpec.upto subjectReadsSpec)

end Rows
end Go.Proofs.YtfdijcdpmgkdkaaGreat
