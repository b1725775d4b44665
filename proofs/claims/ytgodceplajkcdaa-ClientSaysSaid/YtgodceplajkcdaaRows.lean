/-
  No cell of these rows narrows 'for every input' (looked for: loops, veiled, ifaces, maps, wideKeys, modest, calm, conditions, laid).
  DERIVED. THE GIVEN ROWS OF THIS SEAT. 17 by the template 'for every input the law returns true; each argument reads behind the call as it read before'; 0 by the template 'total and deterministic' (their statements: YtgodceplajkcdaaTotals.lean).
  GIVEN WITH THE SEED: the statements are not yours to turn. If you find one false, say at which input.
  Laid BY PROGRAM, IN A SANDBOX (cutbox-rows.mjs): the forced cells as the released guide's own fill.sh prints them over the translation d84a77df84d1851a… (all of the seat's roots in one cut). By AI agents, Wed Nov 11 2026. No macro, syntax, notation, axiom, sorry.
-/
import Derived.Test.YtgodceplajkcdaaChecked
import GoSem.Claim
import GoSem.ClaimJoined
import GoSem.ClaimMapViews
import Derived.JoinedTies
import Derived.KernelRfl
namespace Go.Proofs.Ytgodceplajkcdaa
/- THE CELL 'sum', in the pinned program and in every row, IS THE sha256 OF THE DUMP (.gsa) THAT YtgodceplajkcdaaProg.lean LOADS. Nothing in Lean hashes anything: it is a label: what it is worth is what the hold of that sum in a sandbox is worth. -/
noncomputable def Try.pinned : Pinned := { name := "ytgodceplajkcdaa", sum := "d84a77df84d1851a5470cd40f840c68931ed2ef88e2c884d255bd53517ddb97a", checked := Try.checked }
namespace Rows
def none {H : Type} : Left H := { results := [], args := [] }

/-- 'manyhandslaw.Names': WHATEVER THE INPUT: true; the input reads as it did. -/
def namesSpec : ChangeSpec := { name := "names", fn := fun _ => fun
  | [] => { results := [.lit (.bool true)], args := [] }
  | _ => none }
def namesRow : OpenClaim := { program := "ytgodceplajkcdaa", sum := "d84a77df84d1851a5470cd40f840c68931ed2ef88e2c884d255bd53517ddb97a", func := "manyhands/manyhandslaw.Names", spec := "names", apart := false }
def NamesSaid : Prop := namesRow.holds Try.pinned (OpenSpec.ofChange namesSpec)

/-- ITS FALSE NEIGHBOUR: 'it returns false'. Refute it at one input. -/
def namesWrong : ChangeSpec := { name := "names", fn := fun _ => fun
  | [] => { results := [.lit (.bool false)], args := [] }
  | _ => none }
def NamesWrongFalsely : Prop := namesRow.holds Try.pinned (OpenSpec.ofChange namesWrong)

/-- 'manyhandslaw.TokenParts': WHATEVER THE INPUT: true; the input reads as it did. -/
def tokenPartsSpec : ChangeSpec := { name := "tokenParts", fn := fun _ => fun
  | [d1, d2] => { results := [.lit (.bool true)], args := [d1, d2] }
  | _ => none }
def tokenPartsRow : OpenClaim := { program := "ytgodceplajkcdaa", sum := "d84a77df84d1851a5470cd40f840c68931ed2ef88e2c884d255bd53517ddb97a", func := "manyhands/manyhandslaw.TokenParts", spec := "tokenParts", inPlace := ["internal/abi.NoEscape", "internal/bytealg.IndexByteString", "internal/bytealg.IndexString"], unfollowed := true, recurses := true, named := ["internal/bytealg.MaxLen"], apart := false }
def TokenPartsSaid : Prop := tokenPartsRow.holds Try.pinned (OpenSpec.ofChange tokenPartsSpec)

/-- ITS FALSE NEIGHBOUR: 'it returns false'. Refute it at one input. -/
def tokenPartsWrong : ChangeSpec := { name := "tokenParts", fn := fun _ => fun
  | [d1, d2] => { results := [.lit (.bool false)], args := [d1, d2] }
  | _ => none }
def TokenPartsWrongFalsely : Prop := tokenPartsRow.holds Try.pinned (OpenSpec.ofChange tokenPartsWrong)

/-- 'manyhandslaw.DocRuns': WHATEVER THE INPUT: true; the input reads as it did. -/
def docRunsSpec : ChangeSpec := { name := "docRuns", fn := fun _ => fun
  | [d] => { results := [.lit (.bool true)], args := [d] }
  | _ => none }
def docRunsRow : OpenClaim := { program := "ytgodceplajkcdaa", sum := "d84a77df84d1851a5470cd40f840c68931ed2ef88e2c884d255bd53517ddb97a", func := "manyhands/manyhandslaw.DocRuns", spec := "docRuns", inPlace := ["internal/bytealg.IndexByteString", "internal/bytealg.IndexString"], unfollowed := true, recurses := true, named := ["internal/bytealg.MaxLen"], apart := false }
def DocRunsSaid : Prop := docRunsRow.holds Try.pinned (OpenSpec.ofChange docRunsSpec)

/-- ITS FALSE NEIGHBOUR: 'it returns false'. Refute it at one input. -/
def docRunsWrong : ChangeSpec := { name := "docRuns", fn := fun _ => fun
  | [d] => { results := [.lit (.bool false)], args := [d] }
  | _ => none }
def DocRunsWrongFalsely : Prop := docRunsRow.holds Try.pinned (OpenSpec.ofChange docRunsWrong)

/-- 'manyhandslaw.DocSays': WHATEVER THE INPUT: true; the input reads as it did. -/
def docSaysSpec : ChangeSpec := { name := "docSays", fn := fun _ => fun
  | [d1, d2, d3] => { results := [.lit (.bool true)], args := [d1, d2, d3] }
  | _ => none }
def docSaysRow : OpenClaim := { program := "ytgodceplajkcdaa", sum := "d84a77df84d1851a5470cd40f840c68931ed2ef88e2c884d255bd53517ddb97a", func := "manyhands/manyhandslaw.DocSays", spec := "docSays", inPlace := ["internal/bytealg.IndexByteString", "internal/bytealg.IndexString"], unfollowed := true, recurses := true, named := ["internal/bytealg.MaxLen"], apart := false }
def DocSaysSaid : Prop := docSaysRow.holds Try.pinned (OpenSpec.ofChange docSaysSpec)

/-- ITS FALSE NEIGHBOUR: 'it returns false'. Refute it at one input. -/
def docSaysWrong : ChangeSpec := { name := "docSays", fn := fun _ => fun
  | [d1, d2, d3] => { results := [.lit (.bool false)], args := [d1, d2, d3] }
  | _ => none }
def DocSaysWrongFalsely : Prop := docSaysRow.holds Try.pinned (OpenSpec.ofChange docSaysWrong)

/-- 'manyhandslaw.OpNothing': WHATEVER THE INPUT: true; the input reads as it did. -/
def opNothingSpec : ChangeSpec := { name := "opNothing", fn := fun _ => fun
  | [d1, d2] => { results := [.lit (.bool true)], args := [d1, d2] }
  | _ => none }
def opNothingRow : OpenClaim := { program := "ytgodceplajkcdaa", sum := "d84a77df84d1851a5470cd40f840c68931ed2ef88e2c884d255bd53517ddb97a", func := "manyhands/manyhandslaw.OpNothing", spec := "opNothing", inPlace := ["internal/bytealg.IndexByteString", "internal/bytealg.IndexString"], unfollowed := true, recurses := true, named := ["internal/bytealg.MaxLen"], apart := false }
def OpNothingSaid : Prop := opNothingRow.holds Try.pinned (OpenSpec.ofChange opNothingSpec)

/-- ITS FALSE NEIGHBOUR: 'it returns false'. Refute it at one input. -/
def opNothingWrong : ChangeSpec := { name := "opNothing", fn := fun _ => fun
  | [d1, d2] => { results := [.lit (.bool false)], args := [d1, d2] }
  | _ => none }
def OpNothingWrongFalsely : Prop := opNothingRow.holds Try.pinned (OpenSpec.ofChange opNothingWrong)

/-- 'manyhandslaw.OpKeeps': WHATEVER THE INPUT: true; the input reads as it did. -/
def opKeepsSpec : ChangeSpec := { name := "opKeeps", fn := fun _ => fun
  | [d1, d2] => { results := [.lit (.bool true)], args := [d1, d2] }
  | _ => none }
def opKeepsRow : OpenClaim := { program := "ytgodceplajkcdaa", sum := "d84a77df84d1851a5470cd40f840c68931ed2ef88e2c884d255bd53517ddb97a", func := "manyhands/manyhandslaw.OpKeeps", spec := "opKeeps", inPlace := ["internal/bytealg.IndexByteString", "internal/bytealg.IndexString"], unfollowed := true, recurses := true, named := ["internal/bytealg.MaxLen"], apart := false }
def OpKeepsSaid : Prop := opKeepsRow.holds Try.pinned (OpenSpec.ofChange opKeepsSpec)

/-- ITS FALSE NEIGHBOUR: 'it returns false'. Refute it at one input. -/
def opKeepsWrong : ChangeSpec := { name := "opKeeps", fn := fun _ => fun
  | [d1, d2] => { results := [.lit (.bool false)], args := [d1, d2] }
  | _ => none }
def OpKeepsWrongFalsely : Prop := opKeepsRow.holds Try.pinned (OpenSpec.ofChange opKeepsWrong)

/-- 'manyhandslaw.OpSays': WHATEVER THE INPUT: true; the input reads as it did. -/
def opSaysSpec : ChangeSpec := { name := "opSays", fn := fun _ => fun
  | [d1, d2, d3] => { results := [.lit (.bool true)], args := [d1, d2, d3] }
  | _ => none }
def opSaysRow : OpenClaim := { program := "ytgodceplajkcdaa", sum := "d84a77df84d1851a5470cd40f840c68931ed2ef88e2c884d255bd53517ddb97a", func := "manyhands/manyhandslaw.OpSays", spec := "opSays", inPlace := ["internal/bytealg.IndexByteString", "internal/bytealg.IndexString"], unfollowed := true, recurses := true, named := ["internal/bytealg.MaxLen"], apart := false }
def OpSaysSaid : Prop := opSaysRow.holds Try.pinned (OpenSpec.ofChange opSaysSpec)

/-- ITS FALSE NEIGHBOUR: 'it returns false'. Refute it at one input. -/
def opSaysWrong : ChangeSpec := { name := "opSays", fn := fun _ => fun
  | [d1, d2, d3] => { results := [.lit (.bool false)], args := [d1, d2, d3] }
  | _ => none }
def OpSaysWrongFalsely : Prop := opSaysRow.holds Try.pinned (OpenSpec.ofChange opSaysWrong)

/-- 'manyhandslaw.OtMeets': WHATEVER THE INPUT: true; the input reads as it did. -/
def otMeetsSpec : ChangeSpec := { name := "otMeets", fn := fun _ => fun
  | [d1, d2, d3] => { results := [.lit (.bool true)], args := [d1, d2, d3] }
  | _ => none }
def otMeetsRow : OpenClaim := { program := "ytgodceplajkcdaa", sum := "d84a77df84d1851a5470cd40f840c68931ed2ef88e2c884d255bd53517ddb97a", func := "manyhands/manyhandslaw.OtMeets", spec := "otMeets", inPlace := ["internal/bytealg.IndexByteString", "internal/bytealg.IndexString"], unfollowed := true, recurses := true, named := ["internal/bytealg.MaxLen"], apart := false }
def OtMeetsSaid : Prop := otMeetsRow.holds Try.pinned (OpenSpec.ofChange otMeetsSpec)

/-- ITS FALSE NEIGHBOUR: 'it returns false'. Refute it at one input. -/
def otMeetsWrong : ChangeSpec := { name := "otMeets", fn := fun _ => fun
  | [d1, d2, d3] => { results := [.lit (.bool false)], args := [d1, d2, d3] }
  | _ => none }
def OtMeetsWrongFalsely : Prop := otMeetsRow.holds Try.pinned (OpenSpec.ofChange otMeetsWrong)

/-- 'manyhandslaw.OtJoins': WHATEVER THE INPUT: true; the input reads as it did. -/
def otJoinsSpec : ChangeSpec := { name := "otJoins", fn := fun _ => fun
  | [d1, d2, d3, d4] => { results := [.lit (.bool true)], args := [d1, d2, d3, d4] }
  | _ => none }
def otJoinsRow : OpenClaim := { program := "ytgodceplajkcdaa", sum := "d84a77df84d1851a5470cd40f840c68931ed2ef88e2c884d255bd53517ddb97a", func := "manyhands/manyhandslaw.OtJoins", spec := "otJoins", inPlace := ["internal/bytealg.IndexByteString", "internal/bytealg.IndexString"], unfollowed := true, recurses := true, named := ["internal/bytealg.MaxLen"], apart := false }
def OtJoinsSaid : Prop := otJoinsRow.holds Try.pinned (OpenSpec.ofChange otJoinsSpec)

/-- ITS FALSE NEIGHBOUR: 'it returns false'. Refute it at one input. -/
def otJoinsWrong : ChangeSpec := { name := "otJoins", fn := fun _ => fun
  | [d1, d2, d3, d4] => { results := [.lit (.bool false)], args := [d1, d2, d3, d4] }
  | _ => none }
def OtJoinsWrongFalsely : Prop := otJoinsRow.holds Try.pinned (OpenSpec.ofChange otJoinsWrong)

/-- 'manyhandslaw.OtNothing': WHATEVER THE INPUT: true; the input reads as it did. -/
def otNothingSpec : ChangeSpec := { name := "otNothing", fn := fun _ => fun
  | [d] => { results := [.lit (.bool true)], args := [d] }
  | _ => none }
def otNothingRow : OpenClaim := { program := "ytgodceplajkcdaa", sum := "d84a77df84d1851a5470cd40f840c68931ed2ef88e2c884d255bd53517ddb97a", func := "manyhands/manyhandslaw.OtNothing", spec := "otNothing", inPlace := ["internal/bytealg.IndexByteString", "internal/bytealg.IndexString"], unfollowed := true, recurses := true, named := ["internal/bytealg.MaxLen"], apart := false }
def OtNothingSaid : Prop := otNothingRow.holds Try.pinned (OpenSpec.ofChange otNothingSpec)

/-- ITS FALSE NEIGHBOUR: 'it returns false'. Refute it at one input. -/
def otNothingWrong : ChangeSpec := { name := "otNothing", fn := fun _ => fun
  | [d] => { results := [.lit (.bool false)], args := [d] }
  | _ => none }
def OtNothingWrongFalsely : Prop := otNothingRow.holds Try.pinned (OpenSpec.ofChange otNothingWrong)

/-- 'manyhandslaw.ServerOrder': WHATEVER THE INPUT: true; the input reads as it did. -/
def serverOrderSpec : ChangeSpec := { name := "serverOrder", fn := fun _ => fun
  | [d1, d2, d3] => { results := [.lit (.bool true)], args := [d1, d2, d3] }
  | _ => none }
def serverOrderRow : OpenClaim := { program := "ytgodceplajkcdaa", sum := "d84a77df84d1851a5470cd40f840c68931ed2ef88e2c884d255bd53517ddb97a", func := "manyhands/manyhandslaw.ServerOrder", spec := "serverOrder", inPlace := ["internal/bytealg.IndexByteString", "internal/bytealg.IndexString"], unfollowed := true, recurses := true, named := ["internal/bytealg.MaxLen"], apart := false }
def ServerOrderSaid : Prop := serverOrderRow.holds Try.pinned (OpenSpec.ofChange serverOrderSpec)

/-- ITS FALSE NEIGHBOUR: 'it returns false'. Refute it at one input. -/
def serverOrderWrong : ChangeSpec := { name := "serverOrder", fn := fun _ => fun
  | [d1, d2, d3] => { results := [.lit (.bool false)], args := [d1, d2, d3] }
  | _ => none }
def ServerOrderWrongFalsely : Prop := serverOrderRow.holds Try.pinned (OpenSpec.ofChange serverOrderWrong)

/-- 'manyhandslaw.ServerFolds': WHATEVER THE INPUT: true; the input reads as it did. -/
def serverFoldsSpec : ChangeSpec := { name := "serverFolds", fn := fun _ => fun
  | [d1, d2, d3] => { results := [.lit (.bool true)], args := [d1, d2, d3] }
  | _ => none }
def serverFoldsRow : OpenClaim := { program := "ytgodceplajkcdaa", sum := "d84a77df84d1851a5470cd40f840c68931ed2ef88e2c884d255bd53517ddb97a", func := "manyhands/manyhandslaw.ServerFolds", spec := "serverFolds", inPlace := ["internal/bytealg.IndexByteString", "internal/bytealg.IndexString"], unfollowed := true, recurses := true, named := ["internal/bytealg.MaxLen"], apart := false }
def ServerFoldsSaid : Prop := serverFoldsRow.holds Try.pinned (OpenSpec.ofChange serverFoldsSpec)

/-- ITS FALSE NEIGHBOUR: 'it returns false'. Refute it at one input. -/
def serverFoldsWrong : ChangeSpec := { name := "serverFolds", fn := fun _ => fun
  | [d1, d2, d3] => { results := [.lit (.bool false)], args := [d1, d2, d3] }
  | _ => none }
def ServerFoldsWrongFalsely : Prop := serverFoldsRow.holds Try.pinned (OpenSpec.ofChange serverFoldsWrong)

/-- 'manyhandslaw.OtSays': WHATEVER THE INPUT: true; the input reads as it did. -/
def otSaysSpec : ChangeSpec := { name := "otSays", fn := fun _ => fun
  | [d1, d2] => { results := [.lit (.bool true)], args := [d1, d2] }
  | _ => none }
def otSaysRow : OpenClaim := { program := "ytgodceplajkcdaa", sum := "d84a77df84d1851a5470cd40f840c68931ed2ef88e2c884d255bd53517ddb97a", func := "manyhands/manyhandslaw.OtSays", spec := "otSays", inPlace := ["internal/bytealg.IndexByteString", "internal/bytealg.IndexString"], unfollowed := true, recurses := true, named := ["internal/bytealg.MaxLen"], apart := false }
def OtSaysSaid : Prop := otSaysRow.holds Try.pinned (OpenSpec.ofChange otSaysSpec)

/-- ITS FALSE NEIGHBOUR: 'it returns false'. Refute it at one input. -/
def otSaysWrong : ChangeSpec := { name := "otSays", fn := fun _ => fun
  | [d1, d2] => { results := [.lit (.bool false)], args := [d1, d2] }
  | _ => none }
def OtSaysWrongFalsely : Prop := otSaysRow.holds Try.pinned (OpenSpec.ofChange otSaysWrong)

/-- 'manyhandslaw.ClientKeeps': WHATEVER THE INPUT: true; the input reads as it did. -/
def clientKeepsSpec : ChangeSpec := { name := "clientKeeps", fn := fun _ => fun
  | [d1, d2, d3, d4] => { results := [.lit (.bool true)], args := [d1, d2, d3, d4] }
  | _ => none }
def clientKeepsRow : OpenClaim := { program := "ytgodceplajkcdaa", sum := "d84a77df84d1851a5470cd40f840c68931ed2ef88e2c884d255bd53517ddb97a", func := "manyhands/manyhandslaw.ClientKeeps", spec := "clientKeeps", inPlace := ["internal/bytealg.IndexByteString", "internal/bytealg.IndexString"], unfollowed := true, recurses := true, named := ["internal/bytealg.MaxLen"], apart := false }
def ClientKeepsSaid : Prop := clientKeepsRow.holds Try.pinned (OpenSpec.ofChange clientKeepsSpec)

/-- ITS FALSE NEIGHBOUR: 'it returns false'. Refute it at one input. -/
def clientKeepsWrong : ChangeSpec := { name := "clientKeeps", fn := fun _ => fun
  | [d1, d2, d3, d4] => { results := [.lit (.bool false)], args := [d1, d2, d3, d4] }
  | _ => none }
def ClientKeepsWrongFalsely : Prop := clientKeepsRow.holds Try.pinned (OpenSpec.ofChange clientKeepsWrong)

/-- 'manyhandslaw.ClientMeets': WHATEVER THE INPUT: true; the input reads as it did. -/
def clientMeetsSpec : ChangeSpec := { name := "clientMeets", fn := fun _ => fun
  | [d1, d2] => { results := [.lit (.bool true)], args := [d1, d2] }
  | _ => none }
def clientMeetsRow : OpenClaim := { program := "ytgodceplajkcdaa", sum := "d84a77df84d1851a5470cd40f840c68931ed2ef88e2c884d255bd53517ddb97a", func := "manyhands/manyhandslaw.ClientMeets", spec := "clientMeets", inPlace := ["internal/bytealg.IndexByteString", "internal/bytealg.IndexString"], unfollowed := true, recurses := true, named := ["internal/bytealg.MaxLen"], apart := false }
def ClientMeetsSaid : Prop := clientMeetsRow.holds Try.pinned (OpenSpec.ofChange clientMeetsSpec)

/-- ITS FALSE NEIGHBOUR: 'it returns false'. Refute it at one input. -/
def clientMeetsWrong : ChangeSpec := { name := "clientMeets", fn := fun _ => fun
  | [d1, d2] => { results := [.lit (.bool false)], args := [d1, d2] }
  | _ => none }
def ClientMeetsWrongFalsely : Prop := clientMeetsRow.holds Try.pinned (OpenSpec.ofChange clientMeetsWrong)

/-- 'manyhandslaw.ClientGoes': WHATEVER THE INPUT: true; the input reads as it did. -/
def clientGoesSpec : ChangeSpec := { name := "clientGoes", fn := fun _ => fun
  | [d1, d2, d3] => { results := [.lit (.bool true)], args := [d1, d2, d3] }
  | _ => none }
def clientGoesRow : OpenClaim := { program := "ytgodceplajkcdaa", sum := "d84a77df84d1851a5470cd40f840c68931ed2ef88e2c884d255bd53517ddb97a", func := "manyhands/manyhandslaw.ClientGoes", spec := "clientGoes", inPlace := ["internal/bytealg.IndexByteString", "internal/bytealg.IndexString"], unfollowed := true, recurses := true, named := ["internal/bytealg.MaxLen"], apart := false }
def ClientGoesSaid : Prop := clientGoesRow.holds Try.pinned (OpenSpec.ofChange clientGoesSpec)

/-- ITS FALSE NEIGHBOUR: 'it returns false'. Refute it at one input. -/
def clientGoesWrong : ChangeSpec := { name := "clientGoes", fn := fun _ => fun
  | [d1, d2, d3] => { results := [.lit (.bool false)], args := [d1, d2, d3] }
  | _ => none }
def ClientGoesWrongFalsely : Prop := clientGoesRow.holds Try.pinned (OpenSpec.ofChange clientGoesWrong)

/-- 'manyhandslaw.ClientSays': WHATEVER THE INPUT: true; the input reads as it did. -/
def clientSaysSpec : ChangeSpec := { name := "clientSays", fn := fun _ => fun
  | [d1, d2, d3, d4, d5] => { results := [.lit (.bool true)], args := [d1, d2, d3, d4, d5] }
  | _ => none }
def clientSaysRow : OpenClaim := { program := "ytgodceplajkcdaa", sum := "d84a77df84d1851a5470cd40f840c68931ed2ef88e2c884d255bd53517ddb97a", func := "manyhands/manyhandslaw.ClientSays", spec := "clientSays", inPlace := ["internal/bytealg.IndexByteString", "internal/bytealg.IndexString"], unfollowed := true, recurses := true, named := ["internal/bytealg.MaxLen"], apart := false }
def ClientSaysSaid : Prop := clientSaysRow.holds Try.pinned (OpenSpec.ofChange clientSaysSpec)

/-- ITS FALSE NEIGHBOUR: 'it returns false'. Refute it at one input. -/
def clientSaysWrong : ChangeSpec := { name := "clientSays", fn := fun _ => fun
  | [d1, d2, d3, d4, d5] => { results := [.lit (.bool false)], args := [d1, d2, d3, d4, d5] }
  | _ => none }
def ClientSaysWrongFalsely : Prop := clientSaysRow.holds Try.pinned (OpenSpec.ofChange clientSaysWrong)

/- THE SECOND FORM. 'bulk': how many values and letters a reading holds, each counted each time it is reached (what is shared counts as often as it is met; a slice's spare places count too). A statement '..UptoSaid' is the law's where the arguments, and the package variables that the reading takes, are together of bulk at most 1048576: NARROWER than '..Said'. Prove '..Said' where nothing that the law and all that it calls make is longer than what came in: it says more and counts as full. Else prove '..UptoSaid'. A law counts once. -/
mutual
def uptoBulk {H : Type} : DataW H → Nat
  | .lit (.string bytes) => bytes.length + 1
  | .lit _ => 1
  | .nil => 1
  | .ptr d => uptoBulk d + 1
  | .slice elems spare => uptoBulkAll elems + uptoBulkAll spare + 1
  | .agg parts => uptoBulkAll parts + 1
  | .iface _ d => uptoBulk d + 1
  | .map entries => uptoBulkEntries entries + 1
  | .held _ => 1
def uptoBulkAll {H : Type} : List (DataW H) → Nat
  | [] => 0
  | d :: r => uptoBulk d + uptoBulkAll r
def uptoBulkEntries {H : Type} : List (Lit × DataW H) → Nat
  | [] => 0
  | x :: r => uptoBulkEntry x + uptoBulkEntries r
def uptoBulkEntry {H : Type} : Lit × DataW H → Nat
  | (.string bytes, d) => bytes.length + uptoBulk d + 1
  | (_, d) => uptoBulk d + 1
 end
def uptoSmall : (H : Type) → List (DataW H) → Bool := fun _ ds => decide (uptoBulkAll ds ≤ 1048576)
def OpenSpec.upto (s : _root_.Go.ChangeSpec) : _root_.Go.OpenSpec := { _root_.Go.OpenSpec.ofChange s with cond := some uptoSmall }

/-- 'manyhandslaw.Names', WHERE WHAT IT READS IS OF BULK AT MOST 1048576: true; the input reads as it did. -/
def namesUptoRow : OpenClaim := { program := "ytgodceplajkcdaa", sum := "d84a77df84d1851a5470cd40f840c68931ed2ef88e2c884d255bd53517ddb97a", func := "manyhands/manyhandslaw.Names", spec := "names", apart := false, narrowed := true }
def NamesUptoSaid : Prop := namesUptoRow.holds Try.pinned (OpenSpec.upto namesSpec)

/-- 'manyhandslaw.TokenParts', WHERE WHAT IT READS IS OF BULK AT MOST 1048576: true; the input reads as it did. -/
def tokenPartsUptoRow : OpenClaim := { program := "ytgodceplajkcdaa", sum := "d84a77df84d1851a5470cd40f840c68931ed2ef88e2c884d255bd53517ddb97a", func := "manyhands/manyhandslaw.TokenParts", spec := "tokenParts", inPlace := ["internal/abi.NoEscape", "internal/bytealg.IndexByteString", "internal/bytealg.IndexString"], unfollowed := true, recurses := true, named := ["internal/bytealg.MaxLen"], apart := false, narrowed := true }
def TokenPartsUptoSaid : Prop := tokenPartsUptoRow.holds Try.pinned (OpenSpec.upto tokenPartsSpec)

/-- 'manyhandslaw.DocRuns', WHERE WHAT IT READS IS OF BULK AT MOST 1048576: true; the input reads as it did. -/
def docRunsUptoRow : OpenClaim := { program := "ytgodceplajkcdaa", sum := "d84a77df84d1851a5470cd40f840c68931ed2ef88e2c884d255bd53517ddb97a", func := "manyhands/manyhandslaw.DocRuns", spec := "docRuns", inPlace := ["internal/bytealg.IndexByteString", "internal/bytealg.IndexString"], unfollowed := true, recurses := true, named := ["internal/bytealg.MaxLen"], apart := false, narrowed := true }
def DocRunsUptoSaid : Prop := docRunsUptoRow.holds Try.pinned (OpenSpec.upto docRunsSpec)

/-- 'manyhandslaw.DocSays', WHERE WHAT IT READS IS OF BULK AT MOST 1048576: true; the input reads as it did. -/
def docSaysUptoRow : OpenClaim := { program := "ytgodceplajkcdaa", sum := "d84a77df84d1851a5470cd40f840c68931ed2ef88e2c884d255bd53517ddb97a", func := "manyhands/manyhandslaw.DocSays", spec := "docSays", inPlace := ["internal/bytealg.IndexByteString", "internal/bytealg.IndexString"], unfollowed := true, recurses := true, named := ["internal/bytealg.MaxLen"], apart := false, narrowed := true }
def DocSaysUptoSaid : Prop := docSaysUptoRow.holds Try.pinned (OpenSpec.upto docSaysSpec)

/-- 'manyhandslaw.OpNothing', WHERE WHAT IT READS IS OF BULK AT MOST 1048576: true; the input reads as it did. -/
def opNothingUptoRow : OpenClaim := { program := "ytgodceplajkcdaa", sum := "d84a77df84d1851a5470cd40f840c68931ed2ef88e2c884d255bd53517ddb97a", func := "manyhands/manyhandslaw.OpNothing", spec := "opNothing", inPlace := ["internal/bytealg.IndexByteString", "internal/bytealg.IndexString"], unfollowed := true, recurses := true, named := ["internal/bytealg.MaxLen"], apart := false, narrowed := true }
def OpNothingUptoSaid : Prop := opNothingUptoRow.holds Try.pinned (OpenSpec.upto opNothingSpec)

/-- 'manyhandslaw.OpKeeps', WHERE WHAT IT READS IS OF BULK AT MOST 1048576: true; the input reads as it did. -/
def opKeepsUptoRow : OpenClaim := { program := "ytgodceplajkcdaa", sum := "d84a77df84d1851a5470cd40f840c68931ed2ef88e2c884d255bd53517ddb97a", func := "manyhands/manyhandslaw.OpKeeps", spec := "opKeeps", inPlace := ["internal/bytealg.IndexByteString", "internal/bytealg.IndexString"], unfollowed := true, recurses := true, named := ["internal/bytealg.MaxLen"], apart := false, narrowed := true }
def OpKeepsUptoSaid : Prop := opKeepsUptoRow.holds Try.pinned (OpenSpec.upto opKeepsSpec)

/-- 'manyhandslaw.OpSays', WHERE WHAT IT READS IS OF BULK AT MOST 1048576: true; the input reads as it did. -/
def opSaysUptoRow : OpenClaim := { program := "ytgodceplajkcdaa", sum := "d84a77df84d1851a5470cd40f840c68931ed2ef88e2c884d255bd53517ddb97a", func := "manyhands/manyhandslaw.OpSays", spec := "opSays", inPlace := ["internal/bytealg.IndexByteString", "internal/bytealg.IndexString"], unfollowed := true, recurses := true, named := ["internal/bytealg.MaxLen"], apart := false, narrowed := true }
def OpSaysUptoSaid : Prop := opSaysUptoRow.holds Try.pinned (OpenSpec.upto opSaysSpec)

/-- 'manyhandslaw.OtMeets', WHERE WHAT IT READS IS OF BULK AT MOST 1048576: true; the input reads as it did. -/
def otMeetsUptoRow : OpenClaim := { program := "ytgodceplajkcdaa", sum := "d84a77df84d1851a5470cd40f840c68931ed2ef88e2c884d255bd53517ddb97a", func := "manyhands/manyhandslaw.OtMeets", spec := "otMeets", inPlace := ["internal/bytealg.IndexByteString", "internal/bytealg.IndexString"], unfollowed := true, recurses := true, named := ["internal/bytealg.MaxLen"], apart := false, narrowed := true }
def OtMeetsUptoSaid : Prop := otMeetsUptoRow.holds Try.pinned (OpenSpec.upto otMeetsSpec)

/-- 'manyhandslaw.OtJoins', WHERE WHAT IT READS IS OF BULK AT MOST 1048576: true; the input reads as it did. -/
def otJoinsUptoRow : OpenClaim := { program := "ytgodceplajkcdaa", sum := "d84a77df84d1851a5470cd40f840c68931ed2ef88e2c884d255bd53517ddb97a", func := "manyhands/manyhandslaw.OtJoins", spec := "otJoins", inPlace := ["internal/bytealg.IndexByteString", "internal/bytealg.IndexString"], unfollowed := true, recurses := true, named := ["internal/bytealg.MaxLen"], apart := false, narrowed := true }
def OtJoinsUptoSaid : Prop := otJoinsUptoRow.holds Try.pinned (OpenSpec.upto otJoinsSpec)

/-- 'manyhandslaw.OtNothing', WHERE WHAT IT READS IS OF BULK AT MOST 1048576: true; the input reads as it did. -/
def otNothingUptoRow : OpenClaim := { program := "ytgodceplajkcdaa", sum := "d84a77df84d1851a5470cd40f840c68931ed2ef88e2c884d255bd53517ddb97a", func := "manyhands/manyhandslaw.OtNothing", spec := "otNothing", inPlace := ["internal/bytealg.IndexByteString", "internal/bytealg.IndexString"], unfollowed := true, recurses := true, named := ["internal/bytealg.MaxLen"], apart := false, narrowed := true }
def OtNothingUptoSaid : Prop := otNothingUptoRow.holds Try.pinned (OpenSpec.upto otNothingSpec)

/-- 'manyhandslaw.ServerOrder', WHERE WHAT IT READS IS OF BULK AT MOST 1048576: true; the input reads as it did. -/
def serverOrderUptoRow : OpenClaim := { program := "ytgodceplajkcdaa", sum := "d84a77df84d1851a5470cd40f840c68931ed2ef88e2c884d255bd53517ddb97a", func := "manyhands/manyhandslaw.ServerOrder", spec := "serverOrder", inPlace := ["internal/bytealg.IndexByteString", "internal/bytealg.IndexString"], unfollowed := true, recurses := true, named := ["internal/bytealg.MaxLen"], apart := false, narrowed := true }
def ServerOrderUptoSaid : Prop := serverOrderUptoRow.holds Try.pinned (OpenSpec.upto serverOrderSpec)

/-- 'manyhandslaw.ServerFolds', WHERE WHAT IT READS IS OF BULK AT MOST 1048576: true; the input reads as it did. -/
def serverFoldsUptoRow : OpenClaim := { program := "ytgodceplajkcdaa", sum := "d84a77df84d1851a5470cd40f840c68931ed2ef88e2c884d255bd53517ddb97a", func := "manyhands/manyhandslaw.ServerFolds", spec := "serverFolds", inPlace := ["internal/bytealg.IndexByteString", "internal/bytealg.IndexString"], unfollowed := true, recurses := true, named := ["internal/bytealg.MaxLen"], apart := false, narrowed := true }
def ServerFoldsUptoSaid : Prop := serverFoldsUptoRow.holds Try.pinned (OpenSpec.upto serverFoldsSpec)

/-- 'manyhandslaw.OtSays', WHERE WHAT IT READS IS OF BULK AT MOST 1048576: true; the input reads as it did. -/
def otSaysUptoRow : OpenClaim := { program := "ytgodceplajkcdaa", sum := "d84a77df84d1851a5470cd40f840c68931ed2ef88e2c884d255bd53517ddb97a", func := "manyhands/manyhandslaw.OtSays", spec := "otSays", inPlace := ["internal/bytealg.IndexByteString", "internal/bytealg.IndexString"], unfollowed := true, recurses := true, named := ["internal/bytealg.MaxLen"], apart := false, narrowed := true }
def OtSaysUptoSaid : Prop := otSaysUptoRow.holds Try.pinned (OpenSpec.upto otSaysSpec)

/-- 'manyhandslaw.ClientKeeps', WHERE WHAT IT READS IS OF BULK AT MOST 1048576: true; the input reads as it did. -/
def clientKeepsUptoRow : OpenClaim := { program := "ytgodceplajkcdaa", sum := "d84a77df84d1851a5470cd40f840c68931ed2ef88e2c884d255bd53517ddb97a", func := "manyhands/manyhandslaw.ClientKeeps", spec := "clientKeeps", inPlace := ["internal/bytealg.IndexByteString", "internal/bytealg.IndexString"], unfollowed := true, recurses := true, named := ["internal/bytealg.MaxLen"], apart := false, narrowed := true }
def ClientKeepsUptoSaid : Prop := clientKeepsUptoRow.holds Try.pinned (OpenSpec.upto clientKeepsSpec)

/-- 'manyhandslaw.ClientMeets', WHERE WHAT IT READS IS OF BULK AT MOST 1048576: true; the input reads as it did. -/
def clientMeetsUptoRow : OpenClaim := { program := "ytgodceplajkcdaa", sum := "d84a77df84d1851a5470cd40f840c68931ed2ef88e2c884d255bd53517ddb97a", func := "manyhands/manyhandslaw.ClientMeets", spec := "clientMeets", inPlace := ["internal/bytealg.IndexByteString", "internal/bytealg.IndexString"], unfollowed := true, recurses := true, named := ["internal/bytealg.MaxLen"], apart := false, narrowed := true }
def ClientMeetsUptoSaid : Prop := clientMeetsUptoRow.holds Try.pinned (OpenSpec.upto clientMeetsSpec)

/-- 'manyhandslaw.ClientGoes', WHERE WHAT IT READS IS OF BULK AT MOST 1048576: true; the input reads as it did. -/
def clientGoesUptoRow : OpenClaim := { program := "ytgodceplajkcdaa", sum := "d84a77df84d1851a5470cd40f840c68931ed2ef88e2c884d255bd53517ddb97a", func := "manyhands/manyhandslaw.ClientGoes", spec := "clientGoes", inPlace := ["internal/bytealg.IndexByteString", "internal/bytealg.IndexString"], unfollowed := true, recurses := true, named := ["internal/bytealg.MaxLen"], apart := false, narrowed := true }
def ClientGoesUptoSaid : Prop := clientGoesUptoRow.holds Try.pinned (OpenSpec.upto clientGoesSpec)

/-- 'manyhandslaw.ClientSays', WHERE WHAT IT READS IS OF BULK AT MOST 1048576: true; the input reads as it did. -/
def clientSaysUptoRow : OpenClaim := { program := "ytgodceplajkcdaa", sum := "d84a77df84d1851a5470cd40f840c68931ed2ef88e2c884d255bd53517ddb97a", func := "manyhands/manyhandslaw.ClientSays", spec := "clientSays", inPlace := ["internal/bytealg.IndexByteString", "internal/bytealg.IndexString"], unfollowed := true, recurses := true, named := ["internal/bytealg.MaxLen"], apart := false, narrowed := true }
def ClientSaysUptoSaid : Prop := clientSaysUptoRow.holds Try.pinned (OpenSpec.upto clientSaysSpec)

end Rows
end Go.Proofs.Ytgodceplajkcdaa
