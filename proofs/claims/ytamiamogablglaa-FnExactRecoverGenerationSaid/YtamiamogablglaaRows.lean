/-
  No cell of these rows narrows 'for every input' (looked for: loops, veiled, ifaces, maps, wideKeys, modest, calm, conditions, laid).
  DERIVED. THE GIVEN ROWS OF THIS SEAT. 12 by the template 'for every input the law returns true; each argument reads behind the call as it read before'; 0 by the template 'total and deterministic' (their statements: YtamiamogablglaaTotals.lean).
  GIVEN WITH THE SEED: the statements are not yours to turn. If you find one false, say at which input.
  Laid BY PROGRAM, IN A SANDBOX (cutbox-rows.mjs): the forced cells as the released guide's own fill.sh prints them over the translation 9c05854f8705cae8… (all of the seat's roots in one cut). By AI agents, Wed Nov 11 2026. No macro, syntax, notation, axiom, sorry.
-/
import Derived.Test.YtamiamogablglaaChecked
import GoSem.Claim
import GoSem.ClaimJoined
import GoSem.ClaimMapViews
import Derived.JoinedTies
import Derived.KernelRfl
namespace Go.Proofs.Ytamiamogablglaa
/- THE CELL 'sum', in the pinned program and in every row, IS THE sha256 OF THE DUMP (.gsa) THAT YtamiamogablglaaProg.lean LOADS. Nothing in Lean hashes anything: it is a label: what it is worth is what the hold of that sum in a sandbox is worth. -/
noncomputable def Try.pinned : Pinned := { name := "ytamiamogablglaa", sum := "9c05854f8705cae8f2b472efe21d6d64c86f7ba0135ac489e0b200b3a6eaa4ea", checked := Try.checked }
namespace Rows
def none {H : Type} : Left H := { results := [], args := [] }

/-- 'laws.FnExactIsValidDecoder': WHATEVER THE INPUT: true; the input reads as it did. -/
def fnExactIsValidDecoderSpec : ChangeSpec := { name := "fnExactIsValidDecoder", fn := fun _ => fun
  | [d] => { results := [.lit (.bool true)], args := [d] }
  | _ => none }
def fnExactIsValidDecoderRow : OpenClaim := { program := "ytamiamogablglaa", sum := "9c05854f8705cae8f2b472efe21d6d64c86f7ba0135ac489e0b200b3a6eaa4ea", func := "loop.example/g00513/laws.FnExactIsValidDecoder", spec := "fnExactIsValidDecoder", unfollowed := true, recurses := true, apart := false }
def FnExactIsValidDecoderSaid : Prop := fnExactIsValidDecoderRow.holds Try.pinned (OpenSpec.ofChange fnExactIsValidDecoderSpec)

/-- ITS FALSE NEIGHBOUR: 'it returns false'. Refute it at one input. -/
def fnExactIsValidDecoderWrong : ChangeSpec := { name := "fnExactIsValidDecoder", fn := fun _ => fun
  | [d] => { results := [.lit (.bool false)], args := [d] }
  | _ => none }
def FnExactIsValidDecoderWrongFalsely : Prop := fnExactIsValidDecoderRow.holds Try.pinned (OpenSpec.ofChange fnExactIsValidDecoderWrong)

/-- 'laws.FnExactMissingDegrees': WHATEVER THE INPUT: true; the input reads as it did. -/
def fnExactMissingDegreesSpec : ChangeSpec := { name := "fnExactMissingDegrees", fn := fun _ => fun
  | [d] => { results := [.lit (.bool true)], args := [d] }
  | _ => none }
def fnExactMissingDegreesRow : OpenClaim := { program := "ytamiamogablglaa", sum := "9c05854f8705cae8f2b472efe21d6d64c86f7ba0135ac489e0b200b3a6eaa4ea", func := "loop.example/g00513/laws.FnExactMissingDegrees", spec := "fnExactMissingDegrees", unfollowed := true, recurses := true, apart := false }
def FnExactMissingDegreesSaid : Prop := fnExactMissingDegreesRow.holds Try.pinned (OpenSpec.ofChange fnExactMissingDegreesSpec)

/-- ITS FALSE NEIGHBOUR: 'it returns false'. Refute it at one input. -/
def fnExactMissingDegreesWrong : ChangeSpec := { name := "fnExactMissingDegrees", fn := fun _ => fun
  | [d] => { results := [.lit (.bool false)], args := [d] }
  | _ => none }
def FnExactMissingDegreesWrongFalsely : Prop := fnExactMissingDegreesRow.holds Try.pinned (OpenSpec.ofChange fnExactMissingDegreesWrong)

/-- 'laws.FnExactIsComplete': WHATEVER THE INPUT: true; the input reads as it did. -/
def fnExactIsCompleteSpec : ChangeSpec := { name := "fnExactIsComplete", fn := fun _ => fun
  | [d] => { results := [.lit (.bool true)], args := [d] }
  | _ => none }
def fnExactIsCompleteRow : OpenClaim := { program := "ytamiamogablglaa", sum := "9c05854f8705cae8f2b472efe21d6d64c86f7ba0135ac489e0b200b3a6eaa4ea", func := "loop.example/g00513/laws.FnExactIsComplete", spec := "fnExactIsComplete", unfollowed := true, recurses := true, apart := false }
def FnExactIsCompleteSaid : Prop := fnExactIsCompleteRow.holds Try.pinned (OpenSpec.ofChange fnExactIsCompleteSpec)

/-- ITS FALSE NEIGHBOUR: 'it returns false'. Refute it at one input. -/
def fnExactIsCompleteWrong : ChangeSpec := { name := "fnExactIsComplete", fn := fun _ => fun
  | [d] => { results := [.lit (.bool false)], args := [d] }
  | _ => none }
def FnExactIsCompleteWrongFalsely : Prop := fnExactIsCompleteRow.holds Try.pinned (OpenSpec.ofChange fnExactIsCompleteWrong)

/-- 'laws.FnExactMakeFeedback': WHATEVER THE INPUT: true; the input reads as it did. -/
def fnExactMakeFeedbackSpec : ChangeSpec := { name := "fnExactMakeFeedback", fn := fun _ => fun
  | [d1, d2] => { results := [.lit (.bool true)], args := [d1, d2] }
  | _ => none }
def fnExactMakeFeedbackRow : OpenClaim := { program := "ytamiamogablglaa", sum := "9c05854f8705cae8f2b472efe21d6d64c86f7ba0135ac489e0b200b3a6eaa4ea", func := "loop.example/g00513/laws.FnExactMakeFeedback", spec := "fnExactMakeFeedback", unfollowed := true, recurses := true, apart := false }
def FnExactMakeFeedbackSaid : Prop := fnExactMakeFeedbackRow.holds Try.pinned (OpenSpec.ofChange fnExactMakeFeedbackSpec)

/-- ITS FALSE NEIGHBOUR: 'it returns false'. Refute it at one input. -/
def fnExactMakeFeedbackWrong : ChangeSpec := { name := "fnExactMakeFeedback", fn := fun _ => fun
  | [d1, d2] => { results := [.lit (.bool false)], args := [d1, d2] }
  | _ => none }
def FnExactMakeFeedbackWrongFalsely : Prop := fnExactMakeFeedbackRow.holds Try.pinned (OpenSpec.ofChange fnExactMakeFeedbackWrong)

/-- 'laws.FnExactCountDecoded': WHATEVER THE INPUT: true; the input reads as it did. -/
def fnExactCountDecodedSpec : ChangeSpec := { name := "fnExactCountDecoded", fn := fun _ => fun
  | [d] => { results := [.lit (.bool true)], args := [d] }
  | _ => none }
def fnExactCountDecodedRow : OpenClaim := { program := "ytamiamogablglaa", sum := "9c05854f8705cae8f2b472efe21d6d64c86f7ba0135ac489e0b200b3a6eaa4ea", func := "loop.example/g00513/laws.FnExactCountDecoded", spec := "fnExactCountDecoded", unfollowed := true, recurses := true, apart := false }
def FnExactCountDecodedSaid : Prop := fnExactCountDecodedRow.holds Try.pinned (OpenSpec.ofChange fnExactCountDecodedSpec)

/-- ITS FALSE NEIGHBOUR: 'it returns false'. Refute it at one input. -/
def fnExactCountDecodedWrong : ChangeSpec := { name := "fnExactCountDecoded", fn := fun _ => fun
  | [d] => { results := [.lit (.bool false)], args := [d] }
  | _ => none }
def FnExactCountDecodedWrongFalsely : Prop := fnExactCountDecodedRow.holds Try.pinned (OpenSpec.ofChange fnExactCountDecodedWrong)

/-- 'laws.FnExactDecodedSymbol': WHATEVER THE INPUT: true; the input reads as it did. -/
def fnExactDecodedSymbolSpec : ChangeSpec := { name := "fnExactDecodedSymbol", fn := fun _ => fun
  | [d1, d2] => { results := [.lit (.bool true)], args := [d1, d2] }
  | _ => none }
def fnExactDecodedSymbolRow : OpenClaim := { program := "ytamiamogablglaa", sum := "9c05854f8705cae8f2b472efe21d6d64c86f7ba0135ac489e0b200b3a6eaa4ea", func := "loop.example/g00513/laws.FnExactDecodedSymbol", spec := "fnExactDecodedSymbol", unfollowed := true, recurses := true, apart := false }
def FnExactDecodedSymbolSaid : Prop := fnExactDecodedSymbolRow.holds Try.pinned (OpenSpec.ofChange fnExactDecodedSymbolSpec)

/-- ITS FALSE NEIGHBOUR: 'it returns false'. Refute it at one input. -/
def fnExactDecodedSymbolWrong : ChangeSpec := { name := "fnExactDecodedSymbol", fn := fun _ => fun
  | [d1, d2] => { results := [.lit (.bool false)], args := [d1, d2] }
  | _ => none }
def FnExactDecodedSymbolWrongFalsely : Prop := fnExactDecodedSymbolRow.holds Try.pinned (OpenSpec.ofChange fnExactDecodedSymbolWrong)

/-- 'laws.FnExactRecoverGeneration': WHATEVER THE INPUT: true; the input reads as it did. -/
def fnExactRecoverGenerationSpec : ChangeSpec := { name := "fnExactRecoverGeneration", fn := fun _ => fun
  | [d] => { results := [.lit (.bool true)], args := [d] }
  | _ => none }
def fnExactRecoverGenerationRow : OpenClaim := { program := "ytamiamogablglaa", sum := "9c05854f8705cae8f2b472efe21d6d64c86f7ba0135ac489e0b200b3a6eaa4ea", func := "loop.example/g00513/laws.FnExactRecoverGeneration", spec := "fnExactRecoverGeneration", unfollowed := true, recurses := true, apart := false }
def FnExactRecoverGenerationSaid : Prop := fnExactRecoverGenerationRow.holds Try.pinned (OpenSpec.ofChange fnExactRecoverGenerationSpec)

/-- ITS FALSE NEIGHBOUR: 'it returns false'. Refute it at one input. -/
def fnExactRecoverGenerationWrong : ChangeSpec := { name := "fnExactRecoverGeneration", fn := fun _ => fun
  | [d] => { results := [.lit (.bool false)], args := [d] }
  | _ => none }
def FnExactRecoverGenerationWrongFalsely : Prop := fnExactRecoverGenerationRow.holds Try.pinned (OpenSpec.ofChange fnExactRecoverGenerationWrong)

/-- 'laws.FnExactIsValidRecoder': WHATEVER THE INPUT: true; the input reads as it did. -/
def fnExactIsValidRecoderSpec : ChangeSpec := { name := "fnExactIsValidRecoder", fn := fun _ => fun
  | [d] => { results := [.lit (.bool true)], args := [d] }
  | _ => none }
def fnExactIsValidRecoderRow : OpenClaim := { program := "ytamiamogablglaa", sum := "9c05854f8705cae8f2b472efe21d6d64c86f7ba0135ac489e0b200b3a6eaa4ea", func := "loop.example/g00513/laws.FnExactIsValidRecoder", spec := "fnExactIsValidRecoder", inPlace := ["slices.overlaps[[]int]"], unfollowed := true, recurses := true, apart := false }
def FnExactIsValidRecoderSaid : Prop := fnExactIsValidRecoderRow.holds Try.pinned (OpenSpec.ofChange fnExactIsValidRecoderSpec)

/-- ITS FALSE NEIGHBOUR: 'it returns false'. Refute it at one input. -/
def fnExactIsValidRecoderWrong : ChangeSpec := { name := "fnExactIsValidRecoder", fn := fun _ => fun
  | [d] => { results := [.lit (.bool false)], args := [d] }
  | _ => none }
def FnExactIsValidRecoderWrongFalsely : Prop := fnExactIsValidRecoderRow.holds Try.pinned (OpenSpec.ofChange fnExactIsValidRecoderWrong)

/-- 'laws.FnExactRecoderRank': WHATEVER THE INPUT: true; the input reads as it did. -/
def fnExactRecoderRankSpec : ChangeSpec := { name := "fnExactRecoderRank", fn := fun _ => fun
  | [d] => { results := [.lit (.bool true)], args := [d] }
  | _ => none }
def fnExactRecoderRankRow : OpenClaim := { program := "ytamiamogablglaa", sum := "9c05854f8705cae8f2b472efe21d6d64c86f7ba0135ac489e0b200b3a6eaa4ea", func := "loop.example/g00513/laws.FnExactRecoderRank", spec := "fnExactRecoderRank", inPlace := ["slices.overlaps[[]int]"], unfollowed := true, recurses := true, apart := false }
def FnExactRecoderRankSaid : Prop := fnExactRecoderRankRow.holds Try.pinned (OpenSpec.ofChange fnExactRecoderRankSpec)

/-- ITS FALSE NEIGHBOUR: 'it returns false'. Refute it at one input. -/
def fnExactRecoderRankWrong : ChangeSpec := { name := "fnExactRecoderRank", fn := fun _ => fun
  | [d] => { results := [.lit (.bool false)], args := [d] }
  | _ => none }
def FnExactRecoderRankWrongFalsely : Prop := fnExactRecoderRankRow.holds Try.pinned (OpenSpec.ofChange fnExactRecoderRankWrong)

/-- 'laws.FnExactGenerationSpace': WHATEVER THE INPUT: true; the input reads as it did. -/
def fnExactGenerationSpaceSpec : ChangeSpec := { name := "fnExactGenerationSpace", fn := fun _ => fun
  | [d] => { results := [.lit (.bool true)], args := [d] }
  | _ => none }
def fnExactGenerationSpaceRow : OpenClaim := { program := "ytamiamogablglaa", sum := "9c05854f8705cae8f2b472efe21d6d64c86f7ba0135ac489e0b200b3a6eaa4ea", func := "loop.example/g00513/laws.FnExactGenerationSpace", spec := "fnExactGenerationSpace", inPlace := ["slices.overlaps[[]int]"], unfollowed := true, recurses := true, apart := false }
def FnExactGenerationSpaceSaid : Prop := fnExactGenerationSpaceRow.holds Try.pinned (OpenSpec.ofChange fnExactGenerationSpaceSpec)

/-- ITS FALSE NEIGHBOUR: 'it returns false'. Refute it at one input. -/
def fnExactGenerationSpaceWrong : ChangeSpec := { name := "fnExactGenerationSpace", fn := fun _ => fun
  | [d] => { results := [.lit (.bool false)], args := [d] }
  | _ => none }
def FnExactGenerationSpaceWrongFalsely : Prop := fnExactGenerationSpaceRow.holds Try.pinned (OpenSpec.ofChange fnExactGenerationSpaceWrong)

/-- 'laws.FnReports': WHATEVER THE INPUT: true; the input reads as it did. -/
def fnReportsSpec : ChangeSpec := { name := "fnReports", fn := fun _ => fun
  | [d] => { results := [.lit (.bool true)], args := [d] }
  | _ => none }
def fnReportsRow : OpenClaim := { program := "ytamiamogablglaa", sum := "9c05854f8705cae8f2b472efe21d6d64c86f7ba0135ac489e0b200b3a6eaa4ea", func := "loop.example/g00513/laws.FnReports", spec := "fnReports", unfollowed := true, recurses := true, apart := false }
def FnReportsSaid : Prop := fnReportsRow.holds Try.pinned (OpenSpec.ofChange fnReportsSpec)

/-- ITS FALSE NEIGHBOUR: 'it returns false'. Refute it at one input. -/
def fnReportsWrong : ChangeSpec := { name := "fnReports", fn := fun _ => fun
  | [d] => { results := [.lit (.bool false)], args := [d] }
  | _ => none }
def FnReportsWrongFalsely : Prop := fnReportsRow.holds Try.pinned (OpenSpec.ofChange fnReportsWrong)

/-- 'laws.FnPacketCombination': WHATEVER THE INPUT: true; the input reads as it did. -/
def fnPacketCombinationSpec : ChangeSpec := { name := "fnPacketCombination", fn := fun _ => fun
  | [d] => { results := [.lit (.bool true)], args := [d] }
  | _ => none }
def fnPacketCombinationRow : OpenClaim := { program := "ytamiamogablglaa", sum := "9c05854f8705cae8f2b472efe21d6d64c86f7ba0135ac489e0b200b3a6eaa4ea", func := "loop.example/g00513/laws.FnPacketCombination", spec := "fnPacketCombination", apart := false }
def FnPacketCombinationSaid : Prop := fnPacketCombinationRow.holds Try.pinned (OpenSpec.ofChange fnPacketCombinationSpec)

/-- ITS FALSE NEIGHBOUR: 'it returns false'. Refute it at one input. -/
def fnPacketCombinationWrong : ChangeSpec := { name := "fnPacketCombination", fn := fun _ => fun
  | [d] => { results := [.lit (.bool false)], args := [d] }
  | _ => none }
def FnPacketCombinationWrongFalsely : Prop := fnPacketCombinationRow.holds Try.pinned (OpenSpec.ofChange fnPacketCombinationWrong)

/- THE SECOND FORM. 'bulk': how many values and letters a reading holds, each counted each time it is reached (what is shared counts as often as it is met; a slice's spare places count too). A statement '..UptoSaid' is the law's where the arguments, and the package variables that the reading takes, are together of bulk at most 1048576: NARROWER than '..Said'. Prove '..Said' where nothing that the law and all that it calls make is longer than what came in: it says more and counts as full. Else prove '..UptoSaid'. A law counts once. -/
mutual
def uptoBulk {H : Type} : DataW H → Nat
  | .lit (.string bytes) => bytes.length + 1
  | .lit _ => 1
  | .nil => 1
  | .ptr d => uptoBulk d + 1
  | .slice elems spare => uptoBulkAll elems + uptoBulkAll spare + 1
  | .agg parts => uptoBulkAll parts + 1
  | .iface _ d => uptoBulk d + 1
  | .map entries => uptoBulkEntries entries + 1
  | .held _ => 1
def uptoBulkAll {H : Type} : List (DataW H) → Nat
  | [] => 0
  | d :: r => uptoBulk d + uptoBulkAll r
def uptoBulkEntries {H : Type} : List (Lit × DataW H) → Nat
  | [] => 0
  | x :: r => uptoBulkEntry x + uptoBulkEntries r
def uptoBulkEntry {H : Type} : Lit × DataW H → Nat
  | (.string bytes, d) => bytes.length + uptoBulk d + 1
  | (_, d) => uptoBulk d + 1
 end
def uptoSmall : (H : Type) → List (DataW H) → Bool := fun _ ds => decide (uptoBulkAll ds ≤ 1048576)
def OpenSpec.upto (s : _root_.Go.ChangeSpec) : _root_.Go.OpenSpec := { _root_.Go.OpenSpec.ofChange s with cond := some uptoSmall }

/-- 'laws.FnExactIsValidDecoder', WHERE WHAT IT READS IS OF BULK AT MOST 1048576: true; the input reads as it did. -/
def fnExactIsValidDecoderUptoRow : OpenClaim := { program := "ytamiamogablglaa", sum := "9c05854f8705cae8f2b472efe21d6d64c86f7ba0135ac489e0b200b3a6eaa4ea", func := "loop.example/g00513/laws.FnExactIsValidDecoder", spec := "fnExactIsValidDecoder", unfollowed := true, recurses := true, apart := false, narrowed := true }
def FnExactIsValidDecoderUptoSaid : Prop := fnExactIsValidDecoderUptoRow.holds Try.pinned (OpenSpec.upto fnExactIsValidDecoderSpec)

/-- 'laws.FnExactMissingDegrees', WHERE WHAT IT READS IS OF BULK AT MOST 1048576: true; the input reads as it did. -/
def fnExactMissingDegreesUptoRow : OpenClaim := { program := "ytamiamogablglaa", sum := "9c05854f8705cae8f2b472efe21d6d64c86f7ba0135ac489e0b200b3a6eaa4ea", func := "loop.example/g00513/laws.FnExactMissingDegrees", spec := "fnExactMissingDegrees", unfollowed := true, recurses := true, apart := false, narrowed := true }
def FnExactMissingDegreesUptoSaid : Prop := fnExactMissingDegreesUptoRow.holds Try.pinned (OpenSpec.upto fnExactMissingDegreesSpec)

/-- 'laws.FnExactIsComplete', WHERE WHAT IT READS IS OF BULK AT MOST 1048576: true; the input reads as it did. -/
def fnExactIsCompleteUptoRow : OpenClaim := { program := "ytamiamogablglaa", sum := "9c05854f8705cae8f2b472efe21d6d64c86f7ba0135ac489e0b200b3a6eaa4ea", func := "loop.example/g00513/laws.FnExactIsComplete", spec := "fnExactIsComplete", unfollowed := true, recurses := true, apart := false, narrowed := true }
def FnExactIsCompleteUptoSaid : Prop := fnExactIsCompleteUptoRow.holds Try.pinned (OpenSpec.upto fnExactIsCompleteSpec)

/-- 'laws.FnExactMakeFeedback', WHERE WHAT IT READS IS OF BULK AT MOST 1048576: true; the input reads as it did. -/
def fnExactMakeFeedbackUptoRow : OpenClaim := { program := "ytamiamogablglaa", sum := "9c05854f8705cae8f2b472efe21d6d64c86f7ba0135ac489e0b200b3a6eaa4ea", func := "loop.example/g00513/laws.FnExactMakeFeedback", spec := "fnExactMakeFeedback", unfollowed := true, recurses := true, apart := false, narrowed := true }
def FnExactMakeFeedbackUptoSaid : Prop := fnExactMakeFeedbackUptoRow.holds Try.pinned (OpenSpec.upto fnExactMakeFeedbackSpec)

/-- 'laws.FnExactCountDecoded', WHERE WHAT IT READS IS OF BULK AT MOST 1048576: true; the input reads as it did. -/
def fnExactCountDecodedUptoRow : OpenClaim := { program := "ytamiamogablglaa", sum := "9c05854f8705cae8f2b472efe21d6d64c86f7ba0135ac489e0b200b3a6eaa4ea", func := "loop.example/g00513/laws.FnExactCountDecoded", spec := "fnExactCountDecoded", unfollowed := true, recurses := true, apart := false, narrowed := true }
def FnExactCountDecodedUptoSaid : Prop := fnExactCountDecodedUptoRow.holds Try.pinned (OpenSpec.upto fnExactCountDecodedSpec)

/-- 'laws.FnExactDecodedSymbol', WHERE WHAT IT READS IS OF BULK AT MOST 1048576: true; the input reads as it did. -/
def fnExactDecodedSymbolUptoRow : OpenClaim := { program := "ytamiamogablglaa", sum := "9c05854f8705cae8f2b472efe21d6d64c86f7ba0135ac489e0b200b3a6eaa4ea", func := "loop.example/g00513/laws.FnExactDecodedSymbol", spec := "fnExactDecodedSymbol", unfollowed := true, recurses := true, apart := false, narrowed := true }
def FnExactDecodedSymbolUptoSaid : Prop := fnExactDecodedSymbolUptoRow.holds Try.pinned (OpenSpec.upto fnExactDecodedSymbolSpec)

/-- 'laws.FnExactRecoverGeneration', WHERE WHAT IT READS IS OF BULK AT MOST 1048576: true; the input reads as it did. -/
def fnExactRecoverGenerationUptoRow : OpenClaim := { program := "ytamiamogablglaa", sum := "9c05854f8705cae8f2b472efe21d6d64c86f7ba0135ac489e0b200b3a6eaa4ea", func := "loop.example/g00513/laws.FnExactRecoverGeneration", spec := "fnExactRecoverGeneration", unfollowed := true, recurses := true, apart := false, narrowed := true }
def FnExactRecoverGenerationUptoSaid : Prop := fnExactRecoverGenerationUptoRow.holds Try.pinned (OpenSpec.upto fnExactRecoverGenerationSpec)

/-- 'laws.FnExactIsValidRecoder', WHERE WHAT IT READS IS OF BULK AT MOST 1048576: true; the input reads as it did. -/
def fnExactIsValidRecoderUptoRow : OpenClaim := { program := "ytamiamogablglaa", sum := "9c05854f8705cae8f2b472efe21d6d64c86f7ba0135ac489e0b200b3a6eaa4ea", func := "loop.example/g00513/laws.FnExactIsValidRecoder", spec := "fnExactIsValidRecoder", inPlace := ["slices.overlaps[[]int]"], unfollowed := true, recurses := true, apart := false, narrowed := true }
def FnExactIsValidRecoderUptoSaid : Prop := fnExactIsValidRecoderUptoRow.holds Try.pinned (OpenSpec.upto fnExactIsValidRecoderSpec)

/-- 'laws.FnExactRecoderRank', WHERE WHAT IT READS IS OF BULK AT MOST 1048576: true; the input reads as it did. -/
def fnExactRecoderRankUptoRow : OpenClaim := { program := "ytamiamogablglaa", sum := "9c05854f8705cae8f2b472efe21d6d64c86f7ba0135ac489e0b200b3a6eaa4ea", func := "loop.example/g00513/laws.FnExactRecoderRank", spec := "fnExactRecoderRank", inPlace := ["slices.overlaps[[]int]"], unfollowed := true, recurses := true, apart := false, narrowed := true }
def FnExactRecoderRankUptoSaid : Prop := fnExactRecoderRankUptoRow.holds Try.pinned (OpenSpec.upto fnExactRecoderRankSpec)

/-- 'laws.FnExactGenerationSpace', WHERE WHAT IT READS IS OF BULK AT MOST 1048576: true; the input reads as it did. -/
def fnExactGenerationSpaceUptoRow : OpenClaim := { program := "ytamiamogablglaa", sum := "9c05854f8705cae8f2b472efe21d6d64c86f7ba0135ac489e0b200b3a6eaa4ea", func := "loop.example/g00513/laws.FnExactGenerationSpace", spec := "fnExactGenerationSpace", inPlace := ["slices.overlaps[[]int]"], unfollowed := true, recurses := true, apart := false, narrowed := true }
def FnExactGenerationSpaceUptoSaid : Prop := fnExactGenerationSpaceUptoRow.holds Try.pinned (OpenSpec.upto fnExactGenerationSpaceSpec)

/-- 'laws.FnReports', WHERE WHAT IT READS IS OF BULK AT MOST 1048576: true; the input reads as it did. -/
def fnReportsUptoRow : OpenClaim := { program := "ytamiamogablglaa", sum := "9c05854f8705cae8f2b472efe21d6d64c86f7ba0135ac489e0b200b3a6eaa4ea", func := "loop.example/g00513/laws.FnReports", spec := "fnReports", unfollowed := true, recurses := true, apart := false, narrowed := true }
def FnReportsUptoSaid : Prop := fnReportsUptoRow.holds Try.pinned (OpenSpec.upto fnReportsSpec)

/-- 'laws.FnPacketCombination', WHERE WHAT IT READS IS OF BULK AT MOST 1048576: true; the input reads as it did. -/
def fnPacketCombinationUptoRow : OpenClaim := { program := "ytamiamogablglaa", sum := "9c05854f8705cae8f2b472efe21d6d64c86f7ba0135ac489e0b200b3a6eaa4ea", func := "loop.example/g00513/laws.FnPacketCombination", spec := "fnPacketCombination", apart := false, narrowed := true }
def FnPacketCombinationUptoSaid : Prop := fnPacketCombinationUptoRow.holds Try.pinned (OpenSpec.upto fnPacketCombinationSpec)

end Rows
end Go.Proofs.Ytamiamogablglaa
