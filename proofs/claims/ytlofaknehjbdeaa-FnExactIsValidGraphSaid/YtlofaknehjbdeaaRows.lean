/-
  No cell of these rows narrows 'for every input' (looked for: loops, veiled, ifaces, maps, wideKeys, modest, calm, conditions, laid).
  DERIVED. THE GIVEN ROWS OF THIS SEAT. 12 by the template 'for every input the law returns true; each argument reads behind the call as it read before'; 0 by the template 'total and deterministic' (their statements: YtlofaknehjbdeaaTotals.lean).
  GIVEN WITH THE SEED: the statements are not yours to turn. If you find one false, say at which input.
  Laid BY PROGRAM, IN A SANDBOX (cutbox-rows.mjs): the forced cells as the released guide's own fill.sh prints them over the translation 474f86e252e59d0f… (all of the seat's roots in one cut). By AI agents, Wed Nov 11 2026. No macro, syntax, notation, axiom, sorry.
-/
import Derived.Test.YtlofaknehjbdeaaChecked
import GoSem.Claim
import GoSem.ClaimJoined
import GoSem.ClaimMapViews
import Derived.JoinedTies
import Derived.KernelRfl
namespace Go.Proofs.Ytlofaknehjbdeaa
/- THE CELL 'sum', in the pinned program and in every row, IS THE sha256 OF THE DUMP (.gsa) THAT YtlofaknehjbdeaaProg.lean LOADS. Nothing in Lean hashes anything: it is a label: what it is worth is what the hold of that sum in a sandbox is worth. -/
noncomputable def Try.pinned : Pinned := { name := "ytlofaknehjbdeaa", sum := "474f86e252e59d0fa4e483bf55e545423eb255add23be0d575a5ef40f0d8cd0e", checked := Try.checked }
namespace Rows
def none {H : Type} : Left H := { results := [], args := [] }

/-- 'laws.FnExactEqualFeedback': WHATEVER THE INPUT: true; the input reads as it did. -/
def fnExactEqualFeedbackSpec : ChangeSpec := { name := "fnExactEqualFeedback", fn := fun _ => fun
  | [d1, d2] => { results := [.lit (.bool true)], args := [d1, d2] }
  | _ => none }
def fnExactEqualFeedbackRow : OpenClaim := { program := "ytlofaknehjbdeaa", sum := "474f86e252e59d0fa4e483bf55e545423eb255add23be0d575a5ef40f0d8cd0e", func := "loop.example/g00513/laws.FnExactEqualFeedback", spec := "fnExactEqualFeedback", apart := false }
def FnExactEqualFeedbackSaid : Prop := fnExactEqualFeedbackRow.holds Try.pinned (OpenSpec.ofChange fnExactEqualFeedbackSpec)

/-- ITS FALSE NEIGHBOUR: 'it returns false'. Refute it at one input. -/
def fnExactEqualFeedbackWrong : ChangeSpec := { name := "fnExactEqualFeedback", fn := fun _ => fun
  | [d1, d2] => { results := [.lit (.bool false)], args := [d1, d2] }
  | _ => none }
def FnExactEqualFeedbackWrongFalsely : Prop := fnExactEqualFeedbackRow.holds Try.pinned (OpenSpec.ofChange fnExactEqualFeedbackWrong)

/-- 'laws.FnExactGenerationDone': WHATEVER THE INPUT: true; the input reads as it did. -/
def fnExactGenerationDoneSpec : ChangeSpec := { name := "fnExactGenerationDone", fn := fun _ => fun
  | [d1, d2, d3] => { results := [.lit (.bool true)], args := [d1, d2, d3] }
  | _ => none }
def fnExactGenerationDoneRow : OpenClaim := { program := "ytlofaknehjbdeaa", sum := "474f86e252e59d0fa4e483bf55e545423eb255add23be0d575a5ef40f0d8cd0e", func := "loop.example/g00513/laws.FnExactGenerationDone", spec := "fnExactGenerationDone", unfollowed := true, recurses := true, apart := false }
def FnExactGenerationDoneSaid : Prop := fnExactGenerationDoneRow.holds Try.pinned (OpenSpec.ofChange fnExactGenerationDoneSpec)

/-- ITS FALSE NEIGHBOUR: 'it returns false'. Refute it at one input. -/
def fnExactGenerationDoneWrong : ChangeSpec := { name := "fnExactGenerationDone", fn := fun _ => fun
  | [d1, d2, d3] => { results := [.lit (.bool false)], args := [d1, d2, d3] }
  | _ => none }
def FnExactGenerationDoneWrongFalsely : Prop := fnExactGenerationDoneRow.holds Try.pinned (OpenSpec.ofChange fnExactGenerationDoneWrong)

/-- 'laws.FnExactForgetGeneration': WHATEVER THE INPUT: true; the input reads as it did. -/
def fnExactForgetGenerationSpec : ChangeSpec := { name := "fnExactForgetGeneration", fn := fun _ => fun
  | [d1, d2] => { results := [.lit (.bool true)], args := [d1, d2] }
  | _ => none }
def fnExactForgetGenerationRow : OpenClaim := { program := "ytlofaknehjbdeaa", sum := "474f86e252e59d0fa4e483bf55e545423eb255add23be0d575a5ef40f0d8cd0e", func := "loop.example/g00513/laws.FnExactForgetGeneration", spec := "fnExactForgetGeneration", apart := false }
def FnExactForgetGenerationSaid : Prop := fnExactForgetGenerationRow.holds Try.pinned (OpenSpec.ofChange fnExactForgetGenerationSpec)

/-- ITS FALSE NEIGHBOUR: 'it returns false'. Refute it at one input. -/
def fnExactForgetGenerationWrong : ChangeSpec := { name := "fnExactForgetGeneration", fn := fun _ => fun
  | [d1, d2] => { results := [.lit (.bool false)], args := [d1, d2] }
  | _ => none }
def FnExactForgetGenerationWrongFalsely : Prop := fnExactForgetGenerationRow.holds Try.pinned (OpenSpec.ofChange fnExactForgetGenerationWrong)

/-- 'laws.FnExactDegreesNeeded': WHATEVER THE INPUT: true; the input reads as it did. -/
def fnExactDegreesNeededSpec : ChangeSpec := { name := "fnExactDegreesNeeded", fn := fun _ => fun
  | [d1, d2, d3, d4] => { results := [.lit (.bool true)], args := [d1, d2, d3, d4] }
  | _ => none }
def fnExactDegreesNeededRow : OpenClaim := { program := "ytlofaknehjbdeaa", sum := "474f86e252e59d0fa4e483bf55e545423eb255add23be0d575a5ef40f0d8cd0e", func := "loop.example/g00513/laws.FnExactDegreesNeeded", spec := "fnExactDegreesNeeded", unfollowed := true, recurses := true, apart := false }
def FnExactDegreesNeededSaid : Prop := fnExactDegreesNeededRow.holds Try.pinned (OpenSpec.ofChange fnExactDegreesNeededSpec)

/-- ITS FALSE NEIGHBOUR: 'it returns false'. Refute it at one input. -/
def fnExactDegreesNeededWrong : ChangeSpec := { name := "fnExactDegreesNeeded", fn := fun _ => fun
  | [d1, d2, d3, d4] => { results := [.lit (.bool false)], args := [d1, d2, d3, d4] }
  | _ => none }
def FnExactDegreesNeededWrongFalsely : Prop := fnExactDegreesNeededRow.holds Try.pinned (OpenSpec.ofChange fnExactDegreesNeededWrong)

/-- 'laws.FnExactIsValidFeedbackTable': WHATEVER THE INPUT: true; the input reads as it did. -/
def fnExactIsValidFeedbackTableSpec : ChangeSpec := { name := "fnExactIsValidFeedbackTable", fn := fun _ => fun
  | [d] => { results := [.lit (.bool true)], args := [d] }
  | _ => none }
def fnExactIsValidFeedbackTableRow : OpenClaim := { program := "ytlofaknehjbdeaa", sum := "474f86e252e59d0fa4e483bf55e545423eb255add23be0d575a5ef40f0d8cd0e", func := "loop.example/g00513/laws.FnExactIsValidFeedbackTable", spec := "fnExactIsValidFeedbackTable", apart := false }
def FnExactIsValidFeedbackTableSaid : Prop := fnExactIsValidFeedbackTableRow.holds Try.pinned (OpenSpec.ofChange fnExactIsValidFeedbackTableSpec)

/-- ITS FALSE NEIGHBOUR: 'it returns false'. Refute it at one input. -/
def fnExactIsValidFeedbackTableWrong : ChangeSpec := { name := "fnExactIsValidFeedbackTable", fn := fun _ => fun
  | [d] => { results := [.lit (.bool false)], args := [d] }
  | _ => none }
def FnExactIsValidFeedbackTableWrongFalsely : Prop := fnExactIsValidFeedbackTableRow.holds Try.pinned (OpenSpec.ofChange fnExactIsValidFeedbackTableWrong)

/-- 'laws.FnExactRecordFeedback': WHATEVER THE INPUT: true; the input reads as it did. -/
def fnExactRecordFeedbackSpec : ChangeSpec := { name := "fnExactRecordFeedback", fn := fun _ => fun
  | [d1, d2] => { results := [.lit (.bool true)], args := [d1, d2] }
  | _ => none }
def fnExactRecordFeedbackRow : OpenClaim := { program := "ytlofaknehjbdeaa", sum := "474f86e252e59d0fa4e483bf55e545423eb255add23be0d575a5ef40f0d8cd0e", func := "loop.example/g00513/laws.FnExactRecordFeedback", spec := "fnExactRecordFeedback", inPlace := ["slices.overlaps[loop.example/g00513/impl.Feedback]"], unfollowed := true, recurses := true, apart := false }
def FnExactRecordFeedbackSaid : Prop := fnExactRecordFeedbackRow.holds Try.pinned (OpenSpec.ofChange fnExactRecordFeedbackSpec)

/-- ITS FALSE NEIGHBOUR: 'it returns false'. Refute it at one input. -/
def fnExactRecordFeedbackWrong : ChangeSpec := { name := "fnExactRecordFeedback", fn := fun _ => fun
  | [d1, d2] => { results := [.lit (.bool false)], args := [d1, d2] }
  | _ => none }
def FnExactRecordFeedbackWrongFalsely : Prop := fnExactRecordFeedbackRow.holds Try.pinned (OpenSpec.ofChange fnExactRecordFeedbackWrong)

/-- 'laws.FnFeedback': WHATEVER THE INPUT: true; the input reads as it did. -/
def fnFeedbackSpec : ChangeSpec := { name := "fnFeedback", fn := fun _ => fun
  | [d] => { results := [.lit (.bool true)], args := [d] }
  | _ => none }
def fnFeedbackRow : OpenClaim := { program := "ytlofaknehjbdeaa", sum := "474f86e252e59d0fa4e483bf55e545423eb255add23be0d575a5ef40f0d8cd0e", func := "loop.example/g00513/laws.FnFeedback", spec := "fnFeedback", inPlace := ["slices.overlaps[loop.example/g00513/impl.Feedback]"], unfollowed := true, recurses := true, apart := false }
def FnFeedbackSaid : Prop := fnFeedbackRow.holds Try.pinned (OpenSpec.ofChange fnFeedbackSpec)

/-- ITS FALSE NEIGHBOUR: 'it returns false'. Refute it at one input. -/
def fnFeedbackWrong : ChangeSpec := { name := "fnFeedback", fn := fun _ => fun
  | [d] => { results := [.lit (.bool false)], args := [d] }
  | _ => none }
def FnFeedbackWrongFalsely : Prop := fnFeedbackRow.holds Try.pinned (OpenSpec.ofChange fnFeedbackWrong)

/-- 'laws.FnExactEdgeBetween': WHATEVER THE INPUT: true; the input reads as it did. -/
def fnExactEdgeBetweenSpec : ChangeSpec := { name := "fnExactEdgeBetween", fn := fun _ => fun
  | [d1, d2, d3] => { results := [.lit (.bool true)], args := [d1, d2, d3] }
  | _ => none }
def fnExactEdgeBetweenRow : OpenClaim := { program := "ytlofaknehjbdeaa", sum := "474f86e252e59d0fa4e483bf55e545423eb255add23be0d575a5ef40f0d8cd0e", func := "loop.example/g00513/laws.FnExactEdgeBetween", spec := "fnExactEdgeBetween", unfollowed := true, recurses := true, apart := false }
def FnExactEdgeBetweenSaid : Prop := fnExactEdgeBetweenRow.holds Try.pinned (OpenSpec.ofChange fnExactEdgeBetweenSpec)

/-- ITS FALSE NEIGHBOUR: 'it returns false'. Refute it at one input. -/
def fnExactEdgeBetweenWrong : ChangeSpec := { name := "fnExactEdgeBetween", fn := fun _ => fun
  | [d1, d2, d3] => { results := [.lit (.bool false)], args := [d1, d2, d3] }
  | _ => none }
def FnExactEdgeBetweenWrongFalsely : Prop := fnExactEdgeBetweenRow.holds Try.pinned (OpenSpec.ofChange fnExactEdgeBetweenWrong)

/-- 'laws.FnExactEdgesFrom': WHATEVER THE INPUT: true; the input reads as it did. -/
def fnExactEdgesFromSpec : ChangeSpec := { name := "fnExactEdgesFrom", fn := fun _ => fun
  | [d1, d2] => { results := [.lit (.bool true)], args := [d1, d2] }
  | _ => none }
def fnExactEdgesFromRow : OpenClaim := { program := "ytlofaknehjbdeaa", sum := "474f86e252e59d0fa4e483bf55e545423eb255add23be0d575a5ef40f0d8cd0e", func := "loop.example/g00513/laws.FnExactEdgesFrom", spec := "fnExactEdgesFrom", unfollowed := true, recurses := true, apart := false }
def FnExactEdgesFromSaid : Prop := fnExactEdgesFromRow.holds Try.pinned (OpenSpec.ofChange fnExactEdgesFromSpec)

/-- ITS FALSE NEIGHBOUR: 'it returns false'. Refute it at one input. -/
def fnExactEdgesFromWrong : ChangeSpec := { name := "fnExactEdgesFrom", fn := fun _ => fun
  | [d1, d2] => { results := [.lit (.bool false)], args := [d1, d2] }
  | _ => none }
def FnExactEdgesFromWrongFalsely : Prop := fnExactEdgesFromRow.holds Try.pinned (OpenSpec.ofChange fnExactEdgesFromWrong)

/-- 'laws.FnExactEdgesTo': WHATEVER THE INPUT: true; the input reads as it did. -/
def fnExactEdgesToSpec : ChangeSpec := { name := "fnExactEdgesTo", fn := fun _ => fun
  | [d1, d2] => { results := [.lit (.bool true)], args := [d1, d2] }
  | _ => none }
def fnExactEdgesToRow : OpenClaim := { program := "ytlofaknehjbdeaa", sum := "474f86e252e59d0fa4e483bf55e545423eb255add23be0d575a5ef40f0d8cd0e", func := "loop.example/g00513/laws.FnExactEdgesTo", spec := "fnExactEdgesTo", unfollowed := true, recurses := true, apart := false }
def FnExactEdgesToSaid : Prop := fnExactEdgesToRow.holds Try.pinned (OpenSpec.ofChange fnExactEdgesToSpec)

/-- ITS FALSE NEIGHBOUR: 'it returns false'. Refute it at one input. -/
def fnExactEdgesToWrong : ChangeSpec := { name := "fnExactEdgesTo", fn := fun _ => fun
  | [d1, d2] => { results := [.lit (.bool false)], args := [d1, d2] }
  | _ => none }
def FnExactEdgesToWrongFalsely : Prop := fnExactEdgesToRow.holds Try.pinned (OpenSpec.ofChange fnExactEdgesToWrong)

/-- 'laws.FnExactIsValidGraph': WHATEVER THE INPUT: true; the input reads as it did. -/
def fnExactIsValidGraphSpec : ChangeSpec := { name := "fnExactIsValidGraph", fn := fun _ => fun
  | [d] => { results := [.lit (.bool true)], args := [d] }
  | _ => none }
def fnExactIsValidGraphRow : OpenClaim := { program := "ytlofaknehjbdeaa", sum := "474f86e252e59d0fa4e483bf55e545423eb255add23be0d575a5ef40f0d8cd0e", func := "loop.example/g00513/laws.FnExactIsValidGraph", spec := "fnExactIsValidGraph", apart := false }
def FnExactIsValidGraphSaid : Prop := fnExactIsValidGraphRow.holds Try.pinned (OpenSpec.ofChange fnExactIsValidGraphSpec)

/-- ITS FALSE NEIGHBOUR: 'it returns false'. Refute it at one input. -/
def fnExactIsValidGraphWrong : ChangeSpec := { name := "fnExactIsValidGraph", fn := fun _ => fun
  | [d] => { results := [.lit (.bool false)], args := [d] }
  | _ => none }
def FnExactIsValidGraphWrongFalsely : Prop := fnExactIsValidGraphRow.holds Try.pinned (OpenSpec.ofChange fnExactIsValidGraphWrong)

/-- 'laws.FnExactRemoveEdges': WHATEVER THE INPUT: true; the input reads as it did. -/
def fnExactRemoveEdgesSpec : ChangeSpec := { name := "fnExactRemoveEdges", fn := fun _ => fun
  | [d1, d2] => { results := [.lit (.bool true)], args := [d1, d2] }
  | _ => none }
def fnExactRemoveEdgesRow : OpenClaim := { program := "ytlofaknehjbdeaa", sum := "474f86e252e59d0fa4e483bf55e545423eb255add23be0d575a5ef40f0d8cd0e", func := "loop.example/g00513/laws.FnExactRemoveEdges", spec := "fnExactRemoveEdges", apart := false }
def FnExactRemoveEdgesSaid : Prop := fnExactRemoveEdgesRow.holds Try.pinned (OpenSpec.ofChange fnExactRemoveEdgesSpec)

/-- ITS FALSE NEIGHBOUR: 'it returns false'. Refute it at one input. -/
def fnExactRemoveEdgesWrong : ChangeSpec := { name := "fnExactRemoveEdges", fn := fun _ => fun
  | [d1, d2] => { results := [.lit (.bool false)], args := [d1, d2] }
  | _ => none }
def FnExactRemoveEdgesWrongFalsely : Prop := fnExactRemoveEdgesRow.holds Try.pinned (OpenSpec.ofChange fnExactRemoveEdgesWrong)

/- THE SECOND FORM. 'bulk': how many values and letters a reading holds, each counted each time it is reached (what is shared counts as often as it is met; a slice's spare places count too). A statement '..UptoSaid' is the law's where the arguments, and the package variables that the reading takes, are together of bulk at most 1048576: NARROWER than '..Said'. Prove '..Said' where nothing that the law and all that it calls make is longer than what came in: it says more and counts as full. Else prove '..UptoSaid'. A law counts once. -/
mutual
def uptoBulk {H : Type} : DataW H → Nat
  | .lit (.string bytes) => bytes.length + 1
  | .lit _ => 1
  | .nil => 1
  | .ptr d => uptoBulk d + 1
  | .slice elems spare => uptoBulkAll elems + uptoBulkAll spare + 1
  | .agg parts => uptoBulkAll parts + 1
  | .iface _ d => uptoBulk d + 1
  | .map entries => uptoBulkEntries entries + 1
  | .held _ => 1
def uptoBulkAll {H : Type} : List (DataW H) → Nat
  | [] => 0
  | d :: r => uptoBulk d + uptoBulkAll r
def uptoBulkEntries {H : Type} : List (Lit × DataW H) → Nat
  | [] => 0
  | x :: r => uptoBulkEntry x + uptoBulkEntries r
def uptoBulkEntry {H : Type} : Lit × DataW H → Nat
  | (.string bytes, d) => bytes.length + uptoBulk d + 1
  | (_, d) => uptoBulk d + 1
 end
def uptoSmall : (H : Type) → List (DataW H) → Bool := fun _ ds => decide (uptoBulkAll ds ≤ 1048576)
def OpenSpec.upto (s : _root_.Go.ChangeSpec) : _root_.Go.OpenSpec := { _root_.Go.OpenSpec.ofChange s with cond := some uptoSmall }

/-- 'laws.FnExactEqualFeedback', WHERE WHAT IT READS IS OF BULK AT MOST 1048576: true; the input reads as it did. -/
def fnExactEqualFeedbackUptoRow : OpenClaim := { program := "ytlofaknehjbdeaa", sum := "474f86e252e59d0fa4e483bf55e545423eb255add23be0d575a5ef40f0d8cd0e", func := "loop.example/g00513/laws.FnExactEqualFeedback", spec := "fnExactEqualFeedback", apart := false, narrowed := true }
def FnExactEqualFeedbackUptoSaid : Prop := fnExactEqualFeedbackUptoRow.holds Try.pinned (OpenSpec.upto fnExactEqualFeedbackSpec)

/-- 'laws.FnExactGenerationDone', WHERE WHAT IT READS IS OF BULK AT MOST 1048576: true; the input reads as it did. -/
def fnExactGenerationDoneUptoRow : OpenClaim := { program := "ytlofaknehjbdeaa", sum := "474f86e252e59d0fa4e483bf55e545423eb255add23be0d575a5ef40f0d8cd0e", func := "loop.example/g00513/laws.FnExactGenerationDone", spec := "fnExactGenerationDone", unfollowed := true, recurses := true, apart := false, narrowed := true }
def FnExactGenerationDoneUptoSaid : Prop := fnExactGenerationDoneUptoRow.holds Try.pinned (OpenSpec.upto fnExactGenerationDoneSpec)

/-- 'laws.FnExactForgetGeneration', WHERE WHAT IT READS IS OF BULK AT MOST 1048576: true; the input reads as it did. -/
def fnExactForgetGenerationUptoRow : OpenClaim := { program := "ytlofaknehjbdeaa", sum := "474f86e252e59d0fa4e483bf55e545423eb255add23be0d575a5ef40f0d8cd0e", func := "loop.example/g00513/laws.FnExactForgetGeneration", spec := "fnExactForgetGeneration", apart := false, narrowed := true }
def FnExactForgetGenerationUptoSaid : Prop := fnExactForgetGenerationUptoRow.holds Try.pinned (OpenSpec.upto fnExactForgetGenerationSpec)

/-- 'laws.FnExactDegreesNeeded', WHERE WHAT IT READS IS OF BULK AT MOST 1048576: true; the input reads as it did. -/
def fnExactDegreesNeededUptoRow : OpenClaim := { program := "ytlofaknehjbdeaa", sum := "474f86e252e59d0fa4e483bf55e545423eb255add23be0d575a5ef40f0d8cd0e", func := "loop.example/g00513/laws.FnExactDegreesNeeded", spec := "fnExactDegreesNeeded", unfollowed := true, recurses := true, apart := false, narrowed := true }
def FnExactDegreesNeededUptoSaid : Prop := fnExactDegreesNeededUptoRow.holds Try.pinned (OpenSpec.upto fnExactDegreesNeededSpec)

/-- 'laws.FnExactIsValidFeedbackTable', WHERE WHAT IT READS IS OF BULK AT MOST 1048576: true; the input reads as it did. -/
def fnExactIsValidFeedbackTableUptoRow : OpenClaim := { program := "ytlofaknehjbdeaa", sum := "474f86e252e59d0fa4e483bf55e545423eb255add23be0d575a5ef40f0d8cd0e", func := "loop.example/g00513/laws.FnExactIsValidFeedbackTable", spec := "fnExactIsValidFeedbackTable", apart := false, narrowed := true }
def FnExactIsValidFeedbackTableUptoSaid : Prop := fnExactIsValidFeedbackTableUptoRow.holds Try.pinned (OpenSpec.upto fnExactIsValidFeedbackTableSpec)

/-- 'laws.FnExactRecordFeedback', WHERE WHAT IT READS IS OF BULK AT MOST 1048576: true; the input reads as it did. -/
def fnExactRecordFeedbackUptoRow : OpenClaim := { program := "ytlofaknehjbdeaa", sum := "474f86e252e59d0fa4e483bf55e545423eb255add23be0d575a5ef40f0d8cd0e", func := "loop.example/g00513/laws.FnExactRecordFeedback", spec := "fnExactRecordFeedback", inPlace := ["slices.overlaps[loop.example/g00513/impl.Feedback]"], unfollowed := true, recurses := true, apart := false, narrowed := true }
def FnExactRecordFeedbackUptoSaid : Prop := fnExactRecordFeedbackUptoRow.holds Try.pinned (OpenSpec.upto fnExactRecordFeedbackSpec)

/-- 'laws.FnFeedback', WHERE WHAT IT READS IS OF BULK AT MOST 1048576: true; the input reads as it did. -/
def fnFeedbackUptoRow : OpenClaim := { program := "ytlofaknehjbdeaa", sum := "474f86e252e59d0fa4e483bf55e545423eb255add23be0d575a5ef40f0d8cd0e", func := "loop.example/g00513/laws.FnFeedback", spec := "fnFeedback", inPlace := ["slices.overlaps[loop.example/g00513/impl.Feedback]"], unfollowed := true, recurses := true, apart := false, narrowed := true }
def FnFeedbackUptoSaid : Prop := fnFeedbackUptoRow.holds Try.pinned (OpenSpec.upto fnFeedbackSpec)

/-- 'laws.FnExactEdgeBetween', WHERE WHAT IT READS IS OF BULK AT MOST 1048576: true; the input reads as it did. -/
def fnExactEdgeBetweenUptoRow : OpenClaim := { program := "ytlofaknehjbdeaa", sum := "474f86e252e59d0fa4e483bf55e545423eb255add23be0d575a5ef40f0d8cd0e", func := "loop.example/g00513/laws.FnExactEdgeBetween", spec := "fnExactEdgeBetween", unfollowed := true, recurses := true, apart := false, narrowed := true }
def FnExactEdgeBetweenUptoSaid : Prop := fnExactEdgeBetweenUptoRow.holds Try.pinned (OpenSpec.upto fnExactEdgeBetweenSpec)

/-- 'laws.FnExactEdgesFrom', WHERE WHAT IT READS IS OF BULK AT MOST 1048576: true; the input reads as it did. -/
def fnExactEdgesFromUptoRow : OpenClaim := { program := "ytlofaknehjbdeaa", sum := "474f86e252e59d0fa4e483bf55e545423eb255add23be0d575a5ef40f0d8cd0e", func := "loop.example/g00513/laws.FnExactEdgesFrom", spec := "fnExactEdgesFrom", unfollowed := true, recurses := true, apart := false, narrowed := true }
def FnExactEdgesFromUptoSaid : Prop := fnExactEdgesFromUptoRow.holds Try.pinned (OpenSpec.upto fnExactEdgesFromSpec)

/-- 'laws.FnExactEdgesTo', WHERE WHAT IT READS IS OF BULK AT MOST 1048576: true; the input reads as it did. -/
def fnExactEdgesToUptoRow : OpenClaim := { program := "ytlofaknehjbdeaa", sum := "474f86e252e59d0fa4e483bf55e545423eb255add23be0d575a5ef40f0d8cd0e", func := "loop.example/g00513/laws.FnExactEdgesTo", spec := "fnExactEdgesTo", unfollowed := true, recurses := true, apart := false, narrowed := true }
def FnExactEdgesToUptoSaid : Prop := fnExactEdgesToUptoRow.holds Try.pinned (OpenSpec.upto fnExactEdgesToSpec)

/-- 'laws.FnExactIsValidGraph', WHERE WHAT IT READS IS OF BULK AT MOST 1048576: true; the input reads as it did. -/
def fnExactIsValidGraphUptoRow : OpenClaim := { program := "ytlofaknehjbdeaa", sum := "474f86e252e59d0fa4e483bf55e545423eb255add23be0d575a5ef40f0d8cd0e", func := "loop.example/g00513/laws.FnExactIsValidGraph", spec := "fnExactIsValidGraph", apart := false, narrowed := true }
def FnExactIsValidGraphUptoSaid : Prop := fnExactIsValidGraphUptoRow.holds Try.pinned (OpenSpec.upto fnExactIsValidGraphSpec)

/-- 'laws.FnExactRemoveEdges', WHERE WHAT IT READS IS OF BULK AT MOST 1048576: true; the input reads as it did. -/
def fnExactRemoveEdgesUptoRow : OpenClaim := { program := "ytlofaknehjbdeaa", sum := "474f86e252e59d0fa4e483bf55e545423eb255add23be0d575a5ef40f0d8cd0e", func := "loop.example/g00513/laws.FnExactRemoveEdges", spec := "fnExactRemoveEdges", apart := false, narrowed := true }
def FnExactRemoveEdgesUptoSaid : Prop := fnExactRemoveEdgesUptoRow.holds Try.pinned (OpenSpec.upto fnExactRemoveEdgesSpec)

end Rows
end Go.Proofs.Ytlofaknehjbdeaa
