/-
  No cell of these rows narrows 'for every input' (looked for: loops, veiled, ifaces, maps, wideKeys, modest, calm, conditions, laid).
  DERIVED. THE GIVEN ROWS OF THIS SEAT. 10 by the template 'for every input the law returns true; each argument reads behind the call as it read before'; 0 by the template 'total and deterministic' (their statements: YtelioajodmgkdaaTotals.lean).
  GIVEN WITH THE SEED: the statements are not yours to turn. If you find one false, say at which input.
  Laid BY PROGRAM, IN A SANDBOX (cutbox-rows.mjs): the forced cells as the released guide's own fill.sh prints them over the translation 7a17db94e8ad1c9f… (all of the seat's roots in one cut). By AI agents, Wed Nov 11 2026. No macro, syntax, notation, axiom, sorry.
-/
import Derived.Test.YtelioajodmgkdaaChecked
import GoSem.Claim
import GoSem.ClaimJoined
import GoSem.ClaimMapViews
import Derived.JoinedTies
import Derived.KernelRfl
namespace Go.Proofs.Ytelioajodmgkdaa
/- THE CELL 'sum', in the pinned program and in every row, IS THE sha256 OF THE DUMP (.gsa) THAT YtelioajodmgkdaaProg.lean LOADS. Nothing in Lean hashes anything: it is a label: what it is worth is what the hold of that sum in a sandbox is worth. -/
noncomputable def Try.pinned : Pinned := { name := "ytelioajodmgkdaa", sum := "7a17db94e8ad1c9ffcd179762be2b30b95c3636ed1978a9a0e9b615e41396ab9", checked := Try.checked }
namespace Rows
def none {H : Type} : Left H := { results := [], args := [] }

/-- 'laws.FnExactShouldReport': WHATEVER THE INPUT: true; the input reads as it did. -/
def fnExactShouldReportSpec : ChangeSpec := { name := "fnExactShouldReport", fn := fun _ => fun
  | [d1, d2, d3, d4] => { results := [.lit (.bool true)], args := [d1, d2, d3, d4] }
  | _ => none }
def fnExactShouldReportRow : OpenClaim := { program := "ytelioajodmgkdaa", sum := "7a17db94e8ad1c9ffcd179762be2b30b95c3636ed1978a9a0e9b615e41396ab9", func := "loop.example/g00513/laws.FnExactShouldReport", spec := "fnExactShouldReport", apart := false }
def FnExactShouldReportSaid : Prop := fnExactShouldReportRow.holds Try.pinned (OpenSpec.ofChange fnExactShouldReportSpec)

/-- ITS FALSE NEIGHBOUR: 'it returns false'. Refute it at one input. -/
def fnExactShouldReportWrong : ChangeSpec := { name := "fnExactShouldReport", fn := fun _ => fun
  | [d1, d2, d3, d4] => { results := [.lit (.bool false)], args := [d1, d2, d3, d4] }
  | _ => none }
def FnExactShouldReportWrongFalsely : Prop := fnExactShouldReportRow.holds Try.pinned (OpenSpec.ofChange fnExactShouldReportWrong)

/-- 'laws.FnExactIsValidFeedback': WHATEVER THE INPUT: true; the input reads as it did. -/
def fnExactIsValidFeedbackSpec : ChangeSpec := { name := "fnExactIsValidFeedback", fn := fun _ => fun
  | [d] => { results := [.lit (.bool true)], args := [d] }
  | _ => none }
def fnExactIsValidFeedbackRow : OpenClaim := { program := "ytelioajodmgkdaa", sum := "7a17db94e8ad1c9ffcd179762be2b30b95c3636ed1978a9a0e9b615e41396ab9", func := "loop.example/g00513/laws.FnExactIsValidFeedback", spec := "fnExactIsValidFeedback", apart := false }
def FnExactIsValidFeedbackSaid : Prop := fnExactIsValidFeedbackRow.holds Try.pinned (OpenSpec.ofChange fnExactIsValidFeedbackSpec)

/-- ITS FALSE NEIGHBOUR: 'it returns false'. Refute it at one input. -/
def fnExactIsValidFeedbackWrong : ChangeSpec := { name := "fnExactIsValidFeedback", fn := fun _ => fun
  | [d] => { results := [.lit (.bool false)], args := [d] }
  | _ => none }
def FnExactIsValidFeedbackWrongFalsely : Prop := fnExactIsValidFeedbackRow.holds Try.pinned (OpenSpec.ofChange fnExactIsValidFeedbackWrong)

/-- 'laws.FnExactIsValidWindow': WHATEVER THE INPUT: true; the input reads as it did. -/
def fnExactIsValidWindowSpec : ChangeSpec := { name := "fnExactIsValidWindow", fn := fun _ => fun
  | [d] => { results := [.lit (.bool true)], args := [d] }
  | _ => none }
def fnExactIsValidWindowRow : OpenClaim := { program := "ytelioajodmgkdaa", sum := "7a17db94e8ad1c9ffcd179762be2b30b95c3636ed1978a9a0e9b615e41396ab9", func := "loop.example/g00513/laws.FnExactIsValidWindow", spec := "fnExactIsValidWindow", apart := false }
def FnExactIsValidWindowSaid : Prop := fnExactIsValidWindowRow.holds Try.pinned (OpenSpec.ofChange fnExactIsValidWindowSpec)

/-- ITS FALSE NEIGHBOUR: 'it returns false'. Refute it at one input. -/
def fnExactIsValidWindowWrong : ChangeSpec := { name := "fnExactIsValidWindow", fn := fun _ => fun
  | [d] => { results := [.lit (.bool false)], args := [d] }
  | _ => none }
def FnExactIsValidWindowWrongFalsely : Prop := fnExactIsValidWindowRow.holds Try.pinned (OpenSpec.ofChange fnExactIsValidWindowWrong)

/-- 'laws.FnExactIsFinished': WHATEVER THE INPUT: true; the input reads as it did. -/
def fnExactIsFinishedSpec : ChangeSpec := { name := "fnExactIsFinished", fn := fun _ => fun
  | [d] => { results := [.lit (.bool true)], args := [d] }
  | _ => none }
def fnExactIsFinishedRow : OpenClaim := { program := "ytelioajodmgkdaa", sum := "7a17db94e8ad1c9ffcd179762be2b30b95c3636ed1978a9a0e9b615e41396ab9", func := "loop.example/g00513/laws.FnExactIsFinished", spec := "fnExactIsFinished", apart := false }
def FnExactIsFinishedSaid : Prop := fnExactIsFinishedRow.holds Try.pinned (OpenSpec.ofChange fnExactIsFinishedSpec)

/-- ITS FALSE NEIGHBOUR: 'it returns false'. Refute it at one input. -/
def fnExactIsFinishedWrong : ChangeSpec := { name := "fnExactIsFinished", fn := fun _ => fun
  | [d] => { results := [.lit (.bool false)], args := [d] }
  | _ => none }
def FnExactIsFinishedWrongFalsely : Prop := fnExactIsFinishedRow.holds Try.pinned (OpenSpec.ofChange fnExactIsFinishedWrong)

/-- 'laws.FnExactNewSendWindow': WHATEVER THE INPUT: true; the input reads as it did. -/
def fnExactNewSendWindowSpec : ChangeSpec := { name := "fnExactNewSendWindow", fn := fun _ => fun
  | [d] => { results := [.lit (.bool true)], args := [d] }
  | _ => none }
def fnExactNewSendWindowRow : OpenClaim := { program := "ytelioajodmgkdaa", sum := "7a17db94e8ad1c9ffcd179762be2b30b95c3636ed1978a9a0e9b615e41396ab9", func := "loop.example/g00513/laws.FnExactNewSendWindow", spec := "fnExactNewSendWindow", apart := false }
def FnExactNewSendWindowSaid : Prop := fnExactNewSendWindowRow.holds Try.pinned (OpenSpec.ofChange fnExactNewSendWindowSpec)

/-- ITS FALSE NEIGHBOUR: 'it returns false'. Refute it at one input. -/
def fnExactNewSendWindowWrong : ChangeSpec := { name := "fnExactNewSendWindow", fn := fun _ => fun
  | [d] => { results := [.lit (.bool false)], args := [d] }
  | _ => none }
def FnExactNewSendWindowWrongFalsely : Prop := fnExactNewSendWindowRow.holds Try.pinned (OpenSpec.ofChange fnExactNewSendWindowWrong)

/-- 'laws.FnExactStartGeneration': WHATEVER THE INPUT: true; the input reads as it did. -/
def fnExactStartGenerationSpec : ChangeSpec := { name := "fnExactStartGeneration", fn := fun _ => fun
  | [d] => { results := [.lit (.bool true)], args := [d] }
  | _ => none }
def fnExactStartGenerationRow : OpenClaim := { program := "ytelioajodmgkdaa", sum := "7a17db94e8ad1c9ffcd179762be2b30b95c3636ed1978a9a0e9b615e41396ab9", func := "loop.example/g00513/laws.FnExactStartGeneration", spec := "fnExactStartGeneration", apart := false }
def FnExactStartGenerationSaid : Prop := fnExactStartGenerationRow.holds Try.pinned (OpenSpec.ofChange fnExactStartGenerationSpec)

/-- ITS FALSE NEIGHBOUR: 'it returns false'. Refute it at one input. -/
def fnExactStartGenerationWrong : ChangeSpec := { name := "fnExactStartGeneration", fn := fun _ => fun
  | [d] => { results := [.lit (.bool false)], args := [d] }
  | _ => none }
def FnExactStartGenerationWrongFalsely : Prop := fnExactStartGenerationRow.holds Try.pinned (OpenSpec.ofChange fnExactStartGenerationWrong)

/-- 'laws.FnExactNextToSend': WHATEVER THE INPUT: true; the input reads as it did. -/
def fnExactNextToSendSpec : ChangeSpec := { name := "fnExactNextToSend", fn := fun _ => fun
  | [d1, d2] => { results := [.lit (.bool true)], args := [d1, d2] }
  | _ => none }
def fnExactNextToSendRow : OpenClaim := { program := "ytelioajodmgkdaa", sum := "7a17db94e8ad1c9ffcd179762be2b30b95c3636ed1978a9a0e9b615e41396ab9", func := "loop.example/g00513/laws.FnExactNextToSend", spec := "fnExactNextToSend", apart := false }
def FnExactNextToSendSaid : Prop := fnExactNextToSendRow.holds Try.pinned (OpenSpec.ofChange fnExactNextToSendSpec)

/-- ITS FALSE NEIGHBOUR: 'it returns false'. Refute it at one input. -/
def fnExactNextToSendWrong : ChangeSpec := { name := "fnExactNextToSend", fn := fun _ => fun
  | [d1, d2] => { results := [.lit (.bool false)], args := [d1, d2] }
  | _ => none }
def FnExactNextToSendWrongFalsely : Prop := fnExactNextToSendRow.holds Try.pinned (OpenSpec.ofChange fnExactNextToSendWrong)

/-- 'laws.FnExactFinishGeneration': WHATEVER THE INPUT: true; the input reads as it did. -/
def fnExactFinishGenerationSpec : ChangeSpec := { name := "fnExactFinishGeneration", fn := fun _ => fun
  | [d1, d2] => { results := [.lit (.bool true)], args := [d1, d2] }
  | _ => none }
def fnExactFinishGenerationRow : OpenClaim := { program := "ytelioajodmgkdaa", sum := "7a17db94e8ad1c9ffcd179762be2b30b95c3636ed1978a9a0e9b615e41396ab9", func := "loop.example/g00513/laws.FnExactFinishGeneration", spec := "fnExactFinishGeneration", apart := false }
def FnExactFinishGenerationSaid : Prop := fnExactFinishGenerationRow.holds Try.pinned (OpenSpec.ofChange fnExactFinishGenerationSpec)

/-- ITS FALSE NEIGHBOUR: 'it returns false'. Refute it at one input. -/
def fnExactFinishGenerationWrong : ChangeSpec := { name := "fnExactFinishGeneration", fn := fun _ => fun
  | [d1, d2] => { results := [.lit (.bool false)], args := [d1, d2] }
  | _ => none }
def FnExactFinishGenerationWrongFalsely : Prop := fnExactFinishGenerationRow.holds Try.pinned (OpenSpec.ofChange fnExactFinishGenerationWrong)

/-- 'laws.FnExactActiveGenerations': WHATEVER THE INPUT: true; the input reads as it did. -/
def fnExactActiveGenerationsSpec : ChangeSpec := { name := "fnExactActiveGenerations", fn := fun _ => fun
  | [d] => { results := [.lit (.bool true)], args := [d] }
  | _ => none }
def fnExactActiveGenerationsRow : OpenClaim := { program := "ytelioajodmgkdaa", sum := "7a17db94e8ad1c9ffcd179762be2b30b95c3636ed1978a9a0e9b615e41396ab9", func := "loop.example/g00513/laws.FnExactActiveGenerations", spec := "fnExactActiveGenerations", apart := false }
def FnExactActiveGenerationsSaid : Prop := fnExactActiveGenerationsRow.holds Try.pinned (OpenSpec.ofChange fnExactActiveGenerationsSpec)

/-- ITS FALSE NEIGHBOUR: 'it returns false'. Refute it at one input. -/
def fnExactActiveGenerationsWrong : ChangeSpec := { name := "fnExactActiveGenerations", fn := fun _ => fun
  | [d] => { results := [.lit (.bool false)], args := [d] }
  | _ => none }
def FnExactActiveGenerationsWrongFalsely : Prop := fnExactActiveGenerationsRow.holds Try.pinned (OpenSpec.ofChange fnExactActiveGenerationsWrong)

/-- 'laws.FnWindows': WHATEVER THE INPUT: true; the input reads as it did. -/
def fnWindowsSpec : ChangeSpec := { name := "fnWindows", fn := fun _ => fun
  | [d] => { results := [.lit (.bool true)], args := [d] }
  | _ => none }
def fnWindowsRow : OpenClaim := { program := "ytelioajodmgkdaa", sum := "7a17db94e8ad1c9ffcd179762be2b30b95c3636ed1978a9a0e9b615e41396ab9", func := "loop.example/g00513/laws.FnWindows", spec := "fnWindows", apart := false }
def FnWindowsSaid : Prop := fnWindowsRow.holds Try.pinned (OpenSpec.ofChange fnWindowsSpec)

/-- ITS FALSE NEIGHBOUR: 'it returns false'. Refute it at one input. -/
def fnWindowsWrong : ChangeSpec := { name := "fnWindows", fn := fun _ => fun
  | [d] => { results := [.lit (.bool false)], args := [d] }
  | _ => none }
def FnWindowsWrongFalsely : Prop := fnWindowsRow.holds Try.pinned (OpenSpec.ofChange fnWindowsWrong)

/- THE SECOND FORM. 'bulk': how many values and letters a reading holds, each counted each time it is reached (what is shared counts as often as it is met; a slice's spare places count too). A statement '..UptoSaid' is the law's where the arguments, and the package variables that the reading takes, are together of bulk at most 1048576: NARROWER than '..Said'. Prove '..Said' where nothing that the law and all that it calls make is longer than what came in: it says more and counts as full. Else prove '..UptoSaid'. A law counts once. -/
mutual
def uptoBulk {H : Type} : DataW H → Nat
  | .lit (.string bytes) => bytes.length + 1
  | .lit _ => 1
  | .nil => 1
  | .ptr d => uptoBulk d + 1
  | .slice elems spare => uptoBulkAll elems + uptoBulkAll spare + 1
  | .agg parts => uptoBulkAll parts + 1
  | .iface _ d => uptoBulk d + 1
  | .map entries => uptoBulkEntries entries + 1
  | .held _ => 1
def uptoBulkAll {H : Type} : List (DataW H) → Nat
  | [] => 0
  | d :: r => uptoBulk d + uptoBulkAll r
def uptoBulkEntries {H : Type} : List (Lit × DataW H) → Nat
  | [] => 0
  | x :: r => uptoBulkEntry x + uptoBulkEntries r
def uptoBulkEntry {H : Type} : Lit × DataW H → Nat
  | (.string bytes, d) => bytes.length + uptoBulk d + 1
  | (_, d) => uptoBulk d + 1
 end
def uptoSmall : (H : Type) → List (DataW H) → Bool := fun _ ds => decide (uptoBulkAll ds ≤ 1048576)
def OpenSpec.upto (s : _root_.Go.ChangeSpec) : _root_.Go.OpenSpec := { _root_.Go.OpenSpec.ofChange s with cond := some uptoSmall }

/-- 'laws.FnExactShouldReport', WHERE WHAT IT READS IS OF BULK AT MOST 1048576: true; the input reads as it did. -/
def fnExactShouldReportUptoRow : OpenClaim := { program := "ytelioajodmgkdaa", sum := "7a17db94e8ad1c9ffcd179762be2b30b95c3636ed1978a9a0e9b615e41396ab9", func := "loop.example/g00513/laws.FnExactShouldReport", spec := "fnExactShouldReport", apart := false, narrowed := true }
def FnExactShouldReportUptoSaid : Prop := fnExactShouldReportUptoRow.holds Try.pinned (OpenSpec.upto fnExactShouldReportSpec)

/-- 'laws.FnExactIsValidFeedback', WHERE WHAT IT READS IS OF BULK AT MOST 1048576: true; the input reads as it did. -/
def fnExactIsValidFeedbackUptoRow : OpenClaim := { program := "ytelioajodmgkdaa", sum := "7a17db94e8ad1c9ffcd179762be2b30b95c3636ed1978a9a0e9b615e41396ab9", func := "loop.example/g00513/laws.FnExactIsValidFeedback", spec := "fnExactIsValidFeedback", apart := false, narrowed := true }
def FnExactIsValidFeedbackUptoSaid : Prop := fnExactIsValidFeedbackUptoRow.holds Try.pinned (OpenSpec.upto fnExactIsValidFeedbackSpec)

/-- 'laws.FnExactIsValidWindow', WHERE WHAT IT READS IS OF BULK AT MOST 1048576: true; the input reads as it did. -/
def fnExactIsValidWindowUptoRow : OpenClaim := { program := "ytelioajodmgkdaa", sum := "7a17db94e8ad1c9ffcd179762be2b30b95c3636ed1978a9a0e9b615e41396ab9", func := "loop.example/g00513/laws.FnExactIsValidWindow", spec := "fnExactIsValidWindow", apart := false, narrowed := true }
def FnExactIsValidWindowUptoSaid : Prop := fnExactIsValidWindowUptoRow.holds Try.pinned (OpenSpec.upto fnExactIsValidWindowSpec)

/-- 'laws.FnExactIsFinished', WHERE WHAT IT READS IS OF BULK AT MOST 1048576: true; the input reads as it did. -/
def fnExactIsFinishedUptoRow : OpenClaim := { program := "ytelioajodmgkdaa", sum := "7a17db94e8ad1c9ffcd179762be2b30b95c3636ed1978a9a0e9b615e41396ab9", func := "loop.example/g00513/laws.FnExactIsFinished", spec := "fnExactIsFinished", apart := false, narrowed := true }
def FnExactIsFinishedUptoSaid : Prop := fnExactIsFinishedUptoRow.holds Try.pinned (OpenSpec.upto fnExactIsFinishedSpec)

/-- 'laws.FnExactNewSendWindow', WHERE WHAT IT READS IS OF BULK AT MOST 1048576: true; the input reads as it did. -/
def fnExactNewSendWindowUptoRow : OpenClaim := { program := "ytelioajodmgkdaa", sum := "7a17db94e8ad1c9ffcd179762be2b30b95c3636ed1978a9a0e9b615e41396ab9", func := "loop.example/g00513/laws.FnExactNewSendWindow", spec := "fnExactNewSendWindow", apart := false, narrowed := true }
def FnExactNewSendWindowUptoSaid : Prop := fnExactNewSendWindowUptoRow.holds Try.pinned (OpenSpec.upto fnExactNewSendWindowSpec)

/-- 'laws.FnExactStartGeneration', WHERE WHAT IT READS IS OF BULK AT MOST 1048576: true; the input reads as it did. -/
def fnExactStartGenerationUptoRow : OpenClaim := { program := "ytelioajodmgkdaa", sum := "7a17db94e8ad1c9ffcd179762be2b30b95c3636ed1978a9a0e9b615e41396ab9", func := "loop.example/g00513/laws.FnExactStartGeneration", spec := "fnExactStartGeneration", apart := false, narrowed := true }
def FnExactStartGenerationUptoSaid : Prop := fnExactStartGenerationUptoRow.holds Try.pinned (OpenSpec.upto fnExactStartGenerationSpec)

/-- 'laws.FnExactNextToSend', WHERE WHAT IT READS IS OF BULK AT MOST 1048576: true; the input reads as it did. -/
def fnExactNextToSendUptoRow : OpenClaim := { program := "ytelioajodmgkdaa", sum := "7a17db94e8ad1c9ffcd179762be2b30b95c3636ed1978a9a0e9b615e41396ab9", func := "loop.example/g00513/laws.FnExactNextToSend", spec := "fnExactNextToSend", apart := false, narrowed := true }
def FnExactNextToSendUptoSaid : Prop := fnExactNextToSendUptoRow.holds Try.pinned (OpenSpec.upto fnExactNextToSendSpec)

/-- 'laws.FnExactFinishGeneration', WHERE WHAT IT READS IS OF BULK AT MOST 1048576: true; the input reads as it did. -/
def fnExactFinishGenerationUptoRow : OpenClaim := { program := "ytelioajodmgkdaa", sum := "7a17db94e8ad1c9ffcd179762be2b30b95c3636ed1978a9a0e9b615e41396ab9", func := "loop.example/g00513/laws.FnExactFinishGeneration", spec := "fnExactFinishGeneration", apart := false, narrowed := true }
def FnExactFinishGenerationUptoSaid : Prop := fnExactFinishGenerationUptoRow.holds Try.pinned (OpenSpec.upto fnExactFinishGenerationSpec)

/-- 'laws.FnExactActiveGenerations', WHERE WHAT IT READS IS OF BULK AT MOST 1048576: true; the input reads as it did. -/
def fnExactActiveGenerationsUptoRow : OpenClaim := { program := "ytelioajodmgkdaa", sum := "7a17db94e8ad1c9ffcd179762be2b30b95c3636ed1978a9a0e9b615e41396ab9", func := "loop.example/g00513/laws.FnExactActiveGenerations", spec := "fnExactActiveGenerations", apart := false, narrowed := true }
def FnExactActiveGenerationsUptoSaid : Prop := fnExactActiveGenerationsUptoRow.holds Try.pinned (OpenSpec.upto fnExactActiveGenerationsSpec)

/-- 'laws.FnWindows', WHERE WHAT IT READS IS OF BULK AT MOST 1048576: true; the input reads as it did. -/
def fnWindowsUptoRow : OpenClaim := { program := "ytelioajodmgkdaa", sum := "7a17db94e8ad1c9ffcd179762be2b30b95c3636ed1978a9a0e9b615e41396ab9", func := "loop.example/g00513/laws.FnWindows", spec := "fnWindows", apart := false, narrowed := true }
def FnWindowsUptoSaid : Prop := fnWindowsUptoRow.holds Try.pinned (OpenSpec.upto fnWindowsSpec)

end Rows
end Go.Proofs.Ytelioajodmgkdaa
