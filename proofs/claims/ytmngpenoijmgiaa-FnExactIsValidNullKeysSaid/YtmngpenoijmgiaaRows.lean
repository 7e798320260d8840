/-
  No cell of these rows narrows 'for every input' (looked for: loops, veiled, ifaces, maps, wideKeys, modest, calm, conditions, laid).
  DERIVED. THE GIVEN ROWS OF THIS SEAT. 12 by the template 'for every input the law returns true; each argument reads behind the call as it read before'; 0 by the template 'total and deterministic' (their statements: YtmngpenoijmgiaaTotals.lean).
  GIVEN WITH THE SEED: the statements are not yours to turn. If you find one false, say at which input.
  Laid BY PROGRAM, IN A SANDBOX (cutbox-rows.mjs): the forced cells as the released guide's own fill.sh prints them over the translation 017bd7e1fd4709f3… (all of the seat's roots in one cut). By AI agents, Wed Nov 11 2026. No macro, syntax, notation, axiom, sorry.
-/
import Derived.Test.YtmngpenoijmgiaaChecked
import GoSem.Claim
import GoSem.ClaimJoined
import GoSem.ClaimMapViews
import Derived.JoinedTies
import Derived.KernelRfl
namespace Go.Proofs.Ytmngpenoijmgiaa
/- THE CELL 'sum', in the pinned program and in every row, IS THE sha256 OF THE DUMP (.gsa) THAT YtmngpenoijmgiaaProg.lean LOADS. Nothing in Lean hashes anything: it is a label: what it is worth is what the hold of that sum in a sandbox is worth. -/
noncomputable def Try.pinned : Pinned := { name := "ytmngpenoijmgiaa", sum := "017bd7e1fd4709f3cbcbc1f33d9281b5f4e3d68a46affa4340d4bd2da67d3c2b", checked := Try.checked }
namespace Rows
def none {H : Type} : Left H := { results := [], args := [] }

/-- 'laws.FnExactForgetGeneration': WHATEVER THE INPUT: true; the input reads as it did. -/
def fnExactForgetGenerationSpec : ChangeSpec := { name := "fnExactForgetGeneration", fn := fun _ => fun
  | [d1, d2] => { results := [.lit (.bool true)], args := [d1, d2] }
  | _ => none }
def fnExactForgetGenerationRow : OpenClaim := { program := "ytmngpenoijmgiaa", sum := "017bd7e1fd4709f3cbcbc1f33d9281b5f4e3d68a46affa4340d4bd2da67d3c2b", func := "loop.example/g00513/laws.FnExactForgetGeneration", spec := "fnExactForgetGeneration", apart := false }
def FnExactForgetGenerationSaid : Prop := fnExactForgetGenerationRow.holds Try.pinned (OpenSpec.ofChange fnExactForgetGenerationSpec)

/-- ITS FALSE NEIGHBOUR: 'it returns false'. Refute it at one input. -/
def fnExactForgetGenerationWrong : ChangeSpec := { name := "fnExactForgetGeneration", fn := fun _ => fun
  | [d1, d2] => { results := [.lit (.bool false)], args := [d1, d2] }
  | _ => none }
def FnExactForgetGenerationWrongFalsely : Prop := fnExactForgetGenerationRow.holds Try.pinned (OpenSpec.ofChange fnExactForgetGenerationWrong)

/-- 'laws.FnExactEdgesFrom': WHATEVER THE INPUT: true; the input reads as it did. -/
def fnExactEdgesFromSpec : ChangeSpec := { name := "fnExactEdgesFrom", fn := fun _ => fun
  | [d1, d2] => { results := [.lit (.bool true)], args := [d1, d2] }
  | _ => none }
def fnExactEdgesFromRow : OpenClaim := { program := "ytmngpenoijmgiaa", sum := "017bd7e1fd4709f3cbcbc1f33d9281b5f4e3d68a46affa4340d4bd2da67d3c2b", func := "loop.example/g00513/laws.FnExactEdgesFrom", spec := "fnExactEdgesFrom", unfollowed := true, recurses := true, apart := false }
def FnExactEdgesFromSaid : Prop := fnExactEdgesFromRow.holds Try.pinned (OpenSpec.ofChange fnExactEdgesFromSpec)

/-- ITS FALSE NEIGHBOUR: 'it returns false'. Refute it at one input. -/
def fnExactEdgesFromWrong : ChangeSpec := { name := "fnExactEdgesFrom", fn := fun _ => fun
  | [d1, d2] => { results := [.lit (.bool false)], args := [d1, d2] }
  | _ => none }
def FnExactEdgesFromWrongFalsely : Prop := fnExactEdgesFromRow.holds Try.pinned (OpenSpec.ofChange fnExactEdgesFromWrong)

/-- 'laws.FnExactEdgesTo': WHATEVER THE INPUT: true; the input reads as it did. -/
def fnExactEdgesToSpec : ChangeSpec := { name := "fnExactEdgesTo", fn := fun _ => fun
  | [d1, d2] => { results := [.lit (.bool true)], args := [d1, d2] }
  | _ => none }
def fnExactEdgesToRow : OpenClaim := { program := "ytmngpenoijmgiaa", sum := "017bd7e1fd4709f3cbcbc1f33d9281b5f4e3d68a46affa4340d4bd2da67d3c2b", func := "loop.example/g00513/laws.FnExactEdgesTo", spec := "fnExactEdgesTo", unfollowed := true, recurses := true, apart := false }
def FnExactEdgesToSaid : Prop := fnExactEdgesToRow.holds Try.pinned (OpenSpec.ofChange fnExactEdgesToSpec)

/-- ITS FALSE NEIGHBOUR: 'it returns false'. Refute it at one input. -/
def fnExactEdgesToWrong : ChangeSpec := { name := "fnExactEdgesTo", fn := fun _ => fun
  | [d1, d2] => { results := [.lit (.bool false)], args := [d1, d2] }
  | _ => none }
def FnExactEdgesToWrongFalsely : Prop := fnExactEdgesToRow.holds Try.pinned (OpenSpec.ofChange fnExactEdgesToWrong)

/-- 'laws.FnExactRemoveEdges': WHATEVER THE INPUT: true; the input reads as it did. -/
def fnExactRemoveEdgesSpec : ChangeSpec := { name := "fnExactRemoveEdges", fn := fun _ => fun
  | [d1, d2] => { results := [.lit (.bool true)], args := [d1, d2] }
  | _ => none }
def fnExactRemoveEdgesRow : OpenClaim := { program := "ytmngpenoijmgiaa", sum := "017bd7e1fd4709f3cbcbc1f33d9281b5f4e3d68a46affa4340d4bd2da67d3c2b", func := "loop.example/g00513/laws.FnExactRemoveEdges", spec := "fnExactRemoveEdges", apart := false }
def FnExactRemoveEdgesSaid : Prop := fnExactRemoveEdgesRow.holds Try.pinned (OpenSpec.ofChange fnExactRemoveEdgesSpec)

/-- ITS FALSE NEIGHBOUR: 'it returns false'. Refute it at one input. -/
def fnExactRemoveEdgesWrong : ChangeSpec := { name := "fnExactRemoveEdges", fn := fun _ => fun
  | [d1, d2] => { results := [.lit (.bool false)], args := [d1, d2] }
  | _ => none }
def FnExactRemoveEdgesWrongFalsely : Prop := fnExactRemoveEdgesRow.holds Try.pinned (OpenSpec.ofChange fnExactRemoveEdgesWrong)

/-- 'laws.FnExactRecordFeedback': WHATEVER THE INPUT: true; the input reads as it did. -/
def fnExactRecordFeedbackSpec : ChangeSpec := { name := "fnExactRecordFeedback", fn := fun _ => fun
  | [d1, d2] => { results := [.lit (.bool true)], args := [d1, d2] }
  | _ => none }
def fnExactRecordFeedbackRow : OpenClaim := { program := "ytmngpenoijmgiaa", sum := "017bd7e1fd4709f3cbcbc1f33d9281b5f4e3d68a46affa4340d4bd2da67d3c2b", func := "loop.example/g00513/laws.FnExactRecordFeedback", spec := "fnExactRecordFeedback", inPlace := ["slices.overlaps[loop.example/g00513/impl.Feedback]"], unfollowed := true, recurses := true, apart := false }
def FnExactRecordFeedbackSaid : Prop := fnExactRecordFeedbackRow.holds Try.pinned (OpenSpec.ofChange fnExactRecordFeedbackSpec)

/-- ITS FALSE NEIGHBOUR: 'it returns false'. Refute it at one input. -/
def fnExactRecordFeedbackWrong : ChangeSpec := { name := "fnExactRecordFeedback", fn := fun _ => fun
  | [d1, d2] => { results := [.lit (.bool false)], args := [d1, d2] }
  | _ => none }
def FnExactRecordFeedbackWrongFalsely : Prop := fnExactRecordFeedbackRow.holds Try.pinned (OpenSpec.ofChange fnExactRecordFeedbackWrong)

/-- 'laws.FnFeedback': WHATEVER THE INPUT: true; the input reads as it did. -/
def fnFeedbackSpec : ChangeSpec := { name := "fnFeedback", fn := fun _ => fun
  | [d] => { results := [.lit (.bool true)], args := [d] }
  | _ => none }
def fnFeedbackRow : OpenClaim := { program := "ytmngpenoijmgiaa", sum := "017bd7e1fd4709f3cbcbc1f33d9281b5f4e3d68a46affa4340d4bd2da67d3c2b", func := "loop.example/g00513/laws.FnFeedback", spec := "fnFeedback", inPlace := ["slices.overlaps[loop.example/g00513/impl.Feedback]"], unfollowed := true, recurses := true, apart := false }
def FnFeedbackSaid : Prop := fnFeedbackRow.holds Try.pinned (OpenSpec.ofChange fnFeedbackSpec)

/-- ITS FALSE NEIGHBOUR: 'it returns false'. Refute it at one input. -/
def fnFeedbackWrong : ChangeSpec := { name := "fnFeedback", fn := fun _ => fun
  | [d] => { results := [.lit (.bool false)], args := [d] }
  | _ => none }
def FnFeedbackWrongFalsely : Prop := fnFeedbackRow.holds Try.pinned (OpenSpec.ofChange fnFeedbackWrong)

/-- 'laws.FnExactPacketRow': WHATEVER THE INPUT: true; the input reads as it did. -/
def fnExactPacketRowSpec : ChangeSpec := { name := "fnExactPacketRow", fn := fun _ => fun
  | [d] => { results := [.lit (.bool true)], args := [d] }
  | _ => none }
def fnExactPacketRowRow : OpenClaim := { program := "ytmngpenoijmgiaa", sum := "017bd7e1fd4709f3cbcbc1f33d9281b5f4e3d68a46affa4340d4bd2da67d3c2b", func := "loop.example/g00513/laws.FnExactPacketRow", spec := "fnExactPacketRow", apart := false }
def FnExactPacketRowSaid : Prop := fnExactPacketRowRow.holds Try.pinned (OpenSpec.ofChange fnExactPacketRowSpec)

/-- ITS FALSE NEIGHBOUR: 'it returns false'. Refute it at one input. -/
def fnExactPacketRowWrong : ChangeSpec := { name := "fnExactPacketRow", fn := fun _ => fun
  | [d] => { results := [.lit (.bool false)], args := [d] }
  | _ => none }
def FnExactPacketRowWrongFalsely : Prop := fnExactPacketRowRow.holds Try.pinned (OpenSpec.ofChange fnExactPacketRowWrong)

/-- 'laws.FnExactEqualNullKeys': WHATEVER THE INPUT: true; the input reads as it did. -/
def fnExactEqualNullKeysSpec : ChangeSpec := { name := "fnExactEqualNullKeys", fn := fun _ => fun
  | [d1, d2] => { results := [.lit (.bool true)], args := [d1, d2] }
  | _ => none }
def fnExactEqualNullKeysRow : OpenClaim := { program := "ytmngpenoijmgiaa", sum := "017bd7e1fd4709f3cbcbc1f33d9281b5f4e3d68a46affa4340d4bd2da67d3c2b", func := "loop.example/g00513/laws.FnExactEqualNullKeys", spec := "fnExactEqualNullKeys", unfollowed := true, recurses := true, apart := false }
def FnExactEqualNullKeysSaid : Prop := fnExactEqualNullKeysRow.holds Try.pinned (OpenSpec.ofChange fnExactEqualNullKeysSpec)

/-- ITS FALSE NEIGHBOUR: 'it returns false'. Refute it at one input. -/
def fnExactEqualNullKeysWrong : ChangeSpec := { name := "fnExactEqualNullKeys", fn := fun _ => fun
  | [d1, d2] => { results := [.lit (.bool false)], args := [d1, d2] }
  | _ => none }
def FnExactEqualNullKeysWrongFalsely : Prop := fnExactEqualNullKeysRow.holds Try.pinned (OpenSpec.ofChange fnExactEqualNullKeysWrong)

/-- 'laws.FnExactIsValidNullKeys': WHATEVER THE INPUT: true; the input reads as it did. -/
def fnExactIsValidNullKeysSpec : ChangeSpec := { name := "fnExactIsValidNullKeys", fn := fun _ => fun
  | [d] => { results := [.lit (.bool true)], args := [d] }
  | _ => none }
def fnExactIsValidNullKeysRow : OpenClaim := { program := "ytmngpenoijmgiaa", sum := "017bd7e1fd4709f3cbcbc1f33d9281b5f4e3d68a46affa4340d4bd2da67d3c2b", func := "loop.example/g00513/laws.FnExactIsValidNullKeys", spec := "fnExactIsValidNullKeys", unfollowed := true, recurses := true, apart := false }
def FnExactIsValidNullKeysSaid : Prop := fnExactIsValidNullKeysRow.holds Try.pinned (OpenSpec.ofChange fnExactIsValidNullKeysSpec)

/-- ITS FALSE NEIGHBOUR: 'it returns false'. Refute it at one input. -/
def fnExactIsValidNullKeysWrong : ChangeSpec := { name := "fnExactIsValidNullKeys", fn := fun _ => fun
  | [d] => { results := [.lit (.bool false)], args := [d] }
  | _ => none }
def FnExactIsValidNullKeysWrongFalsely : Prop := fnExactIsValidNullKeysRow.holds Try.pinned (OpenSpec.ofChange fnExactIsValidNullKeysWrong)

/-- 'laws.FnExactEqualDecoders': WHATEVER THE INPUT: true; the input reads as it did. -/
def fnExactEqualDecodersSpec : ChangeSpec := { name := "fnExactEqualDecoders", fn := fun _ => fun
  | [d1, d2] => { results := [.lit (.bool true)], args := [d1, d2] }
  | _ => none }
def fnExactEqualDecodersRow : OpenClaim := { program := "ytmngpenoijmgiaa", sum := "017bd7e1fd4709f3cbcbc1f33d9281b5f4e3d68a46affa4340d4bd2da67d3c2b", func := "loop.example/g00513/laws.FnExactEqualDecoders", spec := "fnExactEqualDecoders", unfollowed := true, recurses := true, apart := false }
def FnExactEqualDecodersSaid : Prop := fnExactEqualDecodersRow.holds Try.pinned (OpenSpec.ofChange fnExactEqualDecodersSpec)

/-- ITS FALSE NEIGHBOUR: 'it returns false'. Refute it at one input. -/
def fnExactEqualDecodersWrong : ChangeSpec := { name := "fnExactEqualDecoders", fn := fun _ => fun
  | [d1, d2] => { results := [.lit (.bool false)], args := [d1, d2] }
  | _ => none }
def FnExactEqualDecodersWrongFalsely : Prop := fnExactEqualDecodersRow.holds Try.pinned (OpenSpec.ofChange fnExactEqualDecodersWrong)

/-- 'laws.FnExactEqualRecoders': WHATEVER THE INPUT: true; the input reads as it did. -/
def fnExactEqualRecodersSpec : ChangeSpec := { name := "fnExactEqualRecoders", fn := fun _ => fun
  | [d1, d2] => { results := [.lit (.bool true)], args := [d1, d2] }
  | _ => none }
def fnExactEqualRecodersRow : OpenClaim := { program := "ytmngpenoijmgiaa", sum := "017bd7e1fd4709f3cbcbc1f33d9281b5f4e3d68a46affa4340d4bd2da67d3c2b", func := "loop.example/g00513/laws.FnExactEqualRecoders", spec := "fnExactEqualRecoders", unfollowed := true, recurses := true, apart := false }
def FnExactEqualRecodersSaid : Prop := fnExactEqualRecodersRow.holds Try.pinned (OpenSpec.ofChange fnExactEqualRecodersSpec)

/-- ITS FALSE NEIGHBOUR: 'it returns false'. Refute it at one input. -/
def fnExactEqualRecodersWrong : ChangeSpec := { name := "fnExactEqualRecoders", fn := fun _ => fun
  | [d1, d2] => { results := [.lit (.bool false)], args := [d1, d2] }
  | _ => none }
def FnExactEqualRecodersWrongFalsely : Prop := fnExactEqualRecodersRow.holds Try.pinned (OpenSpec.ofChange fnExactEqualRecodersWrong)

/-- 'laws.FnWindows': WHATEVER THE INPUT: true; the input reads as it did. -/
def fnWindowsSpec : ChangeSpec := { name := "fnWindows", fn := fun _ => fun
  | [d] => { results := [.lit (.bool true)], args := [d] }
  | _ => none }
def fnWindowsRow : OpenClaim := { program := "ytmngpenoijmgiaa", sum := "017bd7e1fd4709f3cbcbc1f33d9281b5f4e3d68a46affa4340d4bd2da67d3c2b", func := "loop.example/g00513/laws.FnWindows", spec := "fnWindows", apart := false }
def FnWindowsSaid : Prop := fnWindowsRow.holds Try.pinned (OpenSpec.ofChange fnWindowsSpec)

/-- ITS FALSE NEIGHBOUR: 'it returns false'. Refute it at one input. -/
def fnWindowsWrong : ChangeSpec := { name := "fnWindows", fn := fun _ => fun
  | [d] => { results := [.lit (.bool false)], args := [d] }
  | _ => none }
def FnWindowsWrongFalsely : Prop := fnWindowsRow.holds Try.pinned (OpenSpec.ofChange fnWindowsWrong)

/- THE SECOND FORM. 'bulk': how many values and letters a reading holds, each counted each time it is reached (what is shared counts as often as it is met; a slice's spare places count too). A statement '..UptoSaid' is the law's where the arguments, and the package variables that the reading takes, are together of bulk at most 1048576: NARROWER than '..Said'. Prove '..Said' where nothing that the law and all that it calls make is longer than what came in: it says more and counts as full. Else prove '..UptoSaid'. A law counts once. -/
mutual
def uptoBulk {H : Type} : DataW H → Nat
  | .lit (.string bytes) => bytes.length + 1
  | .lit _ => 1
  | .nil => 1
  | .ptr d => uptoBulk d + 1
  | .slice elems spare => uptoBulkAll elems + uptoBulkAll spare + 1
  | .agg parts => uptoBulkAll parts + 1
  | .iface _ d => uptoBulk d + 1
  | .map entries => uptoBulkEntries entries + 1
  | .held _ => 1
def uptoBulkAll {H : Type} : List (DataW H) → Nat
  | [] => 0
  | d :: r => uptoBulk d + uptoBulkAll r
def uptoBulkEntries {H : Type} : List (Lit × DataW H) → Nat
  | [] => 0
  | x :: r => uptoBulkEntry x + uptoBulkEntries r
def uptoBulkEntry {H : Type} : Lit × DataW H → Nat
  | (.string bytes, d) => bytes.length + uptoBulk d + 1
  | (_, d) => uptoBulk d + 1
 end
def uptoSmall : (H : Type) → List (DataW H) → Bool := fun _ ds => decide (uptoBulkAll ds ≤ 1048576)
def OpenSpec.upto (s : _root_.Go.ChangeSpec) : _root_.Go.OpenSpec := { _root_.Go.OpenSpec.ofChange s with cond := some uptoSmall }

/-- 'laws.FnExactForgetGeneration', WHERE WHAT IT READS IS OF BULK AT MOST 1048576: true; the input reads as it did. -/
def fnExactForgetGenerationUptoRow : OpenClaim := { program := "ytmngpenoijmgiaa", sum := "017bd7e1fd4709f3cbcbc1f33d9281b5f4e3d68a46affa4340d4bd2da67d3c2b", func := "loop.example/g00513/laws.FnExactForgetGeneration", spec := "fnExactForgetGeneration", apart := false, narrowed := true }
def FnExactForgetGenerationUptoSaid : Prop := fnExactForgetGenerationUptoRow.holds Try.pinned (OpenSpec.upto fnExactForgetGenerationSpec)

/-- 'laws.FnExactEdgesFrom', WHERE WHAT IT READS IS OF BULK AT MOST 1048576: true; the input reads as it did. -/
def fnExactEdgesFromUptoRow : OpenClaim := { program := "ytmngpenoijmgiaa", sum := "017bd7e1fd4709f3cbcbc1f33d9281b5f4e3d68a46affa4340d4bd2da67d3c2b", func := "loop.example/g00513/laws.FnExactEdgesFrom", spec := "fnExactEdgesFrom", unfollowed := true, recurses := true, apart := false, narrowed := true }
def FnExactEdgesFromUptoSaid : Prop := fnExactEdgesFromUptoRow.holds Try.pinned (OpenSpec.upto fnExactEdgesFromSpec)

/-- 'laws.FnExactEdgesTo', WHERE WHAT IT READS IS OF BULK AT MOST 1048576: true; the input reads as it did. -/
def fnExactEdgesToUptoRow : OpenClaim := { program := "ytmngpenoijmgiaa", sum := "017bd7e1fd4709f3cbcbc1f33d9281b5f4e3d68a46affa4340d4bd2da67d3c2b", func := "loop.example/g00513/laws.FnExactEdgesTo", spec := "fnExactEdgesTo", unfollowed := true, recurses := true, apart := false, narrowed := true }
def FnExactEdgesToUptoSaid : Prop := fnExactEdgesToUptoRow.holds Try.pinned (OpenSpec.upto fnExactEdgesToSpec)

/-- 'laws.FnExactRemoveEdges', WHERE WHAT IT READS IS OF BULK AT MOST 1048576: true; the input reads as it did. -/
def fnExactRemoveEdgesUptoRow : OpenClaim := { program := "ytmngpenoijmgiaa", sum := "017bd7e1fd4709f3cbcbc1f33d9281b5f4e3d68a46affa4340d4bd2da67d3c2b", func := "loop.example/g00513/laws.FnExactRemoveEdges", spec := "fnExactRemoveEdges", apart := false, narrowed := true }
def FnExactRemoveEdgesUptoSaid : Prop := fnExactRemoveEdgesUptoRow.holds Try.pinned (OpenSpec.upto fnExactRemoveEdgesSpec)

/-- 'laws.FnExactRecordFeedback', WHERE WHAT IT READS IS OF BULK AT MOST 1048576: true; the input reads as it did. -/
def fnExactRecordFeedbackUptoRow : OpenClaim := { program := "ytmngpenoijmgiaa", sum := "017bd7e1fd4709f3cbcbc1f33d9281b5f4e3d68a46affa4340d4bd2da67d3c2b", func := "loop.example/g00513/laws.FnExactRecordFeedback", spec := "fnExactRecordFeedback", inPlace := ["slices.overlaps[loop.example/g00513/impl.Feedback]"], unfollowed := true, recurses := true, apart := false, narrowed := true }
def FnExactRecordFeedbackUptoSaid : Prop := fnExactRecordFeedbackUptoRow.holds Try.pinned (OpenSpec.upto fnExactRecordFeedbackSpec)

/-- 'laws.FnFeedback', WHERE WHAT IT READS IS OF BULK AT MOST 1048576: true; the input reads as it did. -/
def fnFeedbackUptoRow : OpenClaim := { program := "ytmngpenoijmgiaa", sum := "017bd7e1fd4709f3cbcbc1f33d9281b5f4e3d68a46affa4340d4bd2da67d3c2b", func := "loop.example/g00513/laws.FnFeedback", spec := "fnFeedback", inPlace := ["slices.overlaps[loop.example/g00513/impl.Feedback]"], unfollowed := true, recurses := true, apart := false, narrowed := true }
def FnFeedbackUptoSaid : Prop := fnFeedbackUptoRow.holds Try.pinned (OpenSpec.upto fnFeedbackSpec)

/-- 'laws.FnExactPacketRow', WHERE WHAT IT READS IS OF BULK AT MOST 1048576: true; the input reads as it did. -/
def fnExactPacketRowUptoRow : OpenClaim := { program := "ytmngpenoijmgiaa", sum := "017bd7e1fd4709f3cbcbc1f33d9281b5f4e3d68a46affa4340d4bd2da67d3c2b", func := "loop.example/g00513/laws.FnExactPacketRow", spec := "fnExactPacketRow", apart := false, narrowed := true }
def FnExactPacketRowUptoSaid : Prop := fnExactPacketRowUptoRow.holds Try.pinned (OpenSpec.upto fnExactPacketRowSpec)

/-- 'laws.FnExactEqualNullKeys', WHERE WHAT IT READS IS OF BULK AT MOST 1048576: true; the input reads as it did. -/
def fnExactEqualNullKeysUptoRow : OpenClaim := { program := "ytmngpenoijmgiaa", sum := "017bd7e1fd4709f3cbcbc1f33d9281b5f4e3d68a46affa4340d4bd2da67d3c2b", func := "loop.example/g00513/laws.FnExactEqualNullKeys", spec := "fnExactEqualNullKeys", unfollowed := true, recurses := true, apart := false, narrowed := true }
def FnExactEqualNullKeysUptoSaid : Prop := fnExactEqualNullKeysUptoRow.holds Try.pinned (OpenSpec.upto fnExactEqualNullKeysSpec)

/-- 'laws.FnExactIsValidNullKeys', WHERE WHAT IT READS IS OF BULK AT MOST 1048576: true; the input reads as it did. -/
def fnExactIsValidNullKeysUptoRow : OpenClaim := { program := "ytmngpenoijmgiaa", sum := "017bd7e1fd4709f3cbcbc1f33d9281b5f4e3d68a46affa4340d4bd2da67d3c2b", func := "loop.example/g00513/laws.FnExactIsValidNullKeys", spec := "fnExactIsValidNullKeys", unfollowed := true, recurses := true, apart := false, narrowed := true }
def FnExactIsValidNullKeysUptoSaid : Prop := fnExactIsValidNullKeysUptoRow.holds Try.pinned (OpenSpec.upto fnExactIsValidNullKeysSpec)

/-- 'laws.FnExactEqualDecoders', WHERE WHAT IT READS IS OF BULK AT MOST 1048576: true; the input reads as it did. -/
def fnExactEqualDecodersUptoRow : OpenClaim := { program := "ytmngpenoijmgiaa", sum := "017bd7e1fd4709f3cbcbc1f33d9281b5f4e3d68a46affa4340d4bd2da67d3c2b", func := "loop.example/g00513/laws.FnExactEqualDecoders", spec := "fnExactEqualDecoders", unfollowed := true, recurses := true, apart := false, narrowed := true }
def FnExactEqualDecodersUptoSaid : Prop := fnExactEqualDecodersUptoRow.holds Try.pinned (OpenSpec.upto fnExactEqualDecodersSpec)

/-- 'laws.FnExactEqualRecoders', WHERE WHAT IT READS IS OF BULK AT MOST 1048576: true; the input reads as it did. -/
def fnExactEqualRecodersUptoRow : OpenClaim := { program := "ytmngpenoijmgiaa", sum := "017bd7e1fd4709f3cbcbc1f33d9281b5f4e3d68a46affa4340d4bd2da67d3c2b", func := "loop.example/g00513/laws.FnExactEqualRecoders", spec := "fnExactEqualRecoders", unfollowed := true, recurses := true, apart := false, narrowed := true }
def FnExactEqualRecodersUptoSaid : Prop := fnExactEqualRecodersUptoRow.holds Try.pinned (OpenSpec.upto fnExactEqualRecodersSpec)

/-- 'laws.FnWindows', WHERE WHAT IT READS IS OF BULK AT MOST 1048576: true; the input reads as it did. -/
def fnWindowsUptoRow : OpenClaim := { program := "ytmngpenoijmgiaa", sum := "017bd7e1fd4709f3cbcbc1f33d9281b5f4e3d68a46affa4340d4bd2da67d3c2b", func := "loop.example/g00513/laws.FnWindows", spec := "fnWindows", apart := false, narrowed := true }
def FnWindowsUptoSaid : Prop := fnWindowsUptoRow.holds Try.pinned (OpenSpec.upto fnWindowsSpec)

end Rows
end Go.Proofs.Ytmngpenoijmgiaa
