/-
  No cell of these rows narrows 'for every input' (looked for: loops, veiled, ifaces, maps, wideKeys, modest, calm, conditions, laid).
  DERIVED. THE GIVEN ROWS OF THIS SEAT. 6 by the template 'for every input the law returns true; each argument reads behind the call as it read before'; 0 by the template 'total and deterministic' (their statements: YtjaagabbbnokdaaTotals.lean).
  GIVEN WITH THE SEED: the statements are not yours to turn. If you find one false, say at which input.
  Laid BY PROGRAM, IN A SANDBOX (cutbox-rows.mjs): the forced cells as the released guide's own fill.sh prints them over the translation fa92a4e7b3810498… (all of the seat's roots in one cut). By AI agents, Wed Nov 11 2026. No macro, syntax, notation, axiom, sorry.
-/
import Derived.Test.YtjaagabbbnokdaaChecked
import GoSem.Claim
import GoSem.ClaimJoined
import GoSem.ClaimMapViews
import Derived.JoinedTies
import Derived.KernelRfl
namespace Go.Proofs.Ytjaagabbbnokdaa
/- THE CELL 'sum', in the pinned program and in every row, IS THE sha256 OF THE DUMP (.gsa) THAT YtjaagabbbnokdaaProg.lean LOADS. Nothing in Lean hashes anything: it is a label: what it is worth is what the hold of that sum in a sandbox is worth. -/
noncomputable def Try.pinned : Pinned := { name := "ytjaagabbbnokdaa", sum := "fa92a4e7b3810498af1ca2d00a02d857f2d8406a83047499279dc6bdf64bcdde", checked := Try.checked }
namespace Rows
def none {H : Type} : Left H := { results := [], args := [] }

/-- 'laws.FnExactIsValidRecoder': WHATEVER THE INPUT: true; the input reads as it did. -/
def fnExactIsValidRecoderSpec : ChangeSpec := { name := "fnExactIsValidRecoder", fn := fun _ => fun
  | [d] => { results := [.lit (.bool true)], args := [d] }
  | _ => none }
def fnExactIsValidRecoderRow : OpenClaim := { program := "ytjaagabbbnokdaa", sum := "fa92a4e7b3810498af1ca2d00a02d857f2d8406a83047499279dc6bdf64bcdde", func := "loop.example/g00513/laws.FnExactIsValidRecoder", spec := "fnExactIsValidRecoder", inPlace := ["slices.overlaps[[]int]"], unfollowed := true, recurses := true, apart := false }
def FnExactIsValidRecoderSaid : Prop := fnExactIsValidRecoderRow.holds Try.pinned (OpenSpec.ofChange fnExactIsValidRecoderSpec)

/-- ITS FALSE NEIGHBOUR: 'it returns false'. Refute it at one input. -/
def fnExactIsValidRecoderWrong : ChangeSpec := { name := "fnExactIsValidRecoder", fn := fun _ => fun
  | [d] => { results := [.lit (.bool false)], args := [d] }
  | _ => none }
def FnExactIsValidRecoderWrongFalsely : Prop := fnExactIsValidRecoderRow.holds Try.pinned (OpenSpec.ofChange fnExactIsValidRecoderWrong)

/-- 'laws.FnExactRecoderRank': WHATEVER THE INPUT: true; the input reads as it did. -/
def fnExactRecoderRankSpec : ChangeSpec := { name := "fnExactRecoderRank", fn := fun _ => fun
  | [d] => { results := [.lit (.bool true)], args := [d] }
  | _ => none }
def fnExactRecoderRankRow : OpenClaim := { program := "ytjaagabbbnokdaa", sum := "fa92a4e7b3810498af1ca2d00a02d857f2d8406a83047499279dc6bdf64bcdde", func := "loop.example/g00513/laws.FnExactRecoderRank", spec := "fnExactRecoderRank", inPlace := ["slices.overlaps[[]int]"], unfollowed := true, recurses := true, apart := false }
def FnExactRecoderRankSaid : Prop := fnExactRecoderRankRow.holds Try.pinned (OpenSpec.ofChange fnExactRecoderRankSpec)

/-- ITS FALSE NEIGHBOUR: 'it returns false'. Refute it at one input. -/
def fnExactRecoderRankWrong : ChangeSpec := { name := "fnExactRecoderRank", fn := fun _ => fun
  | [d] => { results := [.lit (.bool false)], args := [d] }
  | _ => none }
def FnExactRecoderRankWrongFalsely : Prop := fnExactRecoderRankRow.holds Try.pinned (OpenSpec.ofChange fnExactRecoderRankWrong)

/-- 'laws.FnExactGenerationSpace': WHATEVER THE INPUT: true; the input reads as it did. -/
def fnExactGenerationSpaceSpec : ChangeSpec := { name := "fnExactGenerationSpace", fn := fun _ => fun
  | [d] => { results := [.lit (.bool true)], args := [d] }
  | _ => none }
def fnExactGenerationSpaceRow : OpenClaim := { program := "ytjaagabbbnokdaa", sum := "fa92a4e7b3810498af1ca2d00a02d857f2d8406a83047499279dc6bdf64bcdde", func := "loop.example/g00513/laws.FnExactGenerationSpace", spec := "fnExactGenerationSpace", inPlace := ["slices.overlaps[[]int]"], unfollowed := true, recurses := true, apart := false }
def FnExactGenerationSpaceSaid : Prop := fnExactGenerationSpaceRow.holds Try.pinned (OpenSpec.ofChange fnExactGenerationSpaceSpec)

/-- ITS FALSE NEIGHBOUR: 'it returns false'. Refute it at one input. -/
def fnExactGenerationSpaceWrong : ChangeSpec := { name := "fnExactGenerationSpace", fn := fun _ => fun
  | [d] => { results := [.lit (.bool false)], args := [d] }
  | _ => none }
def FnExactGenerationSpaceWrongFalsely : Prop := fnExactGenerationSpaceRow.holds Try.pinned (OpenSpec.ofChange fnExactGenerationSpaceWrong)

/-- 'laws.FnExactUndetectedSpace': WHATEVER THE INPUT: true; the input reads as it did. -/
def fnExactUndetectedSpaceSpec : ChangeSpec := { name := "fnExactUndetectedSpace", fn := fun _ => fun
  | [d] => { results := [.lit (.bool true)], args := [d] }
  | _ => none }
def fnExactUndetectedSpaceRow : OpenClaim := { program := "ytjaagabbbnokdaa", sum := "fa92a4e7b3810498af1ca2d00a02d857f2d8406a83047499279dc6bdf64bcdde", func := "loop.example/g00513/laws.FnExactUndetectedSpace", spec := "fnExactUndetectedSpace", inPlace := ["slices.overlaps[[]int]"], unfollowed := true, recurses := true, apart := false }
def FnExactUndetectedSpaceSaid : Prop := fnExactUndetectedSpaceRow.holds Try.pinned (OpenSpec.ofChange fnExactUndetectedSpaceSpec)

/-- ITS FALSE NEIGHBOUR: 'it returns false'. Refute it at one input. -/
def fnExactUndetectedSpaceWrong : ChangeSpec := { name := "fnExactUndetectedSpace", fn := fun _ => fun
  | [d] => { results := [.lit (.bool false)], args := [d] }
  | _ => none }
def FnExactUndetectedSpaceWrongFalsely : Prop := fnExactUndetectedSpaceRow.holds Try.pinned (OpenSpec.ofChange fnExactUndetectedSpaceWrong)

/-- 'laws.FnPacketCombination': WHATEVER THE INPUT: true; the input reads as it did. -/
def fnPacketCombinationSpec : ChangeSpec := { name := "fnPacketCombination", fn := fun _ => fun
  | [d] => { results := [.lit (.bool true)], args := [d] }
  | _ => none }
def fnPacketCombinationRow : OpenClaim := { program := "ytjaagabbbnokdaa", sum := "fa92a4e7b3810498af1ca2d00a02d857f2d8406a83047499279dc6bdf64bcdde", func := "loop.example/g00513/laws.FnPacketCombination", spec := "fnPacketCombination", apart := false }
def FnPacketCombinationSaid : Prop := fnPacketCombinationRow.holds Try.pinned (OpenSpec.ofChange fnPacketCombinationSpec)

/-- ITS FALSE NEIGHBOUR: 'it returns false'. Refute it at one input. -/
def fnPacketCombinationWrong : ChangeSpec := { name := "fnPacketCombination", fn := fun _ => fun
  | [d] => { results := [.lit (.bool false)], args := [d] }
  | _ => none }
def FnPacketCombinationWrongFalsely : Prop := fnPacketCombinationRow.holds Try.pinned (OpenSpec.ofChange fnPacketCombinationWrong)

/-- 'laws.FnReports': WHATEVER THE INPUT: true; the input reads as it did. -/
def fnReportsSpec : ChangeSpec := { name := "fnReports", fn := fun _ => fun
  | [d] => { results := [.lit (.bool true)], args := [d] }
  | _ => none }
def fnReportsRow : OpenClaim := { program := "ytjaagabbbnokdaa", sum := "fa92a4e7b3810498af1ca2d00a02d857f2d8406a83047499279dc6bdf64bcdde", func := "loop.example/g00513/laws.FnReports", spec := "fnReports", unfollowed := true, recurses := true, apart := false }
def FnReportsSaid : Prop := fnReportsRow.holds Try.pinned (OpenSpec.ofChange fnReportsSpec)

/-- ITS FALSE NEIGHBOUR: 'it returns false'. Refute it at one input. -/
def fnReportsWrong : ChangeSpec := { name := "fnReports", fn := fun _ => fun
  | [d] => { results := [.lit (.bool false)], args := [d] }
  | _ => none }
def FnReportsWrongFalsely : Prop := fnReportsRow.holds Try.pinned (OpenSpec.ofChange fnReportsWrong)

/- THE SECOND FORM. 'bulk': how many values and letters a reading holds, each counted each time it is reached (what is shared counts as often as it is met; a slice's spare places count too). A statement '..UptoSaid' is the law's where the arguments, and the package variables that the reading takes, are together of bulk at most 1048576: NARROWER than '..Said'. Prove '..Said' where nothing that the law and all that it calls make is longer than what came in: it says more and counts as full. Else prove '..UptoSaid'. A law counts once. -/
mutual
def uptoBulk {H : Type} : DataW H → Nat
  | .lit (.string bytes) => bytes.length + 1
  | .lit _ => 1
  | .nil => 1
  | .ptr d => uptoBulk d + 1
  | .slice elems spare => uptoBulkAll elems + uptoBulkAll spare + 1
  | .agg parts => uptoBulkAll parts + 1
  | .iface _ d => uptoBulk d + 1
  | .map entries => uptoBulkEntries entries + 1
  | .held _ => 1
def uptoBulkAll {H : Type} : List (DataW H) → Nat
  | [] => 0
  | d :: r => uptoBulk d + uptoBulkAll r
def uptoBulkEntries {H : Type} : List (Lit × DataW H) → Nat
  | [] => 0
  | x :: r => uptoBulkEntry x + uptoBulkEntries r
def uptoBulkEntry {H : Type} : Lit × DataW H → Nat
  | (.string bytes, d) => bytes.length + uptoBulk d + 1
  | (_, d) => uptoBulk d + 1
 end
def uptoSmall : (H : Type) → List (DataW H) → Bool := fun _ ds => decide (uptoBulkAll ds ≤ 1048576)
def OpenSpec.upto (s : _root_.Go.ChangeSpec) : _root_.Go.OpenSpec := { _root_.Go.OpenSpec.ofChange s with cond := some uptoSmall }

/-- 'laws.FnExactIsValidRecoder', WHERE WHAT IT READS IS OF BULK AT MOST 1048576: true; the input reads as it did. -/
def fnExactIsValidRecoderUptoRow : OpenClaim := { program := "ytjaagabbbnokdaa", sum := "fa92a4e7b3810498af1ca2d00a02d857f2d8406a83047499279dc6bdf64bcdde", func := "loop.example/g00513/laws.FnExactIsValidRecoder", spec := "fnExactIsValidRecoder", inPlace := ["slices.overlaps[[]int]"], unfollowed := true, recurses := true, apart := false, narrowed := true }
def FnExactIsValidRecoderUptoSaid : Prop := fnExactIsValidRecoderUptoRow.holds Try.pinned (OpenSpec.upto fnExactIsValidRecoderSpec)

/-- 'laws.FnExactRecoderRank', WHERE WHAT IT READS IS OF BULK AT MOST 1048576: true; the input reads as it did. -/
def fnExactRecoderRankUptoRow : OpenClaim := { program := "ytjaagabbbnokdaa", sum := "fa92a4e7b3810498af1ca2d00a02d857f2d8406a83047499279dc6bdf64bcdde", func := "loop.example/g00513/laws.FnExactRecoderRank", spec := "fnExactRecoderRank", inPlace := ["slices.overlaps[[]int]"], unfollowed := true, recurses := true, apart := false, narrowed := true }
def FnExactRecoderRankUptoSaid : Prop := fnExactRecoderRankUptoRow.holds Try.pinned (OpenSpec.upto fnExactRecoderRankSpec)

/-- 'laws.FnExactGenerationSpace', WHERE WHAT IT READS IS OF BULK AT MOST 1048576: true; the input reads as it did. -/
def fnExactGenerationSpaceUptoRow : OpenClaim := { program := "ytjaagabbbnokdaa", sum := "fa92a4e7b3810498af1ca2d00a02d857f2d8406a83047499279dc6bdf64bcdde", func := "loop.example/g00513/laws.FnExactGenerationSpace", spec := "fnExactGenerationSpace", inPlace := ["slices.overlaps[[]int]"], unfollowed := true, recurses := true, apart := false, narrowed := true }
def FnExactGenerationSpaceUptoSaid : Prop := fnExactGenerationSpaceUptoRow.holds Try.pinned (OpenSpec.upto fnExactGenerationSpaceSpec)

/-- 'laws.FnExactUndetectedSpace', WHERE WHAT IT READS IS OF BULK AT MOST 1048576: true; the input reads as it did. -/
def fnExactUndetectedSpaceUptoRow : OpenClaim := { program := "ytjaagabbbnokdaa", sum := "fa92a4e7b3810498af1ca2d00a02d857f2d8406a83047499279dc6bdf64bcdde", func := "loop.example/g00513/laws.FnExactUndetectedSpace", spec := "fnExactUndetectedSpace", inPlace := ["slices.overlaps[[]int]"], unfollowed := true, recurses := true, apart := false, narrowed := true }
def FnExactUndetectedSpaceUptoSaid : Prop := fnExactUndetectedSpaceUptoRow.holds Try.pinned (OpenSpec.upto fnExactUndetectedSpaceSpec)

/-- 'laws.FnPacketCombination', WHERE WHAT IT READS IS OF BULK AT MOST 1048576: true; the input reads as it did. -/
def fnPacketCombinationUptoRow : OpenClaim := { program := "ytjaagabbbnokdaa", sum := "fa92a4e7b3810498af1ca2d00a02d857f2d8406a83047499279dc6bdf64bcdde", func := "loop.example/g00513/laws.FnPacketCombination", spec := "fnPacketCombination", apart := false, narrowed := true }
def FnPacketCombinationUptoSaid : Prop := fnPacketCombinationUptoRow.holds Try.pinned (OpenSpec.upto fnPacketCombinationSpec)

/-- 'laws.FnReports', WHERE WHAT IT READS IS OF BULK AT MOST 1048576: true; the input reads as it did. -/
def fnReportsUptoRow : OpenClaim := { program := "ytjaagabbbnokdaa", sum := "fa92a4e7b3810498af1ca2d00a02d857f2d8406a83047499279dc6bdf64bcdde", func := "loop.example/g00513/laws.FnReports", spec := "fnReports", unfollowed := true, recurses := true, apart := false, narrowed := true }
def FnReportsUptoSaid : Prop := fnReportsUptoRow.holds Try.pinned (OpenSpec.upto fnReportsSpec)

end Rows
end Go.Proofs.Ytjaagabbbnokdaa
