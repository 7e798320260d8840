/-
  No cell of these rows narrows 'for every input' (looked for: loops, veiled, ifaces, maps, wideKeys, modest, calm, conditions, laid).
  DERIVED. THE GIVEN ROWS OF THIS SEAT. 4 by the template 'for every input the law returns true; each argument reads behind the call as it read before'; 0 by the template 'total and deterministic' (their statements: YtchodlfkoafeaaaTotals.lean).
  GIVEN WITH THE SEED: the statements are not yours to turn. If you find one false, say at which input.
  Laid BY PROGRAM, IN A SANDBOX (cutbox-rows.mjs): the forced cells as the released guide's own fill.sh prints them over the translation cf51f4a69b400716… (all of the seat's roots in one cut). By AI agents, Wed Nov 11 2026. No macro, syntax, notation, axiom, sorry.
-/
import Derived.Test.YtchodlfkoafeaaaChecked
import GoSem.Claim
import GoSem.ClaimJoined
import GoSem.ClaimMapViews
import Derived.JoinedTies
import Derived.KernelRfl
namespace Go.Proofs.Ytchodlfkoafeaaa
/- THE CELL 'sum', in the pinned program and in every row, IS THE sha256 OF THE DUMP (.gsa) THAT YtchodlfkoafeaaaProg.lean LOADS. Nothing in Lean hashes anything: it is a label: what it is worth is what the hold of that sum in a sandbox is worth. -/
noncomputable def Try.pinned : Pinned := { name := "ytchodlfkoafeaaa", sum := "cf51f4a69b400716d27e6e881ad89ffa3635c6d046d2845da8b63be004479d73", checked := Try.checked }
namespace Rows
def none {H : Type} : Left H := { results := [], args := [] }

/-- 'laws.FnExactEqualRecoders': WHATEVER THE INPUT: true; the input reads as it did. -/
def fnExactEqualRecodersSpec : ChangeSpec := { name := "fnExactEqualRecoders", fn := fun _ => fun
  | [d1, d2] => { results := [.lit (.bool true)], args := [d1, d2] }
  | _ => none }
def fnExactEqualRecodersRow : OpenClaim := { program := "ytchodlfkoafeaaa", sum := "cf51f4a69b400716d27e6e881ad89ffa3635c6d046d2845da8b63be004479d73", func := "loop.example/g00513/laws.FnExactEqualRecoders", spec := "fnExactEqualRecoders", unfollowed := true, recurses := true, apart := false }
def FnExactEqualRecodersSaid : Prop := fnExactEqualRecodersRow.holds Try.pinned (OpenSpec.ofChange fnExactEqualRecodersSpec)

/-- ITS FALSE NEIGHBOUR: 'it returns false'. Refute it at one input. -/
def fnExactEqualRecodersWrong : ChangeSpec := { name := "fnExactEqualRecoders", fn := fun _ => fun
  | [d1, d2] => { results := [.lit (.bool false)], args := [d1, d2] }
  | _ => none }
def FnExactEqualRecodersWrongFalsely : Prop := fnExactEqualRecodersRow.holds Try.pinned (OpenSpec.ofChange fnExactEqualRecodersWrong)

/-- 'laws.FnExactRecordFeedback': WHATEVER THE INPUT: true; the input reads as it did. -/
def fnExactRecordFeedbackSpec : ChangeSpec := { name := "fnExactRecordFeedback", fn := fun _ => fun
  | [d1, d2] => { results := [.lit (.bool true)], args := [d1, d2] }
  | _ => none }
def fnExactRecordFeedbackRow : OpenClaim := { program := "ytchodlfkoafeaaa", sum := "cf51f4a69b400716d27e6e881ad89ffa3635c6d046d2845da8b63be004479d73", func := "loop.example/g00513/laws.FnExactRecordFeedback", spec := "fnExactRecordFeedback", inPlace := ["slices.overlaps[loop.example/g00513/impl.Feedback]"], unfollowed := true, recurses := true, apart := false }
def FnExactRecordFeedbackSaid : Prop := fnExactRecordFeedbackRow.holds Try.pinned (OpenSpec.ofChange fnExactRecordFeedbackSpec)

/-- ITS FALSE NEIGHBOUR: 'it returns false'. Refute it at one input. -/
def fnExactRecordFeedbackWrong : ChangeSpec := { name := "fnExactRecordFeedback", fn := fun _ => fun
  | [d1, d2] => { results := [.lit (.bool false)], args := [d1, d2] }
  | _ => none }
def FnExactRecordFeedbackWrongFalsely : Prop := fnExactRecordFeedbackRow.holds Try.pinned (OpenSpec.ofChange fnExactRecordFeedbackWrong)

/-- 'laws.FnFeedback': WHATEVER THE INPUT: true; the input reads as it did. -/
def fnFeedbackSpec : ChangeSpec := { name := "fnFeedback", fn := fun _ => fun
  | [d] => { results := [.lit (.bool true)], args := [d] }
  | _ => none }
def fnFeedbackRow : OpenClaim := { program := "ytchodlfkoafeaaa", sum := "cf51f4a69b400716d27e6e881ad89ffa3635c6d046d2845da8b63be004479d73", func := "loop.example/g00513/laws.FnFeedback", spec := "fnFeedback", inPlace := ["slices.overlaps[loop.example/g00513/impl.Feedback]"], unfollowed := true, recurses := true, apart := false }
def FnFeedbackSaid : Prop := fnFeedbackRow.holds Try.pinned (OpenSpec.ofChange fnFeedbackSpec)

/-- ITS FALSE NEIGHBOUR: 'it returns false'. Refute it at one input. -/
def fnFeedbackWrong : ChangeSpec := { name := "fnFeedback", fn := fun _ => fun
  | [d] => { results := [.lit (.bool false)], args := [d] }
  | _ => none }
def FnFeedbackWrongFalsely : Prop := fnFeedbackRow.holds Try.pinned (OpenSpec.ofChange fnFeedbackWrong)

/-- 'laws.FnWindows': WHATEVER THE INPUT: true; the input reads as it did. -/
def fnWindowsSpec : ChangeSpec := { name := "fnWindows", fn := fun _ => fun
  | [d] => { results := [.lit (.bool true)], args := [d] }
  | _ => none }
def fnWindowsRow : OpenClaim := { program := "ytchodlfkoafeaaa", sum := "cf51f4a69b400716d27e6e881ad89ffa3635c6d046d2845da8b63be004479d73", func := "loop.example/g00513/laws.FnWindows", spec := "fnWindows", apart := false }
def FnWindowsSaid : Prop := fnWindowsRow.holds Try.pinned (OpenSpec.ofChange fnWindowsSpec)

/-- ITS FALSE NEIGHBOUR: 'it returns false'. Refute it at one input. -/
def fnWindowsWrong : ChangeSpec := { name := "fnWindows", fn := fun _ => fun
  | [d] => { results := [.lit (.bool false)], args := [d] }
  | _ => none }
def FnWindowsWrongFalsely : Prop := fnWindowsRow.holds Try.pinned (OpenSpec.ofChange fnWindowsWrong)

/- THE SECOND FORM. 'bulk': how many values and letters a reading holds, each counted each time it is reached (what is shared counts as often as it is met; a slice's spare places count too). A statement '..UptoSaid' is the law's where the arguments, and the package variables that the reading takes, are together of bulk at most 1048576: NARROWER than '..Said'. Prove '..Said' where nothing that the law and all that it calls make is longer than what came in: it says more and counts as full. Else prove '..UptoSaid'. A law counts once. -/
mutual
def uptoBulk {H : Type} : DataW H → Nat
  | .lit (.string bytes) => bytes.length + 1
  | .lit _ => 1
  | .nil => 1
  | .ptr d => uptoBulk d + 1
  | .slice elems spare => uptoBulkAll elems + uptoBulkAll spare + 1
  | .agg parts => uptoBulkAll parts + 1
  | .iface _ d => uptoBulk d + 1
  | .map entries => uptoBulkEntries entries + 1
  | .held _ => 1
def uptoBulkAll {H : Type} : List (DataW H) → Nat
  | [] => 0
  | d :: r => uptoBulk d + uptoBulkAll r
def uptoBulkEntries {H : Type} : List (Lit × DataW H) → Nat
  | [] => 0
  | x :: r => uptoBulkEntry x + uptoBulkEntries r
def uptoBulkEntry {H : Type} : Lit × DataW H → Nat
  | (.string bytes, d) => bytes.length + uptoBulk d + 1
  | (_, d) => uptoBulk d + 1
 end
def uptoSmall : (H : Type) → List (DataW H) → Bool := fun _ ds => decide (uptoBulkAll ds ≤ 1048576)
def OpenSpec.upto (s : _root_.Go.ChangeSpec) : _root_.Go.OpenSpec := { _root_.Go.OpenSpec.ofChange s with cond := some uptoSmall }

/-- 'laws.FnExactEqualRecoders', WHERE WHAT IT READS IS OF BULK AT MOST 1048576: true; the input reads as it did. -/
def fnExactEqualRecodersUptoRow : OpenClaim := { program := "ytchodlfkoafeaaa", sum := "cf51f4a69b400716d27e6e881ad89ffa3635c6d046d2845da8b63be004479d73", func := "loop.example/g00513/laws.FnExactEqualRecoders", spec := "fnExactEqualRecoders", unfollowed := true, recurses := true, apart := false, narrowed := true }
def FnExactEqualRecodersUptoSaid : Prop := fnExactEqualRecodersUptoRow.holds Try.pinned (OpenSpec.upto fnExactEqualRecodersSpec)

/-- 'laws.FnExactRecordFeedback', WHERE WHAT IT READS IS OF BULK AT MOST 1048576: true; the input reads as it did. -/
def fnExactRecordFeedbackUptoRow : OpenClaim := { program := "ytchodlfkoafeaaa", sum := "cf51f4a69b400716d27e6e881ad89ffa3635c6d046d2845da8b63be004479d73", func := "loop.example/g00513/laws.FnExactRecordFeedback", spec := "fnExactRecordFeedback", inPlace := ["slices.overlaps[loop.example/g00513/impl.Feedback]"], unfollowed := true, recurses := true, apart := false, narrowed := true }
def FnExactRecordFeedbackUptoSaid : Prop := fnExactRecordFeedbackUptoRow.holds Try.pinned (OpenSpec.upto fnExactRecordFeedbackSpec)

/-- 'laws.FnFeedback', WHERE WHAT IT READS IS OF BULK AT MOST 1048576: true; the input reads as it did. -/
def fnFeedbackUptoRow : OpenClaim := { program := "ytchodlfkoafeaaa", sum := "cf51f4a69b400716d27e6e881ad89ffa3635c6d046d2845da8b63be004479d73", func := "loop.example/g00513/laws.FnFeedback", spec := "fnFeedback", inPlace := ["slices.overlaps[loop.example/g00513/impl.Feedback]"], unfollowed := true, recurses := true, apart := false, narrowed := true }
def FnFeedbackUptoSaid : Prop := fnFeedbackUptoRow.holds Try.pinned (OpenSpec.upto fnFeedbackSpec)

/-- 'laws.FnWindows', WHERE WHAT IT READS IS OF BULK AT MOST 1048576: true; the input reads as it did. -/
def fnWindowsUptoRow : OpenClaim := { program := "ytchodlfkoafeaaa", sum := "cf51f4a69b400716d27e6e881ad89ffa3635c6d046d2845da8b63be004479d73", func := "loop.example/g00513/laws.FnWindows", spec := "fnWindows", apart := false, narrowed := true }
def FnWindowsUptoSaid : Prop := fnWindowsUptoRow.holds Try.pinned (OpenSpec.upto fnWindowsSpec)

end Rows
end Go.Proofs.Ytchodlfkoafeaaa
