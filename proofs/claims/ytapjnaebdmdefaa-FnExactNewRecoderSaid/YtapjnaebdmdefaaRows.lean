/-
  No cell of these rows narrows 'for every input' (looked for: loops, veiled, ifaces, maps, wideKeys, modest, calm, conditions, laid).
  DERIVED. THE GIVEN ROWS OF THIS SEAT. 12 by the template 'for every input the law returns true; each argument reads behind the call as it read before'; 0 by the template 'total and deterministic' (their statements: YtapjnaebdmdefaaTotals.lean).
  GIVEN WITH THE SEED: the statements are not yours to turn. If you find one false, say at which input.
  Laid BY PROGRAM, IN A SANDBOX (cutbox-rows.mjs): the forced cells as the released guide's own fill.sh prints them over the translation 9bbf4e99e2427748… (all of the seat's roots in one cut). By AI agents, Wed Nov 11 2026. No macro, syntax, notation, axiom, sorry.
-/
import Derived.Test.YtapjnaebdmdefaaChecked
import GoSem.Claim
import GoSem.ClaimJoined
import GoSem.ClaimMapViews
import Derived.JoinedTies
import Derived.KernelRfl
namespace Go.Proofs.Ytapjnaebdmdefaa
/- THE CELL 'sum', in the pinned program and in every row, IS THE sha256 OF THE DUMP (.gsa) THAT YtapjnaebdmdefaaProg.lean LOADS. Nothing in Lean hashes anything: it is a label: what it is worth is what the hold of that sum in a sandbox is worth. -/
noncomputable def Try.pinned : Pinned := { name := "ytapjnaebdmdefaa", sum := "9bbf4e99e24277482e94912739150358f1c56dc2c10a85e6c7744f0a7b72724f", checked := Try.checked }
namespace Rows
def none {H : Type} : Left H := { results := [], args := [] }

/-- 'laws.FnExactEqualManifests': WHATEVER THE INPUT: true; the input reads as it did. -/
def fnExactEqualManifestsSpec : ChangeSpec := { name := "fnExactEqualManifests", fn := fun _ => fun
  | [d1, d2] => { results := [.lit (.bool true)], args := [d1, d2] }
  | _ => none }
def fnExactEqualManifestsRow : OpenClaim := { program := "ytapjnaebdmdefaa", sum := "9bbf4e99e24277482e94912739150358f1c56dc2c10a85e6c7744f0a7b72724f", func := "loop.example/g00513/laws.FnExactEqualManifests", spec := "fnExactEqualManifests", apart := false }
def FnExactEqualManifestsSaid : Prop := fnExactEqualManifestsRow.holds Try.pinned (OpenSpec.ofChange fnExactEqualManifestsSpec)

/-- ITS FALSE NEIGHBOUR: 'it returns false'. Refute it at one input. -/
def fnExactEqualManifestsWrong : ChangeSpec := { name := "fnExactEqualManifests", fn := fun _ => fun
  | [d1, d2] => { results := [.lit (.bool false)], args := [d1, d2] }
  | _ => none }
def FnExactEqualManifestsWrongFalsely : Prop := fnExactEqualManifestsRow.holds Try.pinned (OpenSpec.ofChange fnExactEqualManifestsWrong)

/-- 'laws.FnExactPacketRow': WHATEVER THE INPUT: true; the input reads as it did. -/
def fnExactPacketRowSpec : ChangeSpec := { name := "fnExactPacketRow", fn := fun _ => fun
  | [d] => { results := [.lit (.bool true)], args := [d] }
  | _ => none }
def fnExactPacketRowRow : OpenClaim := { program := "ytapjnaebdmdefaa", sum := "9bbf4e99e24277482e94912739150358f1c56dc2c10a85e6c7744f0a7b72724f", func := "loop.example/g00513/laws.FnExactPacketRow", spec := "fnExactPacketRow", apart := false }
def FnExactPacketRowSaid : Prop := fnExactPacketRowRow.holds Try.pinned (OpenSpec.ofChange fnExactPacketRowSpec)

/-- ITS FALSE NEIGHBOUR: 'it returns false'. Refute it at one input. -/
def fnExactPacketRowWrong : ChangeSpec := { name := "fnExactPacketRow", fn := fun _ => fun
  | [d] => { results := [.lit (.bool false)], args := [d] }
  | _ => none }
def FnExactPacketRowWrongFalsely : Prop := fnExactPacketRowRow.holds Try.pinned (OpenSpec.ofChange fnExactPacketRowWrong)

/-- 'laws.FnExactEqualNullKeys': WHATEVER THE INPUT: true; the input reads as it did. -/
def fnExactEqualNullKeysSpec : ChangeSpec := { name := "fnExactEqualNullKeys", fn := fun _ => fun
  | [d1, d2] => { results := [.lit (.bool true)], args := [d1, d2] }
  | _ => none }
def fnExactEqualNullKeysRow : OpenClaim := { program := "ytapjnaebdmdefaa", sum := "9bbf4e99e24277482e94912739150358f1c56dc2c10a85e6c7744f0a7b72724f", func := "loop.example/g00513/laws.FnExactEqualNullKeys", spec := "fnExactEqualNullKeys", unfollowed := true, recurses := true, apart := false }
def FnExactEqualNullKeysSaid : Prop := fnExactEqualNullKeysRow.holds Try.pinned (OpenSpec.ofChange fnExactEqualNullKeysSpec)

/-- ITS FALSE NEIGHBOUR: 'it returns false'. Refute it at one input. -/
def fnExactEqualNullKeysWrong : ChangeSpec := { name := "fnExactEqualNullKeys", fn := fun _ => fun
  | [d1, d2] => { results := [.lit (.bool false)], args := [d1, d2] }
  | _ => none }
def FnExactEqualNullKeysWrongFalsely : Prop := fnExactEqualNullKeysRow.holds Try.pinned (OpenSpec.ofChange fnExactEqualNullKeysWrong)

/-- 'laws.FnExactIsValidNullKeys': WHATEVER THE INPUT: true; the input reads as it did. -/
def fnExactIsValidNullKeysSpec : ChangeSpec := { name := "fnExactIsValidNullKeys", fn := fun _ => fun
  | [d] => { results := [.lit (.bool true)], args := [d] }
  | _ => none }
def fnExactIsValidNullKeysRow : OpenClaim := { program := "ytapjnaebdmdefaa", sum := "9bbf4e99e24277482e94912739150358f1c56dc2c10a85e6c7744f0a7b72724f", func := "loop.example/g00513/laws.FnExactIsValidNullKeys", spec := "fnExactIsValidNullKeys", unfollowed := true, recurses := true, apart := false }
def FnExactIsValidNullKeysSaid : Prop := fnExactIsValidNullKeysRow.holds Try.pinned (OpenSpec.ofChange fnExactIsValidNullKeysSpec)

/-- ITS FALSE NEIGHBOUR: 'it returns false'. Refute it at one input. -/
def fnExactIsValidNullKeysWrong : ChangeSpec := { name := "fnExactIsValidNullKeys", fn := fun _ => fun
  | [d] => { results := [.lit (.bool false)], args := [d] }
  | _ => none }
def FnExactIsValidNullKeysWrongFalsely : Prop := fnExactIsValidNullKeysRow.holds Try.pinned (OpenSpec.ofChange fnExactIsValidNullKeysWrong)

/-- 'laws.FnExactEqualDecoders': WHATEVER THE INPUT: true; the input reads as it did. -/
def fnExactEqualDecodersSpec : ChangeSpec := { name := "fnExactEqualDecoders", fn := fun _ => fun
  | [d1, d2] => { results := [.lit (.bool true)], args := [d1, d2] }
  | _ => none }
def fnExactEqualDecodersRow : OpenClaim := { program := "ytapjnaebdmdefaa", sum := "9bbf4e99e24277482e94912739150358f1c56dc2c10a85e6c7744f0a7b72724f", func := "loop.example/g00513/laws.FnExactEqualDecoders", spec := "fnExactEqualDecoders", unfollowed := true, recurses := true, apart := false }
def FnExactEqualDecodersSaid : Prop := fnExactEqualDecodersRow.holds Try.pinned (OpenSpec.ofChange fnExactEqualDecodersSpec)

/-- ITS FALSE NEIGHBOUR: 'it returns false'. Refute it at one input. -/
def fnExactEqualDecodersWrong : ChangeSpec := { name := "fnExactEqualDecoders", fn := fun _ => fun
  | [d1, d2] => { results := [.lit (.bool false)], args := [d1, d2] }
  | _ => none }
def FnExactEqualDecodersWrongFalsely : Prop := fnExactEqualDecodersRow.holds Try.pinned (OpenSpec.ofChange fnExactEqualDecodersWrong)

/-- 'laws.FnExactEqualRecoders': WHATEVER THE INPUT: true; the input reads as it did. -/
def fnExactEqualRecodersSpec : ChangeSpec := { name := "fnExactEqualRecoders", fn := fun _ => fun
  | [d1, d2] => { results := [.lit (.bool true)], args := [d1, d2] }
  | _ => none }
def fnExactEqualRecodersRow : OpenClaim := { program := "ytapjnaebdmdefaa", sum := "9bbf4e99e24277482e94912739150358f1c56dc2c10a85e6c7744f0a7b72724f", func := "loop.example/g00513/laws.FnExactEqualRecoders", spec := "fnExactEqualRecoders", unfollowed := true, recurses := true, apart := false }
def FnExactEqualRecodersSaid : Prop := fnExactEqualRecodersRow.holds Try.pinned (OpenSpec.ofChange fnExactEqualRecodersSpec)

/-- ITS FALSE NEIGHBOUR: 'it returns false'. Refute it at one input. -/
def fnExactEqualRecodersWrong : ChangeSpec := { name := "fnExactEqualRecoders", fn := fun _ => fun
  | [d1, d2] => { results := [.lit (.bool false)], args := [d1, d2] }
  | _ => none }
def FnExactEqualRecodersWrongFalsely : Prop := fnExactEqualRecodersRow.holds Try.pinned (OpenSpec.ofChange fnExactEqualRecodersWrong)

/-- 'laws.FnExactNewRecoder': WHATEVER THE INPUT: true; the input reads as it did. -/
def fnExactNewRecoderSpec : ChangeSpec := { name := "fnExactNewRecoder", fn := fun _ => fun
  | [d1, d2, d3] => { results := [.lit (.bool true)], args := [d1, d2, d3] }
  | _ => none }
def fnExactNewRecoderRow : OpenClaim := { program := "ytapjnaebdmdefaa", sum := "9bbf4e99e24277482e94912739150358f1c56dc2c10a85e6c7744f0a7b72724f", func := "loop.example/g00513/laws.FnExactNewRecoder", spec := "fnExactNewRecoder", apart := false }
def FnExactNewRecoderSaid : Prop := fnExactNewRecoderRow.holds Try.pinned (OpenSpec.ofChange fnExactNewRecoderSpec)

/-- ITS FALSE NEIGHBOUR: 'it returns false'. Refute it at one input. -/
def fnExactNewRecoderWrong : ChangeSpec := { name := "fnExactNewRecoder", fn := fun _ => fun
  | [d1, d2, d3] => { results := [.lit (.bool false)], args := [d1, d2, d3] }
  | _ => none }
def FnExactNewRecoderWrongFalsely : Prop := fnExactNewRecoderRow.holds Try.pinned (OpenSpec.ofChange fnExactNewRecoderWrong)

/-- 'laws.FnExactIsValidHashKey': WHATEVER THE INPUT: true; the input reads as it did. -/
def fnExactIsValidHashKeySpec : ChangeSpec := { name := "fnExactIsValidHashKey", fn := fun _ => fun
  | [d] => { results := [.lit (.bool true)], args := [d] }
  | _ => none }
def fnExactIsValidHashKeyRow : OpenClaim := { program := "ytapjnaebdmdefaa", sum := "9bbf4e99e24277482e94912739150358f1c56dc2c10a85e6c7744f0a7b72724f", func := "loop.example/g00513/laws.FnExactIsValidHashKey", spec := "fnExactIsValidHashKey", apart := false }
def FnExactIsValidHashKeySaid : Prop := fnExactIsValidHashKeyRow.holds Try.pinned (OpenSpec.ofChange fnExactIsValidHashKeySpec)

/-- ITS FALSE NEIGHBOUR: 'it returns false'. Refute it at one input. -/
def fnExactIsValidHashKeyWrong : ChangeSpec := { name := "fnExactIsValidHashKey", fn := fun _ => fun
  | [d] => { results := [.lit (.bool false)], args := [d] }
  | _ => none }
def FnExactIsValidHashKeyWrongFalsely : Prop := fnExactIsValidHashKeyRow.holds Try.pinned (OpenSpec.ofChange fnExactIsValidHashKeyWrong)

/-- 'laws.FnExactCombineHashes': WHATEVER THE INPUT: true; the input reads as it did. -/
def fnExactCombineHashesSpec : ChangeSpec := { name := "fnExactCombineHashes", fn := fun _ => fun
  | [d1, d2] => { results := [.lit (.bool true)], args := [d1, d2] }
  | _ => none }
def fnExactCombineHashesRow : OpenClaim := { program := "ytapjnaebdmdefaa", sum := "9bbf4e99e24277482e94912739150358f1c56dc2c10a85e6c7744f0a7b72724f", func := "loop.example/g00513/laws.FnExactCombineHashes", spec := "fnExactCombineHashes", apart := false }
def FnExactCombineHashesSaid : Prop := fnExactCombineHashesRow.holds Try.pinned (OpenSpec.ofChange fnExactCombineHashesSpec)

/-- ITS FALSE NEIGHBOUR: 'it returns false'. Refute it at one input. -/
def fnExactCombineHashesWrong : ChangeSpec := { name := "fnExactCombineHashes", fn := fun _ => fun
  | [d1, d2] => { results := [.lit (.bool false)], args := [d1, d2] }
  | _ => none }
def FnExactCombineHashesWrongFalsely : Prop := fnExactCombineHashesRow.holds Try.pinned (OpenSpec.ofChange fnExactCombineHashesWrong)

/-- 'laws.FnExactHashVector': WHATEVER THE INPUT: true; the input reads as it did. -/
def fnExactHashVectorSpec : ChangeSpec := { name := "fnExactHashVector", fn := fun _ => fun
  | [d1, d2] => { results := [.lit (.bool true)], args := [d1, d2] }
  | _ => none }
def fnExactHashVectorRow : OpenClaim := { program := "ytapjnaebdmdefaa", sum := "9bbf4e99e24277482e94912739150358f1c56dc2c10a85e6c7744f0a7b72724f", func := "loop.example/g00513/laws.FnExactHashVector", spec := "fnExactHashVector", apart := false }
def FnExactHashVectorSaid : Prop := fnExactHashVectorRow.holds Try.pinned (OpenSpec.ofChange fnExactHashVectorSpec)

/-- ITS FALSE NEIGHBOUR: 'it returns false'. Refute it at one input. -/
def fnExactHashVectorWrong : ChangeSpec := { name := "fnExactHashVector", fn := fun _ => fun
  | [d1, d2] => { results := [.lit (.bool false)], args := [d1, d2] }
  | _ => none }
def FnExactHashVectorWrongFalsely : Prop := fnExactHashVectorRow.holds Try.pinned (OpenSpec.ofChange fnExactHashVectorWrong)

/-- 'laws.FnExactIsValidManifest': WHATEVER THE INPUT: true; the input reads as it did. -/
def fnExactIsValidManifestSpec : ChangeSpec := { name := "fnExactIsValidManifest", fn := fun _ => fun
  | [d] => { results := [.lit (.bool true)], args := [d] }
  | _ => none }
def fnExactIsValidManifestRow : OpenClaim := { program := "ytapjnaebdmdefaa", sum := "9bbf4e99e24277482e94912739150358f1c56dc2c10a85e6c7744f0a7b72724f", func := "loop.example/g00513/laws.FnExactIsValidManifest", spec := "fnExactIsValidManifest", unfollowed := true, recurses := true, apart := false }
def FnExactIsValidManifestSaid : Prop := fnExactIsValidManifestRow.holds Try.pinned (OpenSpec.ofChange fnExactIsValidManifestSpec)

/-- ITS FALSE NEIGHBOUR: 'it returns false'. Refute it at one input. -/
def fnExactIsValidManifestWrong : ChangeSpec := { name := "fnExactIsValidManifest", fn := fun _ => fun
  | [d] => { results := [.lit (.bool false)], args := [d] }
  | _ => none }
def FnExactIsValidManifestWrongFalsely : Prop := fnExactIsValidManifestRow.holds Try.pinned (OpenSpec.ofChange fnExactIsValidManifestWrong)

/-- 'laws.FnExactManifestMAC': WHATEVER THE INPUT: true; the input reads as it did. -/
def fnExactManifestMACSpec : ChangeSpec := { name := "fnExactManifestMAC", fn := fun _ => fun
  | [d1, d2] => { results := [.lit (.bool true)], args := [d1, d2] }
  | _ => none }
def fnExactManifestMACRow : OpenClaim := { program := "ytapjnaebdmdefaa", sum := "9bbf4e99e24277482e94912739150358f1c56dc2c10a85e6c7744f0a7b72724f", func := "loop.example/g00513/laws.FnExactManifestMAC", spec := "fnExactManifestMAC", apart := false }
def FnExactManifestMACSaid : Prop := fnExactManifestMACRow.holds Try.pinned (OpenSpec.ofChange fnExactManifestMACSpec)

/-- ITS FALSE NEIGHBOUR: 'it returns false'. Refute it at one input. -/
def fnExactManifestMACWrong : ChangeSpec := { name := "fnExactManifestMAC", fn := fun _ => fun
  | [d1, d2] => { results := [.lit (.bool false)], args := [d1, d2] }
  | _ => none }
def FnExactManifestMACWrongFalsely : Prop := fnExactManifestMACRow.holds Try.pinned (OpenSpec.ofChange fnExactManifestMACWrong)

/- THE SECOND FORM. 'bulk': how many values and letters a reading holds, each counted each time it is reached (what is shared counts as often as it is met; a slice's spare places count too). A statement '..UptoSaid' is the law's where the arguments, and the package variables that the reading takes, are together of bulk at most 1048576: NARROWER than '..Said'. Prove '..Said' where nothing that the law and all that it calls make is longer than what came in: it says more and counts as full. Else prove '..UptoSaid'. A law counts once. -/
mutual
def uptoBulk {H : Type} : DataW H → Nat
  | .lit (.string bytes) => bytes.length + 1
  | .lit _ => 1
  | .nil => 1
  | .ptr d => uptoBulk d + 1
  | .slice elems spare => uptoBulkAll elems + uptoBulkAll spare + 1
  | .agg parts => uptoBulkAll parts + 1
  | .iface _ d => uptoBulk d + 1
  | .map entries => uptoBulkEntries entries + 1
  | .held _ => 1
def uptoBulkAll {H : Type} : List (DataW H) → Nat
  | [] => 0
  | d :: r => uptoBulk d + uptoBulkAll r
def uptoBulkEntries {H : Type} : List (Lit × DataW H) → Nat
  | [] => 0
  | x :: r => uptoBulkEntry x + uptoBulkEntries r
def uptoBulkEntry {H : Type} : Lit × DataW H → Nat
  | (.string bytes, d) => bytes.length + uptoBulk d + 1
  | (_, d) => uptoBulk d + 1
 end
def uptoSmall : (H : Type) → List (DataW H) → Bool := fun _ ds => decide (uptoBulkAll ds ≤ 1048576)
def OpenSpec.upto (s : _root_.Go.ChangeSpec) : _root_.Go.OpenSpec := { _root_.Go.OpenSpec.ofChange s with cond := some uptoSmall }

/-- 'laws.FnExactEqualManifests', WHERE WHAT IT READS IS OF BULK AT MOST 1048576: true; the input reads as it did. -/
def fnExactEqualManifestsUptoRow : OpenClaim := { program := "ytapjnaebdmdefaa", sum := "9bbf4e99e24277482e94912739150358f1c56dc2c10a85e6c7744f0a7b72724f", func := "loop.example/g00513/laws.FnExactEqualManifests", spec := "fnExactEqualManifests", apart := false, narrowed := true }
def FnExactEqualManifestsUptoSaid : Prop := fnExactEqualManifestsUptoRow.holds Try.pinned (OpenSpec.upto fnExactEqualManifestsSpec)

/-- 'laws.FnExactPacketRow', WHERE WHAT IT READS IS OF BULK AT MOST 1048576: true; the input reads as it did. -/
def fnExactPacketRowUptoRow : OpenClaim := { program := "ytapjnaebdmdefaa", sum := "9bbf4e99e24277482e94912739150358f1c56dc2c10a85e6c7744f0a7b72724f", func := "loop.example/g00513/laws.FnExactPacketRow", spec := "fnExactPacketRow", apart := false, narrowed := true }
def FnExactPacketRowUptoSaid : Prop := fnExactPacketRowUptoRow.holds Try.pinned (OpenSpec.upto fnExactPacketRowSpec)

/-- 'laws.FnExactEqualNullKeys', WHERE WHAT IT READS IS OF BULK AT MOST 1048576: true; the input reads as it did. -/
def fnExactEqualNullKeysUptoRow : OpenClaim := { program := "ytapjnaebdmdefaa", sum := "9bbf4e99e24277482e94912739150358f1c56dc2c10a85e6c7744f0a7b72724f", func := "loop.example/g00513/laws.FnExactEqualNullKeys", spec := "fnExactEqualNullKeys", unfollowed := true, recurses := true, apart := false, narrowed := true }
def FnExactEqualNullKeysUptoSaid : Prop := fnExactEqualNullKeysUptoRow.holds Try.pinned (OpenSpec.upto fnExactEqualNullKeysSpec)

/-- 'laws.FnExactIsValidNullKeys', WHERE WHAT IT READS IS OF BULK AT MOST 1048576: true; the input reads as it did. -/
def fnExactIsValidNullKeysUptoRow : OpenClaim := { program := "ytapjnaebdmdefaa", sum := "9bbf4e99e24277482e94912739150358f1c56dc2c10a85e6c7744f0a7b72724f", func := "loop.example/g00513/laws.FnExactIsValidNullKeys", spec := "fnExactIsValidNullKeys", unfollowed := true, recurses := true, apart := false, narrowed := true }
def FnExactIsValidNullKeysUptoSaid : Prop := fnExactIsValidNullKeysUptoRow.holds Try.pinned (OpenSpec.upto fnExactIsValidNullKeysSpec)

/-- 'laws.FnExactEqualDecoders', WHERE WHAT IT READS IS OF BULK AT MOST 1048576: true; the input reads as it did. -/
def fnExactEqualDecodersUptoRow : OpenClaim := { program := "ytapjnaebdmdefaa", sum := "9bbf4e99e24277482e94912739150358f1c56dc2c10a85e6c7744f0a7b72724f", func := "loop.example/g00513/laws.FnExactEqualDecoders", spec := "fnExactEqualDecoders", unfollowed := true, recurses := true, apart := false, narrowed := true }
def FnExactEqualDecodersUptoSaid : Prop := fnExactEqualDecodersUptoRow.holds Try.pinned (OpenSpec.upto fnExactEqualDecodersSpec)

/-- 'laws.FnExactEqualRecoders', WHERE WHAT IT READS IS OF BULK AT MOST 1048576: true; the input reads as it did. -/
def fnExactEqualRecodersUptoRow : OpenClaim := { program := "ytapjnaebdmdefaa", sum := "9bbf4e99e24277482e94912739150358f1c56dc2c10a85e6c7744f0a7b72724f", func := "loop.example/g00513/laws.FnExactEqualRecoders", spec := "fnExactEqualRecoders", unfollowed := true, recurses := true, apart := false, narrowed := true }
def FnExactEqualRecodersUptoSaid : Prop := fnExactEqualRecodersUptoRow.holds Try.pinned (OpenSpec.upto fnExactEqualRecodersSpec)

/-- 'laws.FnExactNewRecoder', WHERE WHAT IT READS IS OF BULK AT MOST 1048576: true; the input reads as it did. -/
def fnExactNewRecoderUptoRow : OpenClaim := { program := "ytapjnaebdmdefaa", sum := "9bbf4e99e24277482e94912739150358f1c56dc2c10a85e6c7744f0a7b72724f", func := "loop.example/g00513/laws.FnExactNewRecoder", spec := "fnExactNewRecoder", apart := false, narrowed := true }
def FnExactNewRecoderUptoSaid : Prop := fnExactNewRecoderUptoRow.holds Try.pinned (OpenSpec.upto fnExactNewRecoderSpec)

/-- 'laws.FnExactIsValidHashKey', WHERE WHAT IT READS IS OF BULK AT MOST 1048576: true; the input reads as it did. -/
def fnExactIsValidHashKeyUptoRow : OpenClaim := { program := "ytapjnaebdmdefaa", sum := "9bbf4e99e24277482e94912739150358f1c56dc2c10a85e6c7744f0a7b72724f", func := "loop.example/g00513/laws.FnExactIsValidHashKey", spec := "fnExactIsValidHashKey", apart := false, narrowed := true }
def FnExactIsValidHashKeyUptoSaid : Prop := fnExactIsValidHashKeyUptoRow.holds Try.pinned (OpenSpec.upto fnExactIsValidHashKeySpec)

/-- 'laws.FnExactCombineHashes', WHERE WHAT IT READS IS OF BULK AT MOST 1048576: true; the input reads as it did. -/
def fnExactCombineHashesUptoRow : OpenClaim := { program := "ytapjnaebdmdefaa", sum := "9bbf4e99e24277482e94912739150358f1c56dc2c10a85e6c7744f0a7b72724f", func := "loop.example/g00513/laws.FnExactCombineHashes", spec := "fnExactCombineHashes", apart := false, narrowed := true }
def FnExactCombineHashesUptoSaid : Prop := fnExactCombineHashesUptoRow.holds Try.pinned (OpenSpec.upto fnExactCombineHashesSpec)

/-- 'laws.FnExactHashVector', WHERE WHAT IT READS IS OF BULK AT MOST 1048576: true; the input reads as it did. -/
def fnExactHashVectorUptoRow : OpenClaim := { program := "ytapjnaebdmdefaa", sum := "9bbf4e99e24277482e94912739150358f1c56dc2c10a85e6c7744f0a7b72724f", func := "loop.example/g00513/laws.FnExactHashVector", spec := "fnExactHashVector", apart := false, narrowed := true }
def FnExactHashVectorUptoSaid : Prop := fnExactHashVectorUptoRow.holds Try.pinned (OpenSpec.upto fnExactHashVectorSpec)

/-- 'laws.FnExactIsValidManifest', WHERE WHAT IT READS IS OF BULK AT MOST 1048576: true; the input reads as it did. -/
def fnExactIsValidManifestUptoRow : OpenClaim := { program := "ytapjnaebdmdefaa", sum := "9bbf4e99e24277482e94912739150358f1c56dc2c10a85e6c7744f0a7b72724f", func := "loop.example/g00513/laws.FnExactIsValidManifest", spec := "fnExactIsValidManifest", unfollowed := true, recurses := true, apart := false, narrowed := true }
def FnExactIsValidManifestUptoSaid : Prop := fnExactIsValidManifestUptoRow.holds Try.pinned (OpenSpec.upto fnExactIsValidManifestSpec)

/-- 'laws.FnExactManifestMAC', WHERE WHAT IT READS IS OF BULK AT MOST 1048576: true; the input reads as it did. -/
def fnExactManifestMACUptoRow : OpenClaim := { program := "ytapjnaebdmdefaa", sum := "9bbf4e99e24277482e94912739150358f1c56dc2c10a85e6c7744f0a7b72724f", func := "loop.example/g00513/laws.FnExactManifestMAC", spec := "fnExactManifestMAC", apart := false, narrowed := true }
def FnExactManifestMACUptoSaid : Prop := fnExactManifestMACUptoRow.holds Try.pinned (OpenSpec.upto fnExactManifestMACSpec)

end Rows
end Go.Proofs.Ytapjnaebdmdefaa
