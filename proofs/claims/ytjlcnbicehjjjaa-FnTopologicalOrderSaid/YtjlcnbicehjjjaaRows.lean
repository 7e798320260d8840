/-
  No cell of these rows narrows 'for every input' (looked for: loops, veiled, ifaces, maps, wideKeys, modest, calm, conditions, laid).
  DERIVED. THE GIVEN ROWS OF THIS SEAT. 7 by the template 'for every input the law returns true; each argument reads behind the call as it read before'; 0 by the template 'total and deterministic' (their statements: YtjlcnbicehjjjaaTotals.lean).
  GIVEN WITH THE SEED: the statements are not yours to turn. If you find one false, say at which input.
  Laid BY PROGRAM, IN A SANDBOX (cutbox-rows.mjs): the forced cells as the released guide's own fill.sh prints them over the translation 1f38da8657f32d5f… (all of the seat's roots in one cut). By AI agents, Wed Nov 11 2026. No macro, syntax, notation, axiom, sorry.
-/
import Derived.Test.YtjlcnbicehjjjaaChecked
import GoSem.Claim
import GoSem.ClaimJoined
import GoSem.ClaimMapViews
import Derived.JoinedTies
import Derived.KernelRfl
namespace Go.Proofs.Ytjlcnbicehjjjaa
/- THE CELL 'sum', in the pinned program and in every row, IS THE sha256 OF THE DUMP (.gsa) THAT YtjlcnbicehjjjaaProg.lean LOADS. Nothing in Lean hashes anything: it is a label: what it is worth is what the hold of that sum in a sandbox is worth. -/
noncomputable def Try.pinned : Pinned := { name := "ytjlcnbicehjjjaa", sum := "1f38da8657f32d5f4498b103784f19d328675ffe283ef657ab7e1f3dc79acb95", checked := Try.checked }
namespace Rows
def none {H : Type} : Left H := { results := [], args := [] }

/-- 'laws.FnExactNewHashKey': WHATEVER THE INPUT: true; the input reads as it did. -/
def fnExactNewHashKeySpec : ChangeSpec := { name := "fnExactNewHashKey", fn := fun _ => fun
  | [d1, d2] => { results := [.lit (.bool true)], args := [d1, d2] }
  | _ => none }
def fnExactNewHashKeyRow : OpenClaim := { program := "ytjlcnbicehjjjaa", sum := "1f38da8657f32d5f4498b103784f19d328675ffe283ef657ab7e1f3dc79acb95", func := "loop.example/g00513/laws.FnExactNewHashKey", spec := "fnExactNewHashKey", apart := false }
def FnExactNewHashKeySaid : Prop := fnExactNewHashKeyRow.holds Try.pinned (OpenSpec.ofChange fnExactNewHashKeySpec)

/-- ITS FALSE NEIGHBOUR: 'it returns false'. Refute it at one input. -/
def fnExactNewHashKeyWrong : ChangeSpec := { name := "fnExactNewHashKey", fn := fun _ => fun
  | [d1, d2] => { results := [.lit (.bool false)], args := [d1, d2] }
  | _ => none }
def FnExactNewHashKeyWrongFalsely : Prop := fnExactNewHashKeyRow.holds Try.pinned (OpenSpec.ofChange fnExactNewHashKeyWrong)

/-- 'laws.FnExactFindCollision': WHATEVER THE INPUT: true; the input reads as it did. -/
def fnExactFindCollisionSpec : ChangeSpec := { name := "fnExactFindCollision", fn := fun _ => fun
  | [d1, d2] => { results := [.lit (.bool true)], args := [d1, d2] }
  | _ => none }
def fnExactFindCollisionRow : OpenClaim := { program := "ytjlcnbicehjjjaa", sum := "1f38da8657f32d5f4498b103784f19d328675ffe283ef657ab7e1f3dc79acb95", func := "loop.example/g00513/laws.FnExactFindCollision", spec := "fnExactFindCollision", apart := false }
def FnExactFindCollisionSaid : Prop := fnExactFindCollisionRow.holds Try.pinned (OpenSpec.ofChange fnExactFindCollisionSpec)

/-- ITS FALSE NEIGHBOUR: 'it returns false'. Refute it at one input. -/
def fnExactFindCollisionWrong : ChangeSpec := { name := "fnExactFindCollision", fn := fun _ => fun
  | [d1, d2] => { results := [.lit (.bool false)], args := [d1, d2] }
  | _ => none }
def FnExactFindCollisionWrongFalsely : Prop := fnExactFindCollisionRow.holds Try.pinned (OpenSpec.ofChange fnExactFindCollisionWrong)

/-- 'laws.FnCollisions': WHATEVER THE INPUT: true; the input reads as it did. -/
def fnCollisionsSpec : ChangeSpec := { name := "fnCollisions", fn := fun _ => fun
  | [d] => { results := [.lit (.bool true)], args := [d] }
  | _ => none }
def fnCollisionsRow : OpenClaim := { program := "ytjlcnbicehjjjaa", sum := "1f38da8657f32d5f4498b103784f19d328675ffe283ef657ab7e1f3dc79acb95", func := "loop.example/g00513/laws.FnCollisions", spec := "fnCollisions", apart := false }
def FnCollisionsSaid : Prop := fnCollisionsRow.holds Try.pinned (OpenSpec.ofChange fnCollisionsSpec)

/-- ITS FALSE NEIGHBOUR: 'it returns false'. Refute it at one input. -/
def fnCollisionsWrong : ChangeSpec := { name := "fnCollisions", fn := fun _ => fun
  | [d] => { results := [.lit (.bool false)], args := [d] }
  | _ => none }
def FnCollisionsWrongFalsely : Prop := fnCollisionsRow.holds Try.pinned (OpenSpec.ofChange fnCollisionsWrong)

/-- 'laws.FnHomomorphicHashes': WHATEVER THE INPUT: true; the input reads as it did. -/
def fnHomomorphicHashesSpec : ChangeSpec := { name := "fnHomomorphicHashes", fn := fun _ => fun
  | [d] => { results := [.lit (.bool true)], args := [d] }
  | _ => none }
def fnHomomorphicHashesRow : OpenClaim := { program := "ytjlcnbicehjjjaa", sum := "1f38da8657f32d5f4498b103784f19d328675ffe283ef657ab7e1f3dc79acb95", func := "loop.example/g00513/laws.FnHomomorphicHashes", spec := "fnHomomorphicHashes", apart := false }
def FnHomomorphicHashesSaid : Prop := fnHomomorphicHashesRow.holds Try.pinned (OpenSpec.ofChange fnHomomorphicHashesSpec)

/-- ITS FALSE NEIGHBOUR: 'it returns false'. Refute it at one input. -/
def fnHomomorphicHashesWrong : ChangeSpec := { name := "fnHomomorphicHashes", fn := fun _ => fun
  | [d] => { results := [.lit (.bool false)], args := [d] }
  | _ => none }
def FnHomomorphicHashesWrongFalsely : Prop := fnHomomorphicHashesRow.holds Try.pinned (OpenSpec.ofChange fnHomomorphicHashesWrong)

/-- 'laws.FnExactHashSymbols': WHATEVER THE INPUT: true; the input reads as it did. -/
def fnExactHashSymbolsSpec : ChangeSpec := { name := "fnExactHashSymbols", fn := fun _ => fun
  | [d1, d2] => { results := [.lit (.bool true)], args := [d1, d2] }
  | _ => none }
def fnExactHashSymbolsRow : OpenClaim := { program := "ytjlcnbicehjjjaa", sum := "1f38da8657f32d5f4498b103784f19d328675ffe283ef657ab7e1f3dc79acb95", func := "loop.example/g00513/laws.FnExactHashSymbols", spec := "fnExactHashSymbols", apart := false }
def FnExactHashSymbolsSaid : Prop := fnExactHashSymbolsRow.holds Try.pinned (OpenSpec.ofChange fnExactHashSymbolsSpec)

/-- ITS FALSE NEIGHBOUR: 'it returns false'. Refute it at one input. -/
def fnExactHashSymbolsWrong : ChangeSpec := { name := "fnExactHashSymbols", fn := fun _ => fun
  | [d1, d2] => { results := [.lit (.bool false)], args := [d1, d2] }
  | _ => none }
def FnExactHashSymbolsWrongFalsely : Prop := fnExactHashSymbolsRow.holds Try.pinned (OpenSpec.ofChange fnExactHashSymbolsWrong)

/-- 'laws.FnExactIsAcyclic': WHATEVER THE INPUT: true; the input reads as it did. -/
def fnExactIsAcyclicSpec : ChangeSpec := { name := "fnExactIsAcyclic", fn := fun _ => fun
  | [d] => { results := [.lit (.bool true)], args := [d] }
  | _ => none }
def fnExactIsAcyclicRow : OpenClaim := { program := "ytjlcnbicehjjjaa", sum := "1f38da8657f32d5f4498b103784f19d328675ffe283ef657ab7e1f3dc79acb95", func := "loop.example/g00513/laws.FnExactIsAcyclic", spec := "fnExactIsAcyclic", unfollowed := true, recurses := true, apart := false }
def FnExactIsAcyclicSaid : Prop := fnExactIsAcyclicRow.holds Try.pinned (OpenSpec.ofChange fnExactIsAcyclicSpec)

/-- ITS FALSE NEIGHBOUR: 'it returns false'. Refute it at one input. -/
def fnExactIsAcyclicWrong : ChangeSpec := { name := "fnExactIsAcyclic", fn := fun _ => fun
  | [d] => { results := [.lit (.bool false)], args := [d] }
  | _ => none }
def FnExactIsAcyclicWrongFalsely : Prop := fnExactIsAcyclicRow.holds Try.pinned (OpenSpec.ofChange fnExactIsAcyclicWrong)

/-- 'laws.FnTopologicalOrder': WHATEVER THE INPUT: true; the input reads as it did. -/
def fnTopologicalOrderSpec : ChangeSpec := { name := "fnTopologicalOrder", fn := fun _ => fun
  | [d] => { results := [.lit (.bool true)], args := [d] }
  | _ => none }
def fnTopologicalOrderRow : OpenClaim := { program := "ytjlcnbicehjjjaa", sum := "1f38da8657f32d5f4498b103784f19d328675ffe283ef657ab7e1f3dc79acb95", func := "loop.example/g00513/laws.FnTopologicalOrder", spec := "fnTopologicalOrder", unfollowed := true, recurses := true, apart := false }
def FnTopologicalOrderSaid : Prop := fnTopologicalOrderRow.holds Try.pinned (OpenSpec.ofChange fnTopologicalOrderSpec)

/-- ITS FALSE NEIGHBOUR: 'it returns false'. Refute it at one input. -/
def fnTopologicalOrderWrong : ChangeSpec := { name := "fnTopologicalOrder", fn := fun _ => fun
  | [d] => { results := [.lit (.bool false)], args := [d] }
  | _ => none }
def FnTopologicalOrderWrongFalsely : Prop := fnTopologicalOrderRow.holds Try.pinned (OpenSpec.ofChange fnTopologicalOrderWrong)

/- THE SECOND FORM. 'bulk': how many values and letters a reading holds, each counted each time it is reached (what is shared counts as often as it is met; a slice's spare places count too). A statement '..UptoSaid' is the law's where the arguments, and the package variables that the reading takes, are together of bulk at most 1048576: NARROWER than '..Said'. Prove '..Said' where nothing that the law and all that it calls make is longer than what came in: it says more and counts as full. Else prove '..UptoSaid'. A law counts once. -/
mutual
def uptoBulk {H : Type} : DataW H → Nat
  | .lit (.string bytes) => bytes.length + 1
  | .lit _ => 1
  | .nil => 1
  | .ptr d => uptoBulk d + 1
  | .slice elems spare => uptoBulkAll elems + uptoBulkAll spare + 1
  | .agg parts => uptoBulkAll parts + 1
  | .iface _ d => uptoBulk d + 1
  | .map entries => uptoBulkEntries entries + 1
  | .held _ => 1
def uptoBulkAll {H : Type} : List (DataW H) → Nat
  | [] => 0
  | d :: r => uptoBulk d + uptoBulkAll r
def uptoBulkEntries {H : Type} : List (Lit × DataW H) → Nat
  | [] => 0
  | x :: r => uptoBulkEntry x + uptoBulkEntries r
def uptoBulkEntry {H : Type} : Lit × DataW H → Nat
  | (.string bytes, d) => bytes.length + uptoBulk d + 1
  | (_, d) => uptoBulk d + 1
 end
def uptoSmall : (H : Type) → List (DataW H) → Bool := fun _ ds => decide (uptoBulkAll ds ≤ 1048576)
def OpenSpec.upto (s : _root_.Go.ChangeSpec) : _root_.Go.OpenSpec := { _root_.Go.OpenSpec.ofChange s with cond := some uptoSmall }

/-- 'laws.FnExactNewHashKey', WHERE WHAT IT READS IS OF BULK AT MOST 1048576: true; the input reads as it did. -/
def fnExactNewHashKeyUptoRow : OpenClaim := { program := "ytjlcnbicehjjjaa", sum := "1f38da8657f32d5f4498b103784f19d328675ffe283ef657ab7e1f3dc79acb95", func := "loop.example/g00513/laws.FnExactNewHashKey", spec := "fnExactNewHashKey", apart := false, narrowed := true }
def FnExactNewHashKeyUptoSaid : Prop := fnExactNewHashKeyUptoRow.holds Try.pinned (OpenSpec.upto fnExactNewHashKeySpec)

/-- 'laws.FnExactFindCollision', WHERE WHAT IT READS IS OF BULK AT MOST 1048576: true; the input reads as it did. -/
def fnExactFindCollisionUptoRow : OpenClaim := { program := "ytjlcnbicehjjjaa", sum := "1f38da8657f32d5f4498b103784f19d328675ffe283ef657ab7e1f3dc79acb95", func := "loop.example/g00513/laws.FnExactFindCollision", spec := "fnExactFindCollision", apart := false, narrowed := true }
def FnExactFindCollisionUptoSaid : Prop := fnExactFindCollisionUptoRow.holds Try.pinned (OpenSpec.upto fnExactFindCollisionSpec)

/-- 'laws.FnCollisions', WHERE WHAT IT READS IS OF BULK AT MOST 1048576: true; the input reads as it did. -/
def fnCollisionsUptoRow : OpenClaim := { program := "ytjlcnbicehjjjaa", sum := "1f38da8657f32d5f4498b103784f19d328675ffe283ef657ab7e1f3dc79acb95", func := "loop.example/g00513/laws.FnCollisions", spec := "fnCollisions", apart := false, narrowed := true }
def FnCollisionsUptoSaid : Prop := fnCollisionsUptoRow.holds Try.pinned (OpenSpec.upto fnCollisionsSpec)

/-- 'laws.FnHomomorphicHashes', WHERE WHAT IT READS IS OF BULK AT MOST 1048576: true; the input reads as it did. -/
def fnHomomorphicHashesUptoRow : OpenClaim := { program := "ytjlcnbicehjjjaa", sum := "1f38da8657f32d5f4498b103784f19d328675ffe283ef657ab7e1f3dc79acb95", func := "loop.example/g00513/laws.FnHomomorphicHashes", spec := "fnHomomorphicHashes", apart := false, narrowed := true }
def FnHomomorphicHashesUptoSaid : Prop := fnHomomorphicHashesUptoRow.holds Try.pinned (OpenSpec.upto fnHomomorphicHashesSpec)

/-- 'laws.FnExactHashSymbols', WHERE WHAT IT READS IS OF BULK AT MOST 1048576: true; the input reads as it did. -/
def fnExactHashSymbolsUptoRow : OpenClaim := { program := "ytjlcnbicehjjjaa", sum := "1f38da8657f32d5f4498b103784f19d328675ffe283ef657ab7e1f3dc79acb95", func := "loop.example/g00513/laws.FnExactHashSymbols", spec := "fnExactHashSymbols", apart := false, narrowed := true }
def FnExactHashSymbolsUptoSaid : Prop := fnExactHashSymbolsUptoRow.holds Try.pinned (OpenSpec.upto fnExactHashSymbolsSpec)

/-- 'laws.FnExactIsAcyclic', WHERE WHAT IT READS IS OF BULK AT MOST 1048576: true; the input reads as it did. -/
def fnExactIsAcyclicUptoRow : OpenClaim := { program := "ytjlcnbicehjjjaa", sum := "1f38da8657f32d5f4498b103784f19d328675ffe283ef657ab7e1f3dc79acb95", func := "loop.example/g00513/laws.FnExactIsAcyclic", spec := "fnExactIsAcyclic", unfollowed := true, recurses := true, apart := false, narrowed := true }
def FnExactIsAcyclicUptoSaid : Prop := fnExactIsAcyclicUptoRow.holds Try.pinned (OpenSpec.upto fnExactIsAcyclicSpec)

/-- 'laws.FnTopologicalOrder', WHERE WHAT IT READS IS OF BULK AT MOST 1048576: true; the input reads as it did. -/
def fnTopologicalOrderUptoRow : OpenClaim := { program := "ytjlcnbicehjjjaa", sum := "1f38da8657f32d5f4498b103784f19d328675ffe283ef657ab7e1f3dc79acb95", func := "loop.example/g00513/laws.FnTopologicalOrder", spec := "fnTopologicalOrder", unfollowed := true, recurses := true, apart := false, narrowed := true }
def FnTopologicalOrderUptoSaid : Prop := fnTopologicalOrderUptoRow.holds Try.pinned (OpenSpec.upto fnTopologicalOrderSpec)

end Rows
end Go.Proofs.Ytjlcnbicehjjjaa
