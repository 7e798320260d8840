/-
  markCodedPacket once more, at a packet that lies between two blocks. Condition: numbers below 2^62.
-/
import Derived.Test.YtmngpenoijmgiaaOwn
import Derived.Test.YtmngpenoijmgiaaMarkP
namespace Go.Proofs.Ytmngpenoijmgiaa
open Go.ChangeShapes Go.WideShapes Go.ChangeAt Go.RowKit
set_option linter.unusedVariables false
set_option maxRecDepth 100000
theorem mkPkt (a k : Int) (v u : Value) (xs ys : List Int) (lo hi : Nat) (w : World) (h : Loc lo hi (fun w => OIn w lo hi v xs ∧ OIn w lo hi u ys) w) (hd : ∀ q, u.ownBlock = some q → v.ownBlock ≠ some q)
    (h0 : 0 ≤ k) (hk : k + xs.length + ys.length ≤ 4611686018427387904) :
    Calls Try.prog 54 #[.agg #[.int .i64 a, v, u], .int .i64 k] w fun e w' => e = .returned (.int .i64 (k + xs.length + ys.length)) ∧ Mid lo hi w w' :=
  markPkt a k v u xs ys lo hi w h.out.1.1 h.out.2.1 hd h.out.1.2 h.out.2.2 h.2.1 h0 hk
end Go.Proofs.Ytmngpenoijmgiaa
