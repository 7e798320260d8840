/-
  markCodedPacket: its contract at two slices that lie in blocks of their own. Condition: numbers below 2^62.
-/
import Derived.Test.YtmngpenoijmgiaaMid
import Derived.Test.YtmngpenoijmgiaaKPkt
namespace Go.Proofs.Ytmngpenoijmgiaa
open Go.ChangeShapes Go.WideShapes Go.ChangeAt Go.RowKit
set_option linter.unusedVariables false
set_option maxRecDepth 100000

set_option maxHeartbeats 1000000 in
theorem markPkt (a k : Int) (v u : Value) (xs ys : List Int) (lo hi : Nat) (w : World) (hv : OI w lo v xs) (hu : OI w lo u ys) (hd : ∀ q, u.ownBlock = some q → v.ownBlock ≠ some q)
    (bv : ∀ q, v.ownBlock = some q → q < hi) (bu : ∀ q, u.ownBlock = some q → q < hi) (hhi : hi ≤ w.heap.size) (h0 : 0 ≤ k) (hk : k + xs.length + ys.length ≤ 4611686018427387904) :
    Calls Try.prog 54 #[.agg #[.int .i64 a, v, u], .int .i64 k] w fun e w' => e = .returned (.int .i64 (k + xs.length + ys.length)) ∧ Mid lo hi w w' := by
  have Y : Bel w (w.alloc (.cells #[.int .i64 a, v, u] 72)) := (Bel.refl _).alloc _
  have X := Blk.new w 72 #[.int .i64 a, v, u]
  have HD := Lib.hid hd
  clear hd
  go_enter Try.func54, Try.ntmps54
  go_wp2_with fail
  refine (markInts v k xs lo _ (hv.keep Y) h0 (by omega)).mono ?_
  rintro e w1 ⟨rfl, O1, G1⟩
  have M1 : Mid lo hi w w1 := (Mid.ofBel Y).trans (Mid.ofGrown G1 (fun q hq => ⟨(hv.block q hq).1, bv q hq⟩))
  have X1 := X.mid (Mid.ofGrown (lo := lo) (hi := hi) G1 (fun q hq => ⟨(hv.block q hq).1, bv q hq⟩)) (.inr hhi)
  have O2 : OI w1 lo u ys := (hu.keep Y).far G1 (by
    cases h : u.ownBlock with
    | none => exact .inl rfl
    | some q => exact .inr (fun e => HD.out q h e.symm))
  obtain ⟨c1, _, _⟩ := X1.facts
  clear G1 X
  go_wp2_with fail
  refine (markInts u (k + xs.length) ys lo _ O2 (by omega) (by omega)).mono ?_
  rintro e w2 ⟨rfl, O3, G2⟩
  have M2 := M1.trans (Mid.ofGrown (lo := lo) (hi := hi) G2 (fun q hq => ⟨(hu.block q hq).1, bu q hq⟩))
  clear c1 G2
  go_wp2
  go_ret
  exact ⟨rfl, M2⟩
end Go.Proofs.Ytmngpenoijmgiaa
