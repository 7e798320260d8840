/-
  PacketRow: contract of the program's function. Condition: at most 2^21 numbers.
-/
import Derived.Test.YtdhglociegpmaaaMac
namespace Go.Proofs.Ytdhglociegpmaaa
open Go.ChangeShapes Go.WideShapes Go.ChangeAt Go.RowKit
set_option linter.unusedVariables false
set_option maxRecDepth 100000

set_option maxHeartbeats 1000000 in
theorem rowI (a : Int) (v u : Value) (xs ys : List Int) (w : World) (hv : RI w v xs) (hu : RI w u ys) (hn : xs.length + ys.length ≤ 2097152) :
    Calls Try.prog 105 #[.agg #[.int .i64 a, v, u]] w fun e w' => ∃ r, e = .returned r ∧ OI w' w.heap.size r (xs ++ ys) ∧ Bel w w' := by
  obtain ⟨A, c, rfl, _, _, _⟩ := id hv
  obtain ⟨B, d, rfl, _, _, _⟩ := id hu
  have X := Blk.new2 w (.cells #[.int .i64 a, .slice A xs.length c, .slice B ys.length d] 50) 22 #[.slice A xs.length c, .slice B ys.length d]
  have Y : Bel w ((w.alloc (.cells #[.int .i64 a, .slice A xs.length c, .slice B ys.length d] 50)).alloc (.cells #[.slice A xs.length c, .slice B ys.length d] 22)) := ((Bel.refl _).alloc _).alloc _
  have HV := Lib.hid (hv.keep Y)
  have HU := Lib.hid (hu.keep Y)
  go_enter Try.func105, Try.ntmps105
  go_wp2_with fail
  refine (concatI _ [xs, ys] _ ?_ (by simp; omega)).mono ?_
  · refine RII.of X rfl (by omega) ?_
    intro j zs hj
    match j with
    | 0 => simp at hj; subst hj; exact ⟨_, rfl, HV.out⟩
    | 1 => simp at hj; subst hj; exact ⟨_, rfl, HU.out⟩
    | j + 2 => simp at hj
  · rintro e w1 ⟨v1, rfl, O1, hb1⟩
    have e1 : ([xs, ys] : List (List Int)).flatten = xs ++ ys := by simp
    rw [e1] at O1
    clear X e1
    go_wp2
    go_ret
    exact ⟨_, rfl, O1.low Y.size, Y.trans hb1⟩
end Go.Proofs.Ytdhglociegpmaaa
