/-
  The laws' helpers for NullKeys: contracts of szNullKeys, toNullKeys, eqNullKeys. Condition of toNullKeys: at most 2^20 elements a slice.
-/
import Derived.Test.YtjaagabbbnokdaaGreatSl3
import Derived.Test.YtjaagabbbnokdaaGreatMat3
namespace Go.Proofs.YtjaagabbbnokdaaGreat
open Go.ChangeShapes Go.WideShapes Go.ChangeAt Go.RowKit
set_option linter.unusedVariables false
set_option maxRecDepth 100000

set_option maxHeartbeats 1000000 in
theorem eqNk_same (a b c : Int) (v : Value) (xv : List (List Int)) (yv : Value) (w : World) (hv : RII w v xv) (gv : RII w yv xv) :
    Calls Tryz.prog 9 #[.agg #[.int .i64 a, .int .i64 b, .int .i64 c, v], .agg #[.int .i64 a, .int .i64 b, .int .i64 c, yv]] w fun e w' => e = .returned (.bool true) ∧ Bel w w' := by
  go_enter Tryz.func9, Tryz.ntmps9
  go_wp2_with fail
  refine (eqII_same v yv xv _ (hv.keep (((Bel.refl _).alloc _).alloc _)) (gv.keep (((Bel.refl _).alloc _).alloc _))).mono ?_
  rintro e w1 ⟨rfl, hb1⟩
  have Y1 : Bel w w1 := (((Bel.refl _).alloc _).alloc _).trans hb1
  have B1 := hb1.keep ((Blk.new w _ _).alloc _)
  have D1 := hb1.keep (Blk.new2 w _ _ _)
  obtain ⟨c1, _, _⟩ := B1.facts
  obtain ⟨c2, _, _⟩ := D1.facts
  go_wp2
  go_ret
  exact ⟨rfl, Y1⟩
end Go.Proofs.YtjaagabbbnokdaaGreat
