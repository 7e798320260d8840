/-
  The laws' helpers for Graph: contracts of szGraph, toGraph, eqGraph. Condition of toGraph: at most 2^20 elements a slice.
-/
import Derived.Test.YtgdainjconfnfaaDoorSl3
import Derived.Test.YtgdainjconfnfaaDoorTriC
namespace Go.Proofs.YtgdainjconfnfaaDoor
open Go.ChangeShapes Go.WideShapes Go.ChangeAt Go.RowKit
set_option linter.unusedVariables false
set_option maxRecDepth 100000

set_option maxHeartbeats 400000 in
theorem szGraph_ok (a : Int) (v : Value) (xv : List Tr) (l : Int) (w : World) (hv : RT w v xv) (h0 : (xv.length : Int) ≤ l) (h1 : l ≤ 1048576) :
    Calls Tryd.prog 4 #[.agg #[.int .i64 a, v], .int .i64 l] w fun e w' => e = .returned (.int .i64 (l - ((xv.length : Int)))) ∧ Bel w w' := by
  have hd0 : decide (l - (xv.length : Int) < 0) = false := by simp; omega
  go_enter Tryd.func4, Tryd.ntmps4
  go_wp2_with fail
  refine (szEd_ok v xv (l) _ (hv.keep ((Bel.refl _).alloc _)) (by omega) (by omega)).mono ?_
  rintro e w1 ⟨rfl, rfl⟩
  go_wp2
  go_ret
  exact ⟨rfl, (Bel.refl _).alloc _⟩
set_option maxHeartbeats 400000 in
theorem szGraph_no (a : Int) (v : Value) (xv : List Tr) (l : Int) (w : World) (hv : RT w v xv) (h0 : l < (xv.length : Int)) (h1 : 0 ≤ l) (h2 : l ≤ 1048576) :
    Calls Tryd.prog 4 #[.agg #[.int .i64 a, v], .int .i64 l] w fun e w' => e = .returned (.int .i64 (-1)) ∧ Bel w w' := by
  go_enter Tryd.func4, Tryd.ntmps4
  go_wp2_with fail
  refine (szEd_no v xv (l) _ (hv.keep ((Bel.refl _).alloc _)) (by omega) (by omega) (by omega)).mono ?_
  rintro e w1 ⟨rfl, rfl⟩
  go_wp2
  go_ret
  exact ⟨rfl, (Bel.refl _).alloc _⟩
set_option maxHeartbeats 1000000 in
theorem toGraph (a : Int) (v : Value) (xv : List Tr) (w : World) (hv : RT w v xv) (nv : xv.length ≤ 1048576) :
    Calls Tryd.prog 6 #[.agg #[.int .i64 a, v]] w fun e w' => ∃ rv, e = .returned (.agg #[.int .i64 a, rv]) ∧ OT 36 w' w.heap.size rv xv ∧ Bel w w' := by
  go_enter Tryd.func6, Tryd.ntmps6
  go_wp2_with fail
  refine (toEdS v xv _ (hv.keep ((((Bel.refl _).alloc _).alloc _).alloc _)) nv).mono ?_
  rintro e w1 ⟨rv, rfl, Ov, hb1⟩
  replace Ov := Ov.low (show w.heap.size + 3 ≤ _ by simp)
  have X1 := hb1.keep (((Blk.new w _ _).alloc _).alloc _)
  have R1 := hb1.keep ((Blk.new2 w _ _ _).alloc _)
  have Q1 := hb1.keep (Blk.new3 w _ _ _ _)
  have Y1 : Bel w w1 := ((((Bel.refl _).alloc _).alloc _).alloc _).trans hb1
  have s1 := Y1.size
  obtain ⟨Av, cv, ev, _, _, _⟩ := Ov.reads
  subst ev
  obtain ⟨cx, fx, zx⟩ := X1.facts
  obtain ⟨cr, fr, zr⟩ := R1.facts
  obtain ⟨cq, fq, zq⟩ := Q1.facts
  go_wp2
  refine bodyPost_ret (v := .agg #[.int .i64 a, .slice Av xv.length cv]) (by simp [results, Tryd.results6, go_sem, cr]) rfl ⟨_, rfl, ?_, ?_⟩
  · refine OT.low (base := w.heap.size + 3) ?_ (by omega)
    repeat (first | (with_reducible exact Ov) | (refine OT.setFar ?_ (by dsimp only; omega) _))
  · repeat (first | (with_reducible exact Y1) | (refine Bel.setCell ?_ (by dsimp only; omega) _))
set_option maxHeartbeats 1000000 in
theorem eqGraph_same (a : Int) (v : Value) (xv : List Tr) (yv : Value) (w : World) (hv : RT w v xv) (gv : RT w yv xv) :
    Calls Tryd.prog 8 #[.agg #[.int .i64 a, v], .agg #[.int .i64 a, yv]] w fun e w' => e = .returned (.bool true) ∧ Bel w w' := by
  go_enter Tryd.func8, Tryd.ntmps8
  go_wp2_with fail
  refine (eqEdS_same v yv xv _ (hv.keep (((Bel.refl _).alloc _).alloc _)) (gv.keep (((Bel.refl _).alloc _).alloc _))).mono ?_
  rintro e w1 ⟨rfl, hb1⟩
  have Y1 : Bel w w1 := (((Bel.refl _).alloc _).alloc _).trans hb1
  have B1 := hb1.keep ((Blk.new w _ _).alloc _)
  have D1 := hb1.keep (Blk.new2 w _ _ _)
  obtain ⟨c1, _, _⟩ := B1.facts
  obtain ⟨c2, _, _⟩ := D1.facts
  go_wp2
  go_ret
  exact ⟨rfl, Y1⟩
end Go.Proofs.YtgdainjconfnfaaDoor
