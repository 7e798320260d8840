/-
  The laws' helpers for Basis: contracts of szBasis, toBasis, eqBasis. Condition of toBasis: at most 2^20 elements a slice.
-/
import Derived.Test.YtamiamogablglaaSl3
import Derived.Test.YtamiamogablglaaMat3
namespace Go.Proofs.Ytamiamogablglaa
open Go.ChangeShapes Go.WideShapes Go.ChangeAt Go.RowKit
set_option linter.unusedVariables false
set_option maxRecDepth 100000

set_option maxHeartbeats 400000 in
theorem szBasis_ok (d : Int) (v : Value) (xv : List (List Int)) (l : Int) (w : World) (hv : RII w v xv) (h0 : (szM xv : Int) ≤ l) (h1 : l ≤ 1048576) :
    Calls Try.prog 66 #[.agg #[.int .i64 d, v], .int .i64 l] w fun e w' => e = .returned (.int .i64 (l - ((szM xv : Int)))) ∧ Bel w w' := by
  have hd0 : decide (l - (szM xv : Int) < 0) = false := by simp; omega
  go_enter Try.func66, Try.ntmps66
  go_wp2_with fail
  refine (szII_ok v xv (l) _ (hv.keep ((Bel.refl _).alloc _)) (by omega) (by omega)).mono ?_
  rintro e w1 ⟨rfl, rfl⟩
  go_wp2
  go_ret
  exact ⟨rfl, (Bel.refl _).alloc _⟩
set_option maxHeartbeats 400000 in
theorem szBasis_no (d : Int) (v : Value) (xv : List (List Int)) (l : Int) (w : World) (hv : RII w v xv) (h0 : l < (szM xv : Int)) (h1 : 0 ≤ l) (h2 : l ≤ 1048576) :
    Calls Try.prog 66 #[.agg #[.int .i64 d, v], .int .i64 l] w fun e w' => e = .returned (.int .i64 (-1)) ∧ Bel w w' := by
  go_enter Try.func66, Try.ntmps66
  go_wp2_with fail
  refine (szII_no v xv (l) _ (hv.keep ((Bel.refl _).alloc _)) (by omega) (by omega) (by omega)).mono ?_
  rintro e w1 ⟨rfl, rfl⟩
  go_wp2
  go_ret
  exact ⟨rfl, (Bel.refl _).alloc _⟩
set_option maxHeartbeats 1000000 in
theorem toBasis (d : Int) (v : Value) (xv : List (List Int)) (w : World) (hv : RII w v xv) (nv : szM xv ≤ 1048576) :
    Calls Try.prog 70 #[.agg #[.int .i64 d, v]] w fun e w' => ∃ rv, e = .returned (.agg #[.int .i64 d, rv]) ∧ OM w' w.heap.size rv xv ∧ Bel w w' := by
  go_enter Try.func70, Try.ntmps70
  go_wp2_with fail
  refine (toM v xv _ (hv.keep ((((Bel.refl _).alloc _).alloc _).alloc _)) nv).mono ?_
  rintro e w1 ⟨rv, rfl, Ov, hb1⟩
  replace Ov := Ov.low (show w.heap.size + 3 ≤ _ by simp)
  have X1 := hb1.keep (((Blk.new w _ _).alloc _).alloc _)
  have R1 := hb1.keep ((Blk.new2 w _ _ _).alloc _)
  have Q1 := hb1.keep (Blk.new3 w _ _ _ _)
  have Y1 : Bel w w1 := ((((Bel.refl _).alloc _).alloc _).alloc _).trans hb1
  have s1 := Y1.size
  obtain ⟨Av, cv, ev, _, _, _⟩ := Ov.reads
  subst ev
  obtain ⟨cx, fx, zx⟩ := X1.facts
  obtain ⟨cr, fr, zr⟩ := R1.facts
  obtain ⟨cq, fq, zq⟩ := Q1.facts
  go_wp2
  refine bodyPost_ret (v := .agg #[.int .i64 d, .slice Av xv.length cv]) (by simp [results, Try.results70, go_sem, cr]) rfl ⟨_, rfl, ?_, ?_⟩
  · refine OM.low (base := w.heap.size + 3) ?_ (by omega)
    repeat (first | (with_reducible exact Ov) | (refine OM.setFar ?_ (by dsimp only; omega) _))
  · repeat (first | (with_reducible exact Y1) | (refine Bel.setCell ?_ (by dsimp only; omega) _))
set_option maxHeartbeats 1000000 in
theorem eqBasis_same (d : Int) (v : Value) (xv : List (List Int)) (yv : Value) (w : World) (hv : RII w v xv) (gv : RII w yv xv) :
    Calls Try.prog 51 #[.agg #[.int .i64 d, v], .agg #[.int .i64 d, yv]] w fun e w' => e = .returned (.bool true) ∧ Bel w w' := by
  go_enter Try.func51, Try.ntmps51
  go_wp2_with fail
  refine (eqII_same v yv xv _ (hv.keep (((Bel.refl _).alloc _).alloc _)) (gv.keep (((Bel.refl _).alloc _).alloc _))).mono ?_
  rintro e w1 ⟨rfl, hb1⟩
  have Y1 : Bel w w1 := (((Bel.refl _).alloc _).alloc _).trans hb1
  have B1 := hb1.keep ((Blk.new w _ _).alloc _)
  have D1 := hb1.keep (Blk.new2 w _ _ _)
  obtain ⟨c1, _, _⟩ := B1.facts
  obtain ⟨c2, _, _⟩ := D1.facts
  go_wp2
  go_ret
  exact ⟨rfl, Y1⟩
theorem eqBasisO (d : Int) (v yv : Value) (xv : List (List Int)) (w : World) (hv : RII w v xv) (gv : RII w yv xv) : Calls Try.prog 51 #[.agg #[.int .i64 d, v], .agg #[.int .i64 d, yv]] w fun e w' => e = .returned (.bool true) ∧ Bel w w' := eqBasis_same d v xv yv w hv gv
theorem szBasisO_ok (d : Int) (v : Value) (xv : List (List Int)) (l : Int) (w : World) (hv : RII w v xv) (h0 : (szM xv : Int) ≤ l) (h1 : l ≤ 1048576) : Calls Try.prog 66 #[.agg #[.int .i64 d, v], .int .i64 l] w fun e w' => e = .returned (.int .i64 (l - (szM xv : Int))) ∧ Bel w w' := szBasis_ok d v xv l w hv h0 h1
theorem szBasisO_no (d : Int) (v : Value) (xv : List (List Int)) (l : Int) (w : World) (hv : RII w v xv) (h0 : l < (szM xv : Int)) (h1 : 0 ≤ l) (h2 : l ≤ 1048576) : Calls Try.prog 66 #[.agg #[.int .i64 d, v], .int .i64 l] w fun e w' => e = .returned (.int .i64 (-1)) ∧ Bel w w' := szBasis_no d v xv l w hv h0 h1 h2
end Go.Proofs.Ytamiamogablglaa
