/-
  The laws' helpers for Recoder: contracts of szRecoder, toRecoder, eqRecoder. Condition of toRecoder: at most 2^20 elements a slice.
-/
import Derived.Test.YtchodlfkoafeaaaSl3
import Derived.Test.YtchodlfkoafeaaaPks2
namespace Go.Proofs.Ytchodlfkoafeaaa
open Go.ChangeShapes Go.WideShapes Go.ChangeAt Go.RowKit
set_option linter.unusedVariables false
set_option maxRecDepth 100000

set_option maxHeartbeats 400000 in
theorem szRec_ok (a b c m : Int) (v : Value) (xv : List Pk) (l : Int) (w : World) (hv : RP w v xv) (h0 : (szP xv : Int) ≤ l) (h1 : l ≤ 1048576) :
    Calls Try.prog 7 #[.agg #[.int .i64 a, .int .i64 b, .int .i64 c, v, .int .i64 m], .int .i64 l] w fun e w' => e = .returned (.int .i64 (l - ((szP xv : Int)))) ∧ Bel w w' := by
  have hd0 : decide (l - (szP xv : Int) < 0) = false := by simp; omega
  go_enter Try.func7, Try.ntmps7
  go_wp2_with fail
  refine (szPkts_ok v xv (l) _ (hv.keep ((Bel.refl _).alloc _)) (by omega) (by omega)).mono ?_
  rintro e w1 ⟨rfl, hbz⟩
  go_wp2
  go_ret
  exact ⟨rfl, ((Bel.refl _).alloc _).trans hbz⟩
set_option maxHeartbeats 400000 in
theorem szRec_no (a b c m : Int) (v : Value) (xv : List Pk) (l : Int) (w : World) (hv : RP w v xv) (h0 : l < (szP xv : Int)) (h1 : 0 ≤ l) (h2 : l ≤ 1048576) :
    Calls Try.prog 7 #[.agg #[.int .i64 a, .int .i64 b, .int .i64 c, v, .int .i64 m], .int .i64 l] w fun e w' => e = .returned (.int .i64 (-1)) ∧ Bel w w' := by
  go_enter Try.func7, Try.ntmps7
  go_wp2_with fail
  refine (szPkts_no v xv (l) _ (hv.keep ((Bel.refl _).alloc _)) (by omega) (by omega) (by omega)).mono ?_
  rintro e w1 ⟨rfl, hbz⟩
  go_wp2
  go_ret
  exact ⟨rfl, ((Bel.refl _).alloc _).trans hbz⟩
set_option maxHeartbeats 1000000 in
theorem toRec (a b c m : Int) (v : Value) (xv : List Pk) (w : World) (hv : RP w v xv) (nv : szP xv ≤ 1048576) :
    Calls Try.prog 9 #[.agg #[.int .i64 a, .int .i64 b, .int .i64 c, v, .int .i64 m]] w fun e w' => ∃ rv, e = .returned (.agg #[.int .i64 a, .int .i64 b, .int .i64 c, rv, .int .i64 m]) ∧ OP w' w.heap.size rv xv ∧ Bel w w' := by
  go_enter Try.func9, Try.ntmps9
  go_wp2_with fail
  refine (toPkts v xv _ (hv.keep ((((Bel.refl _).alloc _).alloc _).alloc _)) nv).mono ?_
  rintro e w1 ⟨rv, rfl, Ov, hb1⟩
  replace Ov := Ov.low (show w.heap.size + 3 ≤ _ by simp)
  have X1 := hb1.keep (((Blk.new w _ _).alloc _).alloc _)
  have R1 := hb1.keep ((Blk.new2 w _ _ _).alloc _)
  have Q1 := hb1.keep (Blk.new3 w _ _ _ _)
  have Y1 : Bel w w1 := ((((Bel.refl _).alloc _).alloc _).alloc _).trans hb1
  have s1 := Y1.size
  obtain ⟨Av, cv, ev, _, _, _⟩ := Ov.reads
  subst ev
  obtain ⟨cx, fx, zx⟩ := X1.facts
  obtain ⟨cr, fr, zr⟩ := R1.facts
  obtain ⟨cq, fq, zq⟩ := Q1.facts
  go_wp2
  refine bodyPost_ret (v := .agg #[.int .i64 a, .int .i64 b, .int .i64 c, .slice Av xv.length cv, .int .i64 m]) (by simp [results, Try.results9, go_sem, cr]) rfl ⟨_, rfl, ?_, ?_⟩
  · refine OP.low (lo := w.heap.size + 3) ?_ (by omega)
    repeat (first | (with_reducible exact Ov) | (refine OP.setFar ?_ (by dsimp only; omega) _))
  · repeat (first | (with_reducible exact Y1) | (refine Bel.setCell ?_ (by dsimp only; omega) _))
set_option maxHeartbeats 1000000 in
theorem eqRec_same (a b c m : Int) (v : Value) (xv : List Pk) (yv : Value) (w : World) (hv : RP w v xv) (gv : RP w yv xv) :
    Calls Try.prog 11 #[.agg #[.int .i64 a, .int .i64 b, .int .i64 c, v, .int .i64 m], .agg #[.int .i64 a, .int .i64 b, .int .i64 c, yv, .int .i64 m]] w fun e w' => e = .returned (.bool true) ∧ Bel w w' := by
  go_enter Try.func11, Try.ntmps11
  go_wp2_with fail
  refine (eqPkts_same v yv xv _ (hv.keep (((Bel.refl _).alloc _).alloc _)) (gv.keep (((Bel.refl _).alloc _).alloc _))).mono ?_
  rintro e w1 ⟨rfl, hb1⟩
  have Y1 : Bel w w1 := (((Bel.refl _).alloc _).alloc _).trans hb1
  have B1 := hb1.keep ((Blk.new w _ _).alloc _)
  have D1 := hb1.keep (Blk.new2 w _ _ _)
  obtain ⟨c1, _, _⟩ := B1.facts
  obtain ⟨c2, _, _⟩ := D1.facts
  go_wp2
  go_ret
  exact ⟨rfl, Y1⟩
end Go.Proofs.Ytchodlfkoafeaaa
