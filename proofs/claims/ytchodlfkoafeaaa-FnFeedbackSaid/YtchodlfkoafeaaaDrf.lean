/-
  Draws of reports: l17Feedback, l17Sinks.
-/
import Derived.Test.YtchodlfkoafeaaaDrc
import Derived.Test.YtchodlfkoafeaaaFbP
import Derived.Test.YtchodlfkoafeaaaRch
namespace Go.Proofs.Ytchodlfkoafeaaa
open Go.ChangeShapes Go.WideShapes Go.ChangeAt Go.RowKit Go.Joins Go.Deep
set_option linter.unusedVariables false
set_option maxRecDepth 100000

set_option maxHeartbeats 4000000 in
theorem l17FeedbackS (cb : Nat) (w : World) (hc : Cur w cb) :
    Calls Try.prog 58 #[.pointer (some ⟨cb, 0, none⟩)] w fun e w' => ∃ x y z : Int, e = .returned (.agg #[.int .i64 x, .int .i64 y, .int .i64 z]) ∧ Trn cb w w' := by
  have hlt0 := hc.lt
  have R0 := Blk.new w 43 #[.int .i64 0, .int .i64 0, .int .i64 0]
  have T0 : Trn cb w (w.alloc (.cells #[.int .i64 0, .int .i64 0, .int .i64 0] 43)) := Trn.of hc ((Bel.refl _).alloc _)
  go_enter Try.func58, Try.ntmps58
  go_wp2_with fail
  refine (l1BelowS cb 4 _ T0.1 (by omega) (by omega)).mono ?_
  rintro e w1 ⟨x, rfl, _, t1⟩
  have R1 := R0.trn t1 hlt0
  have T1 := T0.trans t1
  go_wp2_with fail
  refine (l1BelowS cb 4 _ T1.1 (by omega) (by omega)).mono ?_
  rintro e w2 ⟨y, rfl, _, t2⟩
  have R2 := R1.trn t2 hlt0
  have T2 := T1.trans t2
  go_wp2_with fail
  refine (l1BelowS cb 5 _ T2.1 (by omega) (by omega)).mono ?_
  rintro e w3 ⟨z, rfl, _, t3⟩
  have R3 := (R2.trn t3 hlt0).alloc (.cells #[.int .i64 x, .int .i64 y, .int .i64 z] 43)
  have T3 := (T2.trans t3).then ((Bel.refl w3).alloc (.cells #[.int .i64 x, .int .i64 y, .int .i64 z] 43))
  have K3 := Blk.new w3 43 #[.int .i64 x, .int .i64 y, .int .i64 z]
  have hz3 : w.heap.size + 1 ≤ w3.heap.size := by
    have := (T0.trans t1).trans (t2.trans t3)
    have h1 := (t1.2.size)
    have h2 := (t2.2.size)
    have h3 := (t3.2.size)
    rw [World.size_alloc] at h1
    omega
  clear R0 R1 R2 T0 T1 T2 t1 t2 t3
  go_wp2_with fail
  refine (l1BelowS cb 14 _ T3.1 (by omega) (by omega)).mono ?_
  rintro e w4 ⟨q, rfl, _, t4⟩
  have R4 := R3.trn t4 hlt0
  have K4 := K3.trn t4 (by omega)
  have T4 := T3.trans t4
  clear R3 K3 T3 t4
  generalize w3.heap.size = gB at *
  have fin : ∀ (a b c : Int) (w5 : World), Blk w5 gB 43 #[.int .i64 a, .int .i64 b, .int .i64 c] → Blk w5 w.heap.size 43 #[.int .i64 0, .int .i64 0, .int .i64 0] → Trn cb w w5 →
      Trn cb w (((w5.setCell ⟨w.heap.size, 0, none⟩ (.int .i64 a)).setCell ⟨w.heap.size, 1, none⟩ (.int .i64 b)).setCell ⟨w.heap.size, 2, none⟩ (.int .i64 c)) := fun a b c w5 K R T =>
    ((T.set (p := ⟨w.heap.size, 0, none⟩) _ (Nat.le_refl _) hlt0).set (p := ⟨w.heap.size, 1, none⟩) _ (Nat.le_refl _) hlt0).set (p := ⟨w.heap.size, 2, none⟩) _ (Nat.le_refl _) hlt0
  by_cases h0 : q = 0
  · subst h0
    have L := l1LitS cb [-1, 7, 8] w4 T4.1 (by decide) (by decide)
    obtain ⟨ck, fk, zk⟩ := K4.facts
    go_wp2_with fail
    refine L.mono ?_
    rintro e w5 ⟨u, rfl, _, t5⟩
    have K5 := K4.trn t5 (by omega)
    have R5 := R4.trn t5 hlt0
    have T5 := T4.trans t5
    have K6 : Blk (w5.setCell ⟨gB, 0, none⟩ (.int .i64 u)) gB 43 #[.int .i64 u, .int .i64 y, .int .i64 z] := K5.set 0 (.int .i64 u)
    have R6 := R5.far (p := ⟨gB, 0, none⟩) (by dsimp only; omega) (.int .i64 u)
    have T6 := T5.set (p := ⟨gB, 0, none⟩) (.int .i64 u) (by dsimp only; omega) (by dsimp only; omega)
    clear ck fk zk
    obtain ⟨ck5, fk5, zk5⟩ := K5.facts
    obtain ⟨ck, fk, zk⟩ := K6.facts
    obtain ⟨cr, fr, zr⟩ := R6.facts
    have R9 := ((R6.set 0 (.int .i64 u)).set 1 (.int .i64 y)).set 2 (.int .i64 z)
    have T9 := fin _ _ _ _ K6 R6 T6
    go_wp2
    have cr9 := R9.facts.1
    clear cr fr ck fk
    refine bodyPost_ret (v := .agg #[.int .i64 u, .int .i64 y, .int .i64 z]) (by simp [results, Try.results58, go_sem, cr9]) rfl ?_
    exact ⟨_, _, _, rfl, T9⟩
  have e0 : (q == 0) = false := beq_eq_false_iff_ne.2 h0
  by_cases h1 : q = 1
  · subst h1
    have L := l1LitS cb [-1, 1000000000000, 1000000000001] w4 T4.1 (by decide) (by decide)
    obtain ⟨ck, fk, zk⟩ := K4.facts
    go_wp2_with fail
    refine L.mono ?_
    rintro e w5 ⟨u, rfl, _, t5⟩
    have K5 := K4.trn t5 (by omega)
    have R5 := R4.trn t5 hlt0
    have T5 := T4.trans t5
    have K6 : Blk (w5.setCell ⟨gB, 1, none⟩ (.int .i64 u)) gB 43 #[.int .i64 x, .int .i64 u, .int .i64 z] := K5.set 1 (.int .i64 u)
    have R6 := R5.far (p := ⟨gB, 1, none⟩) (by dsimp only; omega) (.int .i64 u)
    have T6 := T5.set (p := ⟨gB, 1, none⟩) (.int .i64 u) (by dsimp only; omega) (by dsimp only; omega)
    clear ck fk zk
    obtain ⟨ck5, fk5, zk5⟩ := K5.facts
    obtain ⟨ck, fk, zk⟩ := K6.facts
    obtain ⟨cr, fr, zr⟩ := R6.facts
    have R9 := ((R6.set 0 (.int .i64 x)).set 1 (.int .i64 u)).set 2 (.int .i64 z)
    have T9 := fin _ _ _ _ K6 R6 T6
    go_wp2
    have cr9 := R9.facts.1
    clear cr fr ck fk
    refine bodyPost_ret (v := .agg #[.int .i64 x, .int .i64 u, .int .i64 z]) (by simp [results, Try.results58, go_sem, cr9]) rfl ?_
    exact ⟨_, _, _, rfl, T9⟩
  have e1 : (q == 1) = false := beq_eq_false_iff_ne.2 h1
  by_cases h2 : q = 2
  · subst h2
    have L := l1LitS cb [-1, 8, 9] w4 T4.1 (by decide) (by decide)
    obtain ⟨ck, fk, zk⟩ := K4.facts
    go_wp2_with fail
    refine L.mono ?_
    rintro e w5 ⟨u, rfl, _, t5⟩
    have K5 := K4.trn t5 (by omega)
    have R5 := R4.trn t5 hlt0
    have T5 := T4.trans t5
    have K6 : Blk (w5.setCell ⟨gB, 2, none⟩ (.int .i64 u)) gB 43 #[.int .i64 x, .int .i64 y, .int .i64 u] := K5.set 2 (.int .i64 u)
    have R6 := R5.far (p := ⟨gB, 2, none⟩) (by dsimp only; omega) (.int .i64 u)
    have T6 := T5.set (p := ⟨gB, 2, none⟩) (.int .i64 u) (by dsimp only; omega) (by dsimp only; omega)
    clear ck fk zk
    obtain ⟨ck5, fk5, zk5⟩ := K5.facts
    obtain ⟨ck, fk, zk⟩ := K6.facts
    obtain ⟨cr, fr, zr⟩ := R6.facts
    have R9 := ((R6.set 0 (.int .i64 x)).set 1 (.int .i64 y)).set 2 (.int .i64 u)
    have T9 := fin _ _ _ _ K6 R6 T6
    go_wp2
    have cr9 := R9.facts.1
    clear cr fr ck fk
    refine bodyPost_ret (v := .agg #[.int .i64 x, .int .i64 y, .int .i64 u]) (by simp [results, Try.results58, go_sem, cr9]) rfl ?_
    exact ⟨_, _, _, rfl, T9⟩
  have e2 : (q == 2) = false := beq_eq_false_iff_ne.2 h2
  obtain ⟨ck, fk, zk⟩ := K4.facts
  obtain ⟨cr, fr, zr⟩ := R4.facts
  have R9 := ((R4.set 0 (.int .i64 x)).set 1 (.int .i64 y)).set 2 (.int .i64 z)
  have T9 := fin _ _ _ _ K4 R4 T4
  go_wp2
  have cr9 := R9.facts.1
  clear cr fr ck fk
  refine bodyPost_ret (v := .agg #[.int .i64 x, .int .i64 y, .int .i64 z]) (by simp [results, Try.results58, go_sem, cr9]) rfl ?_
  exact ⟨_, _, _, rfl, T9⟩
end Go.Proofs.Ytchodlfkoafeaaa
