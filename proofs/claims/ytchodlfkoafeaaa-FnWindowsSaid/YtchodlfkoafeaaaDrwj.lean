/-
  Draws of windows: l16Any, DrawIsValidWindow, DrawStartGeneration: a window of any numbers. Condition: at most 2^20 bytes.
-/
import Derived.Test.YtchodlfkoafeaaaDrwi
namespace Go.Proofs.Ytchodlfkoafeaaa
open Go.ChangeShapes Go.WideShapes Go.ChangeAt Go.RowKit Go.Joins Go.Deep
set_option linter.unusedVariables false
set_option maxRecDepth 100000

set_option maxHeartbeats 4000000 in
theorem l16AnyS (cb : Nat) (w : World) (hc : Cur w cb) :
    Calls Try.prog 82 #[.pointer (some ⟨cb, 0, none⟩)] w fun e w' => ∃ b n d t, e = .returned (win b n d t) ∧ Trn cb w w' := by
  have hlt0 := hc.lt
  have R0 := Blk.new w 61 #[.int .i64 0, .int .i64 0, .int .i64 0, .int .i64 0]
  have T0 : Trn cb w (w.alloc (.cells #[.int .i64 0, .int .i64 0, .int .i64 0, .int .i64 0] 61)) := Trn.of hc ((Bel.refl _).alloc _)
  go_enter Try.func82, Try.ntmps82
  go_wp2_with fail
  refine (l16WindowS cb _ T0.1).mono ?_
  rintro e w1 ⟨b, n, d, t, rfl, t1⟩
  have R1 := R0.trn t1 hlt0
  have T1 := T0.trans t1
  have z1 : w.heap.size + 1 ≤ w1.heap.size := by have := t1.2.size; rw [World.size_alloc] at this; exact this
  have K3 : Blk (w1.alloc (.cells #[.int .i64 b, .int .i64 n, .int .i64 d, .int .i64 t] 61)) w1.heap.size 61 #[.int .i64 b, .int .i64 n, .int .i64 d, .int .i64 t] := Blk.new w1 _ _
  have R3 := R1.alloc (.cells #[.int .i64 b, .int .i64 n, .int .i64 d, .int .i64 t] 61)
  have T3 := T1.then ((Bel.refl w1).alloc (.cells #[.int .i64 b, .int .i64 n, .int .i64 d, .int .i64 t] 61))
  clear R0 T0 R1 T1 t1
  unfold win
  go_wp2_with fail
  refine (l1BelowS cb 10 _ T3.1 (by omega) (by omega)).mono ?_
  rintro e w4 ⟨y, rfl, hy, t4⟩
  have K4 := K3.trn t4 (by omega)
  have R4 := R3.trn t4 hlt0
  have T4 := T3.trans t4
  clear K3 R3 T3 t4
  generalize w1.heap.size = gB at *
  by_cases h0 : y = 0
  · subst h0
    have L := l1LitS cb [-1, n, wrap64 (n + 1)] w4 T4.1 (Nat.succ_pos _) (by simp only [List.length_cons, List.length_nil]; omega)
    obtain ⟨ck, fk, zk⟩ := K4.facts
    go_wp2_with fail
    refine L.mono ?_
    rintro e w5 ⟨x, rfl, _, t5⟩
    have K5 := K4.trn t5 (by omega)
    have R5 := R4.trn t5 hlt0
    have T5 := T4.trans t5
    have K6 := K5.set 0 (.int .i64 x)
    have R6 := R5.far (p := ⟨gB, 0, none⟩) (by dsimp only; omega) (.int .i64 x)
    have T6 := T5.set (p := ⟨gB, 0, none⟩) (.int .i64 x) (by dsimp only; omega) (by dsimp only; omega)
    have K7 : Blk (w5.setCell ⟨gB, 0, none⟩ (.int .i64 x)) gB 61 #[.int .i64 x, .int .i64 n, .int .i64 d, .int .i64 t] := K6
    clear ck fk zk
    obtain ⟨ck5, fk5, zk5⟩ := K5.facts
    clear K6
    obtain ⟨ck, fk, zk⟩ := K7.facts
    obtain ⟨cr, fr, zr⟩ := R6.facts
    have R9 := R6.set4 (.int .i64 x) (.int .i64 n) (.int .i64 d) (.int .i64 t)
    have T9 := T6.set4 (g := w.heap.size) (.int .i64 x) (.int .i64 n) (.int .i64 d) (.int .i64 t) (Nat.le_refl _) hlt0
    go_wp2
    have cr9 := R9.facts.1
    clear cr fr ck fk
    refine bodyPost_ret (v := .agg #[.int .i64 x, .int .i64 n, .int .i64 d, .int .i64 t]) (by simp [results, Try.results82, go_sem, cr9]) rfl ?_
    first | exact ⟨⟨_, _, _, _, rfl⟩, T9⟩ | exact ⟨_, _, _, _, rfl, T9⟩
  have e0 : (y == 0) = false := beq_eq_false_iff_ne.2 h0
  by_cases h1 : y = 1
  · subst h1
    have L := l1LitS cb [-1, t, wrap64 (t + 1)] w4 T4.1 (Nat.succ_pos _) (by simp only [List.length_cons, List.length_nil]; omega)
    obtain ⟨ck, fk, zk⟩ := K4.facts
    go_wp2_with fail
    refine L.mono ?_
    rintro e w5 ⟨x, rfl, _, t5⟩
    have K5 := K4.trn t5 (by omega)
    have R5 := R4.trn t5 hlt0
    have T5 := T4.trans t5
    have K6 := K5.set 1 (.int .i64 x)
    have R6 := R5.far (p := ⟨gB, 1, none⟩) (by dsimp only; omega) (.int .i64 x)
    have T6 := T5.set (p := ⟨gB, 1, none⟩) (.int .i64 x) (by dsimp only; omega) (by dsimp only; omega)
    have K7 : Blk (w5.setCell ⟨gB, 1, none⟩ (.int .i64 x)) gB 61 #[.int .i64 b, .int .i64 x, .int .i64 d, .int .i64 t] := K6
    clear ck fk zk
    obtain ⟨ck5, fk5, zk5⟩ := K5.facts
    clear K6
    obtain ⟨ck, fk, zk⟩ := K7.facts
    obtain ⟨cr, fr, zr⟩ := R6.facts
    have R9 := R6.set4 (.int .i64 b) (.int .i64 x) (.int .i64 d) (.int .i64 t)
    have T9 := T6.set4 (g := w.heap.size) (.int .i64 b) (.int .i64 x) (.int .i64 d) (.int .i64 t) (Nat.le_refl _) hlt0
    go_wp2
    have cr9 := R9.facts.1
    clear cr fr ck fk
    refine bodyPost_ret (v := .agg #[.int .i64 b, .int .i64 x, .int .i64 d, .int .i64 t]) (by simp [results, Try.results82, go_sem, cr9]) rfl ?_
    first | exact ⟨⟨_, _, _, _, rfl⟩, T9⟩ | exact ⟨_, _, _, _, rfl, T9⟩
  have e1 : (y == 1) = false := beq_eq_false_iff_ne.2 h1
  by_cases h2 : y = 2
  · subst h2
    have L := l1LitS cb [-1, 1, 2, 16] w4 T4.1 (Nat.succ_pos _) (by simp only [List.length_cons, List.length_nil]; omega)
    obtain ⟨ck, fk, zk⟩ := K4.facts
    go_wp2_with fail
    refine L.mono ?_
    rintro e w5 ⟨x, rfl, _, t5⟩
    have K5 := K4.trn t5 (by omega)
    have R5 := R4.trn t5 hlt0
    have T5 := T4.trans t5
    have K6 := K5.set 2 (.int .i64 x)
    have R6 := R5.far (p := ⟨gB, 2, none⟩) (by dsimp only; omega) (.int .i64 x)
    have T6 := T5.set (p := ⟨gB, 2, none⟩) (.int .i64 x) (by dsimp only; omega) (by dsimp only; omega)
    have K7 : Blk (w5.setCell ⟨gB, 2, none⟩ (.int .i64 x)) gB 61 #[.int .i64 b, .int .i64 n, .int .i64 x, .int .i64 t] := K6
    clear ck fk zk
    obtain ⟨ck5, fk5, zk5⟩ := K5.facts
    clear K6
    obtain ⟨ck, fk, zk⟩ := K7.facts
    obtain ⟨cr, fr, zr⟩ := R6.facts
    have R9 := R6.set4 (.int .i64 b) (.int .i64 n) (.int .i64 x) (.int .i64 t)
    have T9 := T6.set4 (g := w.heap.size) (.int .i64 b) (.int .i64 n) (.int .i64 x) (.int .i64 t) (Nat.le_refl _) hlt0
    go_wp2
    have cr9 := R9.facts.1
    clear cr fr ck fk
    refine bodyPost_ret (v := .agg #[.int .i64 b, .int .i64 n, .int .i64 x, .int .i64 t]) (by simp [results, Try.results82, go_sem, cr9]) rfl ?_
    first | exact ⟨⟨_, _, _, _, rfl⟩, T9⟩ | exact ⟨_, _, _, _, rfl, T9⟩
  have e2 : (y == 2) = false := beq_eq_false_iff_ne.2 h2
  by_cases h3 : y = 3
  · subst h3
    have L := l1LitS cb [-1, 60, 61] w4 T4.1 (Nat.succ_pos _) (by simp only [List.length_cons, List.length_nil]; omega)
    obtain ⟨ck, fk, zk⟩ := K4.facts
    go_wp2_with fail
    refine L.mono ?_
    rintro e w5 ⟨x, rfl, _, t5⟩
    have K5 := K4.trn t5 (by omega)
    have R5 := R4.trn t5 hlt0
    have T5 := T4.trans t5
    have K6 := K5.set 3 (.int .i64 x)
    have R6 := R5.far (p := ⟨gB, 3, none⟩) (by dsimp only; omega) (.int .i64 x)
    have T6 := T5.set (p := ⟨gB, 3, none⟩) (.int .i64 x) (by dsimp only; omega) (by dsimp only; omega)
    have K7 : Blk (w5.setCell ⟨gB, 3, none⟩ (.int .i64 x)) gB 61 #[.int .i64 b, .int .i64 n, .int .i64 d, .int .i64 x] := K6
    clear ck fk zk
    obtain ⟨ck5, fk5, zk5⟩ := K5.facts
    clear K6
    obtain ⟨ck, fk, zk⟩ := K7.facts
    obtain ⟨cr, fr, zr⟩ := R6.facts
    have R9 := R6.set4 (.int .i64 b) (.int .i64 n) (.int .i64 d) (.int .i64 x)
    have T9 := T6.set4 (g := w.heap.size) (.int .i64 b) (.int .i64 n) (.int .i64 d) (.int .i64 x) (Nat.le_refl _) hlt0
    go_wp2
    have cr9 := R9.facts.1
    clear cr fr ck fk
    refine bodyPost_ret (v := .agg #[.int .i64 b, .int .i64 n, .int .i64 d, .int .i64 x]) (by simp [results, Try.results82, go_sem, cr9]) rfl ?_
    first | exact ⟨⟨_, _, _, _, rfl⟩, T9⟩ | exact ⟨_, _, _, _, rfl, T9⟩
  have e3 : (y == 3) = false := beq_eq_false_iff_ne.2 h3
  obtain ⟨ck, fk, zk⟩ := K4.facts
  obtain ⟨cr, fr, zr⟩ := R4.facts
  have R9 := R4.set4 (.int .i64 b) (.int .i64 n) (.int .i64 d) (.int .i64 t)
  have T9 := T4.set4 (g := w.heap.size) (.int .i64 b) (.int .i64 n) (.int .i64 d) (.int .i64 t) (Nat.le_refl _) hlt0
  go_wp2
  have cr9 := R9.facts.1
  clear cr fr ck fk
  refine bodyPost_ret (v := .agg #[.int .i64 b, .int .i64 n, .int .i64 d, .int .i64 t]) (by simp [results, Try.results82, go_sem, cr9]) rfl ?_
  first | exact ⟨⟨_, _, _, _, rfl⟩, T9⟩ | exact ⟨_, _, _, _, rfl, T9⟩
theorem drawIvwS (v : Value) (n : Nat) (w : World) (hv : RB w v n) (hn : n ≤ 1048576) :
    Calls Try.prog 66 #[v] w fun e w' => ∃ b n d t, e = .returned (win b n d t) ∧ Bel w w' := by
  obtain ⟨A0, c0, rfl, _, _, _⟩ := id hv
  have R0 := Blk.new w 61 #[.int .i64 0, .int .i64 0, .int .i64 0, .int .i64 0]
  have Y0 : Bel w (w.alloc (.cells #[.int .i64 0, .int .i64 0, .int .i64 0, .int .i64 0] 61)) := (Bel.refl _).alloc _
  go_enter Try.func66, Try.ntmps66
  go_wp2_with fail
  refine (l1NewS _ n _ (hv.keep Y0) hn).mono ?_
  rintro e w1 ⟨cb, rfl, hcb, C1, hb1⟩
  rw [World.size_alloc] at hcb
  have R1 := hb1.keep R0
  have Y1 := Y0.trans hb1
  go_wp2_with fail
  refine (l16AnyS cb _ C1).mono ?_
  rintro e w2 ⟨b, n, d, t, rfl, t2⟩
  unfold win
  have R2 := R1.mid t2.2 (.inl (by omega))
  have Y2 := Y1.trn t2 (by omega)
  have Y3 : Bel w ((((w2.setCell ⟨w.heap.size, 0, none⟩ (.int .i64 b)).setCell ⟨w.heap.size, 1, none⟩ (.int .i64 n)).setCell ⟨w.heap.size, 2, none⟩ (.int .i64 d)).setCell ⟨w.heap.size, 3, none⟩ (.int .i64 t)) :=
    (((Y2.setCell (p := ⟨w.heap.size, 0, none⟩) (Nat.le_refl _) (.int .i64 b)).setCell (p := ⟨w.heap.size, 1, none⟩) (Nat.le_refl _) (.int .i64 n)).setCell (p := ⟨w.heap.size, 2, none⟩) (Nat.le_refl _) (.int .i64 d)).setCell (p := ⟨w.heap.size, 3, none⟩) (Nat.le_refl _) (.int .i64 t)
  obtain ⟨cr, fr, zr⟩ := R2.facts
  have R9 := R2.set4 (.int .i64 b) (.int .i64 n) (.int .i64 d) (.int .i64 t)
  go_wp2
  have cr9 := R9.facts.1
  clear cr fr
  refine bodyPost_ret (v := .agg #[.int .i64 b, .int .i64 n, .int .i64 d, .int .i64 t]) (by simp [results, Try.results66, go_sem, cr9]) rfl ?_
  first | exact ⟨⟨_, _, _, _, rfl⟩, Y3⟩ | exact ⟨_, _, _, _, rfl, Y3⟩
theorem drawSgS (v : Value) (n : Nat) (w : World) (hv : RB w v n) (hn : n ≤ 1048576) :
    Calls Try.prog 30 #[v] w fun e w' => ∃ b n d t, e = .returned (win b n d t) ∧ Bel w w' := by
  obtain ⟨A0, c0, rfl, _, _, _⟩ := id hv
  have R0 := Blk.new w 61 #[.int .i64 0, .int .i64 0, .int .i64 0, .int .i64 0]
  have Y0 : Bel w (w.alloc (.cells #[.int .i64 0, .int .i64 0, .int .i64 0, .int .i64 0] 61)) := (Bel.refl _).alloc _
  go_enter Try.func30, Try.ntmps30
  go_wp2_with fail
  refine (drawIvwS _ n _ (hv.keep Y0) hn).mono ?_
  rintro e w2 ⟨b, n, d, t, rfl, hb2⟩
  unfold win
  have R2 := hb2.keep R0
  have Y2 := Y0.trans hb2
  have Y3 : Bel w ((((w2.setCell ⟨w.heap.size, 0, none⟩ (.int .i64 b)).setCell ⟨w.heap.size, 1, none⟩ (.int .i64 n)).setCell ⟨w.heap.size, 2, none⟩ (.int .i64 d)).setCell ⟨w.heap.size, 3, none⟩ (.int .i64 t)) :=
    (((Y2.setCell (p := ⟨w.heap.size, 0, none⟩) (Nat.le_refl _) (.int .i64 b)).setCell (p := ⟨w.heap.size, 1, none⟩) (Nat.le_refl _) (.int .i64 n)).setCell (p := ⟨w.heap.size, 2, none⟩) (Nat.le_refl _) (.int .i64 d)).setCell (p := ⟨w.heap.size, 3, none⟩) (Nat.le_refl _) (.int .i64 t)
  obtain ⟨cr, fr, zr⟩ := R2.facts
  have R9 := R2.set4 (.int .i64 b) (.int .i64 n) (.int .i64 d) (.int .i64 t)
  go_wp2
  have cr9 := R9.facts.1
  clear cr fr
  refine bodyPost_ret (v := .agg #[.int .i64 b, .int .i64 n, .int .i64 d, .int .i64 t]) (by simp [results, Try.results30, go_sem, cr9]) rfl ?_
  first | exact ⟨⟨_, _, _, _, rfl⟩, Y3⟩ | exact ⟨_, _, _, _, rfl, Y3⟩
end Go.Proofs.Ytchodlfkoafeaaa
