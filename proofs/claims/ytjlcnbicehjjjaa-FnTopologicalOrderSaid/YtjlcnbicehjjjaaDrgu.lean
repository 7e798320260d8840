/-
  Draws of graphs: l21Pair, DrawIsValidGraph, DrawTopologicalOrder: a graph that can be read. Condition: at most 2^20 bytes.
-/
import Derived.Test.YtjlcnbicehjjjaaDrgs
namespace Go.Proofs.Ytjlcnbicehjjjaa
open Go.ChangeShapes Go.WideShapes Go.ChangeAt Go.RowKit Go.Joins Go.Deep
set_option linter.unusedVariables false
set_option maxRecDepth 100000

set_option maxHeartbeats 4000000 in
theorem l21PairS (v : Value) (n : Nat) (w : World) (hv : RB w v n) (hn : n ≤ 1048576) :
    Calls Try.prog 110 #[v] w fun e w' => ∃ s u fs a b, e = .returned (.tuple #[.agg #[.int .i64 s, u], .int .i64 a, .int .i64 b]) ∧ OT 80 w' w.heap.size u fs ∧ fs.length ≤ 21 ∧ Bel w w' := by
  obtain ⟨A0, c0, rfl, _, _, _⟩ := id hv
  have R0 := Blk.new w 73 #[.int .i64 0, .slice none 0 0]
  have Y0 : Bel w (w.alloc (.cells #[.int .i64 0, .slice none 0 0] 73)) := (Bel.refl _).alloc _
  go_enter Try.func110, Try.ntmps110
  go_wp2_with fail
  refine (l1NewS _ n _ (hv.keep Y0) hn).mono ?_
  rintro e w1 ⟨cb, rfl, hcb, C1, hb1⟩
  rw [World.size_alloc] at hcb
  have R1 := hb1.keep R0
  have Y1 := Y0.trans hb1
  have hl1 := C1.lt
  go_wp2_with fail
  refine (l21AnyS cb _ C1).mono ?_
  rintro e w2 ⟨s, u, fs, rfl, O2, hfl, t2⟩
  have R2 := R1.mid t2.2 (.inl (by omega))
  have Y2 := Y1.trn t2 (by omega)
  have hz2 := t2.2.size
  obtain ⟨A, c, eg, _, _, _⟩ := O2.reads
  subst eg
  have K3 : Blk (w2.alloc (.cells #[.int .i64 s, .slice A fs.length c] 73)) w2.heap.size 73 #[.int .i64 s, .slice A fs.length c] := Blk.new w2 _ _
  have R3 := R2.alloc (.cells #[.int .i64 s, .slice A fs.length c] 73)
  have O3 := O2.keep ((Bel.refl w2).alloc (.cells #[.int .i64 s, .slice A fs.length c] 73))
  have C3 := t2.1.keep ((Bel.refl w2).alloc (.cells #[.int .i64 s, .slice A fs.length c] 73))
  have Y3 := Y2.alloc (.cells #[.int .i64 s, .slice A fs.length c] 73)
  clear R0 Y0 R1 Y1 R2 Y2 O2 hb1 C1
  go_wp2_with fail
  refine (l1BelowS cb 8 _ C3 (by omega) (by omega)).mono ?_
  rintro e w4 ⟨x, rfl, hx, t4⟩
  have K4 := K3.trn t4 (by omega)
  have R4 := R3.mid t4.2 (.inl (by omega))
  have O4 := O3.trn t4 (by omega)
  have Y4 := Y3.trn t4 (by omega)
  have C4 := t4.1
  clear K3 R3 O3 C3 Y3 t4
  generalize w2.heap.size = gB at *
  generalize w1.heap.size = lo at *
  have rk0 : w4.cell? ⟨gB, 0, none⟩ = some (.int .i64 s) := K4.facts.1 0
  have rk1 : w4.cell? ⟨gB, 1, none⟩ = some (.slice A fs.length c) := K4.facts.1 1
  go_wp2
  go_region_law (first
    | (go_simp; go_at_call 71; refine (l1BelowS cb 8 _ (by exact C4.keep ((Bel.refl _).drew)) (by omega) (by omega)).mono ?_; rintro e wT ⟨y, rfl, hy, tT⟩; have KT := (K4.drew).trn tT (by omega); have RT9 := (R4.drew).mid tT.2 (.inl (by omega)); have OT9 := (O4.keep ((Bel.refl _).drew)).trn tT (by omega); have YT := (Y4.drew).trn tT (by omega); have rk0T : wT.cell? ⟨gB, 0, none⟩ = some (.int .i64 s) := KT.facts.1 0; have rk1T : wT.cell? ⟨gB, 1, none⟩ = some (.slice A fs.length c) := KT.facts.1 1; have rr0 := RT9.facts.1 0; have rr1 := RT9.facts.1 1; have fr0 := RT9.facts.2.1 0; have fr1 := RT9.facts.2.1 1))
  all_goals (
    have R9 : Blk ((wT.setCell ⟨w.heap.size, 0, none⟩ (.int .i64 s)).setCell ⟨w.heap.size, 1, none⟩ (.slice A fs.length c)) w.heap.size 73 #[.int .i64 s, .slice A fs.length c] := (RT9.set 0 (.int .i64 s)).set 1 (.slice A fs.length c)
    have O9 := (OT9.setFar (p := ⟨w.heap.size, 0, none⟩) (by dsimp only; omega) (.int .i64 s)).setFar (p := ⟨w.heap.size, 1, none⟩) (by dsimp only; omega) (.slice A fs.length c)
    have Y9 := (YT.setCell (p := ⟨w.heap.size, 0, none⟩) (Nat.le_refl _) (.int .i64 s)).setCell (p := ⟨w.heap.size, 1, none⟩) (Nat.le_refl _) (.slice A fs.length c)
    clear KT RT9 OT9 YT rk0T rk1T rr0 rr1 fr0 fr1 rk0 rk1 tT K4 R4 O4 Y4
    generalize (wT.setCell ⟨w.heap.size, 0, none⟩ (.int .i64 s)).setCell ⟨w.heap.size, 1, none⟩ (.slice A fs.length c) = W9 at *
    have c9 := R9.facts.1
    go_wp2
    refine bodyPost_ret (v := .tuple #[.agg #[.int .i64 s, .slice A fs.length c], .int .i64 (x - 1), .int .i64 (IntKind.i64.wrap (y - 1))]) (by simp [results, Try.results110, go_sem, c9]) rfl ?_
    first | exact ⟨_, _, fs, _, _, rfl, O9.low (by omega), hfl, Y9⟩ | exact ⟨_, _, _, _, rfl, _, O9.low (by omega), hfl, Y9⟩)
theorem drawIvgS (v : Value) (n : Nat) (w : World) (hv : RB w v n) (hn : n ≤ 1048576) :
    Calls Try.prog 90 #[v] w fun e w' => ∃ s u fs, e = .returned (.agg #[.int .i64 s, u]) ∧ OT 80 w' w.heap.size u fs ∧ fs.length ≤ 21 ∧ Bel w w' := by
  obtain ⟨A0, c0, rfl, _, _, _⟩ := id hv
  have R0 := Blk.new w 73 #[.int .i64 0, .slice none 0 0]
  have Y0 : Bel w (w.alloc (.cells #[.int .i64 0, .slice none 0 0] 73)) := (Bel.refl _).alloc _
  go_enter Try.func90, Try.ntmps90
  go_wp2_with fail
  refine (l21PairS _ n _ (hv.keep Y0) hn).mono ?_
  rintro e w1 ⟨s, u, fs, a, b, rfl, O1, hfl, hb1⟩
  rw [World.size_alloc] at O1
  obtain ⟨A, c, eg, _, _, _⟩ := O1.reads
  subst eg
  have R1 := (hb1.keep R0).alloc (.cells #[.int .i64 s, .slice A fs.length c] 73)
  have K1 : Blk (w1.alloc (.cells #[.int .i64 s, .slice A fs.length c] 73)) w1.heap.size 73 #[.int .i64 s, .slice A fs.length c] := Blk.new w1 _ _
  have O2 := O1.keep ((Bel.refl w1).alloc (.cells #[.int .i64 s, .slice A fs.length c] 73))
  have Y1 := (Y0.trans hb1).alloc (.cells #[.int .i64 s, .slice A fs.length c] 73)
  have R9 := (R1.set 0 (.int .i64 s)).set 1 (.slice A fs.length c)
  have O9 := (O2.setFar (p := ⟨w.heap.size, 0, none⟩) (by dsimp only; omega) (.int .i64 s)).setFar (p := ⟨w.heap.size, 1, none⟩) (by dsimp only; omega) (.slice A fs.length c)
  have Y9 := (Y1.setCell (p := ⟨w.heap.size, 0, none⟩) (Nat.le_refl _) (.int .i64 s)).setCell (p := ⟨w.heap.size, 1, none⟩) (Nat.le_refl _) (.slice A fs.length c)
  obtain ⟨cr, fr, zr⟩ := R1.facts
  obtain ⟨ck, fk, zk⟩ := K1.facts
  go_wp2
  have c9 := R9.facts.1
  clear cr fr ck fk
  refine bodyPost_ret (v := .agg #[.int .i64 s, .slice A fs.length c]) (by simp [results, Try.results90, go_sem, c9]) rfl ?_
  first | exact ⟨_, _, fs, rfl, O9.low (by omega), hfl, Y9⟩ | exact ⟨_, _, rfl, _, O9.low (by omega), hfl, Y9⟩
theorem drawTopS (v : Value) (n : Nat) (w : World) (hv : RB w v n) (hn : n ≤ 1048576) :
    Calls Try.prog 48 #[v] w fun e w' => ∃ s u fs, e = .returned (.agg #[.int .i64 s, u]) ∧ OT 80 w' w.heap.size u fs ∧ fs.length ≤ 21 ∧ Bel w w' := by
  obtain ⟨A0, c0, rfl, _, _, _⟩ := id hv
  have R0 := Blk.new w 73 #[.int .i64 0, .slice none 0 0]
  have Y0 : Bel w (w.alloc (.cells #[.int .i64 0, .slice none 0 0] 73)) := (Bel.refl _).alloc _
  go_enter Try.func48, Try.ntmps48
  go_wp2_with fail
  refine (drawIvgS _ n _ (hv.keep Y0) hn).mono ?_
  rintro e w1 ⟨s, u, fs, rfl, O1, hfl, hb1⟩
  rw [World.size_alloc] at O1
  obtain ⟨A, c, eg, _, _, _⟩ := O1.reads
  subst eg
  have R1 := hb1.keep R0
  have Y1 := Y0.trans hb1
  have R9 := (R1.set 0 (.int .i64 s)).set 1 (.slice A fs.length c)
  have O9 := (O1.setFar (p := ⟨w.heap.size, 0, none⟩) (by dsimp only; omega) (.int .i64 s)).setFar (p := ⟨w.heap.size, 1, none⟩) (by dsimp only; omega) (.slice A fs.length c)
  have Y9 := (Y1.setCell (p := ⟨w.heap.size, 0, none⟩) (Nat.le_refl _) (.int .i64 s)).setCell (p := ⟨w.heap.size, 1, none⟩) (Nat.le_refl _) (.slice A fs.length c)
  obtain ⟨cr, fr, zr⟩ := R1.facts
  go_wp2
  have c9 := R9.facts.1
  clear cr fr
  refine bodyPost_ret (v := .agg #[.int .i64 s, .slice A fs.length c]) (by simp [results, Try.results48, go_sem, c9]) rfl ?_
  first | exact ⟨_, _, fs, rfl, O9.low (by omega), hfl, Y9⟩ | exact ⟨_, _, rfl, _, O9.low (by omega), hfl, Y9⟩
end Go.Proofs.Ytjlcnbicehjjjaa
