/-
  Draws: DrawCollected: a valid generation and a valid decoder of it. Condition: at most 2^20 bytes.
-/
import Derived.Test.YtjaagabbbnokdaaGreatTH
namespace Go.Proofs.YtjaagabbbnokdaaGreat
open Go.ChangeShapes Go.WideShapes Go.ChangeAt Go.RowKit Go.Joins Go.Deep
set_option linter.unusedVariables false
set_option maxRecDepth 100000

theorem Mid.set5 {lo hi g : Nat} (w : World) (h : lo ≤ g) (h2 : g < hi) (v0 v1 v2 v3 v4 : Value) :
    Mid lo hi w (((((w.setCell ⟨g, 0, none⟩ v0).setCell ⟨g, 1, none⟩ v1).setCell ⟨g, 2, none⟩ v2).setCell ⟨g, 3, none⟩ v3).setCell ⟨g, 4, none⟩ v4) :=
  ((((Mid.set w (p := ⟨g, 0, none⟩) v0 h h2).trans (Mid.set _ (p := ⟨g, 1, none⟩) v1 h h2)).trans (Mid.set _ (p := ⟨g, 2, none⟩) v2 h h2)).trans (Mid.set _ (p := ⟨g, 3, none⟩) v3 h h2)).trans (Mid.set _ (p := ⟨g, 4, none⟩) v4 h h2)

set_option maxHeartbeats 8000000 in
theorem drawCoS (v : Value) (n : Nat) (w : World) (hv : RB w v n) (hn : n ≤ 1048576) :
    Calls Tryz.prog 15 #[v] w fun e w' => ∃ a gv m r, ∃ nn : Nat, ∃ m1, e = .returned (.tuple #[.agg #[.int .i64 a, gv], .agg #[.int .i64 a, .int .i64 (m.length : Int), .int .i64 (colN m : Int), .int .i64 (nn : Int), r]]) ∧ RII w' gv m ∧ RII w' r m1 ∧ gnrB a m = true ∧ decB a (m.length : Int) (colN m : Int) (nn : Int) m1 = true ∧ Bel w w' := by
  obtain ⟨A0, c0, rfl, _, _, _⟩ := id hv
  have R0 := (Blk.new w 30 #[.int .i64 0, .slice none 0 0]).alloc (.cells #[.int .i64 0, .int .i64 0, .int .i64 0, .int .i64 0, .slice none 0 0] 42)
  have Q0 := Blk.new2 w (.cells #[.int .i64 0, .slice none 0 0] 30) 42 #[.int .i64 0, .int .i64 0, .int .i64 0, .int .i64 0, .slice none 0 0]
  have Y0 : Bel w ((w.alloc (.cells #[.int .i64 0, .slice none 0 0] 30)).alloc (.cells #[.int .i64 0, .int .i64 0, .int .i64 0, .int .i64 0, .slice none 0 0] 42)) := ((Bel.refl _).alloc _).alloc _
  go_enter Tryz.func15, Tryz.ntmps15
  go_wp2_with fail
  refine (l1NewS _ n _ (hv.keep Y0) hn).mono ?_
  rintro e w1 ⟨cb, rfl, hcb, C1, hb1⟩
  rw [World.size_alloc, World.size_alloc] at hcb
  have R1 := hb1.keep R0
  have Q1 := hb1.keep Q0
  have Y1 := Y0.trans hb1
  go_wp2_with fail
  refine (l10GenS cb _ C1).mono ?_
  rintro e w2 ⟨a, gv, m, rfl, M2, hg, t2⟩
  have R2 := R1.mid t2.2 (.inl (by omega))
  have Q2 := Q1.mid t2.2 (.inl (by omega))
  have Y2 := Y1.trn t2 (by omega)
  have hl1 := C1.lt
  have hz2 := t2.2.size
  obtain ⟨A, c, eg, _, _⟩ := M2.shape
  subst eg
  have K3 : Blk (w2.alloc (.cells #[.int .i64 a, .slice A m.length c] 30)) w2.heap.size 30 #[.int .i64 a, .slice A m.length c] := Blk.new w2 _ _
  have R3 := R2.alloc (.cells #[.int .i64 a, .slice A m.length c] 30)
  have Q3 := Q2.alloc (.cells #[.int .i64 a, .slice A m.length c] 30)
  have M3 := M2.keep ((Bel.refl w2).alloc (.cells #[.int .i64 a, .slice A m.length c] 30))
  have C3 := t2.1.keep ((Bel.refl w2).alloc (.cells #[.int .i64 a, .slice A m.length c] 30))
  have Y3 := Y2.alloc (.cells #[.int .i64 a, .slice A m.length c] 30)
  have HG := Lib.hid hg
  clear hg R0 Q0 Y0 R1 Q1 Y1 R2 Q2 Y2 M2 hb1 C1
  go_wp2
  generalize (w2.alloc (.cells #[.int .i64 a, .slice A m.length c] 30)) = w3 at *
  have hgB : w1.heap.size ≤ w2.heap.size := hz2
  generalize w2.heap.size = gB at *
  generalize w1.heap.size = lo at *
  have rk0 : w3.cell? ⟨gB, 0, none⟩ = some (.int .i64 a) := K3.facts.1 0
  have rk1 : w3.cell? ⟨gB, 1, none⟩ = some (.slice A m.length c) := K3.facts.1 1
  have CD : Cur w3.drew cb := C3.keep ((Bel.refl _).drew)
  have MD : ML w3.drew lo (.slice A m.length c) m := M3.keep ((Bel.refl _).drew)
  have hclo : cb < lo := hl1
  have h3z : lo < w3.drew.heap.size := by have := K3.lt; have h6 : w3.drew.heap.size = w3.heap.size := rfl; omega
  go_region_law (first
    | (go_simp; go_at_call 46; (with_reducible refine (l14DS cb lo a _ m _ CD MD hclo HG.out).mono ?_); rintro e wT ⟨nn, r, m1, rfl, O, hd, tT⟩; have HD := Lib.hid hd; clear hd; obtain ⟨A1, c1, e1, _, _⟩ := O.shape; subst e1; have KT := (K3.drew).trn tT (by omega); have RW := (R3.drew).mid tT.2 (.inl (by omega)); have QT := (Q3.drew).mid tT.2 (.inl (by omega)); have MT := MD.mid tT.2 (by omega); have YT := (Y3.drew).trn tT (by omega); have rk0T : wT.cell? ⟨gB, 0, none⟩ = some (.int .i64 a) := KT.facts.1 0; have rk1T : wT.cell? ⟨gB, 1, none⟩ = some (.slice A m.length c) := KT.facts.1 1; have rr := RW.facts.1; have fr := RW.facts.2.1; have rq := QT.facts.1; have fq := QT.facts.2.1))
  all_goals (
    have R9 := (((RW.set 0 (.int .i64 a)).set 1 (.slice A m.length c)).far5 (b := w.heap.size + 1) (by omega) (.int .i64 a) (.int .i64 (m.length : Int)) (.int .i64 (colN m : Int)) (.int .i64 (nn : Int)) (.slice A1 m1.length c1))
    have Q9 := ((QT.far (p := ⟨w.heap.size, 0, none⟩) (by dsimp only; omega) (.int .i64 a)).far (p := ⟨w.heap.size, 1, none⟩) (by dsimp only; omega) (.slice A m.length c)).set5 (.int .i64 a) (.int .i64 (m.length : Int)) (.int .i64 (colN m : Int)) (.int .i64 (nn : Int)) (.slice A1 m1.length c1)
    have m1' := ((Mid.set (lo := w.heap.size) (hi := w.heap.size + 2) wT (p := ⟨w.heap.size, 0, none⟩) (.int .i64 a) (Nat.le_refl _) (by dsimp only; omega)).trans (Mid.set (lo := w.heap.size) (hi := w.heap.size + 2) _ (p := ⟨w.heap.size, 1, none⟩) (.slice A m.length c) (Nat.le_refl _) (by dsimp only; omega))).trans (Mid.set5 (lo := w.heap.size) (hi := w.heap.size + 2) (g := w.heap.size + 1) _ (by omega) (by omega) (.int .i64 a) (.int .i64 (m.length : Int)) (.int .i64 (colN m : Int)) (.int .i64 (nn : Int)) (.slice A1 m1.length c1))
    have M9 := MT.mid m1' (by omega)
    have O9 := O.mid m1' (by omega)
    have Y9 := ((YT.setCell (p := ⟨w.heap.size, 0, none⟩) (Nat.le_refl _) (.int .i64 a)).setCell (p := ⟨w.heap.size, 1, none⟩) (Nat.le_refl _) (.slice A m.length c)).set5 (g := w.heap.size + 1) (by omega) (.int .i64 a) (.int .i64 (m.length : Int)) (.int .i64 (colN m : Int)) (.int .i64 (nn : Int)) (.slice A1 m1.length c1)
    clear KT RW QT MT YT rr fr rq fq rk0T rk1T rk0 rk1 K3 R3 Q3 M3 C3 Y3 tT CD MD O m1'
    generalize ((((((wT.setCell ⟨w.heap.size, 0, none⟩ (.int .i64 a)).setCell ⟨w.heap.size, 1, none⟩ (.slice A m.length c)).setCell ⟨w.heap.size + 1, 0, none⟩ (.int .i64 a)).setCell ⟨w.heap.size + 1, 1, none⟩ (.int .i64 (m.length : Int))).setCell ⟨w.heap.size + 1, 2, none⟩ (.int .i64 (colN m : Int))).setCell ⟨w.heap.size + 1, 3, none⟩ (.int .i64 (nn : Int))).setCell ⟨w.heap.size + 1, 4, none⟩ (.slice A1 m1.length c1) = W9 at *
    have c9 := R9.facts.1
    have d9 := Q9.facts.1
    go_wp2
    refine bodyPost_ret (v := .tuple #[.agg #[.int .i64 a, .slice A m.length c], .agg #[.int .i64 a, .int .i64 (m.length : Int), .int .i64 (colN m : Int), .int .i64 (nn : Int), .slice A1 m1.length c1]]) (by simp [results, Tryz.results15, go_sem, c9, d9]) rfl ?_
    first | exact ⟨a, _, m, _, nn, m1, rfl, M9.reads, O9.reads, HG.out, HD.out, Y9⟩ | exact ⟨a, _, _, _, nn, rfl, M9.reads, m1, O9.reads, HG.out, HD.out, Y9⟩)
end Go.Proofs.YtjaagabbbnokdaaGreat
