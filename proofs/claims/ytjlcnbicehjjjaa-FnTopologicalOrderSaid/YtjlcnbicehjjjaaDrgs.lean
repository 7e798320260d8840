/-
  Draws of graphs: l21Any, l21Pair, DrawIsValidGraph, DrawTopologicalOrder: a graph that can be read. Condition: at most 2^20 bytes.
-/
import Derived.Test.YtjlcnbicehjjjaaDrgr
import Derived.Deep.RegionLaw
import Derived.Deep.DeepCutAuto
import Derived.Deep.CutRange
namespace Go.Proofs.Ytjlcnbicehjjjaa
open Go.ChangeShapes Go.WideShapes Go.ChangeAt Go.RowKit Go.Joins Go.Deep
set_option linter.unusedVariables false
set_option maxRecDepth 100000

theorem OT.ne {w : World} {base gk : Nat} {v : Value} {fs : List Tr} {T0 T : TypeId} {cs : Array Value} (h : OT T0 w base v fs) (k : Blk w gk T cs) (hT : T ≠ T0) : ∀ q, v.ownBlock = some q → q ≠ gk := by
  rintro q hq rfl
  obtain ⟨hl, ⟨rfl, h0⟩ | ⟨g, cap, cur, rfl, hb, hh, h1, h2, h3, h4⟩⟩ := h
  · simp [Value.ownBlock] at hq
  · have e : g = q := by simpa [Value.ownBlock] using hq
    subst e
    have k2 : w.heap[g]? = some (.cells cs T (0, 0)) := k
    have h5 : w.heap[g]? = some (.cells cur T0 (0, 0)) := hh
    rw [h5] at k2
    injection k2 with k2
    injection k2 with _ e2 _
    exact hT e2.symm
theorem OT.setNe {T : TypeId} {w : World} {base : Nat} {v : Value} {fs : List Tr} (h : OT T w base v fs) {p : Addr} (hp : ∀ q, v.ownBlock = some q → q ≠ p.block) (u : Value) : OT T (w.setCell p u) base v fs := by
  obtain ⟨hl, h | ⟨g, cap, cur, rfl, hb, hh, h1, h2, h3, h4⟩⟩ := h
  · exact ⟨hl, .inl h⟩
  · exact ⟨hl, .inr ⟨g, cap, cur, rfl, hb, (Below.heap_setCell w p u g (hp g rfl)).trans hh, h1, h2, h3, h4⟩⟩
def Sx (w : World) (cb gB : Nat) (s : Int) (v : Value) (fs : List Tr) (X : World) : Prop :=
  Blk X gB 73 #[.int .i64 s, v] ∧ OT 80 X (w.heap.size + 1) v fs ∧ Blk X w.heap.size 73 #[.int .i64 0, .slice none 0 0] ∧ Trn cb w X
theorem Sx.trn {w X Y : World} {cb gB : Nat} {s : Int} {v : Value} {fs : List Tr} (h : Sx w cb gB s v fs X) (t : Trn cb X Y) (h1 : cb < w.heap.size) (h2 : w.heap.size < gB) : Sx w cb gB s v fs Y :=
  ⟨h.1.trn t (by omega), h.2.1.trn t (by omega), h.2.2.1.trn t h1, h.2.2.2.trans t⟩
theorem Sx.keep {w X Y : World} {cb gB : Nat} {s : Int} {v : Value} {fs : List Tr} (h : Sx w cb gB s v fs X) (b : Bel X Y) : Sx w cb gB s v fs Y :=
  ⟨b.keep h.1, h.2.1.keep b, b.keep h.2.2.1, h.2.2.2.then b⟩
theorem Sx.cell {w X : World} {cb gB : Nat} {s : Int} {v : Value} {fs : List Tr} (h : Sx w cb gB s v fs X) : X.cell? ⟨gB, 1, none⟩ = some v := h.1.facts.1 1
theorem Sx.cur {w X : World} {cb gB : Nat} {s : Int} {v : Value} {fs : List Tr} (h : Sx w cb gB s v fs X) : Cur X cb := h.2.2.2.1
theorem Sx.lt {w X : World} {cb gB : Nat} {s : Int} {v : Value} {fs : List Tr} (h : Sx w cb gB s v fs X) : cb < X.heap.size := h.cur.lt
theorem below6 (cb : Nat) (w : World) (hc : Cur w cb) :
    Calls Try.prog 71 #[.pointer (some ⟨cb, 0, none⟩), .int .i64 6] w fun e w' => ∃ x : Int, e = .returned (.int .i64 x) ∧ (0 ≤ x ∧ x < 6) ∧ Trn cb w w' := l1BelowS cb 6 w hc (by omega) (by omega)
theorem below9 (cb : Nat) (w : World) (hc : Cur w cb) :
    Calls Try.prog 71 #[.pointer (some ⟨cb, 0, none⟩), .int .i64 9] w fun e w' => ∃ x : Int, e = .returned (.int .i64 x) ∧ (0 ≤ x ∧ x < 9) ∧ Trn cb w w' := l1BelowS cb 9 w hc (by omega) (by omega)
theorem Sx.own {w X : World} {cb gB : Nat} {s : Int} {v : Value} {fs : List Tr} (h : Sx w cb gB s v fs X) : OT 80 X (w.heap.size + 1) v fs := h.2.1
theorem Sx.box {w X : World} {cb gB : Nat} {s : Int} {v : Value} {fs : List Tr} (h : Sx w cb gB s v fs X) : Blk X gB 73 #[.int .i64 s, v] := h.1
theorem Sx.row {w X : World} {cb gB : Nat} {s : Int} {v : Value} {fs : List Tr} (h : Sx w cb gB s v fs X) : Blk X w.heap.size 73 #[.int .i64 0, .slice none 0 0] := h.2.2.1
theorem Sx.rw4 {w X : World} {cb gB : Nat} {s : Int} {v : Value} {fs : List Tr} (h : Sx w cb gB s v fs X) : Trn cb w X := h.2.2.2
theorem lit4n (cb : Nat) (w : World) (hc : Cur w cb) :
    Calls Try.prog 118 #[.pointer (some ⟨cb, 0, none⟩), .slice (some ⟨w.heap.size, 0, none⟩) 4 4] (w.alloc (.cells #[.int .i64 0, .int .i64 1, .int .i64 8, .int .i64 9] 3)) fun e w' => ∃ x : Int, e = .returned (.int .i64 x) ∧ x ∈ [(0 : Int), 1, 8, 9] ∧ Trn cb w w' :=
  l1LitS cb [0, 1, 8, 9] w hc (by decide) (by decide)
theorem lit4 (cb g : Nat) (w : World) (hc : Cur w cb) (hb : Blk w g 3 #[.int .i64 0, .int .i64 1, .int .i64 8, .int .i64 9]) (hg : cb < g) :
    Calls Try.prog 118 #[.pointer (some ⟨cb, 0, none⟩), .slice (some ⟨g, 0, none⟩) 4 4] w fun e w' => ∃ x : Int, e = .returned (.int .i64 x) ∧ x ∈ [(0 : Int), 1, 8, 9] ∧ Trn cb w w' := by
  have O : OI w g (.slice (some ⟨g, 0, none⟩) 4 4) [0, 1, 8, 9] := OI.lits (xs := [0, 1, 8, 9]) hb (Nat.le_refl _) (by decide)
  exact l1IntS cb _ [0, 1, 8, 9] w hc O.reads (by decide) (by decide) (fun w' t => (O.trn t hg).reads)
set_option maxHeartbeats 40000000 in
theorem l21AnyS (cb : Nat) (w : World) (hc : Cur w cb) :
    Calls Try.prog 121 #[.pointer (some ⟨cb, 0, none⟩)] w fun e w' => ∃ s v fs, e = .returned (.agg #[.int .i64 s, v]) ∧ OT 80 w' w.heap.size v fs ∧ fs.length ≤ 21 ∧ Trn cb w w' := by
  have hlt0 := hc.lt
  have R0 := Blk.new w 73 #[.int .i64 0, .slice none 0 0]
  have T0 : Trn cb w (w.alloc (.cells #[.int .i64 0, .slice none 0 0] 73)) := Trn.of hc ((Bel.refl _).alloc _)
  go_enter Try.func121, Try.ntmps121
  go_wp2_with fail
  refine (l1OnceS cb 2 _ T0.1 (by omega) (by omega)).mono ?_
  rintro e w0 ⟨q, rfl, t0⟩
  have Ra := R0.trn t0 hlt0
  have Ta := T0.trans t0
  have za : w.heap.size + 1 ≤ w0.heap.size := by have := t0.2.size; rw [World.size_alloc] at this; exact this
  go_wp2_with fail
  refine (l21GraphS cb q _ Ta.1).mono ?_
  rintro e w1 ⟨s, v, fs, rfl, O1, hfl, t1⟩
  have R1 := Ra.trn t1 hlt0
  have T1 := Ta.trans t1
  have z1 : w.heap.size + 1 ≤ w1.heap.size := Nat.le_trans za t1.2.size
  obtain ⟨A, c, ev, _, _, _⟩ := O1.reads
  subst ev
  have K2 : Blk (w1.alloc (.cells #[.int .i64 s, .slice A fs.length c] 73)) w1.heap.size 73 #[.int .i64 s, .slice A fs.length c] := Blk.new w1 _ _
  have R2 := R1.alloc (.cells #[.int .i64 s, .slice A fs.length c] 73)
  have T2 := T1.then ((Bel.refl w1).alloc (.cells #[.int .i64 s, .slice A fs.length c] 73))
  have O2 := (O1.low (base' := w.heap.size + 1) za).keep ((Bel.refl w1).alloc (.cells #[.int .i64 s, .slice A fs.length c] 73))
  have hOb2 := Lib.hid (fun q hq => (O1.block q hq).2)
  clear R0 T0 Ra Ta R1 T1 t0 t1 O1
  go_wp2_with fail
  refine (l1BelowS cb 10 _ T2.1 (by omega) (by omega)).mono ?_
  rintro e w3 ⟨y, rfl, hy, t3⟩
  have K3 := K2.trn t3 (by omega)
  have R3 := R2.trn t3 hlt0
  have T3 := T2.trans t3
  have O3 := O2.trn t3 (by omega)
  clear K2 R2 T2 O2 t3
  generalize w1.heap.size = gB at *
  have hOb : Hid (∀ q, (Value.slice A fs.length c).ownBlock = some q → w.heap.size + 1 ≤ q ∧ q < gB) := Lib.hid (fun q hq => ⟨(O3.block q hq).1, hOb2.out q hq⟩)
  clear hOb2
  by_cases h0 : y = 0
  · subst h0
    have L := l1LitS cb [0, 1, 8, 9] w3 T3.1 (by decide) (by decide)
    obtain ⟨ck, fk, zk⟩ := K3.facts
    go_wp2_with fail
    refine L.mono ?_
    rintro e w5 ⟨x, rfl, _, t5⟩
    have K5 := K3.trn t5 (by omega)
    have R5 := R3.trn t5 hlt0
    have T5 := T3.trans t5
    have O5 := O3.trn t5 (by omega)
    have K6 : Blk (w5.setCell ⟨gB, 0, none⟩ (.int .i64 x)) gB 73 #[.int .i64 x, .slice A fs.length c] := K5.set 0 (.int .i64 x)
    have R6 := R5.far (p := ⟨gB, 0, none⟩) (by dsimp only; omega) (.int .i64 x)
    have O6 : OT 80 (w5.setCell ⟨gB, 0, none⟩ (.int .i64 x)) (w.heap.size + 1) (.slice A fs.length c) fs := O5.setNe (p := ⟨gB, 0, none⟩) (fun q hq => by have := (hOb.out q hq).2; dsimp only; omega) (.int .i64 x)
    have T6 := T5.set (p := ⟨gB, 0, none⟩) (.int .i64 x) (by dsimp only; omega) (by dsimp only; omega)
    clear ck fk zk
    obtain ⟨ck5, fk5, zk5⟩ := K5.facts
    obtain ⟨ck, fk, zk⟩ := K6.facts
    obtain ⟨cr, fr, zr⟩ := R6.facts
    have R9 := (R6.set 0 (.int .i64 x)).set 1 (.slice A fs.length c)
    have O9 := (O6.setFar (p := ⟨w.heap.size, 0, none⟩) (by dsimp only; omega) (.int .i64 x)).setFar (p := ⟨w.heap.size, 1, none⟩) (by dsimp only; omega) (.slice A fs.length c)
    have T9 := (T6.set (p := ⟨w.heap.size, 0, none⟩) (.int .i64 x) (Nat.le_refl _) hlt0).set (p := ⟨w.heap.size, 1, none⟩) (.slice A fs.length c) (Nat.le_refl _) hlt0
    go_wp2
    have cr9 := R9.facts.1
    clear cr fr ck fk
    refine bodyPost_ret (v := .agg #[.int .i64 x, .slice A fs.length c]) (by simp [results, Try.results121, go_sem, cr9]) rfl ?_
    first | exact ⟨_, _, _, rfl, O9.low (by omega), by omega, T9⟩ | exact ⟨_, _, rfl, _, O9.low (by omega), by omega, T9⟩
  have e0 : (y == 0) = false := beq_eq_false_iff_ne.2 h0
  by_cases h1 : y = 1
  · subst h1
    go_wp2_with fail
    have S3 : Sx w cb gB s (.slice A fs.length c) fs w3 := ⟨K3, O3, R3, T3⟩
    have hgB : w.heap.size < gB := by omega
    have S3d := S3.keep (Bel.refl w3).drew
    have S3L := S3.keep (((Bel.refl w3).alloc (.cells #[.int .i64 0, .int .i64 1, .int .i64 8, .int .i64 9] 3)).drew)
    have rk := S3.cell
    have rkL := S3L.cell
    have HL3 := (Blk.new w3 3 #[.int .i64 0, .int .i64 1, .int .i64 8, .int .i64 9]).drew
    have cbl := hc.lt
    have hz3 : cb < w3.heap.size := by have := K3.lt; omega
    clear K3 O3 R3 T3
    go_region_law (first
      | (have _ := lT; go_simp; go_at_call 71; with_reducible refine (below9 cb _ sT.cur).mono ?_; rintro e wU ⟨x2, rfl, hx2, tU⟩; have sU := sT.trn tU hlt0 hgB; have rkU := sU.cell; have lU := lT.trn tU (by omega))
      | (go_simp; go_at_call 71; with_reducible refine (below6 cb _ S3L.cur).mono ?_; rintro e wT ⟨x1, rfl, hx1, tT⟩; have hwx : IntKind.i64.wrap (x1 - 1) = x1 - 1 := (IntWalk.i64_in _ (by omega)); have sT := S3L.trn tT hlt0 hgB; have rkT := sT.cell; have lT := HL3.trn tT (by omega))
      | (go_simp; go_at_call 71; with_reducible refine (below6 cb _ S3d.cur).mono ?_; rintro e wT ⟨x1, rfl, hx1, tT⟩; have hwx : IntKind.i64.wrap (x1 - 1) = x1 - 1 := (IntWalk.i64_in _ (by omega)); have sT := S3d.trn tT hlt0 hgB; have rkT := sT.cell; have sTL := sT.keep (Y := wT.alloc (.cells #[.int .i64 0, .int .i64 1, .int .i64 8, .int .i64 9] 3)) ((Bel.refl wT).alloc (.cells #[.int .i64 0, .int .i64 1, .int .i64 8, .int .i64 9] 3)); have rkTL := sTL.cell; have hlT := sT.lt)
      | (go_simp; go_at_call 71; with_reducible refine (below9 cb _ sTL.cur).mono ?_; rintro e wU ⟨x2, rfl, hx2, tU⟩; have sU := sTL.trn tU hlt0 hgB; have rkU := sU.cell; have lU := (Blk.new wT 3 #[.int .i64 0, .int .i64 1, .int .i64 8, .int .i64 9]).trn tU (by omega))
      | (go_simp; go_at_call 71; with_reducible refine (below9 cb _ sT.cur).mono ?_; rintro e wU ⟨x2, rfl, hx2, tU⟩; have sU := sT.trn tU hlt0 hgB; have rkU := sU.cell; have sUL := sU.keep (Y := wU.alloc (.cells #[.int .i64 0, .int .i64 1, .int .i64 8, .int .i64 9] 3)) ((Bel.refl wU).alloc (.cells #[.int .i64 0, .int .i64 1, .int .i64 8, .int .i64 9] 3)); have rkUL := sUL.cell)
      | (have LC := lit4 cb _ wU sU.cur lU (by omega); go_simp; go_at_call 118; with_reducible refine LC.mono ?_; rintro e wX ⟨x3, rfl, hx3, tX⟩; have sX := sU.trn tX hlt0 hgB; have rkX := sX.cell; have sXE := sX.keep (Y := wX.alloc (.cells #[.int .i64 (x1 - 1), .int .i64 x2, .int .i64 x3] 80)) ((Bel.refl wX).alloc (.cells #[.int .i64 (x1 - 1), .int .i64 x2, .int .i64 x3] 80)); have rkXE := sXE.cell)
      | (have LC := lit4n cb wU sU.cur; go_simp; go_at_call 118; with_reducible refine LC.mono ?_; rintro e wX ⟨x3, rfl, hx3, tX⟩; have sX := sU.trn tX hlt0 hgB; have rkX := sX.cell; have sXE := sX.keep (Y := wX.alloc (.cells #[.int .i64 (x1 - 1), .int .i64 x2, .int .i64 x3] 80)) ((Bel.refl wX).alloc (.cells #[.int .i64 (x1 - 1), .int .i64 x2, .int .i64 x3] 80)); have rkXE := sXE.cell)
      | (refine step_appEd _ (by rfl) _ _ (by rfl) (w.heap.size + 1) _ _ fs [((x1 - 1), x2, x3)] (by rfl) (by rfl) (by exact sXE.own) (by exact RT.one _ _ ((x1 - 1), x2, x3)) (by simp only [List.length_cons, List.length_nil]; omega) (by have := sXE.row.lt; omega) ?_; intro v5 w5 O5 hG; have K5 := sXE.box.grown hG (fun e => by have := (hOb.out _ e).2; omega); have eLT : (fs ++ [((x1 - 1), x2, x3)]).length = fs.length + 1 := (by simp only [List.length_append, List.length_cons, List.length_nil]); obtain ⟨A5, c5, e5, _, _, _⟩ := O5.reads; rw [eLT] at e5; subst e5; have rk5 := K5.facts.1 1; have fk5 := K5.facts.2.1 1))
    all_goals (
      have K6 : Blk (w5.setCell ⟨gB, 1, none⟩ (.slice A5 (fs.length + 1) c5)) gB 73 #[.int .i64 s, .slice A5 (fs.length + 1) c5] := K5.set 1 _
      have R5 := sXE.row.grown hG (fun e => by have := (hOb.out _ e).1; omega)
      have T5 : Trn cb w w5 := sXE.rw4.row hG (fun q hq => (hOb.out q hq).1) (by omega) (by omega)
      have O6 := O5.setNe (p := ⟨gB, 1, none⟩) (O5.ne K5 (by decide)) (.slice A5 (fs.length + 1) c5)
      have R6 := R5.far (p := ⟨gB, 1, none⟩) (by dsimp only; omega) (.slice A5 (fs.length + 1) c5)
      have T6 := T5.set (p := ⟨gB, 1, none⟩) (.slice A5 (fs.length + 1) c5) (by dsimp only; omega) (by dsimp only; omega)
      clear K5 O5 R5 T5 rk5 fk5 hG sXE rkXE sX rkX
      generalize w5.setCell ⟨gB, 1, none⟩ (.slice A5 (fs.length + 1) c5) = w6 at *
      have eLT2 : (fs ++ [(x1 - 1, x2, x3)]).length = fs.length + 1 := by simp only [List.length_append, List.length_cons, List.length_nil]
      have HFL6 : Hid ((fs ++ [(x1 - 1, x2, x3)]).length ≤ 21) := Lib.hid (by rw [eLT2]; omega)
      clear eLT eLT2
      obtain ⟨ck, fk, zk⟩ := K6.facts
      obtain ⟨cr, fr, zr⟩ := R6.facts
      have R9 := (R6.set 0 (.int .i64 s)).set 1 (.slice A5 (fs.length + 1) c5)
      have O9 := (O6.setFar (p := ⟨w.heap.size, 0, none⟩) (by dsimp only; omega) (.int .i64 s)).setFar (p := ⟨w.heap.size, 1, none⟩) (by dsimp only; omega) (.slice A5 (fs.length + 1) c5)
      have T9 := (T6.set (p := ⟨w.heap.size, 0, none⟩) (.int .i64 s) (Nat.le_refl _) hlt0).set (p := ⟨w.heap.size, 1, none⟩) (.slice A5 (fs.length + 1) c5) (Nat.le_refl _) hlt0
      go_wp2
      have cr9 := R9.facts.1
      clear cr fr ck fk
      refine bodyPost_ret (v := .agg #[.int .i64 s, .slice A5 (fs.length + 1) c5]) (by simp [results, Try.results121, go_sem, cr9]) rfl ?_
      first | exact ⟨_, _, _, rfl, O9.low (by omega), HFL6.out, T9⟩ | exact ⟨_, _, rfl, _, O9.low (by omega), HFL6.out, T9⟩)
  have e1 : (y == 1) = false := beq_eq_false_iff_ne.2 h1
  by_cases h2 : y = 2
  · subst h2
    go_wp2
    go_loopg [] (22 - fs.length) (fun f wr => ∃ (v : Value) (fs : List Tr), fs.length + f = 22 ∧ Blk wr gB 73 #[.int .i64 s, v] ∧ OT 80 wr (w.heap.size + 1) v fs ∧ (∀ q, v.ownBlock = some q → q ≠ gB) ∧ Hid (fs.length ≤ 21) ∧ Blk wr w.heap.size 73 #[.int .i64 0, .slice none 0 0] ∧ Trn cb w wr ∧ gB + 1 ≤ wr.heap.size)
    case atStart => exact ⟨_, fs, by omega, K3, O3, fun q hq => (by have := (hOb.out q hq).2; omega), Lib.hid (by omega), R3, T3, K3.lt⟩
    case round =>
      clear K3 O3 R3 T3 hOb hfl
      obtain ⟨v, fs, hf, K, O, hne, HFL, R, T, hz⟩ := hrel
      have HF := Lib.hid hf
      have hf21 := HFL.out
      have HNE := Lib.hid (fun q hq => (show w.heap.size + 1 ≤ q ∧ q ≠ gB from ⟨(O.block q hq).1, hne q hq⟩))
      clear hf hne
      obtain ⟨A, c, ev, _, _, _⟩ := O.reads
      subst ev
      have rk : wr.cell? ⟨gB, 1, none⟩ = some (.slice A fs.length c) := K.facts.1 1
      go_wp2
      go_region_law (first
        | (go_simp; go_at_call 71; refine (l1BelowS cb 2 _ (by exact T.1.keep ((Bel.refl _).drew)) (by omega) (by omega)).mono ?_; rintro e wT ⟨x, rfl, hx, tT⟩; have hwx : IntKind.i64.wrap (20 + x) = 20 + x := (IntWalk.i64_in _ (by omega)); have KT := (K.drew).trn tT (by omega); have OT9 := (O.keep ((Bel.refl _).drew)).trn tT (by omega); have RT9 := (R.drew).trn tT hlt0; have TT := (T.then ((Bel.refl _).drew)).trans tT; have rkT : wT.cell? ⟨gB, 1, none⟩ = some (.slice A fs.length c) := KT.facts.1 1))
      all_goals (
        have hzT : gB + 1 ≤ wT.heap.size := KT.lt
        clear rk rkT
        by_cases hlt : (fs.length : Int) < 20 + x
        · have hd : decide ((fs.length : Int) < 20 + x) = true := decide_eq_true hlt
          obtain ⟨ck, fk, zk⟩ := KT.facts
          go_wp2_with (at_builtin; refine wpList_appEd _ rfl _ _ rfl (w.heap.size + 1) _ _ fs [(0, 1, 1)] rfl rfl (OT9.keep ((Bel.refl _).alloc _)) (RT.one _ _ (0, 1, 1)) (by simp only [List.length_cons, List.length_nil]; omega) (by simp; omega) ?_)
          intro v5 w5 O5 hG
          have K5 := (KT.alloc (.cells #[.int .i64 0, .int .i64 1, .int .i64 1] 80)).grown hG (fun e => (HNE.out _ e).2 rfl)
          have R5 := (RT9.alloc (.cells #[.int .i64 0, .int .i64 1, .int .i64 1] 80)).grown hG (fun e => by have := (HNE.out _ e).1; omega)
          have T5 : Trn cb w w5 := (TT.then ((Bel.refl _).alloc _)).row hG (fun q hq => (HNE.out q hq).1) (by omega) (by omega)
          have eLT : (fs ++ [((0 : Int), (1 : Int), (1 : Int))]).length = fs.length + 1 := by simp
          obtain ⟨A5, c5, e5, _, _, _⟩ := O5.reads
          rw [eLT] at e5
          subst e5
          have hne5 := O5.ne K5 (by decide)
          have K6 : Blk (w5.setCell ⟨gB, 1, none⟩ (.slice A5 (fs.length + 1) c5)) gB 73 #[.int .i64 s, .slice A5 (fs.length + 1) c5] := K5.set 1 _
          have O6 := O5.setNe (p := ⟨gB, 1, none⟩) hne5 (.slice A5 (fs.length + 1) c5)
          have R6 := R5.far (p := ⟨gB, 1, none⟩) (by dsimp only; omega) (.slice A5 (fs.length + 1) c5)
          have T6 := T5.set (p := ⟨gB, 1, none⟩) (.slice A5 (fs.length + 1) c5) (by dsimp only; omega) (by dsimp only; omega)
          have HFL6 : Hid ((fs ++ [((0 : Int), (1 : Int), (1 : Int))]).length ≤ 21) := Lib.hid (by rw [eLT]; omega)
          have HLEN : Hid ((fs ++ [((0 : Int), (1 : Int), (1 : Int))]).length = fs.length + 1) := Lib.hid eLT
          obtain ⟨ck5, fk5, zk5⟩ := K5.facts
          clear ck fk zk hG eLT
          go_wp2
          go_roundg (22 - (fs.length + 1))
          case measure => have := HF.out; omega
          case rel => exact ⟨_, _, by rw [HLEN.out]; omega, K6, O6, hne5, HFL6, R6, T6, K6.lt⟩
        · have hd : decide ((fs.length : Int) < 20 + x) = false := decide_eq_false hlt
          obtain ⟨ck0, fk0, zk0⟩ := KT.facts
          obtain ⟨ck, fk, zk⟩ := KT.facts
          obtain ⟨cr, fr, zr⟩ := RT9.facts
          have R9 := (RT9.set 0 (.int .i64 s)).set 1 (.slice A fs.length c)
          have O9 := (OT9.setFar (p := ⟨w.heap.size, 0, none⟩) (by dsimp only; omega) (.int .i64 s)).setFar (p := ⟨w.heap.size, 1, none⟩) (by dsimp only; omega) (.slice A fs.length c)
          have T9 := (TT.set (p := ⟨w.heap.size, 0, none⟩) (.int .i64 s) (Nat.le_refl _) hlt0).set (p := ⟨w.heap.size, 1, none⟩) (.slice A fs.length c) (Nat.le_refl _) hlt0
          go_wp2
          have cr9 := R9.facts.1
          clear cr fr ck fk
          refine bodyPost_ret (v := .agg #[.int .i64 s, .slice A fs.length c]) (by simp [results, Try.results121, go_sem, cr9]) rfl ?_
          first | exact ⟨_, _, _, rfl, O9.low (by omega), HFL.out, T9⟩ | exact ⟨_, _, rfl, _, O9.low (by omega), HFL.out, T9⟩)
  have e2 : (y == 2) = false := beq_eq_false_iff_ne.2 h2
  obtain ⟨ck, fk, zk⟩ := K3.facts
  obtain ⟨cr, fr, zr⟩ := R3.facts
  have R9 := (R3.set 0 (.int .i64 s)).set 1 (.slice A fs.length c)
  have O9 := (O3.setFar (p := ⟨w.heap.size, 0, none⟩) (by dsimp only; omega) (.int .i64 s)).setFar (p := ⟨w.heap.size, 1, none⟩) (by dsimp only; omega) (.slice A fs.length c)
  have T9 := (T3.set (p := ⟨w.heap.size, 0, none⟩) (.int .i64 s) (Nat.le_refl _) hlt0).set (p := ⟨w.heap.size, 1, none⟩) (.slice A fs.length c) (Nat.le_refl _) hlt0
  go_wp2
  have cr9 := R9.facts.1
  clear cr fr ck fk
  refine bodyPost_ret (v := .agg #[.int .i64 s, .slice A fs.length c]) (by simp [results, Try.results121, go_sem, cr9]) rfl ?_
  first | exact ⟨_, _, _, rfl, O9.low (by omega), by omega, T9⟩ | exact ⟨_, _, rfl, _, O9.low (by omega), by omega, T9⟩
end Go.Proofs.Ytjlcnbicehjjjaa
