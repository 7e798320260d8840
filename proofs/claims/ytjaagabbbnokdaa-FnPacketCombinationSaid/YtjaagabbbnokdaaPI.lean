/-
  FindCollision: contracts of the program's function and of the reference's. No condition.
  Draws of vectors and hash keys: l4Group, l5Any, l18Key: weak contracts (what is drawn can be read, its numbers are ints).
  l11Any of the reference: a contract for a valid generation.
  DrawCombinePackets of the reference: a contract. Condition: at most 2^20 bytes.
-/
import Derived.Test.YtjaagabbbnokdaaPH
import Derived.Test.YtjaagabbbnokdaaVx
import Derived.StillTailTactics
import Derived.Test.YtjaagabbbnokdaaPD
import Derived.Deep.RegionLaw
import Derived.RegionTactic
import Derived.ChangeAlike
import Derived.BigRegion
import Derived.Test.YtjaagabbbnokdaaPG
namespace Go.Proofs.Ytjaagabbbnokdaa
open Go.ChangeShapes Go.WideShapes Go.ChangeAt Go.RowKit
set_option linter.unusedVariables false
set_option maxRecDepth 100000

def fcolB (gs xs : List Int) : Bool := hkB gs && vecB xs && !((xs.length : Int) != (gs.length : Int)) && !(decide ((xs.length : Int) < 2))
def fcolX (gs xs : List Int) : List Int := (xs.set 0 ((xs.getD 0 0 + (logZ (gs.getD 0 0) (gs.getD 1 0) : Int)) % 1019)).set 1 (sfZ (xs.getD 1 0) 1)
def fcolZ (gs xs : List Int) : List Int := if fcolB gs xs = true then fcolX gs xs else []
theorem fcol_no {gs xs : List Int} (h : fcolB gs xs = false) : fcolZ gs xs = [] := by unfold fcolZ; rw [h]; rfl
theorem fcol_yes {gs xs : List Int} (h : fcolB gs xs = true) : fcolZ gs xs = fcolX gs xs := by unfold fcolZ; rw [h]; rfl
theorem fcol_len (gs xs : List Int) : (fcolZ gs xs).length ≤ 40 := by
  cases q : fcolB gs xs
  · rw [fcol_no q]; simp
  · rw [fcol_yes q]
    unfold fcolX
    rw [List.length_set, List.length_set]
    unfold fcolB at q
    rw [Bool.and_eq_true, Bool.and_eq_true, Bool.and_eq_true] at q
    exact (vecB_facts q.1.1.2).2
theorem stillW {P : Program} {f : FuncId} {args : Array Value} {w : World} {v : Value} (h : Calls P f args w fun e w' => e = .returned v ∧ w = w') : Calls P f args w fun e w'' => e = .returned v ∧ w'' = w :=
  h.mono fun _ _ ⟨a, b⟩ => ⟨a, b.symm⟩
theorem getD_at {xs : List Int} {i : Nat} (h : i < xs.length) : xs[i]? = some (xs.getD i 0) := by simp [List.getD, h]
end Go.Proofs.Ytjaagabbbnokdaa

namespace Go.Proofs.Ytjaagabbbnokdaa
open Go.ChangeShapes Go.WideShapes Go.ChangeAt Go.RowKit Go.Joins Go.Deep
set_option linter.unusedVariables false
set_option maxRecDepth 100000

theorem OI.ne {w : World} {base gk : Nat} {v : Value} {xs : List Int} {T : TypeId} {cs : Array Value} (h : OI w base v xs) (k : Blk w gk T cs) (hT : T ≠ 3) : ∀ q, v.ownBlock = some q → q ≠ gk := by
  rintro q hq rfl
  obtain ⟨hl, ⟨rfl, h0⟩ | ⟨g, cap, cur, rfl, hb, hh, h1, h2, h3, h4⟩⟩ := h
  · simp [Value.ownBlock] at hq
  · have e : g = q := by simpa [Value.ownBlock] using hq
    subst e
    have k2 : w.heap[g]? = some (.cells cs T (0, 0)) := k
    have h5 : w.heap[g]? = some (.cells cur 3 (0, 0)) := hh
    rw [h5] at k2
    injection k2 with k2
    injection k2 with _ e2 _
    exact hT e2.symm
theorem OI.setFar2 {w : World} {base : Nat} {v : Value} {xs : List Int} (h : OI w base v xs) {p : Addr} (hp : ∀ q, v.ownBlock = some q → q ≠ p.block) (u : Value) : OI (w.setCell p u) base v xs := by
  obtain ⟨hl, h | ⟨g, cap, cur, rfl, hb, hh, h1, h2, h3, h4⟩⟩ := h
  · exact ⟨hl, .inl h⟩
  · exact ⟨hl, .inr ⟨g, cap, cur, rfl, hb, (Below.heap_setCell w p u g (hp g rfl)).trans hh, h1, h2, h3, h4⟩⟩
/-- Small numbers. -/
def Sml (xs : List Int) : Prop := xs.length ≤ 1100 ∧ ∀ x ∈ xs, -1 ≤ x ∧ x ≤ 2039
theorem In1018.sml {xs : List Int} (h : In1018 xs) (hl : xs.length ≤ 1000) : Sml xs := ⟨by omega, fun x hx => by have := h x hx; omega⟩
theorem sml_snoc {xs : List Int} {x : Int} (h : Sml xs) (hl : xs.length ≤ 1099) (hx : -1 ≤ x ∧ x ≤ 2039) : Sml (xs ++ [x]) := ⟨by simp; omega, fun y hy => by
  rcases List.mem_append.1 hy with h1 | h1
  · exact h.2 y h1
  · rw [List.mem_singleton.1 h1]; exact hx⟩
theorem sml_set {xs : List Int} {x : Int} {i : Nat} (h : Sml xs) (hx : -1 ≤ x ∧ x ≤ 2039) : Sml (xs.set i x) := ⟨by rw [List.length_set]; exact h.1, fun y hy => by
  rcases List.mem_or_eq_of_mem_set hy with h1 | h1
  · exact h.2 y h1
  · rw [h1]; exact hx⟩
set_option maxHeartbeats 2000000 in
theorem l5AnyS (cb n : Nat) (w : World) (hc : Cur w cb) (hn : n ≤ 1000) :
    Calls Try.prog 83 #[.pointer (some ⟨cb, 0, none⟩), .int .i64 (n : Int)] w fun e w' => ∃ r xs, e = .returned r ∧ OI w' w.heap.size r xs ∧ Sml xs ∧ Trn cb w w' := by
  have hlt0 := hc.lt
  go_enter Try.func83, Try.ntmps83
  go_wp2_with fail
  refine (l5VectorS cb n _ hc hn).mono ?_
  rintro e w1 ⟨r, xs, rfl, O1, ⟨hl, hb⟩, t1⟩
  have hs := Lib.hid (hb.sml (by omega))
  have hxl : xs.length ≤ 1000 := by omega
  clear hl hb
  go_wp2_with fail
  refine (l1BelowS cb 10 _ t1.1 (by omega) (by omega)).mono ?_
  rintro e w2 ⟨x, rfl, hx, t2⟩
  have O2 := O1.trn t2 hlt0
  have T2 := t1.trans t2
  have HZ2 : Hid (w.heap.size ≤ w2.heap.size) := Lib.hid T2.2.size
  by_cases h0 : x = 0
  · subst h0
    go_wp2_with fail
    refine (l1LitS cb [-1, 0, 1019] w2 T2.1 (by decide) (by decide)).mono ?_
    rintro e w3 ⟨y, rfl, hy, t3⟩
    have hb : -1 ≤ y ∧ y ≤ 2039 := by simp at hy; omega
    have O3 := O2.trn t3 hlt0
    have T3 := T2.trans t3
    have HZ3 : Hid (w.heap.size ≤ w3.heap.size) := Lib.hid T3.2.size
    clear hy
    go_wp2_with (at_builtin; refine wpList_appI _ rfl _ _ rfl w.heap.size _ _ xs [y] rfl rfl (O3.keep ((Bel.refl _).alloc _)) (RI.lit1 _ _ _) (by simp only [List.length_cons, List.length_nil]; omega) (by have := HZ3.out; simp; omega) ?_)
    intro v4 w4 O4 hG
    have T4 : Trn cb w w4 := T3.grown O3 hG (Nat.le_refl _) hlt0
    go_wp2
    go_ret
    exact ⟨_, _, rfl, O4, sml_snoc hs.out (by omega) hb, T4⟩
  by_cases h1 : x = 1
  · subst h1
    go_wp2_with fail
    refine (l1BelowS cb 2 _ T2.1 (by omega) (by omega)).mono ?_
    rintro e w3 ⟨y, rfl, ⟨y0, y1⟩, t3⟩
    obtain ⟨k, rfl⟩ := Int.eq_ofNat_of_zero_le y0
    have T3 := T2.trans t3
    have HZ3 : Hid (w.heap.size ≤ w3.heap.size) := Lib.hid T3.2.size
    have hmk : ∀ W : World, (Instr.makeSlice 59 (.int .i64 (40 + (k : Int))) (.int .i64 (40 + (k : Int)))).run Try.prog W = .ok (.slice (some ⟨W.heap.size, 0, none⟩) (40 + k) (40 + k)) (W.alloc (.cells (madeCells #[.int .i64 0] (40 + k)) 3)) := fun W => mkInts (40 + k) (by omega) W
    have O4 := OI.made w3 (40 + k) (by omega)
    have T4 : Trn cb w (w3.alloc (.cells (madeCells #[.int .i64 0] (40 + k)) 3)) := T3.then ((Bel.refl _).alloc _)
    have HS : Hid (Sml (List.replicate (40 + k) 0)) := Lib.hid ⟨by rw [List.length_replicate]; omega, fun z hz => by rw [(List.mem_replicate.1 hz).2]; omega⟩
    generalize madeCells #[.int .i64 0] (40 + k) = C at *
    go_wp2
    go_ret
    exact ⟨_, _, rfl, O4.low HZ3.out, HS.out, T4⟩
  · have e0 : (x == 0) = false := beq_eq_false_iff_ne.2 h0
    have e1 : (x == 1) = false := beq_eq_false_iff_ne.2 h1
    go_wp2
    go_ret
    exact ⟨_, _, rfl, O2, hs.out, T2⟩
end Go.Proofs.Ytjaagabbbnokdaa

namespace Go.Proofs.Ytjaagabbbnokdaa
open Go.ChangeShapes Go.WideShapes Go.ChangeAt Go.RowKit Go.Joins Go.Deep
set_option linter.unusedVariables false
set_option linter.unusedSimpArgs false
set_option maxRecDepth 100000

def L11A (cb : Nat) (w : World) (e : Ending) (w' : World) : Prop := ∃ x r1 r2 xs ys, e = .returned (.agg #[.int .i64 x, r1, r2]) ∧ OI w' w.heap.size r1 xs ∧ OI w' w.heap.size r2 ys ∧ (xs.length ≤ 2000 ∧ ys.length ≤ 2000) ∧ Trn cb w w'
set_option maxHeartbeats 8000000 in
theorem l11AnyS (cb lo : Nat) (a : Int) (v : Value) (m : List (List Int)) (w : World) (hc : Cur w cb) (M : ML w lo v m) (hlo : cb < lo) (hg : gnrB a m = true) :
    Calls Try.prog 82 #[.pointer (some ⟨cb, 0, none⟩), .agg #[.int .i64 a, v]] w (L11A cb w) := by
  have hlt0 := hc.lt
  obtain ⟨A, c, rfl, _, _⟩ := M.shape
  obtain ⟨g1, g2, g3, g4, _⟩ := gnrB_facts hg
  have HG := Lib.hid hg
  have HLC : Hid ((1 ≤ m.length ∧ m.length ≤ 8) ∧ 1 ≤ colN m ∧ colN m ≤ 16) := Lib.hid (by omega)
  have HMT := Lib.hid g4
  clear hg g1 g2 g3 g4
  have X0 := ((Bel.refl w).alloc (.cells #[.int .i64 a, .slice A m.length c] 41)).alloc (.cells #[.int .i64 0, .slice none 0 0, .slice none 0 0] 63)
  have G0 := (Blk.new w 41 #[.int .i64 a, .slice A m.length c]).alloc (.cells #[.int .i64 0, .slice none 0 0, .slice none 0 0] 63)
  have R0 := Blk.new2 w (.cells #[.int .i64 a, .slice A m.length c] 41) 63 #[.int .i64 0, .slice none 0 0, .slice none 0 0]
  have M0 := M.keep X0
  have T0 : Trn cb w ((w.alloc (.cells #[.int .i64 a, .slice A m.length c] 41)).alloc (.cells #[.int .i64 0, .slice none 0 0, .slice none 0 0] 63)) := Trn.of hc X0
  obtain ⟨cg, fg, zg⟩ := G0.facts
  go_enter Try.func82, Try.ntmps82
  go_wp2_with fail
  refine (l11PC cb lo a _ m _ T0.1 M0 hlo HG.out).mono ?_
  rintro e w2 ⟨r1, r2, co, pl, rfl, O1, O2, hq, t2⟩
  clear cg fg zg
  rw [World.size_alloc, World.size_alloc] at O1 O2
  obtain ⟨A1, c1, e1, _, _, _⟩ := O1.reads
  obtain ⟨A2, c2, e2, _, _, _⟩ := O2.reads
  subst e1 e2
  have hzz : w.heap.size + 2 ≤ w2.heap.size := by have := t2.2.size; rw [World.size_alloc, World.size_alloc] at this; omega
  have HRW : Hid (Row (colN m) pl) := Lib.hid (by rw [hq.2.2]; exact lcZ_row HMT.out)
  have hl1 : co.length ≤ 8 := by have := HLC.out; omega
  have hp1 : 0 < co.length := by have := HLC.out; omega
  have hp : 0 < pl.length := by have := HLC.out; have := HRW.out.1; omega
  have hl2 : pl.length ≤ 16 := by have := HLC.out; have := HRW.out.1; omega
  have hbo1 : ∀ q, (Value.slice A1 co.length c1).ownBlock = some q → q < w2.heap.size := fun q h => (O1.block q h).2
  have hbo2 : ∀ q, (Value.slice A2 pl.length c2).ownBlock = some q → q < w2.heap.size := fun q h => (O2.block q h).2
  have B3 := (Bel.refl w2).alloc (.cells #[.int .i64 a, .slice A1 co.length c1, .slice A2 pl.length c2] 63)
  have D3 := Blk.new w2 63 #[.int .i64 a, .slice A1 co.length c1, .slice A2 pl.length c2]
  have R3 := B3.keep (R0.trn t2 (by omega))
  have O13 := O1.keep B3
  have O23 := O2.keep B3
  have T3 := (T0.trans t2).then B3
  clear X0 G0 R0 M0 T0 O1 O2 t2 B3 hq
  go_upto_region 2 with fail
  generalize w2.alloc (.cells #[.int .i64 a, .slice A1 co.length c1, .slice A2 pl.length c2] 63) = w3 at *
  generalize w2.heap.size = gD at *
  go_wp2_with fail
  refine (l1BelowS cb 12 _ T3.1 (by omega) (by omega)).mono ?_
  rintro e w4 ⟨x, rfl, hx, t4⟩
  have D4 := D3.trn t4 (by omega)
  have R4 := R3.trn t4 (by omega)
  have O14 := O13.trn t4 (by omega)
  have O24 := O23.trn t4 (by omega)
  have T4 := T3.trans t4
  clear D3 R3 O13 O23 T3 t4
  have hgz : gD < w4.heap.size := D4.lt
  by_cases h0 : x = 0
  · subst h0
    go_wp2_with fail
    refine (l1LitS cb [-1, 7, 1000000000000, 1000000000001] w4 T4.1 (by decide) (by decide)).mono ?_
    rintro e w5 ⟨y, rfl, hy, t5⟩
    clear hy
    have D5 := D4.trn t5 (by omega)
    have R5 := R4.trn t5 (by omega)
    have O15 := O14.trn t5 (by omega)
    have O25 := O24.trn t5 (by omega)
    have T5 := T4.trans t5
    clear D4 R4 O14 O24 T4 t5
    obtain ⟨ce, fe, ze⟩ := D5.facts
    have HL : Hid (co.length ≤ 2000 ∧ pl.length ≤ 2000) := Lib.hid (by omega)
    have D6 := D5.set 0 (.int .i64 y)
    have R6 := R5.far (p := ⟨gD, 0, none⟩) (by dsimp only; omega) (.int .i64 y)
    have T6 := T5.set (p := ⟨gD, 0, none⟩) (.int .i64 y) (by dsimp only; omega) (by dsimp only; omega)
    have O16 := O15.setFar2 (p := ⟨gD, 0, none⟩) (fun q h => by have := hbo1 q h; dsimp only; omega) (.int .i64 y)
    have O26 := O25.setFar2 (p := ⟨gD, 0, none⟩) (fun q h => by have := hbo2 q h; dsimp only; omega) (.int .i64 y)
    clear D5 R5 O15 O25 T5
    go_upto_region 12 with fail
    clear ce fe ze
    generalize w5.setCell ⟨gD, 0, none⟩ (.int .i64 y) = w6 at *
    obtain ⟨cd, fd, zd⟩ := D6.facts
    obtain ⟨cr, fr, zr⟩ := R6.facts
    have R9 := ((R6.set 0 (.int .i64 y)).set 1 (.slice A1 co.length c1)).set 2 (.slice A2 pl.length c2)
    have P1 := ((O16.setFar (p := ⟨w.heap.size + 1, 0, none⟩) (by dsimp only; omega) (.int .i64 y)).setFar (p := ⟨w.heap.size + 1, 1, none⟩) (by dsimp only; omega) (.slice A1 co.length c1)).setFar (p := ⟨w.heap.size + 1, 2, none⟩) (by dsimp only; omega) (.slice A2 pl.length c2)
    have P2 := ((O26.setFar (p := ⟨w.heap.size + 1, 0, none⟩) (by dsimp only; omega) (.int .i64 y)).setFar (p := ⟨w.heap.size + 1, 1, none⟩) (by dsimp only; omega) (.slice A1 co.length c1)).setFar (p := ⟨w.heap.size + 1, 2, none⟩) (by dsimp only; omega) (.slice A2 pl.length c2)
    have T9 := ((T6.set (p := ⟨w.heap.size + 1, 0, none⟩) (.int .i64 y) (by dsimp only; omega) (by dsimp only; omega)).set (p := ⟨w.heap.size + 1, 1, none⟩) (.slice A1 co.length c1) (by dsimp only; omega) (by dsimp only; omega)).set (p := ⟨w.heap.size + 1, 2, none⟩) (.slice A2 pl.length c2) (by dsimp only; omega) (by dsimp only; omega)
    go_wp2
    have cr9 := R9.facts.1
    clear cr fr cd fd
    refine bodyPost_ret (v := .agg #[.int .i64 y, .slice A1 co.length c1, .slice A2 pl.length c2]) (by simp [results, Try.results82, go_sem, cr9]) rfl ?_
    unfold L11A
    exact ⟨_, _, _, _, _, rfl, P1.low (by omega), P2.low (by omega), HL.out, T9⟩
  by_cases h1 : x = 1
  · subst h1
    go_wp2_with fail
    refine (l1BelowS cb 5 _ T4.1 (by omega) (by omega)).mono ?_
    rintro e w5 ⟨y, rfl, ⟨y0, y1⟩, t5⟩
    obtain ⟨k, rfl⟩ := Int.eq_ofNat_of_zero_le y0
    have D5 := D4.trn t5 (by omega)
    have R5 := R4.trn t5 (by omega)
    have O15 := O14.trn t5 (by omega)
    have O25 := O24.trn t5 (by omega)
    have T5 := T4.trans t5
    clear D4 R4 O14 O24 T4
    have hz5 := t5.2.size
    go_wp2_with fail
    refine (l5AnyS cb k _ T5.1 (by omega)).mono ?_
    rintro e w6 ⟨rv, zs, rfl, N6, hsm, t6⟩
    have D6 := D5.trn t6 (by omega)
    have R6 := R5.trn t6 (by omega)
    have O16 := O15.trn t6 (by omega)
    have O26 := O25.trn t6 (by omega)
    have T6 := T5.trans t6
    clear D5 R5 O15 O25 T5 t5
    have hz6 := t6.2.size
    obtain ⟨A3, c3, e3, _, _, _⟩ := N6.reads
    subst e3
    have HL : Hid (zs.length ≤ 2000 ∧ pl.length ≤ 2000) := Lib.hid ⟨by have := hsm.1; omega, by omega⟩
    clear hsm t6
    obtain ⟨ce, fe, ze⟩ := D6.facts
    have D7 := D6.set 1 (.slice A3 zs.length c3)
    have R7 := R6.far (p := ⟨gD, 1, none⟩) (by dsimp only; omega) (.slice A3 zs.length c3)
    have T7 := T6.set (p := ⟨gD, 1, none⟩) (.slice A3 zs.length c3) (by dsimp only; omega) (by dsimp only; omega)
    have O17 := (N6.setFar (p := ⟨gD, 1, none⟩) (by dsimp only; omega) (.slice A3 zs.length c3)).low (base' := w.heap.size + 2) (by omega)
    have O27 := O26.setFar2 (p := ⟨gD, 1, none⟩) (fun q h => by have := hbo2 q h; dsimp only; omega) (.slice A3 zs.length c3)
    clear D6 R6 O16 O26 T6
    go_upto_region 12 with fail
    clear ce fe ze
    generalize w6.setCell ⟨gD, 1, none⟩ (.slice A3 zs.length c3) = w7 at *
    obtain ⟨cd, fd, zd⟩ := D7.facts
    obtain ⟨cr, fr, zr⟩ := R7.facts
    have R9 := ((R7.set 0 (.int .i64 a)).set 1 (.slice A3 zs.length c3)).set 2 (.slice A2 pl.length c2)
    have P1 := ((O17.setFar (p := ⟨w.heap.size + 1, 0, none⟩) (by dsimp only; omega) (.int .i64 a)).setFar (p := ⟨w.heap.size + 1, 1, none⟩) (by dsimp only; omega) (.slice A3 zs.length c3)).setFar (p := ⟨w.heap.size + 1, 2, none⟩) (by dsimp only; omega) (.slice A2 pl.length c2)
    have P2 := ((O27.setFar (p := ⟨w.heap.size + 1, 0, none⟩) (by dsimp only; omega) (.int .i64 a)).setFar (p := ⟨w.heap.size + 1, 1, none⟩) (by dsimp only; omega) (.slice A3 zs.length c3)).setFar (p := ⟨w.heap.size + 1, 2, none⟩) (by dsimp only; omega) (.slice A2 pl.length c2)
    have T9 := ((T7.set (p := ⟨w.heap.size + 1, 0, none⟩) (.int .i64 a) (by dsimp only; omega) (by dsimp only; omega)).set (p := ⟨w.heap.size + 1, 1, none⟩) (.slice A3 zs.length c3) (by dsimp only; omega) (by dsimp only; omega)).set (p := ⟨w.heap.size + 1, 2, none⟩) (.slice A2 pl.length c2) (by dsimp only; omega) (by dsimp only; omega)
    go_wp2
    have cr9 := R9.facts.1
    clear cr fr cd fd
    refine bodyPost_ret (v := .agg #[.int .i64 a, .slice A3 zs.length c3, .slice A2 pl.length c2]) (by simp [results, Try.results82, go_sem, cr9]) rfl ?_
    unfold L11A
    exact ⟨_, _, _, _, _, rfl, P1.low (by omega), P2.low (by omega), HL.out, T9⟩
  by_cases h2 : x = 2
  · subst h2
    go_wp2_with fail
    refine (l1BelowS cb 5 _ T4.1 (by omega) (by omega)).mono ?_
    rintro e w5 ⟨y, rfl, ⟨y0, y1⟩, t5⟩
    obtain ⟨k, rfl⟩ := Int.eq_ofNat_of_zero_le y0
    have D5 := D4.trn t5 (by omega)
    have R5 := R4.trn t5 (by omega)
    have O15 := O14.trn t5 (by omega)
    have O25 := O24.trn t5 (by omega)
    have T5 := T4.trans t5
    clear D4 R4 O14 O24 T4
    have hz5 := t5.2.size
    go_wp2_with fail
    refine (l5AnyS cb k _ T5.1 (by omega)).mono ?_
    rintro e w6 ⟨rv, zs, rfl, N6, hsm, t6⟩
    have D6 := D5.trn t6 (by omega)
    have R6 := R5.trn t6 (by omega)
    have O16 := O15.trn t6 (by omega)
    have O26 := O25.trn t6 (by omega)
    have T6 := T5.trans t6
    clear D5 R5 O15 O25 T5 t5
    have hz6 := t6.2.size
    obtain ⟨A3, c3, e3, _, _, _⟩ := N6.reads
    subst e3
    have HL : Hid (co.length ≤ 2000 ∧ zs.length ≤ 2000) := Lib.hid ⟨by omega, by have := hsm.1; omega⟩
    clear hsm t6
    obtain ⟨ce, fe, ze⟩ := D6.facts
    have D7 := D6.set 2 (.slice A3 zs.length c3)
    have R7 := R6.far (p := ⟨gD, 2, none⟩) (by dsimp only; omega) (.slice A3 zs.length c3)
    have T7 := T6.set (p := ⟨gD, 2, none⟩) (.slice A3 zs.length c3) (by dsimp only; omega) (by dsimp only; omega)
    have O17 := O16.setFar2 (p := ⟨gD, 2, none⟩) (fun q h => by have := hbo1 q h; dsimp only; omega) (.slice A3 zs.length c3)
    have O27 := (N6.setFar (p := ⟨gD, 2, none⟩) (by dsimp only; omega) (.slice A3 zs.length c3)).low (base' := w.heap.size + 2) (by omega)
    clear D6 R6 O16 O26 T6
    go_upto_region 12 with fail
    clear ce fe ze
    generalize w6.setCell ⟨gD, 2, none⟩ (.slice A3 zs.length c3) = w7 at *
    obtain ⟨cd, fd, zd⟩ := D7.facts
    obtain ⟨cr, fr, zr⟩ := R7.facts
    have R9 := ((R7.set 0 (.int .i64 a)).set 1 (.slice A1 co.length c1)).set 2 (.slice A3 zs.length c3)
    have P1 := ((O17.setFar (p := ⟨w.heap.size + 1, 0, none⟩) (by dsimp only; omega) (.int .i64 a)).setFar (p := ⟨w.heap.size + 1, 1, none⟩) (by dsimp only; omega) (.slice A1 co.length c1)).setFar (p := ⟨w.heap.size + 1, 2, none⟩) (by dsimp only; omega) (.slice A3 zs.length c3)
    have P2 := ((O27.setFar (p := ⟨w.heap.size + 1, 0, none⟩) (by dsimp only; omega) (.int .i64 a)).setFar (p := ⟨w.heap.size + 1, 1, none⟩) (by dsimp only; omega) (.slice A1 co.length c1)).setFar (p := ⟨w.heap.size + 1, 2, none⟩) (by dsimp only; omega) (.slice A3 zs.length c3)
    have T9 := ((T7.set (p := ⟨w.heap.size + 1, 0, none⟩) (.int .i64 a) (by dsimp only; omega) (by dsimp only; omega)).set (p := ⟨w.heap.size + 1, 1, none⟩) (.slice A1 co.length c1) (by dsimp only; omega) (by dsimp only; omega)).set (p := ⟨w.heap.size + 1, 2, none⟩) (.slice A3 zs.length c3) (by dsimp only; omega) (by dsimp only; omega)
    go_wp2
    have cr9 := R9.facts.1
    clear cr fr cd fd
    refine bodyPost_ret (v := .agg #[.int .i64 a, .slice A1 co.length c1, .slice A3 zs.length c3]) (by simp [results, Try.results82, go_sem, cr9]) rfl ?_
    unfold L11A
    exact ⟨_, _, _, _, _, rfl, P1.low (by omega), P2.low (by omega), HL.out, T9⟩
  have e0 : (x == 0) = false := beq_eq_false_iff_ne.2 h0
  have e1 : (x == 1) = false := beq_eq_false_iff_ne.2 h1
  have e2 : (x == 2) = false := beq_eq_false_iff_ne.2 h2
  by_cases h3 : x = 3
  · subst h3
    obtain ⟨g, rfl⟩ : ∃ g, A2 = some ⟨g, 0, none⟩ := by
      obtain ⟨hl, ⟨e, h9⟩ | ⟨g, cap, cur, e, _⟩⟩ := id O24
      · injection e with e1 e2 e3
        omega
      · injection e with e1 e2 e3
        exact ⟨g, e1⟩
    obtain ⟨gg, rfl⟩ : ∃ gg, A1 = some ⟨gg, 0, none⟩ := by
      obtain ⟨hl, ⟨e, h9⟩ | ⟨g, cap, cur, e, _⟩⟩ := id O14
      · injection e with e1 e2 e3
        omega
      · injection e with e1 e2 e3
        exact ⟨g, e1⟩
    obtain ⟨y, hy⟩ : ∃ y, pl[0]? = some y := ⟨pl[0]'hp, List.getElem?_eq_getElem hp⟩
    have hyb := HRW.out.2 y (List.mem_of_getElem? hy)
    have cy : w4.cell? ⟨g, 0, none⟩ = some (.int .i64 y) := by
      obtain ⟨B, d, e, _, _, h9⟩ := O24.reads
      injection e with e1 e2 e3
      obtain ⟨b, off, hB, _, hcc⟩ := h9 hp
      rw [← e1] at hB
      injection hB with hB
      injection hB with hB1 hB2
      subst hB1 hB2
      exact hcc 0 y hy
    have hfy : w4.frozen? ⟨g, 0, none⟩ = false := by
      obtain ⟨hl, ⟨e, h9⟩ | ⟨g2, cap, cur, e, _, hh, _⟩⟩ := id O24
      · cases e
      · injection e with e1 e2 e3
        injection e1 with e1
        injection e1 with e1 e5
        subst e1
        exact (Blk.facts hh).2.1 0
    have hgb := (O24.block g rfl).1
    have hgd := hbo2 g rfl
    have i1 : (0 : Int) < (pl.length : Int) := by omega
    have hwr : IntKind.i64.wrap (y + 1) = y + 1 := IntWalk.i64_in _ (by omega)
    have htm : (y + 1).tmod 1019 = (y + 1) % 1019 := Int.tmod_eq_emod_of_nonneg (by omega)
    have P25 := O24.store hp ((y + 1) % 1019)
    obtain ⟨xs', hx', P15⟩ : ∃ xs', xs'.length = co.length ∧ OI (w4.setCell ⟨g, 0, none⟩ (.int .i64 ((y + 1) % 1019))) (w.heap.size + 1 + 1) (.slice (some ⟨gg, 0, none⟩) co.length c1) xs' := by
      by_cases hA : gg = g
      · subst hA
        exact ⟨co.set 0 ((y + 1) % 1019), by simp, O14.store hp1 _⟩
      · exact ⟨co, rfl, O14.setFar2 (p := ⟨g, 0, none⟩) (fun q h e => hA (by have h2 : some gg = some q := h; injection h2 with h2; exact h2.trans e)) _⟩
    have HL : Hid (xs'.length ≤ 2000 ∧ (pl.set 0 ((y + 1) % 1019)).length ≤ 2000) := Lib.hid (by rw [List.length_set]; omega)
    have D5 := (D4.far (p := ⟨g, 0, none⟩) (by dsimp only; omega) (.int .i64 ((y + 1) % 1019))).drew
    have R5 := (R4.far (p := ⟨g, 0, none⟩) (by dsimp only; omega) (.int .i64 ((y + 1) % 1019))).drew
    have T5 := (T4.set (p := ⟨g, 0, none⟩) (.int .i64 ((y + 1) % 1019)) (by dsimp only; omega) (by dsimp only; omega)).then (Bel.refl _).drew
    have O15 := P15.keep (Bel.refl _).drew
    have O25 := P25.keep (Bel.refl _).drew
    obtain ⟨ce, fe, ze⟩ := D4.facts
    clear hy R4 T4 O14 O24 P15 P25
    go_upto_region 11 with fail
    go_region
    clear ce fe ze D4 cy hfy
    generalize (w4.setCell ⟨g, 0, none⟩ (.int .i64 ((y + 1) % 1019))).drew = w5 at *
    obtain ⟨cd, fd, zd⟩ := D5.facts
    obtain ⟨cr, fr, zr⟩ := R5.facts
    have R9 := ((R5.set 0 (.int .i64 a)).set 1 (.slice (some ⟨gg, 0, none⟩) co.length c1)).set 2 (.slice (some ⟨g, 0, none⟩) pl.length c2)
    have P1 := ((O15.setFar (p := ⟨w.heap.size + 1, 0, none⟩) (by dsimp only; omega) (.int .i64 a)).setFar (p := ⟨w.heap.size + 1, 1, none⟩) (by dsimp only; omega) (.slice (some ⟨gg, 0, none⟩) co.length c1)).setFar (p := ⟨w.heap.size + 1, 2, none⟩) (by dsimp only; omega) (.slice (some ⟨g, 0, none⟩) pl.length c2)
    have P2 := ((O25.setFar (p := ⟨w.heap.size + 1, 0, none⟩) (by dsimp only; omega) (.int .i64 a)).setFar (p := ⟨w.heap.size + 1, 1, none⟩) (by dsimp only; omega) (.slice (some ⟨gg, 0, none⟩) co.length c1)).setFar (p := ⟨w.heap.size + 1, 2, none⟩) (by dsimp only; omega) (.slice (some ⟨g, 0, none⟩) pl.length c2)
    have T9 := ((T5.set (p := ⟨w.heap.size + 1, 0, none⟩) (.int .i64 a) (by dsimp only; omega) (by dsimp only; omega)).set (p := ⟨w.heap.size + 1, 1, none⟩) (.slice (some ⟨gg, 0, none⟩) co.length c1) (by dsimp only; omega) (by dsimp only; omega)).set (p := ⟨w.heap.size + 1, 2, none⟩) (.slice (some ⟨g, 0, none⟩) pl.length c2) (by dsimp only; omega) (by dsimp only; omega)
    go_wp2
    have cr9 := R9.facts.1
    clear cr fr cd fd
    refine bodyPost_ret (v := .agg #[.int .i64 a, .slice (some ⟨gg, 0, none⟩) co.length c1, .slice (some ⟨g, 0, none⟩) pl.length c2]) (by simp [results, Try.results82, go_sem, cr9]) rfl ?_
    unfold L11A
    exact ⟨_, _, _, _, _, rfl, P1.low (by omega), P2.low (by omega), HL.out, T9⟩
  · have e3 : (x == 3) = false := beq_eq_false_iff_ne.2 h3
    have HL : Hid (co.length ≤ 2000 ∧ pl.length ≤ 2000) := Lib.hid (by omega)
    obtain ⟨cd, fd, zd⟩ := D4.facts
    obtain ⟨cr, fr, zr⟩ := R4.facts
    have R9 := ((R4.set 0 (.int .i64 a)).set 1 (.slice A1 co.length c1)).set 2 (.slice A2 pl.length c2)
    have P1 := ((O14.setFar (p := ⟨w.heap.size + 1, 0, none⟩) (by dsimp only; omega) (.int .i64 a)).setFar (p := ⟨w.heap.size + 1, 1, none⟩) (by dsimp only; omega) (.slice A1 co.length c1)).setFar (p := ⟨w.heap.size + 1, 2, none⟩) (by dsimp only; omega) (.slice A2 pl.length c2)
    have P2 := ((O24.setFar (p := ⟨w.heap.size + 1, 0, none⟩) (by dsimp only; omega) (.int .i64 a)).setFar (p := ⟨w.heap.size + 1, 1, none⟩) (by dsimp only; omega) (.slice A1 co.length c1)).setFar (p := ⟨w.heap.size + 1, 2, none⟩) (by dsimp only; omega) (.slice A2 pl.length c2)
    have T9 := ((T4.set (p := ⟨w.heap.size + 1, 0, none⟩) (.int .i64 a) (by dsimp only; omega) (by dsimp only; omega)).set (p := ⟨w.heap.size + 1, 1, none⟩) (.slice A1 co.length c1) (by dsimp only; omega) (by dsimp only; omega)).set (p := ⟨w.heap.size + 1, 2, none⟩) (.slice A2 pl.length c2) (by dsimp only; omega) (by dsimp only; omega)
    go_wp2
    have cr9 := R9.facts.1
    clear cr fr cd fd
    refine bodyPost_ret (v := .agg #[.int .i64 a, .slice A1 co.length c1, .slice A2 pl.length c2]) (by simp [results, Try.results82, go_sem, cr9]) rfl ?_
    unfold L11A
    exact ⟨_, _, _, _, _, rfl, P1.low (by omega), P2.low (by omega), HL.out, T9⟩
end Go.Proofs.Ytjaagabbbnokdaa

namespace Go.Proofs.Ytjaagabbbnokdaa
open Go.ChangeShapes Go.WideShapes Go.ChangeAt Go.RowKit Go.Joins Go.Deep
set_option linter.unusedVariables false
set_option linter.unusedSimpArgs false
set_option maxRecDepth 100000

theorem SmP.snoc {ps : List Pk} {p : Pk} (h : SmP ps) (h1 : p.2.1.length ≤ 1048576) (h2 : p.2.2.length ≤ 1048576) : SmP (ps ++ [p]) := fun q hq => by
  rcases List.mem_append.1 hq with h3 | h3
  · exact h q h3
  · rw [List.mem_singleton.1 h3]; exact ⟨h1, h2⟩
def DcpP (w : World) (e : Ending) (w' : World) : Prop := ∃ l ps u cs, e = .returned (.tuple #[l, u]) ∧ RP w' l ps ∧ RI w' u cs ∧ SmP ps ∧ ps.length ≤ 10 ∧ Bel w w'
set_option maxHeartbeats 8000000 in
theorem drawCpS (v : Value) (n : Nat) (w : World) (hv : RB w v n) (hn : n ≤ 1048576) :
    Calls Try.prog 32 #[v] w (DcpP w) := by
  obtain ⟨A0, c0, rfl, _, _, _⟩ := id hv
  go_enter Try.func32, Try.ntmps32
  go_wp2_with fail
  refine (l1NewS _ n _ hv hn).mono ?_
  rintro e w1 ⟨cb, rfl, hcb, C1, hb1⟩
  go_wp2_with fail
  refine (l10GenS cb _ C1).mono ?_
  rintro e w2 ⟨a, gv, m, rfl, M2, hg, t2⟩
  have Y2 := hb1.mid t2.2 (by omega)
  have hl1 := C1.lt
  have hz2 := t2.2.size
  obtain ⟨A, c, eg, _, _⟩ := M2.shape
  subst eg
  have B3 := (Bel.refl w2).alloc (.cells #[.int .i64 a, .slice A m.length c] 41)
  have K3 := Blk.new w2 41 #[.int .i64 a, .slice A m.length c]
  have M3 := M2.keep B3
  have C3 := t2.1.keep B3
  have Y3 := Y2.trans B3
  have HG := Lib.hid hg
  have HLC : Hid (m.length ≤ 8 ∧ colN m ≤ 16) := Lib.hid (by obtain ⟨_, g2, g3, _⟩ := gnrB_facts hg; omega)
  have HMT : Hid (Mtx (colN m) m) := Lib.hid (gnrB_facts hg).2.2.2.1
  clear hg M2 hb1 C1 t2 Y2 B3
  go_upto_region 3 with fail
  generalize (w2.alloc (.cells #[.int .i64 a, .slice A m.length c] 41)) = w3 at *
  have hgB : w1.heap.size ≤ w2.heap.size := hz2
  generalize w2.heap.size = gB at *
  generalize w1.heap.size = loM at *
  have hk3 : gB < w3.heap.size := K3.lt
  have O0 := MP.empty w3
  have T0 : Trn cb w3 (w3.alloc (.cells #[] 63)) := Trn.of C3 ((Bel.refl w3).alloc _)
  have hlo3 : w3.heap.size ≤ w3.heap.size := Nat.le_refl _
  have hcl : cb < w3.heap.size := by omega
  go_wp2_with fail
  refine (l1BelowS cb 4 _ T0.1 (by omega) (by omega)).mono ?_
  rintro e w4 ⟨y, rfl, ⟨y0, y1⟩, t4⟩
  obtain ⟨k, rfl⟩ := Int.eq_ofNat_of_zero_le y0
  have O4 := O0.mid t4.2 (by omega)
  have T4 := T0.trans t4
  clear O0 T0 t4
  go_wp2
  go_loopg [6, 8] k (fun f s i wr => ∃ (ps : List Pk) (j : Nat), j + f = k ∧ i = .int .i64 (j : Int) ∧ MP wr w3.heap.size s ps ∧ Hid (SmP ps ∧ ps.length ≤ j) ∧ Trn cb w3 wr)
  case atStart => exact ⟨[], 0, by omega, rfl, O4, Lib.hid ⟨fun p hp => by simp at hp, by simp⟩, T4⟩
  case round =>
    clear O4 T4
    obtain ⟨ps, j, hj, rfl, O, HP, T⟩ := hrel
    have HJ := Lib.hid hj
    have hj3 : j ≤ k := by omega
    clear hj
    have K := K3.trn T (by omega)
    have hzr : w3.heap.size ≤ wr.heap.size := by have := T.2.size; omega
    have hp3 : ps.length ≤ 3 := by have := HP.out.2; omega
    have hbo : ∀ q, u6.ownBlock = some q → q < wr.heap.size := fun q h => (O.block q h).2
    obtain ⟨A6, c6, e6, _, _⟩ := O.shape
    obtain ⟨ck, fk, zk⟩ := K.facts
    by_cases hlt : j < k
    · have i1 : (j : Int) < (k : Int) := by omega
      subst e6
      go_wp2_with fail
      refine (l11PC cb loM a _ m _ T.1 (M3.mid T.2 (by omega)) hl1 HG.out).mono ?_
      rintro e w5 ⟨r1, r2, co, pl, rfl, Q1, Q2, hq, t5⟩
      clear ck fk zk K
      have hl8 : co.length ≤ 8 := by have := HLC.out; omega
      have hl16 : pl.length ≤ 16 := by have := HLC.out; rw [hq.2.2, (lcZ_row HMT.out).1]; omega
      have HP2 := Lib.hid (HP.out.1.snoc (p := (a, co, pl)) (by dsimp only; omega) (by dsimp only; omega))
      clear hq
      obtain ⟨A1, c1, e1, _, _, _⟩ := Q1.reads
      obtain ⟨A2, c2, e2, _, _, _⟩ := Q2.reads
      subst e1 e2
      have O5 := O.mid t5.2 (by omega)
      have T5 := T.trans t5
      have hz5 := t5.2.size
      clear O T t5
      have B9 := (Bel.refl w5).alloc (.cells #[.int .i64 a, .slice A1 co.length c1, .slice A2 pl.length c2] 63)
      have F9 := Blk.new w5 63 #[.int .i64 a, .slice A1 co.length c1, .slice A2 pl.length c2]
      have OB9 := O5.keep B9
      have X19 := (Q1.keep B9).rxn (lo := w3.heap.size) (v := .slice A6 ps.length c6) (by omega) (fun q e => by have := hbo q e; omega)
      have X29 := (Q2.keep B9).rxn (lo := w3.heap.size) (v := .slice A6 ps.length c6) (by omega) (fun q e => by have := hbo q e; omega)
      go_wp2_with (at_builtin; refine wpList_appP _ rfl _ _ rfl w3.heap.size _ _ ps (a, co, pl) _ _ rfl rfl OB9 rfl (F9.facts.1 0) (F9.facts.1 1) (F9.facts.1 2) X19 X29 (by omega) (by (try simp only [World.size_alloc]); omega) ?_)
      intro v9 w9 O9 hG9 ho9
      have T9 : Trn cb w3 w9 := (T5.then B9).row hG9 (fun q hq => (OB9.block q hq).1) hlo3 hcl
      clear hG9 ho9 OB9 X19 X29 F9 B9
      have HL2 : Hid (SmP (ps ++ [(a, co, pl)]) ∧ (ps ++ [(a, co, pl)]).length ≤ j + 1) := Lib.hid ⟨HP2.out, by have := HP.out.2; simp; omega⟩
      go_wp2
      go_roundg (k - (j + 1))
      case measure => have := HJ.out; omega
      case rel => exact ⟨_, j + 1, by omega, by go_num, O9, HL2, T9⟩
    · obtain rfl : j = k := by omega
      have i1 : ¬ (j : Int) < (j : Int) := by omega
      subst e6
      go_wp2_with fail
      refine (l1OnceS cb 4 _ T.1 (by omega) (by omega)).mono ?_
      rintro e w5 ⟨x, rfl, t5⟩
      have O5 := O.mid t5.2 (by omega)
      have T5 := T.trans t5
      have K5 := K.trn t5 (by omega)
      have hz5 := t5.2.size
      clear O T K t5 ck fk zk
      cases x with
      | true =>
        obtain ⟨ck, fk, zk⟩ := K5.facts
        go_wp2_with fail
        refine (l11AnyS cb loM a _ m _ T5.1 (M3.mid T5.2 (by omega)) hl1 HG.out).mono ?_
        rintro e w6 ⟨x6, r1, r2, co, pl, rfl, Q1, Q2, hq, t6⟩
        clear ck fk zk K5
        obtain ⟨A1, c1, e1, _, _, _⟩ := Q1.reads
        obtain ⟨A2, c2, e2, _, _, _⟩ := Q2.reads
        subst e1 e2
        have O6 := O5.mid t6.2 (by omega)
        have T6 := T5.trans t6
        have hz6 := t6.2.size
        have HP2 : Hid (SmP (ps ++ [(x6, co, pl)]) ∧ (ps ++ [(x6, co, pl)]).length ≤ 4) := Lib.hid ⟨HP.out.1.snoc (p := (x6, co, pl)) (by dsimp only; omega) (by dsimp only; omega), by have := HP.out.2; simp; omega⟩
        clear O5 T5 t6
        have B9 := (Bel.refl w6).alloc (.cells #[.int .i64 x6, .slice A1 co.length c1, .slice A2 pl.length c2] 63)
        have F9 := Blk.new w6 63 #[.int .i64 x6, .slice A1 co.length c1, .slice A2 pl.length c2]
        have OB9 := O6.keep B9
        have X19 := (Q1.keep B9).rxn (lo := w3.heap.size) (v := .slice A6 ps.length c6) (by omega) (fun q e => by have := hbo q e; omega)
        have X29 := (Q2.keep B9).rxn (lo := w3.heap.size) (v := .slice A6 ps.length c6) (by omega) (fun q e => by have := hbo q e; omega)
        go_wp2_with (at_builtin; refine wpList_appP _ rfl _ _ rfl w3.heap.size _ _ ps (x6, co, pl) _ _ rfl rfl OB9 rfl (F9.facts.1 0) (F9.facts.1 1) (F9.facts.1 2) X19 X29 (by omega) (by (try simp only [World.size_alloc]); omega) ?_)
        intro v9 w9 O9 hG9 ho9
        have T9 : Trn cb w3 w9 := (T6.then B9).row hG9 (fun q hq => (OB9.block q hq).1) hlo3 hcl
        clear hG9 ho9 OB9 X19 X29 F9 B9
        go_wp2_with fail
        refine (l1OnceS cb 8 _ T9.1 (by omega) (by omega)).mono ?_
        rintro e wx ⟨x8, rfl, tx⟩
        have Ox := O9.mid tx.2 (by omega)
        have Tx := T9.trans tx
        clear O9 T9 tx
        cases x8 with
        | true =>
          go_wp2_with fail
          refine (l5AnyS cb j _ Tx.1 (by omega)).mono ?_
          rintro e wy ⟨rv, zs, rfl, Nz, hsm, ty⟩
          have Oy := Ox.mid ty.2 (by omega)
          have Yy := Y3.mid (Tx.trans ty).2 (by omega)
          go_wp2
          refine bodyPost_ret (v := .tuple #[v9, rv]) (by simp [results, Try.results32, go_sem]) rfl ?_
          unfold DcpP
          exact ⟨_, ps ++ [(x6, co, pl)], _, zs, rfl, Oy.reads, Nz.reads, HP2.out.1, by have := HP2.out.2; omega, Yy⟩
        | false =>
          obtain ⟨Ax, cx, ex, _, _⟩ := Ox.shape
          have hpl : (ps ++ [(x6, co, pl)]).length ≤ 10 := by have := HP2.out.2; omega
          obtain ⟨PL, hPL⟩ : ∃ PL, PL = (ps ++ [(x6, co, pl)]).length := ⟨_, rfl⟩
          rw [← hPL] at ex hpl
          subst ex
          have HPL := Lib.hid hPL
          clear hPL
          go_wp2_with fail
          refine (l5VectorS cb PL _ Tx.1 (by omega)).mono ?_
          rintro e wy ⟨rv, zs, rfl, Nz, hsm, ty⟩
          have Oy := Ox.mid ty.2 (by omega)
          have Yy := Y3.mid (Tx.trans ty).2 (by omega)
          go_wp2
          refine bodyPost_ret (v := .tuple #[.slice Ax PL cx, rv]) (by simp [results, Try.results32, go_sem]) rfl ?_
          unfold DcpP
          exact ⟨_, ps ++ [(x6, co, pl)], _, zs, rfl, Oy.reads, Nz.reads, HP2.out.1, by have := HP2.out.2; omega, Yy⟩
      | false =>
        have HP2 : Hid (SmP ps ∧ ps.length ≤ 4) := Lib.hid ⟨HP.out.1, by omega⟩
        go_wp2_with fail
        refine (l1OnceS cb 8 _ T5.1 (by omega) (by omega)).mono ?_
        rintro e wx ⟨x8, rfl, tx⟩
        have Ox := O5.mid tx.2 (by omega)
        have Tx := T5.trans tx
        clear O5 T5 tx
        cases x8 with
        | true =>
          go_wp2_with fail
          refine (l5AnyS cb j _ Tx.1 (by omega)).mono ?_
          rintro e wy ⟨rv, zs, rfl, Nz, hsm, ty⟩
          have Oy := Ox.mid ty.2 (by omega)
          have Yy := Y3.mid (Tx.trans ty).2 (by omega)
          go_wp2
          refine bodyPost_ret (v := .tuple #[.slice A6 ps.length c6, rv]) (by simp [results, Try.results32, go_sem]) rfl ?_
          unfold DcpP
          exact ⟨_, ps, _, zs, rfl, Oy.reads, Nz.reads, HP2.out.1, by have := HP2.out.2; omega, Yy⟩
        | false =>
          have hpl : (ps).length ≤ 10 := by have := HP2.out.2; omega
          go_wp2_with fail
          refine (l5VectorS cb ps.length _ Tx.1 (by omega)).mono ?_
          rintro e wy ⟨rv, zs, rfl, Nz, hsm, ty⟩
          have Oy := Ox.mid ty.2 (by omega)
          have Yy := Y3.mid (Tx.trans ty).2 (by omega)
          go_wp2
          refine bodyPost_ret (v := .tuple #[.slice A6 ps.length c6, rv]) (by simp [results, Try.results32, go_sem]) rfl ?_
          unfold DcpP
          exact ⟨_, ps, _, zs, rfl, Oy.reads, Nz.reads, HP2.out.1, by have := HP2.out.2; omega, Yy⟩
end Go.Proofs.Ytjaagabbbnokdaa
