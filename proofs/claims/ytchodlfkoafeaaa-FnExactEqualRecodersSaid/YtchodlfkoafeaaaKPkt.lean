/-
  The laws' helpers for CodedPacket: contracts of szCodedPacket, toCodedPacket, eqCodedPacket. Condition of toCodedPacket: at most 2^20 elements a slice.
-/
import Derived.Test.YtchodlfkoafeaaaSl3
namespace Go.Proofs.Ytchodlfkoafeaaa
open Go.ChangeShapes Go.WideShapes Go.ChangeAt Go.RowKit
set_option linter.unusedVariables false
set_option maxRecDepth 100000

set_option maxHeartbeats 400000 in
theorem szPkt_ok (a : Int) (v u : Value) (xv : List Int) (xu : List Int) (l : Int) (w : World) (hv : RI w v xv) (hu : RI w u xu) (h0 : (xv.length : Int) + (xu.length : Int) ≤ l) (h1 : l ≤ 1048576) :
    Calls Try.prog 68 #[.agg #[.int .i64 a, v, u], .int .i64 l] w fun e w' => e = .returned (.int .i64 (l - ((xv.length : Int) + (xu.length : Int)))) ∧ Bel w w' := by
  have hd0 : decide (l - (xv.length : Int) < 0) = false := by simp; omega
  have hd1 : decide (l - (xv.length : Int) - (xu.length : Int) < 0) = false := by simp; omega
  go_enter Try.func68, Try.ntmps68
  go_wp2_with fail
  refine (szI_ok v xv (l) _ (hv.keep ((Bel.refl _).alloc _)) (by omega) (by omega)).mono ?_
  rintro e w1 ⟨rfl, rfl⟩
  go_wp2_with fail
  refine (szI_ok u xu (l - (xv.length : Int)) _ (hu.keep ((Bel.refl _).alloc _)) (by omega) (by omega)).mono ?_
  rintro e w1 ⟨rfl, rfl⟩
  go_wp2
  go_ret
  exact ⟨by simp <;> omega, (Bel.refl _).alloc _⟩
set_option maxHeartbeats 400000 in
theorem szPkt_no (a : Int) (v u : Value) (xv : List Int) (xu : List Int) (l : Int) (w : World) (hv : RI w v xv) (hu : RI w u xu) (h0 : l < (xv.length : Int) + (xu.length : Int)) (h1 : 0 ≤ l) (h2 : l ≤ 1048576) :
    Calls Try.prog 68 #[.agg #[.int .i64 a, v, u], .int .i64 l] w fun e w' => e = .returned (.int .i64 (-1)) ∧ Bel w w' := by
  by_cases q0 : l < (xv.length : Int)
  · go_enter Try.func68, Try.ntmps68
    go_wp2_with fail
    refine (szI_no v xv (l) _ (hv.keep ((Bel.refl _).alloc _)) (by omega) (by omega) (by omega)).mono ?_
    rintro e w1 ⟨rfl, rfl⟩
    go_wp2
    go_ret
    exact ⟨rfl, (Bel.refl _).alloc _⟩
  have hd0 : decide (l - (xv.length : Int) < 0) = false := by simp; omega
  go_enter Try.func68, Try.ntmps68
  go_wp2_with fail
  refine (szI_ok v xv (l) _ (hv.keep ((Bel.refl _).alloc _)) (by omega) (by omega)).mono ?_
  rintro e w1 ⟨rfl, rfl⟩
  go_wp2_with fail
  refine (szI_no u xu (l - (xv.length : Int)) _ (hu.keep ((Bel.refl _).alloc _)) (by omega) (by omega) (by omega)).mono ?_
  rintro e w1 ⟨rfl, rfl⟩
  go_wp2
  go_ret
  exact ⟨rfl, (Bel.refl _).alloc _⟩
set_option maxHeartbeats 1000000 in
theorem toPkt (a : Int) (v u : Value) (xv : List Int) (xu : List Int) (w : World) (hv : RI w v xv) (hu : RI w u xu) (nv : xv.length ≤ 1048576) (nu : xu.length ≤ 1048576) :
    Calls Try.prog 70 #[.agg #[.int .i64 a, v, u]] w fun e w' => ∃ rv ru, e = .returned (.agg #[.int .i64 a, rv, ru]) ∧ OI w' w.heap.size rv xv ∧ OI w' w.heap.size ru xu ∧ (∀ q, ru.ownBlock = some q → rv.ownBlock ≠ some q) ∧ Bel w w' := by
  go_enter Try.func70, Try.ntmps70
  go_wp2_with fail
  refine (toInts v xv _ (hv.keep ((((Bel.refl _).alloc _).alloc _).alloc _)) nv).mono ?_
  rintro e w1 ⟨rv, rfl, Ov, hb1⟩
  replace Ov := Ov.low (show w.heap.size + 3 ≤ _ by simp)
  have X1 := hb1.keep (((Blk.new w _ _).alloc _).alloc _)
  have R1 := hb1.keep ((Blk.new2 w _ _ _).alloc _)
  have Q1 := hb1.keep (Blk.new3 w _ _ _ _)
  have Y1 : Bel w w1 := ((((Bel.refl _).alloc _).alloc _).alloc _).trans hb1
  have s1 := Y1.size
  have OBK : ∀ q, rv.ownBlock = some q → q < w1.heap.size := fun q hq => (Ov.block q hq).2
  obtain ⟨Av, cv, ev, _, _, _⟩ := Ov.reads
  subst ev
  obtain ⟨cx, fx, zx⟩ := X1.facts
  obtain ⟨cr, fr, zr⟩ := R1.facts
  obtain ⟨cq, fq, zq⟩ := Q1.facts
  go_wp2_with fail
  refine (toInts u xu _ (hu.keep (Y1.setCell (p := ⟨w.heap.size + 2, 1, none⟩) (by simp) _)) nu).mono ?_
  rintro e w2 ⟨ru, rfl, Ou, hb2⟩
  have X2 := hb2.keep (X1.far (p := ⟨w.heap.size + 2, 1, none⟩) (by simp) _)
  have R2 := hb2.keep (R1.far (p := ⟨w.heap.size + 2, 1, none⟩) (by simp) _)
  have Q2 := hb2.keep (Q1.set 1 _)
  have Y2 : Bel w w2 := (Y1.setCell (p := ⟨w.heap.size + 2, 1, none⟩) (by simp) _).trans hb2
  replace Ov := (Ov.setFar (p := ⟨w.heap.size + 2, 1, none⟩) (by simp) _).keep hb2
  have dz : ∀ q, ru.ownBlock = some q → w1.heap.size ≤ q := fun q hq => by have := (Ou.block q hq).1; simpa [World.setCell] using this
  have HDZ : Hid (∀ q, ru.ownBlock = some q → (Value.slice Av xv.length cv).ownBlock ≠ some q) := fun q hq he => by have h1 := dz q hq; have h2 := OBK q he; omega
  clear dz
  replace Ou := Ou.low (show w.heap.size + 3 ≤ _ by have := hb1.size; simp at this; simp [World.setCell]; omega)
  obtain ⟨Au, cu, eu, _, _, _⟩ := Ou.reads
  subst eu
  clear cx fx zx cr fr zr cq fq zq
  obtain ⟨cx, fx, zx⟩ := X2.facts
  obtain ⟨cr, fr, zr⟩ := R2.facts
  obtain ⟨cq, fq, zq⟩ := Q2.facts
  simp at cq
  go_wp2
  refine bodyPost_ret (v := .agg #[.int .i64 a, .slice Av xv.length cv, .slice Au xu.length cu]) (by simp [results, Try.results70, go_sem, cr]) rfl ⟨_, _, rfl, ?_, ?_, HDZ.out, ?_⟩
  · refine OI.low (base := w.heap.size + 3) ?_ (by omega)
    repeat (first | (with_reducible exact Ov) | (refine OI.setFar ?_ (by dsimp only; omega) _))
  · refine OI.low (base := w.heap.size + 3) ?_ (by omega)
    repeat (first | (with_reducible exact Ou) | (refine OI.setFar ?_ (by dsimp only; omega) _))
  · repeat (first | (with_reducible exact Y2) | (refine Bel.setCell ?_ (by dsimp only; omega) _))
set_option maxHeartbeats 1000000 in
theorem eqPkt_same (a : Int) (v u : Value) (xv : List Int) (xu : List Int) (yv yu : Value) (w : World) (hv : RI w v xv) (hu : RI w u xu) (gv : RI w yv xv) (gu : RI w yu xu) :
    Calls Try.prog 72 #[.agg #[.int .i64 a, v, u], .agg #[.int .i64 a, yv, yu]] w fun e w' => e = .returned (.bool true) ∧ Bel w w' := by
  go_enter Try.func72, Try.ntmps72
  go_wp2_with fail
  refine (eqInts_same v yv xv _ (hv.keep (((Bel.refl _).alloc _).alloc _)) (gv.keep (((Bel.refl _).alloc _).alloc _))).mono ?_
  rintro e w1 ⟨rfl, hb1⟩
  have Y1 : Bel w w1 := (((Bel.refl _).alloc _).alloc _).trans hb1
  have B1 := hb1.keep ((Blk.new w _ _).alloc _)
  have D1 := hb1.keep (Blk.new2 w _ _ _)
  obtain ⟨c1, _, _⟩ := B1.facts
  obtain ⟨c2, _, _⟩ := D1.facts
  go_wp2_with fail
  refine (eqInts_same u yu xu _ (hu.keep Y1) (gu.keep Y1)).mono ?_
  rintro e w2 ⟨rfl, hb2⟩
  have Y2 : Bel w w2 := Y1.trans hb2
  have B2 := hb2.keep B1
  have D2 := hb2.keep D1
  clear c1 c2
  obtain ⟨c1, _, _⟩ := B2.facts
  obtain ⟨c2, _, _⟩ := D2.facts
  go_wp2
  go_ret
  exact ⟨rfl, Y2⟩
end Go.Proofs.Ytchodlfkoafeaaa
