/-
  CodePacket and SourcePacket of the reference: contracts. No condition; SourcePacket: an index of a valid generation.
  Draws of packets: l11Packet: a contract for a valid generation: the packet is consistent.
  RandomNumber and RandomVector: contracts of the program's functions and of the reference's. Condition: a limit from 1 to 10^12.
  NewHashKey: contracts of the program's function and of the reference's. No condition.
  Plain words for discrete logarithms: every element of the group is a power of 4, and so of every element but 1. No condition.
  logarithm of the program, l18Log of the reference, AddField and SubField of both: contracts. Conditions: elements; group elements, the base not 1.
-/
import Derived.Test.YtjaagabbbnokdaaPC
import Derived.Test.YtjaagabbbnokdaaPE
import Derived.Test.YtjaagabbbnokdaaVx
import Derived.Deep.RegionHeld3
import Derived.Test.YtjaagabbbnokdaaPG
import Derived.Test.YtjaagabbbnokdaaPD
import Derived.Test.YtjaagabbbnokdaaMx1
import Derived.Deep.RegionLaw
import Derived.Test.YtjaagabbbnokdaaPB
import Derived.Test.YtjaagabbbnokdaaMani2
import Derived.Test.YtjaagabbbnokdaaApp
import Derived.Test.YtjaagabbbnokdaaMl
import Derived.Test.YtjaagabbbnokdaaSl3
namespace Go.Proofs.Ytjaagabbbnokdaa
open Go.ChangeShapes Go.WideShapes Go.ChangeAt Go.RowKit
set_option linter.unusedVariables false
set_option maxRecDepth 100000

def cpB (a : Int) (m : List (List Int)) (cs : List Int) : Bool := gnrB a m && vecB cs && !((cs.length : Int) != (m.length : Int))
theorem cpB_facts {a : Int} {m : List (List Int)} {cs : List Int} (h : cpB a m cs = true) : gnrB a m = true ∧ vecB cs = true ∧ cs.length = m.length := by
  unfold cpB at h
  rw [Bool.and_eq_true, Bool.and_eq_true] at h
  obtain ⟨⟨h1, h2⟩, h3⟩ := h
  refine ⟨h1, h2, ?_⟩
  simp at h3
  omega
theorem cpB_com {a : Int} {m : List (List Int)} {cs : List Int} (h : cpB a m cs = true) : comB m cs = true := by
  obtain ⟨h1, h2, h3⟩ := cpB_facts h
  obtain ⟨_, g1, g2, g3, _⟩ := gnrB_facts h1
  exact (comB_yes (by omega) h3.symm h2 g3 (by omega)).1
set_option maxHeartbeats 2000000 in
theorem cpS (a : Int) (v u : Value) (m : List (List Int)) (cs : List Int) (w : World) (hv : RII w v m) (hu : RI w u cs) (h : cpB a m cs = true) :
    Calls Try.prog 89 #[.agg #[.int .i64 a, v], u] w fun e w' => ∃ r1 r2, e = .returned (.tuple #[.agg #[.int .i64 a, r1, r2], .bool true]) ∧ OI w' w.heap.size r1 cs ∧ OI w' w.heap.size r2 (lcZ m cs) ∧ Bel w w' := by
  have HCB := Lib.hid (cpB_com h)
  obtain ⟨f1, f2, f3⟩ := cpB_facts h
  obtain ⟨_, fl, fc, _, _⟩ := gnrB_facts f1
  have hcl := (vecB_facts f2).2
  have HCZ := Lib.hid (comZ_yes (cpB_com h))
  obtain ⟨A, cp, rfl, h2, h3, hA⟩ := id hv
  obtain ⟨B, cp2, rfl, _, _, _⟩ := id hu
  have q3 : ((cs.length : Int) != (m.length : Int)) = false := by rw [f3]; simp
  have X := (Blk.new w 41 #[.int .i64 a, .slice A m.length cp]).alloc (.cells #[.int .i64 0, .slice none 0 0, .slice none 0 0] 63)
  have R := Blk.new2 w (.cells #[.int .i64 a, .slice A m.length cp] 41) 63 #[.int .i64 0, .slice none 0 0, .slice none 0 0]
  have Y : Bel w ((w.alloc (.cells #[.int .i64 a, .slice A m.length cp] 41)).alloc (.cells #[.int .i64 0, .slice none 0 0, .slice none 0 0] 63)) := ((Bel.refl _).alloc _).alloc _
  have HF1 := Lib.hid f1
  have HF2 := Lib.hid f2
  clear f1 f2 f3 h
  obtain ⟨cx, _, zx⟩ := X.facts
  go_enter Try.func89, Try.ntmps89
  go_wp2_with fail
  refine (gnrS a _ m _ (hv.keep Y)).mono ?_
  rintro e w1 ⟨rfl, hb1⟩
  rw [HF1.out]
  have X1 := hb1.keep X
  have R1 := hb1.keep R
  have Y1 := Y.trans hb1
  clear cx zx X R Y hb1
  obtain ⟨cx, _, zx⟩ := X1.facts
  go_wp2_with fail
  refine (vecS _ cs _ (hu.keep Y1)).mono ?_
  rintro e w2 ⟨rfl, rfl⟩
  rw [HF2.out]
  go_wp2
  have rx0 : w1.cell? ⟨w.heap.size, 0, none⟩ = some (.int .i64 a) := cx 0
  have rx1 : w1.cell? ⟨w.heap.size, 1, none⟩ = some (.slice A m.length cp) := cx 1
  clear cx
  have Yd := (Bel.refl w1).drew
  have O0 := OI.empty w1
  have RU := Lib.hid (hu.keep Y1)
  have HV := Lib.hid (hv.keep Y1)
  have HFL : Hid (colN m ≤ 1048576) := Lib.hid (by omega)
  have sz1 := R1.lt
  go_region_held3 (fun w' => w'.cell? ⟨w.heap.size, 0, none⟩ = some (.int .i64 a) ∧ w'.cell? ⟨w.heap.size, 1, none⟩ = some (.slice A m.length cp)) (first | exact ⟨YE.cell1 zx rx0, YE.cell1 zx rx1⟩ | exact ⟨YA.cell1 zx rx0, YA.cell1 zx rx1⟩ | go_keep) (first
    | (refine step_appI _ (by rfl) _ _ (by rfl) w1.heap.size _ _ [] cs (by rfl) (by rfl) (by exact O0) (by exact RU.out.keep (Yd.alloc _)) (by simp; omega) (by simp) ?_; intro vA w3 O1 hG1; rw [List.nil_append] at O1; obtain ⟨A1, c1, e1, _, _, _⟩ := O1.reads; subst e1; have YA : Bel w1 w3 := (Yd.alloc _).grown hG1 (fun q hq => (O0.block q hq).1))
    | (go_at_call 86; ((with_reducible refine (comS _ _ m cs _ (by exact HV.out.keep YA) (by exact RU.out.keep YA) HFL.out).mono ?_); rintro e wE ⟨rv, rfl, Oe, hbE⟩; obtain ⟨Ae, ce, ee, _, _, _⟩ := Oe.reads; subst ee; have YE : Bel w1 wE := YA.trans hbE; have RE := YE.keep R1; have cq0 := RE.facts.1 0; have cq1 := RE.facts.1 1; have cq2 := RE.facts.1 2; have fq0 := RE.facts.2.1 0; have fq1 := RE.facts.2.1 1; have fq2 := RE.facts.2.1 2)))
  all_goals (
    have cr := RE.facts.1
    have zr := RE.lt
    have YF := Y1.trans YE
    have hlo : w1.heap.size ≤ w3.heap.size := YA.size
    have O2 := O1.keep hbE
    have Y3 := ((YF.setCell (p := ⟨w.heap.size + 1, 0, none⟩) (by dsimp only; omega) (.int .i64 a)).setCell (p := ⟨w.heap.size + 1, 1, none⟩) (by dsimp only; omega) (.slice A1 cs.length c1)).setCell (p := ⟨w.heap.size + 1, 2, none⟩) (by dsimp only; omega) (.slice Ae (comZ m cs).length ce)
    have O3 := (((O2.low (show w.heap.size + 2 ≤ _ by omega)).setFar (p := ⟨w.heap.size + 1, 0, none⟩) (by dsimp only; omega) (.int .i64 a)).setFar (p := ⟨w.heap.size + 1, 1, none⟩) (by dsimp only; omega) (.slice A1 cs.length c1)).setFar (p := ⟨w.heap.size + 1, 2, none⟩) (by dsimp only; omega) (.slice Ae (comZ m cs).length ce)
    have O4 := (((Oe.low (show w.heap.size + 2 ≤ _ by omega)).setFar (p := ⟨w.heap.size + 1, 0, none⟩) (by dsimp only; omega) (.int .i64 a)).setFar (p := ⟨w.heap.size + 1, 1, none⟩) (by dsimp only; omega) (.slice A1 cs.length c1)).setFar (p := ⟨w.heap.size + 1, 2, none⟩) (by dsimp only; omega) (.slice Ae (comZ m cs).length ce)
    go_wp2
    refine bodyPost_ret (v := .tuple #[.agg #[.int .i64 a, .slice A1 cs.length c1, .slice Ae (comZ m cs).length ce], .bool true]) (by simp [results, Try.results89, go_sem, cr]) rfl ⟨_, _, rfl, O3.low (by omega), by have h9 := O4.low (show w.heap.size ≤ w.heap.size + 2 by omega); rw [HCZ.out] at h9 ⊢; exact h9, Y3⟩)
end Go.Proofs.Ytjaagabbbnokdaa

namespace Go.Proofs.Ytjaagabbbnokdaa
open Go.ChangeShapes Go.WideShapes Go.ChangeAt Go.RowKit Go.Joins Go.Deep
set_option linter.unusedVariables false
set_option maxRecDepth 100000

theorem cpB_of2 {a : Int} {m : List (List Int)} {xs : List Int} (hg : gnrB a m = true) (hl : xs.length = m.length) (hx : In1018 xs) : cpB a m xs = true := by
  obtain ⟨_, h2, _⟩ := gnrB_facts hg
  unfold cpB
  rw [hg, row_vecB (c := xs.length) ⟨rfl, fun x h => by have := hx x h; omega⟩ (by omega)]
  simp [hl]
theorem OI.setFarC {w : World} {base : Nat} {v : Value} {xs : List Int} (h : OI w base v xs) {p : Addr} (hp : p.block < base) (u : Value) : OI (w.setCell p u) base v xs := h.setFar hp u

set_option maxHeartbeats 4000000 in
theorem l11PC (cb lo : Nat) (a : Int) (v : Value) (m : List (List Int)) (w : World) (hc : Cur w cb) (M : ML w lo v m) (hlo : cb < lo) (hg : gnrB a m = true) :
    Calls Try.prog 80 #[.pointer (some ⟨cb, 0, none⟩), .agg #[.int .i64 a, v]] w fun e w' => ∃ r1 r2 co pl, e = .returned (.agg #[.int .i64 a, r1, r2]) ∧ OI w' w.heap.size r1 co ∧ OI w' w.heap.size r2 pl ∧ (co.length = m.length ∧ In1018 co ∧ pl = lcZ m co) ∧ Trn cb w w' := by
  have hlt0 := hc.lt
  obtain ⟨A, c, rfl, _, _⟩ := M.shape
  obtain ⟨g1, g2, g3, g4, _⟩ := gnrB_facts hg
  have hm8 : m.length ≤ 1000 := by omega
  have HG := Lib.hid hg
  have HC16 : Hid (colN m ≤ 16) := Lib.hid g3.2
  have HMT := Lib.hid g4
  clear hg g1 g2 g3 g4
  have X0 := ((Bel.refl w).alloc (.cells #[.int .i64 a, .slice A m.length c] 41)).alloc (.cells #[.int .i64 0, .slice none 0 0, .slice none 0 0] 63)
  have G0 := (Blk.new w 41 #[.int .i64 a, .slice A m.length c]).alloc (.cells #[.int .i64 0, .slice none 0 0, .slice none 0 0] 63)
  have R0 := Blk.new2 w (.cells #[.int .i64 a, .slice A m.length c] 41) 63 #[.int .i64 0, .slice none 0 0, .slice none 0 0]
  have M0 := M.keep X0
  have T0 : Trn cb w ((w.alloc (.cells #[.int .i64 a, .slice A m.length c] 41)).alloc (.cells #[.int .i64 0, .slice none 0 0, .slice none 0 0] 63)) := Trn.of hc X0
  go_enter Try.func80, Try.ntmps80
  go_upto_region 1 with fail
  clear X0
  generalize (w.alloc (.cells #[.int .i64 a, .slice A m.length c] 41)).alloc (.cells #[.int .i64 0, .slice none 0 0, .slice none 0 0] 63) = w1 at *
  have h1 : w.heap.size + 2 ≤ w1.heap.size := R0.lt
  have HSG : ∀ W, Blk W w.heap.size 41 #[.int .i64 a, .slice A m.length c] → W.cell? ⟨w.heap.size, 0, none⟩ = some (.int .i64 a) ∧ W.cell? ⟨w.heap.size, 1, none⟩ = some (.slice A m.length c) := fun W k => ⟨k.facts.1 0, k.facts.1 1⟩
  have BZ := ((Bel.refl w1).alloc (.cells #[.int .i64 0, .slice none 0 0, .slice none 0 0] 63)).drew
  have B0 := (Bel.refl w1).drew
  have G0d := B0.keep G0
  have GZ := BZ.keep G0
  have KZ0 := (Blk.new w1 63 #[.int .i64 0, .slice none 0 0, .slice none 0 0]).drew
  have T0d := T0.then B0
  have TZ := T0.then BZ
  have C0d := T0d.1
  have CZ := TZ.1
  have M0d := M0.keep B0
  have MZ := M0.keep BZ
  have R0d := B0.keep R0
  have RZ := BZ.keep R0
  have hb1 : cb < w1.heap.size := by omega
  go_region_held3 (fun W => W.cell? ⟨w.heap.size, 0, none⟩ = some (.int .i64 a) ∧ W.cell? ⟨w.heap.size, 1, none⟩ = some (.slice A m.length c))
    (first | assumption | with_reducible exact HSG _ G0d | with_reducible exact HSG _ GZ | with_reducible exact HSG _ G5 | with_reducible exact HSG _ G5Z | with_reducible exact HSG _ G6 | with_reducible exact HSG _ G6Z | with_reducible exact HSG _ GF)
    (first
      | (go_at_call 84; (with_reducible refine (l5VectorS cb m.length _ CZ hm8).mono ?_); rintro e w5 ⟨rv, xs, rfl, O5, hx, t5⟩; have G5 := GZ.trn t5 hlt0; have M5 := MZ.mid t5.2 (by omega); have R5 := RZ.trn t5 (by omega); have T5 := TZ.trans t5; have KZ := KZ0.trn t5 (by omega); have HCP := Lib.hid (cpB_of2 HG.out hx.1 hx.2); have HXL : Hid (xs.length = m.length) := Lib.hid hx.1; have HIN := Lib.hid hx.2; clear hx)
      | (go_at_call 84; (with_reducible refine (l5VectorS cb m.length _ C0d hm8).mono ?_); rintro e w5 ⟨rv, xs, rfl, O5, hx, t5⟩; have G5 := G0d.trn t5 hlt0; have M5 := M0d.mid t5.2 (by omega); have R5 := R0d.trn t5 (by omega); have T5 := T0d.trans t5; have hz5 := t5.2.size; have B5 := (Bel.refl w5).alloc (.cells #[.int .i64 0, .slice none 0 0, .slice none 0 0] 63); have G5Z := B5.keep G5; have HCP := Lib.hid (cpB_of2 HG.out hx.1 hx.2); have HXL : Hid (xs.length = m.length) := Lib.hid hx.1; have HIN := Lib.hid hx.2; clear hx)
      | (have _ := KZ; go_at_call 89; (with_reducible refine (cpS a _ _ m xs _ M5.reads O5.reads HCP.out).mono ?_); rintro e w6 ⟨r1, r2, rfl, O61, O62, b6⟩; obtain ⟨pl, hpl⟩ : ∃ pl, pl = lcZ m xs := ⟨_, rfl⟩; rw [← hpl] at O62; have HPL := Lib.hid hpl; clear hpl; obtain ⟨A1, c1, e1, _, _, _⟩ := O61.reads; subst e1; obtain ⟨A2, c2, e2, _, _, _⟩ := O62.reads; subst e2; have G6 := b6.keep G5; have R6 := b6.keep R5; have T6 := T5.then b6; have K6 := b6.keep KZ; have hz6 := KZ.lt; have KF := ((K6.set 0 (.int .i64 a)).set 1 (.slice A1 xs.length c1)).set 2 (.slice A2 pl.length c2); have GF := ((G6.far (p := ⟨w1.heap.size, 0, none⟩) (by dsimp only; omega) (.int .i64 a)).far (p := ⟨w1.heap.size, 1, none⟩) (by dsimp only; omega) (.slice A1 xs.length c1)).far (p := ⟨w1.heap.size, 2, none⟩) (by dsimp only; omega) (.slice A2 pl.length c2); have RF := ((R6.far (p := ⟨w1.heap.size, 0, none⟩) (by dsimp only; omega) (.int .i64 a)).far (p := ⟨w1.heap.size, 1, none⟩) (by dsimp only; omega) (.slice A1 xs.length c1)).far (p := ⟨w1.heap.size, 2, none⟩) (by dsimp only; omega) (.slice A2 pl.length c2); have OF1 := ((O61.setFar (p := ⟨w1.heap.size, 0, none⟩) (by dsimp only; omega) (.int .i64 a)).setFar (p := ⟨w1.heap.size, 1, none⟩) (by dsimp only; omega) (.slice A1 xs.length c1)).setFar (p := ⟨w1.heap.size, 2, none⟩) (by dsimp only; omega) (.slice A2 pl.length c2); have OF2 := ((O62.setFar (p := ⟨w1.heap.size, 0, none⟩) (by dsimp only; omega) (.int .i64 a)).setFar (p := ⟨w1.heap.size, 1, none⟩) (by dsimp only; omega) (.slice A1 xs.length c1)).setFar (p := ⟨w1.heap.size, 2, none⟩) (by dsimp only; omega) (.slice A2 pl.length c2); have TF := ((T6.set (p := ⟨w1.heap.size, 0, none⟩) (.int .i64 a) (by dsimp only; omega) (by dsimp only; omega)).set (p := ⟨w1.heap.size, 1, none⟩) (.slice A1 xs.length c1) (by dsimp only; omega) (by dsimp only; omega)).set (p := ⟨w1.heap.size, 2, none⟩) (.slice A2 pl.length c2) (by dsimp only; omega) (by dsimp only; omega); obtain ⟨ck6, fk6, zk6⟩ := K6.facts)
      | (go_at_call 89; (with_reducible refine (cpS a _ _ m xs _ (M5.keep B5).reads (O5.keep B5).reads HCP.out).mono ?_); rintro e w6 ⟨r1, r2, rfl, O61, O62, b6⟩; obtain ⟨pl, hpl⟩ : ∃ pl, pl = lcZ m xs := ⟨_, rfl⟩; rw [← hpl] at O62; have HPL := Lib.hid hpl; clear hpl; obtain ⟨A1, c1, e1, _, _, _⟩ := O61.reads; subst e1; obtain ⟨A2, c2, e2, _, _, _⟩ := O62.reads; subst e2; have G6 := b6.keep G5Z; have R6 := b6.keep (B5.keep R5); have T6 := (T5.then B5).then b6; have KZ5 := Blk.new w5 63 #[.int .i64 0, .slice none 0 0, .slice none 0 0]; have K6 := b6.keep KZ5; have hz6 := KZ5.lt; have hz7 := R5.lt; have KF := ((K6.set 0 (.int .i64 a)).set 1 (.slice A1 xs.length c1)).set 2 (.slice A2 pl.length c2); have GF := ((G6.far (p := ⟨w5.heap.size, 0, none⟩) (by dsimp only; omega) (.int .i64 a)).far (p := ⟨w5.heap.size, 1, none⟩) (by dsimp only; omega) (.slice A1 xs.length c1)).far (p := ⟨w5.heap.size, 2, none⟩) (by dsimp only; omega) (.slice A2 pl.length c2); have RF := ((R6.far (p := ⟨w5.heap.size, 0, none⟩) (by dsimp only; omega) (.int .i64 a)).far (p := ⟨w5.heap.size, 1, none⟩) (by dsimp only; omega) (.slice A1 xs.length c1)).far (p := ⟨w5.heap.size, 2, none⟩) (by dsimp only; omega) (.slice A2 pl.length c2); have OF1 := ((O61.setFar (p := ⟨w5.heap.size, 0, none⟩) (by dsimp only; omega) (.int .i64 a)).setFar (p := ⟨w5.heap.size, 1, none⟩) (by dsimp only; omega) (.slice A1 xs.length c1)).setFar (p := ⟨w5.heap.size, 2, none⟩) (by dsimp only; omega) (.slice A2 pl.length c2); have OF2 := ((O62.setFar (p := ⟨w5.heap.size, 0, none⟩) (by dsimp only; omega) (.int .i64 a)).setFar (p := ⟨w5.heap.size, 1, none⟩) (by dsimp only; omega) (.slice A1 xs.length c1)).setFar (p := ⟨w5.heap.size, 2, none⟩) (by dsimp only; omega) (.slice A2 pl.length c2); have TF := ((T6.set (p := ⟨w5.heap.size, 0, none⟩) (.int .i64 a) (by dsimp only; omega) (by dsimp only; omega)).set (p := ⟨w5.heap.size, 1, none⟩) (.slice A1 xs.length c1) (by dsimp only; omega) (by dsimp only; omega)).set (p := ⟨w5.heap.size, 2, none⟩) (.slice A2 pl.length c2) (by dsimp only; omega) (by dsimp only; omega); obtain ⟨ck6, fk6, zk6⟩ := K6.facts)
      | (go_at_call 89; (with_reducible refine (cpS a _ _ m xs _ M5.reads O5.reads HCP.out).mono ?_); rintro e w6 ⟨r1, r2, rfl, O61, O62, b6⟩; obtain ⟨pl, hpl⟩ : ∃ pl, pl = lcZ m xs := ⟨_, rfl⟩; rw [← hpl] at O62; have HPL := Lib.hid hpl; clear hpl; obtain ⟨A1, c1, e1, _, _, _⟩ := O61.reads; subst e1; obtain ⟨A2, c2, e2, _, _, _⟩ := O62.reads; subst e2; have G6 := b6.keep G5; have BF := (Bel.refl w6).alloc (.cells #[.int .i64 a, .slice A1 xs.length c1, .slice A2 pl.length c2] 63); have GF := BF.keep G6; have G6Z := G6.alloc (.cells #[.int .i64 0, .slice none 0 0, .slice none 0 0] 63); have KF := Blk.new w6 63 #[.int .i64 a, .slice A1 xs.length c1, .slice A2 pl.length c2]; have RF := BF.keep (b6.keep R5); have OF1 := O61.keep BF; have OF2 := O62.keep BF; have TF := (T5.then b6).then BF; have hz6 := R5.lt))
  all_goals (
    obtain ⟨ckf, fkf, zkf⟩ := KF.facts
    obtain ⟨crf, frf, zrf⟩ := RF.facts
    have R9 := ((RF.set 0 (.int .i64 a)).set 1 (.slice A1 xs.length c1)).set 2 (.slice A2 pl.length c2)
    have P1 := ((OF1.setFar (p := ⟨w.heap.size + 1, 0, none⟩) (by dsimp only; (try simp only [World.size_alloc]); omega) (.int .i64 a)).setFar (p := ⟨w.heap.size + 1, 1, none⟩) (by dsimp only; (try simp only [World.size_alloc]); omega) (.slice A1 xs.length c1)).setFar (p := ⟨w.heap.size + 1, 2, none⟩) (by dsimp only; (try simp only [World.size_alloc]); omega) (.slice A2 pl.length c2)
    have P2 := ((OF2.setFar (p := ⟨w.heap.size + 1, 0, none⟩) (by dsimp only; (try simp only [World.size_alloc]); omega) (.int .i64 a)).setFar (p := ⟨w.heap.size + 1, 1, none⟩) (by dsimp only; (try simp only [World.size_alloc]); omega) (.slice A1 xs.length c1)).setFar (p := ⟨w.heap.size + 1, 2, none⟩) (by dsimp only; (try simp only [World.size_alloc]); omega) (.slice A2 pl.length c2)
    have T9 := ((TF.set (p := ⟨w.heap.size + 1, 0, none⟩) (.int .i64 a) (by dsimp only; omega) (by dsimp only; omega)).set (p := ⟨w.heap.size + 1, 1, none⟩) (.slice A1 xs.length c1) (by dsimp only; omega) (by dsimp only; omega)).set (p := ⟨w.heap.size + 1, 2, none⟩) (.slice A2 pl.length c2) (by dsimp only; omega) (by dsimp only; omega)
    go_wp2
    have cr9 := R9.facts.1
    clear crf frf ckf fkf
    refine bodyPost_ret (v := .agg #[.int .i64 a, .slice A1 xs.length c1, .slice A2 pl.length c2]) (by simp [results, Try.results80, go_sem, cr9]) rfl ?_
    exact ⟨_, _, _, _, rfl, P1.low (by (try simp only [World.size_alloc]); omega), P2.low (by (try simp only [World.size_alloc]); omega), ⟨HXL.out, HIN.out, HPL.out⟩, T9⟩)
end Go.Proofs.Ytjaagabbbnokdaa

namespace Go.Proofs.Ytjaagabbbnokdaa
open Go.ChangeShapes Go.WideShapes Go.ChangeAt Go.RowKit
set_option linter.unusedVariables false
set_option maxRecDepth 100000

def rndZ (s i l : Int) : Int := khZ s [i, 71] * khZ s [i, 71] % 2147483647 % l
theorem rndZ_bd (s i l : Int) (hl : 1 ≤ l) : 0 ≤ rndZ s i l ∧ rndZ s i l < l := ⟨Int.emod_nonneg _ (by omega), Int.emod_lt_of_pos _ (by omega)⟩
theorem khZ_bd (s : Int) (xs : List Int) : 0 ≤ khZ s xs ∧ khZ s xs < 2147483647 := hsh_bd _
theorem sq_bd {h : Int} (hb : 0 ≤ h ∧ h < 2147483647) : 0 ≤ h * h ∧ h * h ≤ 4611686014132420609 := by
  refine ⟨Int.mul_nonneg hb.1 hb.1, ?_⟩
  have := Int.mul_le_mul (show h ≤ 2147483647 by omega) (show h ≤ 2147483647 by omega) hb.1 (by omega)
  omega
set_option maxHeartbeats 1000000 in
theorem rndS (s i l : Int) (w : World) (hs : -9223372036854775808 ≤ s ∧ s ≤ 9223372036854775807) (hi : -9223372036854775808 ≤ i ∧ i ≤ 9223372036854775807) (hl : 1 ≤ l ∧ l ≤ 1000000000000) :
    Calls Try.prog 172 #[.int .i64 s, .int .i64 i, .int .i64 l] w fun e w' => e = .returned (.int .i64 (rndZ s i l)) ∧ Bel w w' := by
  have HR : Hid (rndZ s i l = khZ s [i, 71] * khZ s [i, 71] % 2147483647 % l) := rfl
  have O := OI.lit (w := w.alloc (.cells #[.int .i64 i, .int .i64 71] 3)) (base := w.heap.size) (g := w.heap.size) (xs := [i, 71]) (Blk.new w _ _) (Nat.le_refl _) (by simp)
  have Y : Bel w (w.alloc (.cells #[.int .i64 i, .int .i64 71] 3)) := (Bel.refl _).alloc _
  have hkb := khZ_bd s [i, 71]
  have hsq := sq_bd hkb
  have HO := Lib.hid O.reads
  clear O
  go_enter Try.func172, Try.ntmps172
  go_wp2_with fail
  refine (l1In_yes l 1 1000000000000 _ hl.1 hl.2).mono ?_
  rintro e w1 ⟨rfl, rfl⟩
  go_wp2_with fail
  refine (khS s _ [i, 71] _ HO.out (by simp) hs (fun x hx => by simp at hx; rcases hx with rfl | rfl <;> omega)).mono ?_
  rintro e w2 ⟨rfl, hb2⟩
  generalize khZ s [i, 71] = h at *
  have Y2 := Y.trans hb2
  obtain ⟨z, hz⟩ : ∃ z, z = h * h := ⟨_, rfl⟩
  rw [← hz] at hsq
  have hm1 : 0 ≤ z % 2147483647 ∧ z % 2147483647 < 2147483647 := ⟨Int.emod_nonneg _ (by omega), Int.emod_lt_of_pos _ (by omega)⟩
  have hw : wrap64 (h * h) = z := by rw [← hz]; unfold wrap64; omega
  go_wp2
  go_ret
  refine ⟨?_, Y2⟩
  rw [HR.out, ← hz]
  rfl
end Go.Proofs.Ytjaagabbbnokdaa

namespace Go.Proofs.Ytjaagabbbnokdaa
open Go.ChangeShapes Go.WideShapes Go.ChangeAt Go.RowKit
set_option linter.unusedVariables false
set_option maxRecDepth 100000

theorem grB_four : grB 4 = true := by decide +kernel
def nhE (s : Int) (i : Nat) : Int := 1 + rndZ s (300 + (i : Int)) 1018
def nhX (s : Int) (i : Nat) : Int := 4 ^ (nhE s i).toNat % 2039
def nhL (s : Int) (n : Nat) : List Int := (List.range n).map (nhX s)
def nhZ (s x : Int) : List Int := if inB x 1 16 = true then nhL s x.toNat else []
theorem nhL_len (s : Int) (n : Nat) : (nhL s n).length = n := by simp [nhL]
theorem nhL_step (s : Int) (k : Nat) : nhL s (k + 1) = nhL s k ++ [nhX s k] := by unfold nhL; rw [List.range_succ, List.map_append]; rfl
theorem nhE_bd (s : Int) (i : Nat) : 1 ≤ nhE s i ∧ nhE s i ≤ 1018 := by have := rndZ_bd s (300 + (i : Int)) 1018 (by omega); unfold nhE; omega
theorem nhZ_no {s x : Int} (h : inB x 1 16 = false) : nhZ s x = [] := by unfold nhZ; rw [h]; rfl
theorem nhZ_yes {s : Int} {n : Nat} (h : inB (n : Int) 1 16 = true) : nhZ s (n : Int) = nhL s n := by unfold nhZ; rw [h]; rfl
theorem nhZ_len (s x : Int) : (nhZ s x).length ≤ 16 := by
  cases q : inB x 1 16
  · rw [nhZ_no q]; simp
  · have h := inB_facts q
    obtain ⟨n, rfl⟩ : ∃ n : Nat, x = (n : Int) := Int.eq_ofNat_of_zero_le (by omega)
    rw [nhZ_yes q, nhL_len]
    omega
end Go.Proofs.Ytjaagabbbnokdaa

namespace Go.Proofs.Ytjaagabbbnokdaa
set_option linter.unusedVariables false
set_option maxRecDepth 100000

def pmask : Nat → Nat
  | 0 => 0
  | n + 1 => pmask n ||| 2 ^ (4 ^ n % 2039)
theorem pmask_bit (x : Nat) : ∀ n, (pmask n).testBit x = true → ∃ k, k < n ∧ 4 ^ k % 2039 = x
  | 0, h => by simp [pmask] at h
  | n + 1, h => by
    unfold pmask at h
    rw [Nat.testBit_or, Bool.or_eq_true] at h
    rcases h with h | h
    · obtain ⟨k, h1, h2⟩ := pmask_bit x n h
      exact ⟨k, by omega, h2⟩
    · rw [Nat.testBit_two_pow] at h
      exact ⟨n, by omega, by simpa using h⟩
def pLit : Nat := 535662461277093691336929166355814392150859254155675959229816698074154517229552720373783243630392592469373150264096609057984969746780946638447739032279467306980764652821794435786076504216458038760494042415154865145392649021962872994490833050327081332702980601683773975303275874922776582181375698483191680793622145215411415978915119257783978487199730975574408194387359063400639210778169780844458713109263084381632575912333409504548365523993869541034582605350763044703180562677462085869302945950548847137673852987047743702649012496786319748644387323856635772271907475824759243600921160564807043655823346916801353598
theorem pmask_lit : pmask 1019 = pLit := by decide +kernel
theorem grp_nat : ∀ x : Nat, x < 2039 → x ^ 1019 % 2039 = 1 → pLit.testBit x = true := by decide +kernel
theorem inv19 : ∀ n : Nat, n < 1019 → n ≠ 0 → n * (n ^ 1017 % 1019) % 1019 = 1 := by decide +kernel
theorem four19 : 4 ^ 1019 % 2039 = 1 := by decide +kernel
theorem pow4 {x : Int} (h : grB x = true) : ∃ k : Nat, k < 1019 ∧ x = ((4 ^ k % 2039 : Nat) : Int) := by
  obtain ⟨⟨h1, h2⟩, h3⟩ := grB_facts h
  obtain ⟨n, rfl⟩ : ∃ n : Nat, x = (n : Int) := Int.eq_ofNat_of_zero_le (by omega)
  obtain ⟨E, hE⟩ : ∃ E : Nat, E = 1019 := ⟨_, rfl⟩
  rw [← hE] at h3
  have h4 : n ^ E % 2039 = 1 := by
    have h9 : ((n ^ E % 2039 : Nat) : Int) = ((1 : Nat) : Int) := by
      rw [Int.natCast_emod, Int.natCast_pow]
      exact h3
    exact Int.ofNat_inj.1 h9
  rw [hE] at h4
  have h5 := grp_nat n (by omega) h4
  rw [← pmask_lit] at h5
  obtain ⟨k, k1, k2⟩ := pmask_bit n 1019 h5
  exact ⟨k, k1, by rw [k2]⟩
theorem log_nat {a b : Nat} (ha : a < 1019) (ha0 : a ≠ 0) (hb : b < 1019) : ∃ e, e < 1019 ∧ (4 ^ a % 2039) ^ e % 2039 = 4 ^ b % 2039 := by
  have hi := inv19 a ha ha0
  generalize a ^ 1017 % 1019 = i at hi
  refine ⟨b * i % 1019, Nat.mod_lt _ (by omega), ?_⟩
  rw [← Nat.pow_mod, ← Nat.pow_mul]
  have h1 : a * (b * i % 1019) % 1019 = b := by
    rw [Nat.mul_mod, Nat.mod_mod, ← Nat.mul_mod, show a * (b * i) = b * (a * i) by rw [Nat.mul_left_comm], Nat.mul_mod, hi, Nat.mul_one, Nat.mod_mod, Nat.mod_eq_of_lt hb]
  have h2 := Nat.div_add_mod (a * (b * i % 1019)) 1019
  rw [h1] at h2
  rw [← h2, Nat.pow_add, Nat.pow_mul, Nat.mul_mod, Nat.pow_mod, four19, Nat.one_pow]
  simp
theorem log_ex {g h : Int} (hg : grB g = true) (h1 : g ≠ 1) (hh : grB h = true) : ∃ e : Nat, e < 1019 ∧ g ^ e % 2039 = h := by
  obtain ⟨a, ha, rfl⟩ := pow4 hg
  obtain ⟨b, hb, rfl⟩ := pow4 hh
  have ha0 : a ≠ 0 := by
    intro e
    subst e
    exact h1 (by decide)
  obtain ⟨e, e1, e2⟩ := log_nat ha ha0 hb
  exact ⟨e, e1, by exact_mod_cast e2⟩
def logB (g h : Int) (e : Nat) : Bool := g ^ e % 2039 == h
def logN (g h : Int) (n : Nat) : Nat := (List.range n).findIdx (logB g h)
def logZ (g h : Int) : Nat := logN g h 1019
theorem logN_facts {g h : Int} {n : Nat} (he : ∃ e, e < n ∧ logB g h e = true) : logN g h n < n ∧ logB g h (logN g h n) = true ∧ ∀ e, e < logN g h n → logB g h e = false := by
  obtain ⟨e, e1, e2⟩ := he
  have hl : logN g h n < (List.range n).length := List.findIdx_lt_length_of_exists ⟨e, List.mem_range.2 e1, e2⟩
  have h1 : logN g h n < n := by simpa using hl
  refine ⟨h1, ?_, fun i hi => ?_⟩
  · have h2 := List.findIdx_getElem (p := logB g h) (xs := List.range n) (w := hl)
    have h4 : (List.range n)[(List.range n).findIdx (logB g h)]'hl = logN g h n := List.getElem_range _
    rw [h4] at h2
    exact h2
  · have h3 := List.not_of_lt_findIdx (p := logB g h) (xs := List.range n) hi
    have h4 : (List.range n)[i]'(Nat.lt_trans hi hl) = i := List.getElem_range _
    rw [h4] at h3
    first | exact h3 | exact Bool.eq_false_iff.2 h3
theorem logZ_facts {g h : Int} (hg : grB g = true) (h1 : g ≠ 1) (hh : grB h = true) : logZ g h < 1019 ∧ g ^ logZ g h % 2039 = h ∧ ∀ e, e < logZ g h → g ^ e % 2039 ≠ h := by
  obtain ⟨e, e1, e2⟩ := log_ex hg h1 hh
  obtain ⟨a, b, c⟩ := logN_facts (g := g) (h := h) (n := 1019) ⟨e, e1, by unfold logB; simpa using e2⟩
  refine ⟨a, by unfold logB at b; exact eq_of_beq b, fun e he => ?_⟩
  have h9 := c e he
  unfold logB at h9
  exact ne_of_beq_false h9
end Go.Proofs.Ytjaagabbbnokdaa

namespace Go.Proofs.Ytjaagabbbnokdaa
open Go.ChangeShapes Go.WideShapes Go.ChangeAt Go.RowKit
set_option linter.unusedVariables false
set_option maxRecDepth 100000

theorem lg_step (g : Int) (k : Nat) : g ^ k % 2039 * g % 2039 = g ^ (k + 1) % 2039 := by
  rw [Int.pow_succ, Int.mul_emod (g ^ k % 2039) g, Int.emod_emod, ← Int.mul_emod]
theorem lg_bd {p g : Int} (hp : 0 ≤ p ∧ p ≤ 2038) (hg : 1 ≤ g ∧ g ≤ 2038) : 0 ≤ p * g ∧ p * g ≤ 4153444 := by
  refine ⟨Int.mul_nonneg hp.1 (by omega), ?_⟩
  have := Int.mul_le_mul hp.2 hg.2 (by omega) (by omega)
  omega
def sfZ (a b : Int) : Int := (a + 1019 - b) % 1019
theorem sufI (a b : Int) (w : World) (ha : elB a = true) (hb : elB b = true) : Calls Try.prog 155 #[.int .i64 a, .int .i64 b] w fun e w' => e = .returned (.int .i64 (sfZ a b)) ∧ w = w' := by
  obtain ⟨a1, a2⟩ := elB_facts ha
  obtain ⟨b1, b2⟩ := elB_facts hb
  have HA := Lib.hid ha
  have HB := Lib.hid hb
  have HN : Hid ((a + 1019 - b) % 1019 = sfZ a b) := rfl
  clear ha hb
  go_enter Try.func155, Try.ntmps155
  go_wp2_with fail
  refine (elI a _).mono ?_
  rintro e w1 ⟨rfl, rfl⟩
  rw [HA.out]
  go_wp2_with fail
  refine (elI b _).mono ?_
  rintro e w1 ⟨rfl, rfl⟩
  rw [HB.out]
  go_wp2
  go_ret
  exact ⟨by rw [← HN.out]; rfl, rfl⟩
theorem bothS (a b : Int) (w : World) (ha : elB a = true) (hb : elB b = true) : Calls Try.prog 168 #[.int .i64 a, .int .i64 b] w fun e w' => e = .returned (.bool true) ∧ w = w' := by
  have HA := Lib.hid ha
  have HB := Lib.hid hb
  clear ha hb
  go_enter Try.func168, Try.ntmps168
  go_wp2_with fail
  refine (elS a _).mono ?_
  rintro e w1 ⟨rfl, rfl⟩
  rw [HA.out]
  go_wp2_with fail
  refine (elS b _).mono ?_
  rintro e w1 ⟨rfl, rfl⟩
  rw [HB.out]
  go_wp2
  go_ret
  exact ⟨rfl, rfl⟩
theorem sufS (a b : Int) (w : World) (ha : elB a = true) (hb : elB b = true) : Calls Try.prog 151 #[.int .i64 a, .int .i64 b] w fun e w' => e = .returned (.int .i64 (sfZ a b)) ∧ w = w' := by
  obtain ⟨a1, a2⟩ := elB_facts ha
  obtain ⟨b1, b2⟩ := elB_facts hb
  have HC := Lib.hid (fun w => bothS a b w ha hb)
  have HN : Hid ((a - b + 1019) % 1019 = sfZ a b) := Lib.hid (by unfold sfZ; congr 1; omega)
  clear ha hb
  go_enter Try.func151, Try.ntmps151
  go_wp2_with fail
  refine (HC.out _).mono ?_
  rintro e w1 ⟨rfl, rfl⟩
  go_wp2
  go_ret
  exact ⟨by rw [← HN.out]; rfl, rfl⟩
end Go.Proofs.Ytjaagabbbnokdaa
