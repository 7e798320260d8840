/-
  PacketRow: contract of the program's function. Condition: at most 2^21 numbers.
  PacketRow: contract of the reference's function. Condition: at most 2^21 numbers.
  SourcePacket and GenerationSpace of the reference: contracts. No condition for GenerationSpace; SourcePacket: an index of a valid generation.
  GenerationSpace of the reference: contract. No condition.
  The size of a generation's space. Nothing of the program is run here.
-/
import Derived.Test.YtjaagabbbnokdaaGreatGC
import Derived.Deep.RegionHeld3
import Derived.Test.YtjaagabbbnokdaaGreatGA
import Derived.Test.YtjaagabbbnokdaaGreatGE
import Derived.Test.YtjaagabbbnokdaaGreatGD
namespace Go.Proofs.YtjaagabbbnokdaaGreat
open Go.ChangeShapes Go.WideShapes Go.ChangeAt Go.RowKit
set_option linter.unusedVariables false
set_option maxRecDepth 100000

set_option maxHeartbeats 1000000 in
theorem rowI (a : Int) (v u : Value) (xs ys : List Int) (w : World) (hv : RI w v xs) (hu : RI w u ys) (hn : xs.length + ys.length ≤ 2097152) :
    Calls Tryz.prog 25 #[.agg #[.int .i64 a, v, u]] w fun e w' => ∃ r, e = .returned r ∧ OI w' w.heap.size r (xs ++ ys) ∧ Bel w w' := by
  obtain ⟨A, c, rfl, _, _, _⟩ := id hv
  obtain ⟨B, d, rfl, _, _, _⟩ := id hu
  have X := Blk.new2 w (.cells #[.int .i64 a, .slice A xs.length c, .slice B ys.length d] 49) 47 #[.slice A xs.length c, .slice B ys.length d]
  have Y : Bel w ((w.alloc (.cells #[.int .i64 a, .slice A xs.length c, .slice B ys.length d] 49)).alloc (.cells #[.slice A xs.length c, .slice B ys.length d] 47)) := ((Bel.refl _).alloc _).alloc _
  have HV := Lib.hid (hv.keep Y)
  have HU := Lib.hid (hu.keep Y)
  go_enter Tryz.func25, Tryz.ntmps25
  go_wp2_with fail
  refine (concatI _ [xs, ys] _ ?_ (by simp; omega)).mono ?_
  · refine RII.of X rfl (by omega) ?_
    intro j zs hj
    match j with
    | 0 => simp at hj; subst hj; exact ⟨_, rfl, HV.out⟩
    | 1 => simp at hj; subst hj; exact ⟨_, rfl, HU.out⟩
    | j + 2 => simp at hj
  · rintro e w1 ⟨v1, rfl, O1, hb1⟩
    have e1 : ([xs, ys] : List (List Int)).flatten = xs ++ ys := by simp
    rw [e1] at O1
    clear X e1
    go_wp2
    go_ret
    exact ⟨_, rfl, O1.low Y.size, Y.trans hb1⟩
end Go.Proofs.YtjaagabbbnokdaaGreat

namespace Go.Proofs.YtjaagabbbnokdaaGreat
open Go.ChangeShapes Go.WideShapes Go.ChangeAt Go.RowKit
set_option linter.unusedVariables false
set_option maxRecDepth 100000

set_option maxHeartbeats 1000000 in
theorem rowS (a : Int) (v u : Value) (xs ys : List Int) (w : World) (hv : RI w v xs) (hu : RI w u ys) (hn : xs.length + ys.length ≤ 2097152) :
    Calls Tryz.prog 73 #[.agg #[.int .i64 a, v, u]] w fun e w' => ∃ r, e = .returned r ∧ OI w' w.heap.size r (xs ++ ys) ∧ Bel w w' := by
  have X := Blk.new w 49 #[.int .i64 a, v, u]
  have Y : Bel w (w.alloc (.cells #[.int .i64 a, v, u] 49)) := (Bel.refl _).alloc _
  go_enter Tryz.func73, Tryz.ntmps73
  go_wp2
  generalize w.alloc (.cells #[.int .i64 a, v, u] 49) = w0 at *
  obtain ⟨cx, _, zx⟩ := X.facts
  have r1 : w0.cell? ⟨w.heap.size, 1, none⟩ = some v := cx 1
  have r2 : w0.cell? ⟨w.heap.size, 2, none⟩ = some u := cx 2
  clear cx
  have Ya := Y.alloc (.cells #[] 3)
  have O0 : OI (w0.alloc (.cells #[] 3)) w0.heap.size (.slice (some ⟨w0.heap.size, 0, none⟩) 0 0) [] := OI.lit (xs := []) (Blk.new w0 _ _) (Nat.le_refl _) (by simp)
  have R0 := hv.keep Ya
  have nx : w0.heap.size ≠ w.heap.size := by omega
  have ny : w.heap.size ≠ w0.heap.size := by omega
  have ra1 : (w0.alloc (.cells #[] 3)).cell? ⟨w.heap.size, 1, none⟩ = some v := (World.cell?_alloc_lt w0 _ ⟨w.heap.size, 1, none⟩ zx).trans r1
  have ra2 : (w0.alloc (.cells #[] 3)).cell? ⟨w.heap.size, 2, none⟩ = some u := (World.cell?_alloc_lt w0 _ ⟨w.heap.size, 2, none⟩ zx).trans r2
  have za : w.heap.size < (w0.alloc (.cells #[] 3)).heap.size := by simp; omega
  go_region_held3 (fun w' => w'.cell? ⟨w.heap.size, 1, none⟩ = some v ∧ w'.cell? ⟨w.heap.size, 2, none⟩ = some u)
    (first | exact ⟨(K1 1).trans ra1, (K1 2).trans ra2⟩ | exact ⟨(K2 1).trans ((K1 1).trans ra1), (K2 2).trans ((K1 2).trans ra2)⟩ | go_keep)
    (first
      | (refine step_appI _ (by rfl) _ _ (by rfl) w0.heap.size _ _ [] xs (by rfl) (by rfl) (by exact O0) (by exact R0) (by simp; omega) (by simp) ?_; intro v1 w1 O1 hG1; have K1 := fun o => World.cell?_of_block (a := ⟨w.heap.size, o, none⟩) (hG1.block w.heap.size za (fun e => by have := (O0.block _ e.symm).1; omega)))
      | (refine step_appI _ (by rfl) _ _ (by rfl) w0.heap.size _ _ _ ys (by rfl) (by rfl) (by exact O1) (by exact hu.keep (Ya.drew.grown hG1 (fun q hq => Nat.le_trans Y.size (O0.block q hq).1))) (by simp; omega) (by exact (Nat.le_trans (by simp) hG1.size)) ?_; intro v2 w2 O2 hG2; have K2 := fun o => World.cell?_of_block (a := ⟨w.heap.size, o, none⟩) (hG2.block w.heap.size (Nat.lt_of_lt_of_le za hG1.size) (fun e => by have := (O1.block _ e.symm).1; omega))))
  have Y1 : Bel w w1 := Ya.drew.grown hG1 (fun q hq => Nat.le_trans Y.size (O0.block q hq).1)
  have Y2 : Bel w w2 := Y1.grown hG2 (fun q hq => Nat.le_trans Y.size (O1.block q hq).1)
  go_wp2
  go_ret
  exact ⟨_, rfl, O2.low Y.size, Y2⟩
end Go.Proofs.YtjaagabbbnokdaaGreat

namespace Go.Proofs.YtjaagabbbnokdaaGreat
open Go.ChangeShapes Go.WideShapes Go.ChangeAt Go.RowKit
set_option linter.unusedVariables false
set_option maxRecDepth 100000

theorem gnr_unit {a : Int} {m : List (List Int)} (h : gnrB a m = true) {i : Nat} (hi : i < m.length) : cpB a m (unitV m.length i) = true ∧ lcZ m (unitV m.length i) = rw_ m i := by
  obtain ⟨_, h1, h2, h3, _⟩ := gnrB_facts h
  refine ⟨?_, lcZ_unit h3 hi⟩
  unfold cpB
  rw [h, row_vecB (c := m.length) ⟨unitV_len _ _, unitV_bd⟩ (by omega), unitV_len]
  simp
set_option maxHeartbeats 2000000 in
theorem srcS (a : Int) (v : Value) (m : List (List Int)) (i : Nat) (w : World) (hv : RII w v m) (h : gnrB a m = true) (hi : i < m.length) :
    Calls Tryz.prog 72 #[.agg #[.int .i64 a, v], .int .i64 (i : Int)] w fun e w' => ∃ r1 r2, e = .returned (.tuple #[.agg #[.int .i64 a, r1, r2], .bool true]) ∧ OI w' w.heap.size r1 (unitV m.length i) ∧ OI w' w.heap.size r2 (rw_ m i) ∧ Bel w w' := by
  obtain ⟨hc, hl⟩ := gnr_unit h hi
  have HC := Lib.hid hc
  have HL := Lib.hid hl
  have HG := Lib.hid h
  obtain ⟨_, ⟨fl1, fl2⟩, fc, _, _⟩ := gnrB_facts h
  obtain ⟨A, cp, rfl, h2, h3, hA⟩ := id hv
  have X := (Blk.new w 30 #[.int .i64 a, .slice A m.length cp]).alloc (.cells #[.int .i64 0, .slice none 0 0, .slice none 0 0] 49)
  have R := Blk.new2 w (.cells #[.int .i64 a, .slice A m.length cp] 30) 49 #[.int .i64 0, .slice none 0 0, .slice none 0 0]
  have Y : Bel w ((w.alloc (.cells #[.int .i64 a, .slice A m.length cp] 30)).alloc (.cells #[.int .i64 0, .slice none 0 0, .slice none 0 0] 49)) := ((Bel.refl _).alloc _).alloc _
  clear hc hl h
  obtain ⟨cx, _, zx⟩ := X.facts
  go_enter Tryz.func72, Tryz.ntmps72
  go_wp2_with fail
  refine (gnrS a _ m _ (hv.keep Y)).mono ?_
  rintro e w1 ⟨rfl, hb1⟩
  rw [HG.out]
  have X1 := hb1.keep X
  have R1 := hb1.keep R
  have Y1 := Y.trans hb1
  clear cx zx X R Y hb1
  obtain ⟨cx, _, zx⟩ := X1.facts
  have hs1 : IntKind.i64.wrap ((m.length : Int) - 1) = (m.length : Int) - 1 := IntWalk.i64_in _ (by omega)
  go_wp2_with fail
  refine (l1In_yes (i : Int) 0 ((m.length : Int) - 1) _ (by omega) (by omega)).mono ?_
  rintro e w2 ⟨rfl, rfl⟩
  have rx0 : w1.cell? ⟨w.heap.size, 0, none⟩ = some (.int .i64 a) := cx 0
  have rx1 : w1.cell? ⟨w.heap.size, 1, none⟩ = some (.slice A m.length cp) := cx 1
  clear cx
  have Yd := (Bel.refl w1).drew
  have HV := Lib.hid (hv.keep Y1)
  have sz1 := R1.lt
  go_wp2_with fail
  go_region_held3 (fun w' => w'.cell? ⟨w.heap.size, 0, none⟩ = some (.int .i64 a) ∧ w'.cell? ⟨w.heap.size, 1, none⟩ = some (.slice A m.length cp)) (first | exact ⟨YE.cell1 zx rx0, YE.cell1 zx rx1⟩ | exact ⟨YA.cell1 zx rx0, YA.cell1 zx rx1⟩ | go_keep) (first
    | (go_at_call 102; ((with_reducible refine (unitS m.length i _ (by omega) hi).mono ?_); rintro e wA ⟨ra, rfl, Oa, hbA⟩; obtain ⟨Aa, ca, ea, _, _, _⟩ := Oa.reads; subst ea; have YA : Bel w1 wA := Yd.trans hbA))
    | (go_at_call 18; ((with_reducible refine (cpS a _ _ m (unitV m.length i) _ (by exact HV.out.keep YA) (by exact Oa.reads) HC.out).mono ?_); rintro e wE ⟨rv, ru, rfl, Oe, Of, hbE⟩; obtain ⟨Ae, ce, ee, _, _, _⟩ := Oe.reads; obtain ⟨Af, cf, ef, _, _, _⟩ := Of.reads; subst ee ef; have YE : Bel w1 wE := YA.trans hbE; have RE := YE.keep R1; have cq0 := RE.facts.1 0; have cq1 := RE.facts.1 1; have cq2 := RE.facts.1 2; have fq0 := RE.facts.2.1 0; have fq1 := RE.facts.2.1 1; have fq2 := RE.facts.2.1 2)))
  all_goals (
    have cr := RE.facts.1
    have zr := RE.lt
    have YF := Y1.trans YE
    have hlo : w1.heap.size ≤ wA.heap.size := YA.size
    have Y3 := ((YF.setCell (p := ⟨w.heap.size + 1, 0, none⟩) (by dsimp only; omega) (.int .i64 a)).setCell (p := ⟨w.heap.size + 1, 1, none⟩) (by dsimp only; omega) (.slice Ae (unitV m.length i).length ce)).setCell (p := ⟨w.heap.size + 1, 2, none⟩) (by dsimp only; omega) (.slice Af (lcZ m (unitV m.length i)).length cf)
    have O3 := (((Oe.low (show w.heap.size + 2 ≤ _ by omega)).setFar (p := ⟨w.heap.size + 1, 0, none⟩) (by dsimp only; omega) (.int .i64 a)).setFar (p := ⟨w.heap.size + 1, 1, none⟩) (by dsimp only; omega) (.slice Ae (unitV m.length i).length ce)).setFar (p := ⟨w.heap.size + 1, 2, none⟩) (by dsimp only; omega) (.slice Af (lcZ m (unitV m.length i)).length cf)
    have O4 := (((Of.low (show w.heap.size + 2 ≤ _ by omega)).setFar (p := ⟨w.heap.size + 1, 0, none⟩) (by dsimp only; omega) (.int .i64 a)).setFar (p := ⟨w.heap.size + 1, 1, none⟩) (by dsimp only; omega) (.slice Ae (unitV m.length i).length ce)).setFar (p := ⟨w.heap.size + 1, 2, none⟩) (by dsimp only; omega) (.slice Af (lcZ m (unitV m.length i)).length cf)
    go_wp2
    refine bodyPost_ret (v := .tuple #[.agg #[.int .i64 a, .slice Ae (unitV m.length i).length ce, .slice Af (lcZ m (unitV m.length i)).length cf], .bool true]) (by simp [results, Tryz.results72, go_sem, cr]) rfl ⟨_, _, rfl, O3.low (by omega), by have h9 := O4.low (show w.heap.size ≤ w.heap.size + 2 by omega); rw [HL.out] at h9 ⊢; exact h9, Y3⟩)
end Go.Proofs.YtjaagabbbnokdaaGreat

namespace Go.Proofs.YtjaagabbbnokdaaGreat
open Go.ChangeShapes Go.WideShapes Go.ChangeAt Go.RowKit
set_option linter.unusedVariables false
set_option maxRecDepth 100000

set_option maxHeartbeats 4000000 in
theorem gspS (a : Int) (v : Value) (m : List (List Int)) (w : World) (hv : RII w v m) :
    Calls Tryz.prog 30 #[.agg #[.int .i64 a, v]] w fun e w' => ∃ r, e = .returned (.agg #[.int .i64 (gspN a m : Int), r]) ∧ ML w' w.heap.size r (gspM a m) ∧ Bel w w' := by
  obtain ⟨A, cp, rfl, h2, h3, hA⟩ := id hv
  have X0 := (Blk.new w 30 #[.int .i64 a, .slice A m.length cp]).alloc (.cells #[.int .i64 0, .slice none 0 0] 40)
  have R0 := Blk.new2 w (.cells #[.int .i64 a, .slice A m.length cp] 30) 40 #[.int .i64 0, .slice none 0 0]
  have Y0 : Bel w ((w.alloc (.cells #[.int .i64 a, .slice A m.length cp] 30)).alloc (.cells #[.int .i64 0, .slice none 0 0] 40)) := ((Bel.refl _).alloc _).alloc _
  obtain ⟨cx, _, zx⟩ := X0.facts
  go_enter Tryz.func30, Tryz.ntmps30
  go_wp2_with fail
  refine (gnrS a _ m _ (hv.keep Y0)).mono ?_
  rintro e w1 ⟨rfl, hb1⟩
  have X1 := hb1.keep X0
  have R1 := hb1.keep R0
  have Y1 := Y0.trans hb1
  clear cx X0 R0 Y0 hb1 zx
  obtain ⟨cx, _, zx1⟩ := X1.facts
  cases q : gnrB a m
  · obtain ⟨f1, f2⟩ := gsp_no q
    have HF1 := Lib.hid f1
    have HF2 := Lib.hid f2
    clear f1 f2 q
    go_wp2_with fail
    refine (newBS 0 _ (by omega)).mono ?_
    rintro e w2 ⟨rfl, hb2⟩
    have R2 := hb2.keep R1
    have Y2 := Y1.trans hb2
    clear cx
    obtain ⟨cr, fr, zr⟩ := R2.facts
    have Y3 := (Y2.setCell (p := ⟨w.heap.size + 1, 0, none⟩) (by dsimp only; omega) (.int .i64 ((0 : Nat) : Int))).setCell (p := ⟨w.heap.size + 1, 1, none⟩) (by dsimp only; omega) (.slice none 0 0)
    go_wp2
    refine bodyPost_ret (v := .agg #[.int .i64 ((0 : Nat) : Int), .slice none 0 0]) (by simp [results, Tryz.results30, go_sem, cr]) rfl ⟨_, by rw [HF1.out], by rw [HF2.out]; exact ML.nil _ _, Y3⟩
  obtain ⟨f1, f2⟩ := gsp_yes q
  obtain ⟨_, ⟨fl1, fl2⟩, ⟨fc1, fc2⟩, fm, _⟩ := gnrB_facts q
  have HF1 := Lib.hid f1
  have HF2 := Lib.hid f2
  have HG := Lib.hid q
  have HT := Lib.hid (genZ_span fm (by omega))
  have HM := Lib.hid fm
  clear f1 f2 q fm
  have X2 := X1.alloc (.cells #[] 47)
  have R2 := R1.alloc (.cells #[] 47)
  have Y2 := Y1.alloc (.cells #[] 47)
  have O2 := ML.empty w1
  have sz1 := R1.lt
  go_wp2
  clear cx zx1
  go_loopg [3, 4] m.length (fun f o i wr => ∃ k : Nat, k + f = m.length ∧ i = .int .i64 k ∧ Blk wr w.heap.size 30 #[.int .i64 a, .slice A m.length cp] ∧ Blk wr (w.heap.size + 1) 40 #[.int .i64 0, .slice none 0 0] ∧ ML wr w1.heap.size o ((genZ m).take k) ∧ Bel w wr ∧ w1.heap.size ≤ wr.heap.size)
  case atStart => exact ⟨0, by omega, rfl, X2, R2, O2, Y2, by rw [World.size_alloc]; omega⟩
  case round =>
    clear X1 X2 R1 R2 Y1 Y2 O2
    obtain ⟨k, hk, rfl, X, R, O, Y, hs⟩ := hrel
    have hk2 : k ≤ m.length := by omega
    have HK := Lib.hid hk
    clear hk
    obtain ⟨cx, _, zx⟩ := X.facts
    by_cases hlt : k < m.length
    · have hrl : (rw_ m k).length ≤ 16 := by rw [(mtx_row HM.out hlt).1]; exact fc2
      have HS := Lib.hid (take_snoc (genZ_at (rw_get hlt)))
      have hlen : ((genZ m).take k).length ≤ 8 := by rw [List.length_take, genZ_len]; omega
      have i0 : (0 : Int) ≤ (k : Int) := by omega
      have i1 : (k : Int) < (m.length : Int) := by omega
      go_wp2_with fail
      refine (srcS a _ m k _ (hv.keep Y) HG.out hlt).mono ?_
      rintro e w4 ⟨r1, r2, rfl, O1, O2, hb4⟩
      have hul : (unitV m.length k).length ≤ 8 := by rw [unitV_len]; exact fl2
      generalize unitV m.length k = uv at *
      generalize rw_ m k = s at *
      obtain ⟨A1, c1, e1, _, _, _⟩ := O1.reads
      obtain ⟨A2, c2, e2, _, _, _⟩ := O2.reads
      subst e1 e2
      have Ya : Bel w4 (w4.alloc (.cells #[.int .i64 a, .slice A1 uv.length c1, .slice A2 s.length c2] 49)) := (Bel.refl w4).alloc _
      have Y4 := (Y.trans hb4).trans Ya
      have X4 := Ya.keep (hb4.keep X)
      have R4 := Ya.keep (hb4.keep R)
      have OO4 := (O.keep hb4).keep Ya
      have P1 := Lib.hid (O1.reads.keep Ya)
      have P2 := Lib.hid (O2.reads.keep Ya)
      have s4 := Nat.le_trans hs hb4.size
      clear cx zx X R O Y O1 O2
      obtain ⟨cz, _, zz⟩ := (Blk.new w4 49 #[.int .i64 a, .slice A1 uv.length c1, .slice A2 s.length c2]).facts
      go_wp2_with fail
      refine (rowS a _ _ uv s _ P1.out P2.out (by omega)).mono ?_
      rintro e w5 ⟨r5, rfl, O5, hb5⟩
      generalize uv ++ s = row at *
      obtain ⟨A5, c5, e5, _, _, _⟩ := O5.reads
      subst e5
      have s5 : w1.heap.size ≤ w5.heap.size := Nat.le_trans (Nat.le_trans s4 Ya.size) hb5.size
      have Yb : Bel w5 (w5.alloc (.cells #[.slice A5 row.length c5] 47)) := (Bel.refl w5).alloc _
      have OO5 := (OO4.keep hb5).keep Yb
      have HO4 := OO4.block
      have rx : RIx (w5.alloc (.cells #[.slice A5 row.length c5] 47)) w1.heap.size u3.ownBlock (.slice A5 row.length c5) row := ((O5.low (Nat.le_trans s4 Ya.size)).keep Yb).rx (fun p hp e => by have t1 := (O5.block p hp).1; have t2 := (HO4 p e).2; omega)
      have Y5 := (Y4.trans hb5).trans Yb
      have X5 := Yb.keep (hb5.keep X4)
      have R5 := Yb.keep (hb5.keep R4)
      have HOB := Lib.hid HO4
      have zX5 := X5.lt
      have zR5 := R5.lt
      have s55 : w1.heap.size ≤ (w5.alloc (.cells #[.slice A5 row.length c5] 47)).heap.size := by rw [World.size_alloc]; omega
      have HOB2 := Lib.hid OO5.block
      clear cz zz HO4 X4 R4 OO4 Y4 hb5 O5 P1 P2
      go_wp2_with (at_builtin; refine wpList_appR _ rfl _ _ rfl w1.heap.size _ _ _ ((genZ m).take k) row rfl rfl OO5 ((Blk.new w5 47 _).facts.1 0) rfl rx (by omega) s55 ?_)
      intro v6 w6 O6 hG6 ho6
      have Y6 : Bel w w6 := Y5.grown hG6 (fun q hq => by have := (HOB2.out q hq).1; omega)
      have X6 := X5.grown hG6 (fun e => by have := (HOB2.out _ e).1; omega)
      have R6 := R5.grown hG6 (fun e => by have := (HOB2.out _ e).1; omega)
      have s6 := Nat.le_trans s55 hG6.size
      rw [← HS.out] at O6
      clear hG6 ho6 rx OO5 X5 R5 Y5
      go_wp2
      go_roundg (m.length - (k + 1))
      case measure => have := HK.out; omega
      case rel => exact ⟨k + 1, by omega, by go_num, X6, R6, O6, Y6, s6⟩
    · obtain rfl : k = m.length := by omega
      have i1 : ¬ (m.length : Int) < (m.length : Int) := by omega
      have HTK : Hid ((genZ m).take m.length = genZ m) := Lib.hid (List.take_of_length_le (by rw [genZ_len]; exact Nat.le_refl _))
      rw [HTK.out] at O
      have rx0 : wr.cell? ⟨w.heap.size, 0, none⟩ = some (.int .i64 a) := cx 0
      have rx1 : wr.cell? ⟨w.heap.size, 1, none⟩ = some (.slice A m.length cp) := cx 1
      obtain ⟨Ao, co, eo, _, _⟩ := O.shape
      subst eo
      have RO := Lib.hid O.reads
      have HV := Lib.hid (hv.keep Y)
      have Yd := (Bel.refl wr).drew
      have hcc : IntKind.i64.wrap ((m.length : Int) + (colN m : Int)) = ((m.length + colN m : Nat) : Int) := by rw [IntWalk.i64_in _ (by omega)]; omega
      have hc24 : m.length + colN m ≤ 40 := by omega
      generalize genZ m = gz at *
      generalize m.length + colN m = c at *
      clear cx O
      go_wp2_with fail
      go_region_held3 (fun w' => w'.cell? ⟨w.heap.size, 0, none⟩ = some (.int .i64 a) ∧ w'.cell? ⟨w.heap.size, 1, none⟩ = some (.slice A m.length cp)) (first | exact ⟨YE.cell1 zx rx0, YE.cell1 zx rx1⟩ | exact ⟨Yd.cell1 zx rx0, Yd.cell1 zx rx1⟩ | go_keep) (first
        | (go_at_call 31; ((with_reducible refine (colS _ m _ (by exact HV.out.keep Yd)).mono ?_); rintro e wA ⟨rfl, rfl⟩))
        | (go_at_call 69; ((with_reducible refine (spanS _ gz c _ (by exact RO.out.keep Yd) hc24).mono ?_); rintro e wE ⟨rv, rfl, Oe, hbE⟩; obtain ⟨Ae, ce, ee, _, _⟩ := Oe.shape; subst ee; have YE : Bel wr wE := Yd.trans hbE; have RE := YE.keep R; have cq0 := RE.facts.1 0; have cq1 := RE.facts.1 1; have fq0 := RE.facts.2.1 0; have fq1 := RE.facts.2.1 1)))
      all_goals (
        have cr := RE.facts.1
        have zr := RE.lt
        have YF := Y.trans YE
        have zR := R.lt
        have O3 := ((Oe.low (show w.heap.size + 2 ≤ _ from zR)).setFar (p := ⟨w.heap.size + 1, 0, none⟩) (by dsimp only; omega) (.int .i64 (c : Int))).setFar (p := ⟨w.heap.size + 1, 1, none⟩) (by dsimp only; omega) (.slice Ae (spanZ c gz).length ce)
        have Y3 := (YF.setCell (p := ⟨w.heap.size + 1, 0, none⟩) (by dsimp only; omega) (.int .i64 (c : Int))).setCell (p := ⟨w.heap.size + 1, 1, none⟩) (by dsimp only; omega) (.slice Ae (spanZ c gz).length ce)
        go_wp2
        refine bodyPost_ret (v := .agg #[.int .i64 (c : Int), .slice Ae (spanZ c gz).length ce]) (by simp [results, Tryz.results30, go_sem, cr]) rfl ⟨_, by rw [HF1.out], by rw [HF2.out]; have h9 := O3.low (show w.heap.size ≤ w.heap.size + 2 by omega); rw [HT.out] at h9 ⊢; exact h9, Y3⟩)
end Go.Proofs.YtjaagabbbnokdaaGreat

namespace Go.Proofs.YtjaagabbbnokdaaGreat
open Go.ChangeShapes Go.WideShapes Go.ChangeAt Go.RowKit
set_option linter.unusedVariables false

theorem mtx_fl {c : Nat} {m : List (List Int)} (h : Mtx c m) : flN m ≤ m.length * c := flat_len (fun r hr => Nat.le_of_eq (h r hr).1)
theorem gspM_fl (a : Int) (m : List (List Int)) : flN (gspM a m) ≤ 1600 := by
  obtain ⟨h1, h2, h3⟩ := gspM_bd a m
  have h4 := mtx_fl h3
  have h5 : (gspM a m).length * gspN a m ≤ 8 * 24 := Nat.mul_le_mul h2 h1
  omega
end Go.Proofs.YtjaagabbbnokdaaGreat
