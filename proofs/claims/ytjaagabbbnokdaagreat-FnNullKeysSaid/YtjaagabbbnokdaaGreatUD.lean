/-
  MakeNullKeys of the program: contract. No condition.
-/
import Derived.Test.YtjaagabbbnokdaaGreatUC
namespace Go.Proofs.YtjaagabbbnokdaaGreat
open Go.ChangeShapes Go.WideShapes Go.ChangeAt Go.RowKit
set_option linter.unusedVariables false
set_option maxRecDepth 100000

set_option maxHeartbeats 8000000 in
theorem mnkI (a s n : Int) (v : Value) (m : List (List Int)) (w : World) (hv : RII w v m) (hs : -9223372036854775808 ≤ s ∧ s ≤ 9223372036854775807) :
    Calls Tryz.prog 8 #[.agg #[.int .i64 a, v], .int .i64 s, .int .i64 n] w fun e w' => ∃ r, e = .returned (.tuple #[.agg #[.int .i64 (mnkA a m n), .int .i64 (mnkN a m n), .int .i64 (mnkW a m n), r], .bool (mnkB a m n)]) ∧ OM w' w.heap.size r (mnkK a m s n) ∧ Bel w w' := by
  have HM : Hid (mnkB a m n = (gnrB a m && inB n 1 4)) := rfl
  obtain ⟨A, cp, rfl, h2, h3, hA⟩ := id hv
  have X := (Blk.new w 30 #[.int .i64 a, .slice A m.length cp]).alloc (.cells #[.int .i64 0, .int .i64 0, .int .i64 0, .slice none 0 0] 27)
  have R := Blk.new2 w (.cells #[.int .i64 a, .slice A m.length cp] 30) 27 #[.int .i64 0, .int .i64 0, .int .i64 0, .slice none 0 0]
  have Y : Bel w ((w.alloc (.cells #[.int .i64 a, .slice A m.length cp] 30)).alloc (.cells #[.int .i64 0, .int .i64 0, .int .i64 0, .slice none 0 0] 27)) := ((Bel.refl _).alloc _).alloc _
  have HNO := fun (h : mnkB a m n = false) => Lib.hid (mnk_no h s)
  obtain ⟨cx, _, zx⟩ := X.facts
  go_enter Tryz.func8, Tryz.ntmps8
  go_wp2_with fail
  refine (gnrI a _ m _ (hv.keep Y)).mono ?_
  rintro e w1 ⟨rfl, hb1⟩
  have X1 := hb1.keep X
  have R1 := hb1.keep R
  have Y1 := Y.trans hb1
  clear cx zx X R Y hb1
  obtain ⟨cx, _, zx⟩ := X1.facts
  obtain ⟨cr, fr, zr⟩ := R1.facts
  have sz1 := R1.lt
  cases q1 : gnrB a m
  · have HQ : Hid (mnkB a m n = false) := Lib.hid (by rw [HM.out, q1]; rfl)
    have HN := HNO HQ.out
    clear q1
    have Y2 := (((Y1.setCell (p := ⟨w.heap.size + 1, 0, none⟩) (by dsimp only; omega) (.int .i64 0)).setCell (p := ⟨w.heap.size + 1, 1, none⟩) (by dsimp only; omega) (.int .i64 0)).setCell (p := ⟨w.heap.size + 1, 2, none⟩) (by dsimp only; omega) (.int .i64 0)).setCell (p := ⟨w.heap.size + 1, 3, none⟩) (by dsimp only; omega) (.slice none 0 0)
    go_wp2
    refine bodyPost_ret (v := .tuple #[.agg #[.int .i64 0, .int .i64 0, .int .i64 0, .slice none 0 0], .bool false]) (by simp [results, Tryz.results8, go_sem, cr]) rfl ⟨.slice none 0 0, by rw [HN.out.1, HN.out.2.1, HN.out.2.2.1, HQ.out], by rw [HN.out.2.2.2]; exact OM.nil _ _, Y2⟩
  go_wp2_with fail
  refine (inRB n 1 4 _).mono ?_
  rintro e w2 ⟨rfl, rfl⟩
  cases q2 : inB n 1 4
  · have HQ : Hid (mnkB a m n = false) := Lib.hid (by rw [HM.out, q2]; simp)
    have HN := HNO HQ.out
    clear q2 q1
    have Y2 := (((Y1.setCell (p := ⟨w.heap.size + 1, 0, none⟩) (by dsimp only; omega) (.int .i64 0)).setCell (p := ⟨w.heap.size + 1, 1, none⟩) (by dsimp only; omega) (.int .i64 0)).setCell (p := ⟨w.heap.size + 1, 2, none⟩) (by dsimp only; omega) (.int .i64 0)).setCell (p := ⟨w.heap.size + 1, 3, none⟩) (by dsimp only; omega) (.slice none 0 0)
    go_wp2
    refine bodyPost_ret (v := .tuple #[.agg #[.int .i64 0, .int .i64 0, .int .i64 0, .slice none 0 0], .bool false]) (by simp [results, Tryz.results8, go_sem, cr]) rfl ⟨.slice none 0 0, by rw [HN.out.1, HN.out.2.1, HN.out.2.2.1, HQ.out], by rw [HN.out.2.2.2]; exact OM.nil _ _, Y2⟩
  have q4 := inB_facts q2
  obtain ⟨cn, rfl⟩ : ∃ k : Nat, n = (k : Int) := Int.eq_ofNat_of_zero_le (by omega)
  have HQ : Hid (mnkB a m (cn : Int) = true) := Lib.hid (by rw [HM.out, q1, q2]; rfl)
  have HN := Lib.hid (mnk_yes HQ.out s)
  have HG := Lib.hid q1
  obtain ⟨g1, g2⟩ := gsp_yes q1
  have HGM := Lib.hid g2
  have HGN := Lib.hid g1
  obtain ⟨_, ⟨fl1, fl2⟩, ⟨fc1, fc2⟩, fm, _⟩ := gnrB_facts q1
  have HRG := Lib.hid (genZ_red fm)
  have HRF := Lib.hid (mnkR_facts q1)
  have HRE : Hid (mnkR m = orthZ (m.length + colN m) (genZ m)) := rfl
  obtain ⟨c, hcdef⟩ : ∃ c, c = m.length + colN m := ⟨_, rfl⟩
  rw [← hcdef] at HGN HRG HRE
  have hc40 : c ≤ 40 := by omega
  clear hcdef
  have hcn : cn ≤ 4 := by omega
  clear q1 q2 q4 g1 g2 fm cx zx cr fr zr HM HNO
  obtain ⟨cx, _, zx⟩ := X1.facts
  go_wp2_with fail
  refine (gspI a _ m _ (hv.keep Y1)).mono ?_
  rintro e w3 ⟨r3, rfl, O3, hb3⟩
  rw [HGM.out] at O3
  rw [HGN.out]
  have X3 := hb3.keep X1
  have R3 := hb3.keep R1
  have Y3 := Y1.trans hb3
  obtain ⟨A3, c3, e3, _, _, _⟩ := O3.reads
  subst e3
  have RR3 := Lib.hid O3.reads
  clear cx zx X1 R1 Y1 hb3 O3
  go_wp2_with fail
  refine (orthI _ (genZ m) c _ _ RR3.out HRG.out hc40).mono ?_
  rintro e w4 ⟨r4, rfl, O4, hb4⟩
  rw [← HRE.out] at O4
  have X4 := hb4.keep X3
  have R4 := hb4.keep R3
  have Y4 := Y3.trans hb4
  obtain ⟨A4, c4, e4, _, _, _⟩ := O4.reads
  subst e4
  have RR4 := Lib.hid O4.reads
  clear X3 R3 Y3 hb4 O4
  have hfl : ∀ (u : Value) (w : World), (Instr.field 40 (.agg #[.int .i64 (c : Int), u]) 1).run Tryz.prog w = .ok u w := fun u w => fldB c u w
  obtain ⟨cx, _, zx⟩ := X4.facts
  have d0 : w4.cell? ⟨w.heap.size, 0, none⟩ = some (.int .i64 a) := cx 0
  have d1 : w4.cell? ⟨w.heap.size, 1, none⟩ = some (.slice A m.length cp) := cx 1
  clear cx
  have HSW := Lib.hid (fun (W : World) (h : Bel w W) => symwI a (.slice A m.length cp) m W (hv.keep h))
  have sz4 := R4.lt
  go_wp2
  go_region_held3 (fun w' => w'.cell? ⟨w.heap.size, 0, none⟩ = some (.int .i64 a) ∧ w'.cell? ⟨w.heap.size, 1, none⟩ = some (.slice A m.length cp)) (first | exact ⟨e0, e1⟩ | exact ⟨d0, d1⟩ | (have X9 := (((XT.far (p := ⟨w4.heap.size, 0, none⟩) (by dsimp only; omega) (.int .i64 a)).far (p := ⟨w4.heap.size, 1, none⟩) (by dsimp only; omega) (.int .i64 (m.length : Int))).far (p := ⟨w4.heap.size, 2, none⟩) (by dsimp only; omega) (.int .i64 (colN m : Int))).far (p := ⟨w4.heap.size, 3, none⟩) (by dsimp only; omega) (.slice none 0 0); exact ⟨X9.facts.1 0, X9.facts.1 1⟩) | (have X9 := XT.alloc (.cells #[.int .i64 a, .int .i64 (m.length : Int), .int .i64 (colN m : Int), .slice none 0 0] 27); exact ⟨X9.facts.1 0, X9.facts.1 1⟩) | (have X9 := XT.alloc (.cells #[.int .i64 0, .int .i64 0, .int .i64 0, .slice none 0 0] 27); exact ⟨X9.facts.1 0, X9.facts.1 1⟩) | go_keep) (first | (go_at_call 38; refine (HSW.out _ ?_).mono ?_; (repeat (first | with_reducible exact Y4 | apply Bel.alloc | apply Bel.drew)); rintro e wT ⟨rfl, hbT⟩; (first | (have XT := hbT.keep (X4.alloc (.cells #[.int .i64 0, .int .i64 0, .int .i64 0, .slice none 0 0] 27)); have GT : Blk wT w4.heap.size 27 #[.int .i64 0, .int .i64 0, .int .i64 0, .slice none 0 0] := hbT.keep (Blk.new _ _ _); obtain ⟨cGT, fGT, zGT⟩ := GT.facts) | have XT := hbT.keep X4); have e0 := XT.facts.1 0; have e1 := XT.facts.1 1))
  all_goals (
    first
    | (have GF := Blk.new wT 27 #[.int .i64 a, .int .i64 (m.length : Int), .int .i64 (colN m : Int), .slice none 0 0]
       have YF : Bel w4 (wT.alloc (.cells #[.int .i64 a, .int .i64 (m.length : Int), .int .i64 (colN m : Int), .slice none 0 0] 27)) := ((Bel.refl w4).drew.trans hbT).alloc _
       have hpB : w4.heap.size ≤ wT.heap.size := hbT.size
       clear hbT XT e0 e1
       generalize wT.alloc (.cells #[.int .i64 a, .int .i64 (m.length : Int), .int .i64 (colN m : Int), .slice none 0 0] 27) = wF at *
       generalize wT.heap.size = pB at *)
    | (have GF : Blk ((((wT.setCell ⟨w4.heap.size, 0, none⟩ (.int .i64 a)).setCell ⟨w4.heap.size, 1, none⟩ (.int .i64 (m.length : Int))).setCell ⟨w4.heap.size, 2, none⟩ (.int .i64 (colN m : Int))).setCell ⟨w4.heap.size, 3, none⟩ (.slice none 0 0)) w4.heap.size 27 #[.int .i64 a, .int .i64 (m.length : Int), .int .i64 (colN m : Int), .slice none 0 0] := (((GT.set 0 (.int .i64 a)).set 1 (.int .i64 (m.length : Int))).set 2 (.int .i64 (colN m : Int))).set 3 (.slice none 0 0)
       have YF : Bel w4 ((((wT.setCell ⟨w4.heap.size, 0, none⟩ (.int .i64 a)).setCell ⟨w4.heap.size, 1, none⟩ (.int .i64 (m.length : Int))).setCell ⟨w4.heap.size, 2, none⟩ (.int .i64 (colN m : Int))).setCell ⟨w4.heap.size, 3, none⟩ (.slice none 0 0)) := ((((((Bel.refl w4).alloc (.cells #[.int .i64 0, .int .i64 0, .int .i64 0, .slice none 0 0] 27)).drew.trans hbT).setCell (p := ⟨w4.heap.size, 0, none⟩) (by dsimp only; omega) (.int .i64 a)).setCell (p := ⟨w4.heap.size, 1, none⟩) (by dsimp only; omega) (.int .i64 (m.length : Int))).setCell (p := ⟨w4.heap.size, 2, none⟩) (by dsimp only; omega) (.int .i64 (colN m : Int))).setCell (p := ⟨w4.heap.size, 3, none⟩) (by dsimp only; omega) (.slice none 0 0)
       have hpB : w4.heap.size ≤ w4.heap.size := Nat.le_refl _
       clear hbT XT e0 e1 GT cGT fGT zGT
       generalize ((((wT.setCell ⟨w4.heap.size, 0, none⟩ (.int .i64 a)).setCell ⟨w4.heap.size, 1, none⟩ (.int .i64 (m.length : Int))).setCell ⟨w4.heap.size, 2, none⟩ (.int .i64 (colN m : Int))).setCell ⟨w4.heap.size, 3, none⟩ (.slice none 0 0)) = wF at *
       obtain ⟨pB, hpB2⟩ : ∃ pB, pB = w4.heap.size := ⟨_, rfl⟩
       have HPB := Lib.hid hpB2
       rw [← hpB2] at GF
       try rw [← hpB2]
       replace hpB : w4.heap.size ≤ pB := by omega
       clear hpB2)
    clear d0 d1 zx X4
    have hpB2 : w.heap.size + 2 ≤ pB := by omega
    have L0 : OM wF (pB + 1) (.slice none 0 0) (mnkL m s 0) := OM.nil _ _
    
    go_wp2
    go_loopg [33] cn (fun f i wr => ∃ (k : Nat) (o : Value), k + f = cn ∧ i = .int .i64 k ∧ Blk wr pB 27 #[.int .i64 a, .int .i64 (m.length : Int), .int .i64 (colN m : Int), o] ∧ OM wr (pB + 1) o (mnkL m s k) ∧ Bel w4 wr)
    case atStart => exact ⟨0, _, by omega, rfl, GF, L0, YF⟩
    case round =>
      clear GF L0 YF
      obtain ⟨k, o, hk, rfl, G, O, YB⟩ := hrel
      have hk2 : k ≤ cn := by omega
      have HK := Lib.hid hk
      clear hk
      by_cases hlt : k < cn
      · have i0 : (0 : Int) ≤ (k : Int) := by omega
        have i1 : (k : Int) < (cn : Int) := by omega
        obtain ⟨z, hz⟩ : ∃ z, z = wrap64 (s + (k : Int)) := ⟨_, rfl⟩
        have mw : IntKind.i64.wrap (s + (k : Int)) = z := by rw [hz]; exact IntWalk.i64_left _
        have HZB : Hid (-9223372036854775808 ≤ z ∧ z ≤ 9223372036854775807) := Lib.hid (by rw [hz]; unfold wrap64; omega)
        obtain ⟨hr0, hr1, hr2, hr3⟩ := HRF.out
        have HCM := Lib.hid (mnkX_com HG.out z)
        have HSTP := Lib.hid (mnkL_step m s k)
        have HX : Hid (lcZ (mnkR m) (rvZ z (mnkR m).length) = mnkX m s k) := Lib.hid (by rw [hz]; rfl)
        have hyl := mnkX_len HG.out s k
        have hlen : (mnkL m s k).length ≤ 4 := by rw [mnkL_len]; omega
        have RR := Lib.hid (RR4.out.keep YB)
        have Yd := (Bel.refl wr).drew
        obtain ⟨cg, fg, zg⟩ := G.facts
        have rg : wr.cell? ⟨pB, 3, none⟩ = some o := cg 3
        
        
        clear hz cg fg
        generalize hLT : mnkL m s k = LT at *
        generalize mnkX m s k = ys at *
        have eLT : (LT ++ [ys]).length = LT.length + 1 := by simp
        have HON := Lib.hid (fun q hq => (O.block q hq))
        obtain ⟨Ao, co, eo, _, _, _⟩ := O.reads
        subst eo
        have zgS := zg
        
        
        go_wp2
        go_region_law (first
          | (go_simp; go_at_call 40; refine (rvI z (mnkR m).length _ HZB.out (by omega) (by omega)).mono ?_; rintro e wT ⟨rT, rfl, Ov, hbT⟩; obtain ⟨Ar, cr, er, _, _, _⟩ := Ov.reads; subst er; have rgT := hbT.cell1 zg rg; have zgT := Nat.lt_of_lt_of_le zg hbT.size)
          | (go_simp; go_at_call 39; refine (cmbI _ _ (mnkR m) (rvZ z (mnkR m).length) _ ?_ ?_ HCM.out).mono ?_; exact RR.out.keep (Yd.trans hbT); exact Ov.reads; rintro e wU ⟨rU, rfl, Ow, hbU⟩; rw [HX.out] at Ow; obtain ⟨Aw, cw, ew, _, _, _⟩ := Ow.reads; subst ew; have rgU := hbU.cell1 zgT rgT; have rgUA := (hbU.alloc (.cells #[.slice Aw ys.length cw] 47)).cell1 zgT rgT)
          | (refine step_appO _ (by rfl) _ _ (by rfl) (pB + 1) wr.heap.size _ _ _ LT ys (by rfl) (by rfl) (by exact OII.keep O (Nat.le_refl _) (((Yd.trans hbT).trans hbU).alloc _)) (by omega) (by exact Nat.le_trans (hbT.trans hbU).size (by simp)) (by exact (Blk.new wU 47 _).facts.1 0) (by rfl) (by exact (OI.keep (OI.low Ow hbT.size) ((Bel.refl wU).alloc _))) (by omega) ?_; intro v2 w2 O2 hG ho2; have G2 := (((hbT.trans hbU).keep G.drew).alloc (.cells #[.slice Aw ys.length cw] 47)).grown hG (fun e => by have := (HON.out _ e).1; omega); obtain ⟨Av2, cv2, ev2, _, _, _⟩ := O2.reads; rw [eLT] at ev2; subst ev2; have rg2 := G2.facts.1 3; have fg2 := G2.facts.2.1 3))
        all_goals (
          have Y2 : Bel w4 w2 := (((YB.drew.trans hbT).trans hbU).alloc _).grown hG (fun q hq => by have := (HON.out q hq).1; omega)
          have G3 : Blk (w2.setCell ⟨pB, 3, none⟩ (.slice Av2 (LT.length + 1) cv2)) pB 27 #[.int .i64 a, .int .i64 (m.length : Int), .int .i64 (colN m : Int), .slice Av2 (LT.length + 1) cv2] := G2.set 3 (.slice Av2 (LT.length + 1) cv2)
          have O3 := OM.setFar O2 (p := ⟨pB, 3, none⟩) (by dsimp only; omega) (.slice Av2 (LT.length + 1) cv2)
          have Y3 := Y2.setCell (p := ⟨pB, 3, none⟩) hpB (.slice Av2 (LT.length + 1) cv2)
          
          rw [← HSTP.out] at O3
          clear hbT hbU hG ho2 O2 Y2 G2 rg2 fg2 rg
          go_wp2
          go_roundg (cn - (k + 1))
          case measure => have := HK.out; omega
          case rel => exact ⟨k + 1, _, by omega, by go_num, G3, O3, Y3⟩)
      · obtain rfl : cn = k := by omega
        have i1 : ¬ (cn : Int) < (cn : Int) := by omega
        obtain ⟨D, hD⟩ : ∃ D, D = mnkL m s cn := ⟨_, rfl⟩
        rw [← hD] at O HN
        clear hD
        obtain ⟨Ao, co, eo, _, _, _⟩ := O.reads
        subst eo
        obtain ⟨cg, fg, zg⟩ := G.facts
        have RW := YB.keep R4
        obtain ⟨cr, fr, zr⟩ := RW.facts
        have YW := Y4.trans YB
        have Y3 := (((YW.setCell (p := ⟨w.heap.size + 1, 0, none⟩) (by dsimp only; omega) (.int .i64 a)).setCell (p := ⟨w.heap.size + 1, 1, none⟩) (by dsimp only; omega) (.int .i64 (m.length : Int))).setCell (p := ⟨w.heap.size + 1, 2, none⟩) (by dsimp only; omega) (.int .i64 (colN m : Int))).setCell (p := ⟨w.heap.size + 1, 3, none⟩) (by dsimp only; omega) (.slice Ao D.length co)
        have O3 := OM.setFar (OM.setFar (OM.setFar (OM.setFar O (p := ⟨w.heap.size + 1, 0, none⟩) (by dsimp only; omega) (.int .i64 a)) (p := ⟨w.heap.size + 1, 1, none⟩) (by dsimp only; omega) (.int .i64 (m.length : Int))) (p := ⟨w.heap.size + 1, 2, none⟩) (by dsimp only; omega) (.int .i64 (colN m : Int))) (p := ⟨w.heap.size + 1, 3, none⟩) (by dsimp only; omega) (.slice Ao D.length co)
        go_wp2
        refine bodyPost_ret (v := .tuple #[.agg #[.int .i64 a, .int .i64 (m.length : Int), .int .i64 (colN m : Int), .slice Ao D.length co], .bool true]) (by simp [results, Tryz.results8, go_sem, cr]) rfl ⟨.slice Ao D.length co, by rw [HN.out.1, HN.out.2.1, HN.out.2.2.1, HQ.out], by rw [HN.out.2.2.2]; exact OM.low O3 (by omega), Y3⟩)
end Go.Proofs.YtjaagabbbnokdaaGreat
