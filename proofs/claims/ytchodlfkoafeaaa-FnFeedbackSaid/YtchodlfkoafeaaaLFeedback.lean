/-
  FnFeedback: for every drawn table and report, recording only lowers what is missing, and a generation is done if and only if all sinks have reported so. No condition.
-/
import Derived.Test.YtchodlfkoafeaaaDrh8
import Derived.Test.YtchodlfkoafeaaaFbP
import Derived.Test.YtchodlfkoafeaaaFb1
import Derived.Test.YtchodlfkoafeaaaFb3
import Derived.Test.YtchodlfkoafeaaaFb4
import Derived.Deep.RegionHeld3
namespace Go.Proofs.Ytchodlfkoafeaaa.fnFeedback
open Go.ChangeShapes Go.WideShapes Go.ChangeAt Go.RowKit
set_option linter.unusedVariables false
set_option maxRecDepth 100000

set_option maxHeartbeats 4000000 in
theorem walk (w : World) (v0 : Value) (x0 : Nat) (f0 : IsBytes w v0 x0) :
    Calls Try.prog 5 #[v0] w fun e w' => e = .returned (.bool true) ∧ Below w.heap.size w w' := by
  have hv : RB w v0 x0 := f0
  by_cases hbig : (1048576 : Int) < (x0 : Int)
  · have HD : Hid (decide ((1048576 : Int) < (x0 : Int)) = true) := Lib.hid (decide_eq_true hbig)
    go_enter Try.func5, Try.ntmps5
    go_wp2_with fail
    refine (bigL _ x0 _ hv).mono ?_
    rintro e w1 ⟨rfl, rfl⟩
    rw [HD.out]
    go_wp2
    go_ret
    exact ⟨rfl, Bel.refl _⟩
  have hn : x0 ≤ 1048576 := by omega
  have HD : Hid (decide ((1048576 : Int) < (x0 : Int)) = false) := Lib.hid (decide_eq_false hbig)
  clear hbig
  go_enter Try.func5, Try.ntmps5
  go_wp2_with fail
  refine (bigL _ x0 _ hv).mono ?_
  rintro e w1 ⟨rfl, rfl⟩
  rw [HD.out]
  clear HD
  go_wp2_with fail
  refine (drawRfS _ x0 _ hv hn).mono ?_
  rintro e w1 ⟨r, fs, x, y, z, rfl, R1, hfl, Y1⟩
  obtain ⟨A, c, er, _, _, _⟩ := id R1
  subst er
  have hfl' : fs.length ≤ 1048576 := by omega
  have B2 := ((Bel.refl w1).alloc (.cells #[.slice A fs.length c] 40)).alloc (.cells #[.int .i64 x, .int .i64 y, .int .i64 z] 43)
  have K2 := (Blk.new w1 40 #[.slice A fs.length c]).alloc (.cells #[.int .i64 x, .int .i64 y, .int .i64 z] 43)
  have F2 := Blk.new2 w1 (.cells #[.slice A fs.length c] 40) 43 #[.int .i64 x, .int .i64 y, .int .i64 z]
  have R2 := R1.keep B2
  have Y2 := Y1.trans B2
  clear R1 B2
  obtain ⟨ck, fk, zk⟩ := K2.facts
  obtain ⟨cf, ff, zf⟩ := F2.facts
  go_wp2_with fail
  refine (recfI _ fs x y z _ R2 hfl').mono ?_
  rintro e w3 ⟨q, rfl, O3, b3⟩
  clear ck fk zk cf ff zf
  obtain ⟨D, hD⟩ : ∃ D, D = recZ fs (x, y, z) := ⟨_, rfl⟩
  have hDl : D.length ≤ 1048576 := by have := recZ_len fs (x, y, z); rw [hD]; omega
  rw [← hD] at O3
  have HD := Lib.hid hD
  clear hD
  obtain ⟨Aq, cq, eq, _, _, _⟩ := O3.reads
  subst eq
  have hz3 : w1.heap.size + 2 ≤ w3.heap.size := by have := b3.size; rw [World.size_alloc, World.size_alloc] at this; exact this
  have B4 := (Bel.refl w3).alloc (.cells #[.slice Aq D.length cq] 40)
  have K4 := (b3.keep K2).alloc (.cells #[.slice Aq D.length cq] 40)
  have F4 := (b3.keep F2).alloc (.cells #[.slice Aq D.length cq] 40)
  have X4 : Blk (w3.alloc (.cells #[.slice Aq D.length cq] 40)) w3.heap.size 40 #[.slice Aq D.length cq] := Blk.new w3 _ _
  have R4 := (R2.keep b3).keep B4
  have S4 := O3.reads.keep B4
  have Y4 := (Y2.trans b3).trans B4
  clear K2 F2 R2 O3 Y2 b3 B4
  obtain ⟨ck, fk, zk⟩ := K4.facts
  go_wp2_with fail
  refine (tabS _ fs _ R4).mono ?_
  rintro e w5 ⟨rfl, b5⟩
  clear ck fk zk
  have K5 := b5.keep K4
  have F5 := b5.keep F4
  have X5 := b5.keep X4
  have R5 := R4.keep b5
  have S5 := S4.keep b5
  have Y5 := Y4.trans b5
  clear K4 F4 X4 R4 S4 Y4 b5
  generalize w3.heap.size = gX at *
  generalize w1.heap.size = gT at *
  have inval : (tabB fs && fbB x y z) = false → D = fs := fun h => by rw [HD.out]; exact rec_invalid h
  have HINV := Lib.hid inval
  clear inval
  cases htab : tabB fs with
  | false =>
    have hDf : D = fs := HINV.out (by rw [htab]; rfl)
    have HDF := Lib.hid hDf
    clear hDf
    obtain ⟨ck, fk, zk⟩ := K5.facts
    obtain ⟨cx, fx, zx⟩ := X5.facts
    go_wp2_with fail
    refine (eqFbtI _ _ D fs _ S5 R5).mono ?_
    rintro e w6 ⟨rfl, b6⟩
    rw [decide_eq_true HDF.out]
    go_wp2
    go_ret
    exact ⟨rfl, Y5.trans b6⟩
  | true =>
    obtain ⟨cf, ff, zf⟩ := F5.facts
    go_wp2_with fail
    refine (fbS_lit x y z _ _ rfl).mono ?_
    rintro e w6 ⟨rfl, b6⟩
    clear cf ff zf
    have K6 := b6.keep K5
    have F6 := b6.keep F5
    have X6 := b6.keep X5
    have R6 := R5.keep b6
    have S6 := S5.keep b6
    have Y6 := Y5.trans b6
    clear K5 F5 X5 R5 S5 Y5 b6
    cases hfb : fbB x y z with
    | false =>
      have hDf : D = fs := HINV.out (by rw [hfb, Bool.and_false])
      have HDF := Lib.hid hDf
      clear hDf
      obtain ⟨ck, fk, zk⟩ := K6.facts
      obtain ⟨cx, fx, zx⟩ := X6.facts
      go_wp2_with fail
      refine (eqFbtI _ _ D fs _ S6 R6).mono ?_
      rintro e w7 ⟨rfl, b7⟩
      rw [decide_eq_true HDF.out]
      go_wp2
      go_ret
      exact ⟨rfl, Y6.trans b7⟩
    | true =>
      obtain ⟨l1, l2, l3, l4⟩ := rec_law (f := (x, y, z)) htab hfb
      rw [← HD.out] at l1 l2 l3 l4
      dsimp only at l2 l3
      have L1 := Lib.hid l1
      have L4 := Lib.hid l4
      have LFG : Hid (∀ zz, missZ (fgtL y D) y zz x = zz) := Lib.hid (fun zz => fgt_miss D y x zz)
      clear HINV l1 l4 htab hfb
      have n2 : ¬ z < missZ D y 99 x := by omega
      have n3 : ¬ missZ fs y 99 x < missZ D y 99 x := by omega
      clear l2 l3
      obtain ⟨cx, fx, zx⟩ := X6.facts
      obtain ⟨cf, ff, zf⟩ := F6.facts
      go_wp2_with fail
      refine (degI y 99 _ _ D [x] _ (S6.keep ((Bel.refl _).alloc _)) (RI.lit1 _ _ _)).mono ?_
      rintro e w7 ⟨rfl, b7⟩
      rw [show ([x] : List Int).length = 1 from rfl, deg_one]
      have b7' := ((Bel.refl w6).alloc (.cells #[.int .i64 x] 3)).trans b7
      clear cx fx zx cf ff zf
      have K7 := b7'.keep K6
      have F7 := b7'.keep F6
      have X7 := b7'.keep X6
      have R7 := R6.keep b7'
      have S7 := S6.keep b7'
      have Y7 := Y6.trans b7'
      clear K6 F6 X6 R6 S6 Y6 b7 b7'
      have HSW : ∀ W, Bel w7 W → W.cell? ⟨gT, 0, none⟩ = some (.slice A fs.length c) ∧ W.cell? ⟨gX, 0, none⟩ = some (.slice Aq D.length cq) ∧ W.cell? ⟨gT + 1, 0, none⟩ = some (.int .i64 x) ∧ W.cell? ⟨gT + 1, 1, none⟩ = some (.int .i64 y) ∧ W.cell? ⟨gT + 1, 2, none⟩ = some (.int .i64 z) := fun W b =>
        ⟨b.cell1 K7.lt (K7.facts.1 0), b.cell1 X7.lt (X7.facts.1 0), b.cell1 F7.lt (F7.facts.1 0), b.cell1 F7.lt (F7.facts.1 1), b.cell1 F7.lt (F7.facts.1 2)⟩
      have B0 := (Bel.refl w7).drew
      have CT : ∀ W, Bel w7 W → Calls Try.prog 26 #[.agg #[.slice Aq D.length cq]] W (fun e w' => e = .returned (.bool true) ∧ Bel W w') := fun W b => by
        have h := tabI _ D W (S7.keep b)
        rwa [L1.out] at h
      have CD : ∀ W, Bel w7 W → Calls Try.prog 25 #[.agg #[.slice A fs.length c], .int .i64 y, .slice (some ⟨W.heap.size, 0, none⟩) 1 1, .int .i64 99] (W.alloc (.cells #[.int .i64 x] 3)) (fun e w' => e = .returned (.int .i64 (missZ fs y 99 x)) ∧ Bel (W.alloc (.cells #[.int .i64 x] 3)) w') := fun W b => by
        have h := degI y 99 _ _ fs [x] _ ((R7.keep b).keep ((Bel.refl W).alloc (.cells #[.int .i64 x] 3))) (RI.lit1 W _ x)
        rwa [show ([x] : List Int).length = 1 from rfl, deg_one] at h
      have CR : ∀ W, Bel w7 W → Calls Try.prog 16 #[.agg #[.slice Aq D.length cq], .agg #[.int .i64 x, .int .i64 y, .int .i64 z]] W (fun e w' => ∃ r, e = .returned (.agg #[r]) ∧ OT 43 w' W.heap.size r D ∧ Bel W w') := fun W b => by
        have h := recfI _ D x y z W (S7.keep b) hDl
        rwa [L4.out] at h
      have CE : ∀ W r, RT W r D → Bel w7 W → Calls Try.prog 24 #[.agg #[r], .agg #[.slice Aq D.length cq]] W (fun e w' => e = .returned (.bool true) ∧ Bel W w') := fun W r h b => by
        have h := eqFbtI _ _ D D W h (S7.keep b)
        rwa [decide_eq_true rfl] at h
      have dn2 : decide (z < missZ D y 99 x) = false := decide_eq_false (by omega)
      have dn3 : decide (missZ fs y 99 x < missZ D y 99 x) = false := decide_eq_false (by omega)
      clear n2 n3
      go_upto_region 8 with fail
      go_region_held3 (fun W => W.cell? ⟨gT, 0, none⟩ = some (.slice A fs.length c) ∧ W.cell? ⟨gX, 0, none⟩ = some (.slice Aq D.length cq) ∧ W.cell? ⟨gT + 1, 0, none⟩ = some (.int .i64 x) ∧ W.cell? ⟨gT + 1, 1, none⟩ = some (.int .i64 y) ∧ W.cell? ⟨gT + 1, 2, none⟩ = some (.int .i64 z)) (first | assumption | with_reducible exact HSW _ B0 | with_reducible exact HSW _ Ba | with_reducible exact HSW _ BaL | with_reducible exact HSW _ Bb | with_reducible exact HSW _ Bc | with_reducible exact HSW _ Bd) (first
        | (go_at_call 26; (with_reducible refine (CT _ B0).mono ?_); rintro e wa ⟨rfl, ba⟩; have Ba := B0.trans ba; have BaL := Ba.alloc (.cells #[.int .i64 x] 3))
        | (go_at_call 25; (with_reducible refine (CD _ Ba).mono ?_); rintro e wb ⟨rfl, bb⟩; have Bb := BaL.trans bb)
        | (go_at_call 16; (with_reducible refine (CR _ Bb).mono ?_); rintro e wc ⟨rr, rfl, Or, bc⟩; have Bc := Bb.trans bc)
        | (go_at_call 24; (with_reducible refine (CE _ _ Or.reads Bc).mono ?_); rintro e wd ⟨rfl, bd⟩; have Bd := Bc.trans bd))
      have K9 := Bd.keep K7
      have F9 := Bd.keep F7
      have X9 := Bd.keep X7
      have S9 := S7.keep Bd
      have Y9 := Y7.trans Bd
      clear K7 F7 X7 R7 S7 Y7 HSW CT CD CR CE Or Ba BaL Bb Bc Bd bb bc bd ba B0 dn2 dn3 L1 L4
      go_wp2_with fail
      refine (drawGdS _ x0 _ (hv.keep Y9) hn).mono ?_
      rintro e w10 ⟨ru, us, g, lv, sinks, rfl, RU, hul, RL, b10⟩
      obtain ⟨Au, cu, eu, _, _, _⟩ := id RU
      subst eu
      obtain ⟨Al, cl, el, _, _, _⟩ := id RL
      subst el
      have B11 := b10.alloc (.cells #[.slice Au us.length cu] 40)
      have U11 : Blk (w10.alloc (.cells #[.slice Au us.length cu] 40)) w10.heap.size 40 #[.slice Au us.length cu] := Blk.new w10 _ _
      have RU11 := RU.keep ((Bel.refl w10).alloc (.cells #[.slice Au us.length cu] 40))
      have RL11 := RL.keep ((Bel.refl w10).alloc (.cells #[.slice Au us.length cu] 40))
      have F11 := B11.keep F9
      have X11 := B11.keep X9
      have S11 := S9.keep B11
      have Y11 := Y9.trans B11
      clear K9 F9 X9 S9 Y9 RU RL b10 B11
      obtain ⟨cu1, fu1, zu1⟩ := U11.facts
      go_wp2_with fail
      refine (doneI g _ _ us sinks _ RU11 RL11).mono ?_
      rintro e w12 ⟨rfl, b12⟩
      clear cu1 fu1 zu1
      have U12 := b12.keep U11
      have RU12 := RU11.keep b12
      have RL12 := RL11.keep b12
      have F12 := b12.keep F11
      have X12 := b12.keep X11
      have S12 := S11.keep b12
      have Y12 := Y11.trans b12
      clear U11 RU11 RL11 F11 X11 S11 Y11 b12
      generalize w10.heap.size = gU at *
      have HLAW : Hid (tabB us = true → sinks.all (doneP us g) = (((sinks.length : Int) == 0) || (degZ us g 9 sinks sinks.length == 0))) := Lib.hid (fun h => done_law h)
      have HNIL : Hid (sinks.length = 0 → sinks.all (doneP us g) = true) := Lib.hid (fun h => by rw [List.length_eq_zero_iff.1 h]; rfl)
      by_cases hs0 : sinks.length = 0
      · have hdn := HNIL.out hs0
        have i0 : (sinks.length : Int) = 0 := by omega
        rw [hdn]
        have XN := X12
        have FN := F12
        have SN := S12
        have YN := Y12
        clear X12 F12 S12 Y12 U12 RU12 RL12 HLAW HNIL hdn
        obtain ⟨cx, fx, zx⟩ := XN.facts
        obtain ⟨cf, ff, zf⟩ := FN.facts
        go_wp2_with fail
        refine (fgtI y _ D _ SN hDl).mono ?_
        rintro e wf ⟨rf, rfl, Of, bf⟩
        obtain ⟨Af, cfq, ef, _, _, _⟩ := Of.reads
        subst ef
        clear cx fx zx cf ff zf
        have B20 := (Bel.refl wf).alloc (.cells #[.slice Af (fgtL y D).length cfq] 40)
        have V20 : Blk (wf.alloc (.cells #[.slice Af (fgtL y D).length cfq] 40)) wf.heap.size 40 #[.slice Af (fgtL y D).length cfq] := Blk.new wf _ _
        have X20 := B20.keep (bf.keep XN)
        have F20 := B20.keep (bf.keep FN)
        have S20 := (SN.keep bf).keep B20
        have P20 := Of.reads.keep B20
        have Y20 := (YN.trans bf).trans B20
        clear XN FN SN Of YN bf B20
        obtain ⟨cx, fx, zx⟩ := X20.facts
        obtain ⟨cf, ff, zf⟩ := F20.facts
        obtain ⟨cv, fv, zv⟩ := V20.facts
        go_wp2_with fail
        have L := degI y 5 _ _ (fgtL y D) [x] _ (P20.keep ((Bel.refl _).alloc (.cells #[.int .i64 x] 3))) (RI.lit1 (wf.alloc (.cells #[.slice Af (fgtL y D).length cfq] 40)) _ x)
        rw [World.size_alloc] at L
        refine L.mono ?_
        rintro e w21 ⟨rfl, b21⟩
        rw [show ([x] : List Int).length = 1 from rfl, deg_one, LFG.out]
        have b21' := ((Bel.refl _).alloc (.cells #[.int .i64 x] 3)).trans b21
        clear cx fx zx cf ff zf cv fv zv
        have X21 := b21'.keep X20
        have S21 := S20.keep b21'
        have Y21 := Y20.trans b21'
        obtain ⟨cx, fx, zx⟩ := X21.facts
        go_wp2_with fail
        refine (degI 3 9 _ _ D [] _ (S21.keep ((Bel.refl _).alloc _)) (OI.empty _).reads).mono ?_
        rintro e w22 ⟨rfl, b22⟩
        rw [show degZ D 3 9 [] ([] : List Int).length = 0 from rfl]
        go_wp2
        go_ret
        exact ⟨rfl, Y21.trans (((Bel.refl _).alloc _).trans b22)⟩
      have i0 : ¬ (sinks.length : Int) = 0 := by omega
      have i1 : ((sinks.length : Int) == 0) = false := beq_eq_false_iff_ne.2 i0
      have hlaw : tabB us = true → sinks.all (doneP us g) = (degZ us g 9 sinks sinks.length == 0) := fun h => by rw [HLAW.out h, i1, Bool.false_or]
      clear HLAW HNIL hs0
      generalize sinks.all (doneP us g) = dn at *
      obtain ⟨cu1, fu1, zu1⟩ := U12.facts
      have HLW := Lib.hid hlaw
      clear hlaw
      go_wp2_with fail
      refine (degI g 9 _ _ us sinks _ RU12 RL12).mono ?_
      rintro e w13 ⟨rfl, b13⟩
      clear cu1 fu1 zu1
      have U13 := b13.keep U12
      have RU13 := RU12.keep b13
      have F13 := b13.keep F12
      have X13 := b13.keep X12
      have S13 := S12.keep b13
      have Y13 := Y12.trans b13
      clear U12 RU12 RL12 F12 X12 S12 Y12 b13
      have hlaw := HLW.out
      generalize degZ us g 9 sinks sinks.length = dz at *
      have HLW := Lib.hid hlaw
      clear hlaw
      by_cases hm : dn = (dz == 0)
      · subst hm
        have XN := X13
        have FN := F13
        have SN := S13
        have YN := Y13
        clear X13 F13 S13 Y13 U13 RU13 HLW
        by_cases hz : dz = 0
        · subst hz
          obtain ⟨cx, fx, zx⟩ := XN.facts
          obtain ⟨cf, ff, zf⟩ := FN.facts
          go_wp2_with fail
          refine (fgtI y _ D _ SN hDl).mono ?_
          rintro e wf ⟨rf, rfl, Of, bf⟩
          obtain ⟨Af, cfq, ef, _, _, _⟩ := Of.reads
          subst ef
          clear cx fx zx cf ff zf
          have B20 := (Bel.refl wf).alloc (.cells #[.slice Af (fgtL y D).length cfq] 40)
          have V20 : Blk (wf.alloc (.cells #[.slice Af (fgtL y D).length cfq] 40)) wf.heap.size 40 #[.slice Af (fgtL y D).length cfq] := Blk.new wf _ _
          have X20 := B20.keep (bf.keep XN)
          have F20 := B20.keep (bf.keep FN)
          have S20 := (SN.keep bf).keep B20
          have P20 := Of.reads.keep B20
          have Y20 := (YN.trans bf).trans B20
          clear XN FN SN Of YN bf B20
          obtain ⟨cx, fx, zx⟩ := X20.facts
          obtain ⟨cf, ff, zf⟩ := F20.facts
          obtain ⟨cv, fv, zv⟩ := V20.facts
          go_wp2_with fail
          have L := degI y 5 _ _ (fgtL y D) [x] _ (P20.keep ((Bel.refl _).alloc (.cells #[.int .i64 x] 3))) (RI.lit1 (wf.alloc (.cells #[.slice Af (fgtL y D).length cfq] 40)) _ x)
          rw [World.size_alloc] at L
          refine L.mono ?_
          rintro e w21 ⟨rfl, b21⟩
          rw [show ([x] : List Int).length = 1 from rfl, deg_one, LFG.out]
          have b21' := ((Bel.refl _).alloc (.cells #[.int .i64 x] 3)).trans b21
          clear cx fx zx cf ff zf cv fv zv
          have X21 := b21'.keep X20
          have S21 := S20.keep b21'
          have Y21 := Y20.trans b21'
          obtain ⟨cx, fx, zx⟩ := X21.facts
          go_wp2_with fail
          refine (degI 3 9 _ _ D [] _ (S21.keep ((Bel.refl _).alloc _)) (OI.empty _).reads).mono ?_
          rintro e w22 ⟨rfl, b22⟩
          rw [show degZ D 3 9 [] ([] : List Int).length = 0 from rfl]
          go_wp2
          go_ret
          exact ⟨rfl, Y21.trans (((Bel.refl _).alloc _).trans b22)⟩
        · have hz' : (dz == 0) = false := beq_eq_false_iff_ne.2 hz
          rw [hz']
          obtain ⟨cx, fx, zx⟩ := XN.facts
          obtain ⟨cf, ff, zf⟩ := FN.facts
          go_wp2_with fail
          refine (fgtI y _ D _ SN hDl).mono ?_
          rintro e wf ⟨rf, rfl, Of, bf⟩
          obtain ⟨Af, cfq, ef, _, _, _⟩ := Of.reads
          subst ef
          clear cx fx zx cf ff zf
          have B20 := (Bel.refl wf).alloc (.cells #[.slice Af (fgtL y D).length cfq] 40)
          have V20 : Blk (wf.alloc (.cells #[.slice Af (fgtL y D).length cfq] 40)) wf.heap.size 40 #[.slice Af (fgtL y D).length cfq] := Blk.new wf _ _
          have X20 := B20.keep (bf.keep XN)
          have F20 := B20.keep (bf.keep FN)
          have S20 := (SN.keep bf).keep B20
          have P20 := Of.reads.keep B20
          have Y20 := (YN.trans bf).trans B20
          clear XN FN SN Of YN bf B20
          obtain ⟨cx, fx, zx⟩ := X20.facts
          obtain ⟨cf, ff, zf⟩ := F20.facts
          obtain ⟨cv, fv, zv⟩ := V20.facts
          go_wp2_with fail
          have L := degI y 5 _ _ (fgtL y D) [x] _ (P20.keep ((Bel.refl _).alloc (.cells #[.int .i64 x] 3))) (RI.lit1 (wf.alloc (.cells #[.slice Af (fgtL y D).length cfq] 40)) _ x)
          rw [World.size_alloc] at L
          refine L.mono ?_
          rintro e w21 ⟨rfl, b21⟩
          rw [show ([x] : List Int).length = 1 from rfl, deg_one, LFG.out]
          have b21' := ((Bel.refl _).alloc (.cells #[.int .i64 x] 3)).trans b21
          clear cx fx zx cf ff zf cv fv zv
          have X21 := b21'.keep X20
          have S21 := S20.keep b21'
          have Y21 := Y20.trans b21'
          obtain ⟨cx, fx, zx⟩ := X21.facts
          go_wp2_with fail
          refine (degI 3 9 _ _ D [] _ (S21.keep ((Bel.refl _).alloc _)) (OI.empty _).reads).mono ?_
          rintro e w22 ⟨rfl, b22⟩
          rw [show degZ D 3 9 [] ([] : List Int).length = 0 from rfl]
          go_wp2
          go_ret
          exact ⟨rfl, Y21.trans (((Bel.refl _).alloc _).trans b22)⟩
      · have hT : tabB us = false := by
          cases h : tabB us with
          | false => rfl
          | true => exact absurd (HLW.out h) hm
        have HT := Lib.hid hT
        clear hT HLW
        obtain ⟨cu1, fu1, zu1⟩ := U13.facts
        by_cases hz : dz = 0
        · subst hz
          have hd : dn = false := by cases dn with
            | false => rfl
            | true => exact absurd rfl hm
          subst hd
          clear hm
          go_wp2_with fail
          refine (tabS _ us _ RU13).mono ?_
          rintro e w14 ⟨rfl, b14⟩
          rw [HT.out]
          clear cu1 fu1 zu1
          have XN := b14.keep X13
          have FN := b14.keep F13
          have SN := S13.keep b14
          have YN := Y13.trans b14
          clear X13 F13 S13 Y13 U13 RU13
          obtain ⟨cx, fx, zx⟩ := XN.facts
          obtain ⟨cf, ff, zf⟩ := FN.facts
          go_wp2_with fail
          refine (fgtI y _ D _ SN hDl).mono ?_
          rintro e wf ⟨rf, rfl, Of, bf⟩
          obtain ⟨Af, cfq, ef, _, _, _⟩ := Of.reads
          subst ef
          clear cx fx zx cf ff zf
          have B20 := (Bel.refl wf).alloc (.cells #[.slice Af (fgtL y D).length cfq] 40)
          have V20 : Blk (wf.alloc (.cells #[.slice Af (fgtL y D).length cfq] 40)) wf.heap.size 40 #[.slice Af (fgtL y D).length cfq] := Blk.new wf _ _
          have X20 := B20.keep (bf.keep XN)
          have F20 := B20.keep (bf.keep FN)
          have S20 := (SN.keep bf).keep B20
          have P20 := Of.reads.keep B20
          have Y20 := (YN.trans bf).trans B20
          clear XN FN SN Of YN bf B20
          obtain ⟨cx, fx, zx⟩ := X20.facts
          obtain ⟨cf, ff, zf⟩ := F20.facts
          obtain ⟨cv, fv, zv⟩ := V20.facts
          go_wp2_with fail
          have L := degI y 5 _ _ (fgtL y D) [x] _ (P20.keep ((Bel.refl _).alloc (.cells #[.int .i64 x] 3))) (RI.lit1 (wf.alloc (.cells #[.slice Af (fgtL y D).length cfq] 40)) _ x)
          rw [World.size_alloc] at L
          refine L.mono ?_
          rintro e w21 ⟨rfl, b21⟩
          rw [show ([x] : List Int).length = 1 from rfl, deg_one, LFG.out]
          have b21' := ((Bel.refl _).alloc (.cells #[.int .i64 x] 3)).trans b21
          clear cx fx zx cf ff zf cv fv zv
          have X21 := b21'.keep X20
          have S21 := S20.keep b21'
          have Y21 := Y20.trans b21'
          obtain ⟨cx, fx, zx⟩ := X21.facts
          go_wp2_with fail
          refine (degI 3 9 _ _ D [] _ (S21.keep ((Bel.refl _).alloc _)) (OI.empty _).reads).mono ?_
          rintro e w22 ⟨rfl, b22⟩
          rw [show degZ D 3 9 [] ([] : List Int).length = 0 from rfl]
          go_wp2
          go_ret
          exact ⟨rfl, Y21.trans (((Bel.refl _).alloc _).trans b22)⟩
        · have hz' : (dz == 0) = false := beq_eq_false_iff_ne.2 hz
          have hd : dn = true := by cases dn with
            | true => rfl
            | false => exact absurd hz'.symm hm
          subst hd
          clear hm
          go_wp2_with fail
          refine (tabS _ us _ RU13).mono ?_
          rintro e w14 ⟨rfl, b14⟩
          rw [HT.out]
          clear cu1 fu1 zu1
          have XN := b14.keep X13
          have FN := b14.keep F13
          have SN := S13.keep b14
          have YN := Y13.trans b14
          clear X13 F13 S13 Y13 U13 RU13
          obtain ⟨cx, fx, zx⟩ := XN.facts
          obtain ⟨cf, ff, zf⟩ := FN.facts
          go_wp2_with fail
          refine (fgtI y _ D _ SN hDl).mono ?_
          rintro e wf ⟨rf, rfl, Of, bf⟩
          obtain ⟨Af, cfq, ef, _, _, _⟩ := Of.reads
          subst ef
          clear cx fx zx cf ff zf
          have B20 := (Bel.refl wf).alloc (.cells #[.slice Af (fgtL y D).length cfq] 40)
          have V20 : Blk (wf.alloc (.cells #[.slice Af (fgtL y D).length cfq] 40)) wf.heap.size 40 #[.slice Af (fgtL y D).length cfq] := Blk.new wf _ _
          have X20 := B20.keep (bf.keep XN)
          have F20 := B20.keep (bf.keep FN)
          have S20 := (SN.keep bf).keep B20
          have P20 := Of.reads.keep B20
          have Y20 := (YN.trans bf).trans B20
          clear XN FN SN Of YN bf B20
          obtain ⟨cx, fx, zx⟩ := X20.facts
          obtain ⟨cf, ff, zf⟩ := F20.facts
          obtain ⟨cv, fv, zv⟩ := V20.facts
          go_wp2_with fail
          have L := degI y 5 _ _ (fgtL y D) [x] _ (P20.keep ((Bel.refl _).alloc (.cells #[.int .i64 x] 3))) (RI.lit1 (wf.alloc (.cells #[.slice Af (fgtL y D).length cfq] 40)) _ x)
          rw [World.size_alloc] at L
          refine L.mono ?_
          rintro e w21 ⟨rfl, b21⟩
          rw [show ([x] : List Int).length = 1 from rfl, deg_one, LFG.out]
          have b21' := ((Bel.refl _).alloc (.cells #[.int .i64 x] 3)).trans b21
          clear cx fx zx cf ff zf cv fv zv
          have X21 := b21'.keep X20
          have S21 := S20.keep b21'
          have Y21 := Y20.trans b21'
          obtain ⟨cx, fx, zx⟩ := X21.facts
          go_wp2_with fail
          refine (degI 3 9 _ _ D [] _ (S21.keep ((Bel.refl _).alloc _)) (OI.empty _).reads).mono ?_
          rintro e w22 ⟨rfl, b22⟩
          rw [show degZ D 3 9 [] ([] : List Int).length = 0 from rfl]
          go_wp2
          go_ret
          exact ⟨rfl, Y21.trans (((Bel.refl _).alloc _).trans b22)⟩
set_option maxRecDepth 100000 in
theorem lifted (os : Os) (started : os.Started) (H : Type) (enc : TypeId × Value → H) :
    ReturnsInHanded {} Try.checked os 5 .any (Rows.fnFeedbackSpec.pre6 enc Try.prog Try.f5 Rows.fnFeedbackRow.domain false) (Rows.fnFeedbackSpec.post enc Try.prog Try.f5 false true false false) := by
  refine returnsInHanded_of_change (C := Try.checked) own started (by kernel_rfl) Try.func5
    (ChangeSpec.witness6 (enc := enc) (C := Try.checked) false ⟨#[], #[.slice none 0 0], []⟩ 8 (by kernel_rfl) (by kernel_rfl) (by kernel_rfl) (by kernel_rfl)) ?_
  intro W base args ds gs before hval0 hW hcnd _
  have hval : ∀ (j : Nat) t v, Try.f5.params[j]? = some t → args[j]? = some v → Value.okWide Try.prog W .any base t v := hval0
  have hW' := hW
  obtain ⟨p, q, hA0, hV, rfl, hfz, hnd⟩ := hW
  have hA : DataW.TrodAll enc Try.prog W 0 (fun _ => true) true Try.f5.params.toList args.toList ds p := hA0
  rw [Try.params5] at hA hval
  obtain ⟨v0, vs0, d0, ds0, p0, q0, hargs, rfl, rfl, h0, r0⟩ := trodAll_cons hA
  obtain ⟨rfl, rfl, rfl⟩ := trodAll_nil r0
  obtain rfl : args = #[v0] := by cases args; simp_all
  obtain ⟨rfl, rfl⟩ := trodVars_none hV
  have k0 := h0
  have lt0 : ∀ x ∈ p0, x.block < W.heap.size := by obtain ⟨m, hm⟩ := k0; exact DataW.trod_lt m _ _ _ hm
  obtain ⟨x0, f0⟩ := openBytes (hval 0 48 v0 rfl rfl) h0
  clear hA0 hval0
  refine (walk W v0 x0 f0).mono fun e W' ⟨he, bel⟩ => ?_
  subst he
  exact ⟨_, rfl, _, _, _, [], _, [], hW', trodAll_mk1 (shut_bool Try.underlying4 _), (trodAll_cons_mk (Below.trod laidOut (by kernel_rfl) (of_decide_eq_true (by kernel_rfl)) k0 bel lt0) trodAll_mk0), rfl, bel.frame _, fun h => by cases h⟩

theorem over : Rows.fnFeedbackRow.holds Try.pinned (OpenSpec.ofChange Rows.fnFeedbackSpec) :=
  OpenClaim.holds_of_wide 5 Try.f5 rfl rfl rfl rfl rfl rfl rfl ⟨rfl, rfl, rfl, rfl, rfl⟩ rfl rfl rfl rfl rfl (by kernel_rfl) Try.func5 (by kernel_rfl)
    (of_decide_eq_true (by kernel_rfl)) (by unfold Func.isWrapper; first | (rw [if_pos (by decide +kernel)]; kernel_rfl) | (rw [if_neg (by decide +kernel)]; exact ⟨rfl, rfl⟩))
    (fun os started H enc _ => lifted os started H enc)

theorem proved : Rows.FnFeedbackSaid := over
#print axioms proved
end Go.Proofs.Ytchodlfkoafeaaa.fnFeedback
