/-
  FnNullKeys: for every drawn generation, its null keys pass exactly the packets of the space that they do not detect. No condition.
-/
import Derived.Test.YtjaagabbbnokdaaGreatTI
import Derived.Test.YtjaagabbbnokdaaGreatUC
import Derived.Test.YtjaagabbbnokdaaGreatUD
import Derived.Test.YtjaagabbbnokdaaGreatUB
import Derived.Test.YtjaagabbbnokdaaGreatTC
import Derived.Test.YtjaagabbbnokdaaGreatTG
import Derived.Test.YtjaagabbbnokdaaGreatTF
import Derived.Deep.RegionHeld3
import Derived.Deep.DeepCutAuto
import Derived.Deep.CutRange
namespace Go.Proofs.YtjaagabbbnokdaaGreat.fnNullKeys
open Go.ChangeShapes Go.WideShapes Go.ChangeAt Go.RowKit Go.Joins Go.Deep
set_option linter.unusedVariables false
set_option maxRecDepth 100000

set_option maxHeartbeats 8000000 in
theorem walk (w : World) (v0 : Value) (x0 : Nat) (f0 : IsBytes w v0 x0) :
    Calls Tryz.prog 4 #[v0] w fun e w' => e = .returned (.bool true) ∧ Below w.heap.size w w' := by
  have hv : RB w v0 x0 := f0
  by_cases hbig : (1048576 : Int) < (x0 : Int)
  · have HD : Hid (decide ((1048576 : Int) < (x0 : Int)) = true) := Lib.hid (decide_eq_true hbig)
    go_enter Tryz.func4, Tryz.ntmps4
    go_wp2_with fail
    refine (bigL _ x0 _ hv).mono ?_
    rintro e w1 ⟨rfl, rfl⟩
    rw [HD.out]
    go_wp2
    go_ret
    exact ⟨rfl, Bel.refl _⟩
  have hn : x0 ≤ 1048576 := by omega
  have HD : Hid (decide ((1048576 : Int) < (x0 : Int)) = false) := Lib.hid (decide_eq_false hbig)
  clear hbig
  have HAT0 : Hid (∀ W, RB W v0 x0 → Calls Tryz.prog 16 #[v0, .int .i64 0] W fun e w' => ∃ x : Int, e = .returned (.int .i64 x) ∧ (0 ≤ x ∧ x ≤ 255) ∧ W = w') := Lib.hid (fun W h => atL v0 x0 0 W h hn (by omega))
  have HAT1 : Hid (∀ W, RB W v0 x0 → Calls Tryz.prog 16 #[v0, .int .i64 1] W fun e w' => ∃ x : Int, e = .returned (.int .i64 x) ∧ (0 ≤ x ∧ x ≤ 255) ∧ W = w') := Lib.hid (fun W h => atL v0 x0 1 W h hn (by omega))
  have HAT3 : Hid (∀ W, RB W v0 x0 → Calls Tryz.prog 16 #[v0, .int .i64 3] W fun e w' => ∃ x : Int, e = .returned (.int .i64 x) ∧ (0 ≤ x ∧ x ≤ 255) ∧ W = w') := Lib.hid (fun W h => atL v0 x0 3 W h hn (by omega))
  have HAT4 : Hid (∀ W, RB W v0 x0 → Calls Tryz.prog 16 #[v0, .int .i64 4] W fun e w' => ∃ x : Int, e = .returned (.int .i64 x) ∧ (0 ≤ x ∧ x ≤ 255) ∧ W = w') := Lib.hid (fun W h => atL v0 x0 4 W h hn (by omega))
  go_enter Tryz.func4, Tryz.ntmps4
  go_wp2_with fail
  refine (bigL _ x0 _ hv).mono ?_
  rintro e w1 ⟨rfl, rfl⟩
  rw [HD.out]
  clear HD
  go_wp2_with fail
  refine (drawCoS _ x0 _ hv hn).mono ?_
  rintro e w2 ⟨a, gv, m, r, nn, m1, rfl, RG, RD, hg, hd, Y2⟩
  obtain ⟨Ag, cg, eg, _, _, _⟩ := id RG
  subst eg
  obtain ⟨Ad, cd, ed, _, _, _⟩ := id RD
  subst ed
  obtain ⟨q1, q2, q3, q4, _⟩ := gnrB_facts hg
  have HG := Lib.hid hg
  have HMT := Lib.hid q4
  have hms : 1 ≤ m.length ∧ m.length ≤ 8 := q2
  have hmd : 1 ≤ colN m ∧ colN m ≤ 16 := q3
  clear hd RD hg q1 q2 q3 q4
  have B3 := ((Bel.refl w2).alloc (.cells #[.int .i64 a, .slice Ag m.length cg] 30)).alloc (.cells #[.int .i64 a, .int .i64 (m.length : Int), .int .i64 (colN m : Int), .int .i64 (nn : Int), .slice Ad m1.length cd] 42)
  have G3 := (Blk.new w2 30 #[.int .i64 a, .slice Ag m.length cg]).alloc (.cells #[.int .i64 a, .int .i64 (m.length : Int), .int .i64 (colN m : Int), .int .i64 (nn : Int), .slice Ad m1.length cd] 42)
  have RG3 := RG.keep B3
  have Y3 := Y2.trans B3
  clear B3 Y2 RG
  go_upto_region 4 with fail
  generalize hw3 : (w2.alloc (.cells #[.int .i64 a, .slice Ag m.length cg] 30)).alloc (.cells #[.int .i64 a, .int .i64 (m.length : Int), .int .i64 (colN m : Int), .int .i64 (nn : Int), .slice Ad m1.length cd] 42) = w3 at *
  clear hw3
  generalize w2.heap.size = gG at *
  have hG3 := G3.lt
  have hv3 := hv.keep Y3
  go_cut [5, 6] from 22 to 32 (fun s5 s6 wx => ∃ (b5 : Nat) (Ak : Option Addr) (ck : Nat) (K : List (List Int)), s5 = .pointer (some ⟨b5, 0, none⟩) ∧ s6 = .bool true ∧ Blk wx b5 27 #[.int .i64 a, .int .i64 (m.length : Int), .int .i64 (colN m : Int), .slice Ak K.length ck] ∧ RII wx (.slice Ak K.length ck) K ∧ Hid (Keys m K ∧ 1 ≤ K.length ∧ K.length ≤ 4) ∧ Bel w3 wx)
  case first =>
    have HSG : Hid (∀ W, Bel w3 W → W.cell? ⟨gG, 0, none⟩ = some (.int .i64 a) ∧ W.cell? ⟨gG, 1, none⟩ = some (.slice Ag m.length cg)) := Lib.hid (fun W b => ⟨b.cell1 hG3 (G3.facts.1 0), b.cell1 hG3 (G3.facts.1 1)⟩)
    have B0 := (Bel.refl w3).drew
    have BZ := ((Bel.refl w3).alloc (.cells #[.int .i64 0, .int .i64 0, .int .i64 0, .slice none 0 0] 27)).drew
    have hvd := hv3.keep B0
    have hvz := hv3.keep BZ
    have KZ0 := (Blk.new w3 27 #[.int .i64 0, .int .i64 0, .int .i64 0, .slice none 0 0]).drew
    have HMN : Hid (∀ (s t : Int) W, 0 ≤ s → s ≤ 255 → 0 ≤ t → t < 4 → Bel w3 W → Calls Tryz.prog 8 #[.agg #[.int .i64 a, .slice Ag m.length cg], .int .i64 s, .int .i64 (1 + t)] W fun e w' => ∃ Ak ck K, e = .returned (.tuple #[.agg #[.int .i64 a, .int .i64 (m.length : Int), .int .i64 (colN m : Int), .slice Ak K.length ck], .bool true]) ∧ OM w' W.heap.size (.slice Ak K.length ck) K ∧ Keys m K ∧ 1 ≤ K.length ∧ K.length ≤ 4 ∧ Bel W w') := Lib.hid (fun s t W s0 s1 t0 t1 b => by
      obtain ⟨k, hk⟩ : ∃ k : Nat, 1 + t = (k : Int) := Int.eq_ofNat_of_zero_le (by omega)
      have hb : mnkB a m (k : Int) = true := by unfold mnkB; rw [HG.out, show inB (k : Int) 1 4 = true from decide_eq_true (by omega)]; rfl
      obtain ⟨e1, e2, e3, e4⟩ := mnk_yes hb s
      rw [hk]
      refine (mnkI a s (k : Int) _ m W (RG3.keep b) (by omega)).mono ?_
      rintro e w' ⟨r, rfl, O, b'⟩
      rw [e4] at O
      obtain ⟨Ak, ck, er, _, _, _⟩ := O.reads
      subst er
      refine ⟨Ak, ck, _, by rw [e1, e2, e3, hb], O, mnk_keys s HG.out (by omega), by rw [mnkL_len]; omega, by rw [mnkL_len]; omega, b'⟩)
    go_region_held3 (fun W => W.cell? ⟨gG, 0, none⟩ = some (.int .i64 a) ∧ W.cell? ⟨gG, 1, none⟩ = some (.slice Ag m.length cg))
      (first | assumption | with_reducible exact HSG.out _ B0 | with_reducible exact HSG.out _ BZ | with_reducible exact HSG.out _ Bm | with_reducible exact HSG.out _ BmZ | with_reducible exact HSG.out _ YF)
      (first
        | (have _ := hs1; go_at_call 16; (with_reducible refine (HAT1.out _ hvz).mono ?_); rintro e w9 ⟨t, rfl, ⟨t0, t1⟩, rfl⟩; have htb := tmod_bd (a := t) (n := 4) t0 (by omega); have htm : t.tmod 4 = t % 4 := Int.tmod_eq_emod_of_nonneg t0; have hwt : IntKind.i64.wrap (1 + t % 4) = 1 + t % 4 := IntWalk.i64_in _ (by omega); have ht1 := t1)
        | (have _ := hs1; go_at_call 16; (with_reducible refine (HAT1.out _ hvd).mono ?_); rintro e w9 ⟨t, rfl, ⟨t0, t1⟩, rfl⟩; have htb := tmod_bd (a := t) (n := 4) t0 (by omega); have htm : t.tmod 4 = t % 4 := Int.tmod_eq_emod_of_nonneg t0; have hwt : IntKind.i64.wrap (1 + t % 4) = 1 + t % 4 := IntWalk.i64_in _ (by omega); have ht1 := t1)
        | (go_at_call 16; (with_reducible refine (HAT0.out _ hvz).mono ?_); rintro e w9 ⟨s, rfl, ⟨s0, s1⟩, rfl⟩; have hs1 := s1)
        | (go_at_call 16; (with_reducible refine (HAT0.out _ hvd).mono ?_); rintro e w9 ⟨s, rfl, ⟨s0, s1⟩, rfl⟩; have hs1 := s1)
        | (go_at_call 8; (with_reducible refine (HMN.out s (t % 4) _ s0 s1 htb.1 htb.2 BZ).mono ?_); rintro e w6 ⟨Ak, ck, K, rfl, O6, hK, hK1, hK2, b6⟩; have HKK : Hid (Keys m K ∧ 1 ≤ K.length ∧ K.length ≤ 4) := Lib.hid ⟨hK, hK1, hK2⟩; clear hK hK1 hK2; have Bm := BZ.trans b6; have K6 := b6.keep KZ0; have hlo6 : w3.heap.size < (w3.alloc (.cells #[.int .i64 0, .int .i64 0, .int .i64 0, .slice none 0 0] 27)).drew.heap.size := KZ0.lt; have KF := (((K6.set 0 (.int .i64 a)).set 1 (.int .i64 (m.length : Int))).set 2 (.int .i64 (colN m : Int))).set 3 (.slice Ak K.length ck); have YF := (((Bm.setCell (p := ⟨w3.heap.size, 0, none⟩) (Nat.le_refl _) (.int .i64 a)).setCell (p := ⟨w3.heap.size, 1, none⟩) (Nat.le_refl _) (.int .i64 (m.length : Int))).setCell (p := ⟨w3.heap.size, 2, none⟩) (Nat.le_refl _) (.int .i64 (colN m : Int))).setCell (p := ⟨w3.heap.size, 3, none⟩) (Nat.le_refl _) (.slice Ak K.length ck); have OF := ((((O6.loc b6.size).store (p := ⟨w3.heap.size, 0, none⟩) (.int .i64 a) (.inl hlo6)).store (p := ⟨w3.heap.size, 1, none⟩) (.int .i64 (m.length : Int)) (.inl hlo6)).store (p := ⟨w3.heap.size, 2, none⟩) (.int .i64 (colN m : Int)) (.inl hlo6)).store (p := ⟨w3.heap.size, 3, none⟩) (.slice Ak K.length ck) (.inl hlo6); have RF := OF.out.reads; obtain ⟨cx6, fx6, zx6⟩ := K6.facts)
        | (go_at_call 8; (with_reducible refine (HMN.out s (t % 4) _ s0 s1 htb.1 htb.2 B0).mono ?_); rintro e w6 ⟨Ak, ck, K, rfl, O6, hK, hK1, hK2, b6⟩; have HKK : Hid (Keys m K ∧ 1 ≤ K.length ∧ K.length ≤ 4) := Lib.hid ⟨hK, hK1, hK2⟩; clear hK hK1 hK2; have Bm := B0.trans b6; have BmZ := Bm.alloc (.cells #[.int .i64 0, .int .i64 0, .int .i64 0, .slice none 0 0] 27); have KF := Blk.new w6 27 #[.int .i64 a, .int .i64 (m.length : Int), .int .i64 (colN m : Int), .slice Ak K.length ck]; have YF := Bm.alloc (.cells #[.int .i64 a, .int .i64 (m.length : Int), .int .i64 (colN m : Int), .slice Ak K.length ck] 27); have RF := O6.reads.keep ((Bel.refl w6).alloc (.cells #[.int .i64 a, .int .i64 (m.length : Int), .int .i64 (colN m : Int), .slice Ak K.length ck] 27))))
    all_goals (
      go_wp2_with fail
      go_meet
      exact ⟨_, _, _, K, rfl, rfl, KF, RF, HKK, YF⟩)
  case rest =>
    obtain ⟨b5, Ak, ck, K, rfl, rfl, K5, RK5, HK, b35⟩ := hcut
    obtain ⟨w5, hw5⟩ : ∃ x, x = wc := ⟨_, rfl⟩
    subst hw5
    have G5 := b35.keep G3
    have RG5 := RG3.keep b35
    have Y5 := Y3.trans b35
    have hgb : gG < w5.heap.size := G5.lt
    clear G3 RG3 Y3 b35 hG3 hv3
    have HNK : Hid (nkB a (m.length : Int) (colN m : Int) K = true) := Lib.hid (keys_nk HG.out HK.out.1 HK.out.2.1 HK.out.2.2)
    obtain ⟨ck5, fk5, zk5⟩ := K5.facts
    go_wp2_with fail
    refine (nkI a (m.length : Int) (colN m : Int) _ K _ RK5).mono ?_
    rintro e w6 ⟨rfl, b6⟩
    rw [HNK.out]
    clear ck5 fk5 zk5
    have G6 := b6.keep G5
    have K6 := b6.keep K5
    have RG6 := RG5.keep b6
    have RK6 := RK5.keep b6
    have Y6 := Y5.trans b6
    clear G5 K5 RG5 RK5 Y5 b6
    have hmk := mkInts m.length (by omega)
    have Oc := OI.made w6 m.length (by omega)
    have Yc : Bel w6 (w6.alloc (.cells (madeCells #[.int .i64 0] m.length) 3)) := (Bel.refl _).alloc _
    obtain ⟨cg, fg, zg⟩ := G6.facts
    go_wp2
    generalize (w6.alloc (.cells (madeCells #[.int .i64 0] m.length) 3)) = w7 at *
    clear hmk cg fg zg
    go_loopg [8] m.length (fun f i wr => ∃ (k : Nat) (cs : List Int), k + f = m.length ∧ i = .int .i64 k ∧ OI wr w6.heap.size (.slice (some ⟨w6.heap.size, 0, none⟩) m.length m.length) cs ∧ (cs.length = m.length ∧ ∀ x ∈ cs, 0 ≤ x ∧ x ≤ 1018) ∧ Bel w6 wr)
    case atStart => exact ⟨0, _, by omega, rfl, Oc, ⟨by simp, fun x hx => by rw [(List.mem_replicate.1 hx).2]; omega⟩, Yc⟩
    case round =>
      clear Oc Yc
      obtain ⟨k, cs, hkf, rfl, Oc, ⟨hcl, hcb⟩, Yr⟩ := hrel
      have hk2 : k ≤ m.length := by omega
      have HKF := Lib.hid hkf
      have HCL := Lib.hid hcl
      have HCB := Lib.hid hcb
      clear hkf hcl hcb
      by_cases hlt : k < m.length
      · have i0 : (0 : Int) ≤ (k : Int) := by omega
        have i1 : (k : Int) < (m.length : Int) := by omega
        have hw2 : IntKind.i64.wrap ((k : Int) + 2) = ((k + 2 : Nat) : Int) := by rw [IntWalk.i64_in _ (by omega)]; omega
        obtain ⟨g9, cap9, e9, _, _, _, _, fz, cs9⟩ := Oc.cells (by rw [HCL.out]; omega)
        injection e9 with e91 e92 e93
        injection e91 with e91
        injection e91 with e91
        subst e91
        have fk := fz k
        have ckk := cs9 k _ (getD_at (show k < cs.length by rw [HCL.out]; exact hlt))
        clear e92 e93 fz cs9
        go_wp2_with fail
        refine (atL _ x0 (k + 2) _ (hv.keep (Y6.trans Yr)) hn (by omega)).mono ?_
        rintro e w8 ⟨y, rfl, ⟨y0, y1⟩, rfl⟩
        have O8 := Oc.store (i := k) hlt y
        have Y8 := Yr.setCell (p := ⟨w6.heap.size, k, none⟩) (Nat.le_refl _) (.int .i64 y)
        clear hw2
        go_wp2
        go_roundg (m.length - (k + 1))
        case measure => have := HKF.out; omega
        case rel => exact ⟨k + 1, _, by omega, by go_num, O8, ⟨by rw [List.length_set]; exact HCL.out, fun x hx => by
          rcases List.mem_or_eq_of_mem_set hx with h1 | h1
          · exact HCB.out x h1
          · omega⟩, Y8⟩
      · have hke : k = m.length := by omega
        subst hke
        have i1 : ¬ (m.length : Int) < (m.length : Int) := by omega
        have hvc : vecB cs = true := by unfold vecB; rw [List.all_eq_true.2 (fun x hx => elB_yes (HCB.out x hx)), decide_eq_true (by rw [HCL.out]; omega)]; rfl
        have HCP : Hid (cpB a m cs = true) := Lib.hid (by unfold cpB; rw [HG.out, hvc, HCL.out]; simp)
        have G9 := Yr.keep G6
        have K9 := Yr.keep K6
        have RG9 := RG6.keep Yr
        have RK9 := RK6.keep Yr
        have Y9 := Y6.trans Yr
        have hz9 : w5.heap.size ≤ w6.heap.size ∨ True := .inr trivial
        have RC9 := Oc.reads
        clear hvc G6 K6 RG6 RK6 Y6 Yr Oc HKF hk2 hlt hz9
        obtain ⟨cg, fg, zg⟩ := G9.facts
        go_wp2_with fail
        refine (cpS a _ _ m cs _ RG9 RC9 HCP.out).mono ?_
        rintro e wa ⟨r1, r2, rfl, P1, P2, ba⟩
        clear cg fg zg
        obtain ⟨pl, hpl⟩ : ∃ pl, pl = lcZ m cs := ⟨_, rfl⟩
        rw [← hpl] at P2
        have HPL := Lib.hid hpl
        clear hpl
        have hpr : Row (colN m) pl := by rw [HPL.out]; exact lcZ_row HMT.out
        have hpll : pl.length = colN m := hpr.1
        have HPR := Lib.hid hpr
        clear hpr
        obtain ⟨A1, c1, e1, _, _, _⟩ := P1.reads
        subst e1
        obtain ⟨A2, c2, e2, _, _, _⟩ := P2.reads
        subst e2
        have hL0 : 1 ≤ pl.length ∧ pl.length ≤ 16 := by omega
        have HLL := Lib.hid hpll
        clear hpll
        have Ga := ba.keep G9
        have Ka := ba.keep K9
        have RGa := RG9.keep ba
        have RKa := RK9.keep ba
        have R1a := P1.reads
        have R2a := P2.reads
        have Ya := Y9.trans ba
        have hgc := Ga.lt
        have hkc := Ka.lt
        have Bb := ((Bel.refl wa).alloc (.cells #[.int .i64 a, .slice A1 cs.length c1, .slice A2 pl.length c2] 49)).alloc (.cells #[.int .i64 a, .slice A1 cs.length c1, .slice A2 pl.length c2] 49)
        have Pb := (Blk.new wa 49 #[.int .i64 a, .slice A1 cs.length c1, .slice A2 pl.length c2]).alloc (.cells #[.int .i64 a, .slice A1 cs.length c1, .slice A2 pl.length c2] 49)
        have Qb := Blk.new2 wa (.cells #[.int .i64 a, .slice A1 cs.length c1, .slice A2 pl.length c2] 49) 49 #[.int .i64 a, .slice A1 cs.length c1, .slice A2 pl.length c2]
        clear G9 K9 RG9 RK9 Y9 RC9 P1 P2 ba
        go_upto_region 14 with fail
        generalize hwb : ((wa.alloc (.cells #[.int .i64 a, .slice A1 cs.length c1, .slice A2 pl.length c2] 49)).alloc (.cells #[.int .i64 a, .slice A1 cs.length c1, .slice A2 pl.length c2] 49)) = wb at *
        clear hwb
        have hzb : wa.heap.size + 1 < wb.heap.size := Qb.lt
        obtain ⟨cp, fp, zp⟩ := Pb.facts
        obtain ⟨cq, fq, zq⟩ := Qb.facts
        go_wp2_with (at_builtin; refine wpList_appI _ rfl _ _ rfl wb.heap.size _ _ [] pl rfl rfl (OI.empty wb) ((R2a.keep Bb).keep ((Bel.refl wb).alloc (.cells #[] 3))) (by simp only [List.length_nil]; omega) (by rw [World.size_alloc]; omega) ?_)
        intro v3 wd O3 hGd
        have Bd : Bel wb wd := ((Bel.refl wb).alloc (.cells #[] 3)).grown hGd (fun q hq => ((OI.empty wb).block q hq).1)
        have O3' : OI wd wb.heap.size v3 pl := O3
        clear O3 hGd cp fp zp cq fq zq
        obtain ⟨A3, c3, e3, _, _, _⟩ := O3'.reads
        subst e3
        have Pd := Bd.keep Pb
        have Qd := Bd.keep Qb
        have Pe := Pd.far (p := ⟨wa.heap.size + 1, 2, none⟩) (by dsimp only; omega) (.slice A3 pl.length c3)
        have Qe : Blk (wd.setCell ⟨wa.heap.size + 1, 2, none⟩ (.slice A3 pl.length c3)) (wa.heap.size + 1) 49 #[.int .i64 a, .slice A1 cs.length c1, .slice A3 pl.length c3] := Qd.set 2 _
        have Oe := O3'.setFar (p := ⟨wa.heap.size + 1, 2, none⟩) (by dsimp only; omega) (.slice A3 pl.length c3)
        have Be := (Bb.trans Bd).setCell (p := ⟨wa.heap.size + 1, 2, none⟩) (by dsimp only; omega) (.slice A3 pl.length c3)
        obtain ⟨cq, fq, zq⟩ := Qd.facts
        go_upto_region 15 with fail
        clear cq fq zq Pd Qd O3' Bd Pb Qb Bb
        generalize wd.setCell ⟨wa.heap.size + 1, 2, none⟩ (.slice A3 pl.length c3) = we at *
        have B0 := (Bel.refl we).drew
        have hve := hv.keep (Ya.trans (Be.trans B0))
        have HSQ : Hid (∀ W, Bel we W → W.cell? ⟨wa.heap.size + 1, 2, none⟩ = some (.slice A3 pl.length c3)) := Lib.hid (fun W b => b.cell1 Qe.lt (Qe.facts.1 2))
        have hLne : ¬ (pl.length : Int) = 0 := by omega
        have hLn0 : ¬ pl.length = 0 := by omega
        have hLnn : ¬ pl = [] := fun h => by rw [h] at hLn0; exact hLn0 rfl
        have hLpos : (0 : Int) < (pl.length : Int) := by omega
        go_region_held3 (fun W => W.cell? ⟨wa.heap.size + 1, 2, none⟩ = some (.slice A3 pl.length c3)) (first | assumption | with_reducible exact HSQ.out _ B0) (first
          | (go_at_call 16; (with_reducible refine (HAT3.out _ hve).mono ?_); rintro e w9 ⟨y, rfl, ⟨y0, y1⟩, rfl⟩; have hym : y.tmod (pl.length : Int) = y % (pl.length : Int) := Int.tmod_eq_emod_of_nonneg y0))
        have hyb := tmod_bd (a := y) (n := (pl.length : Int)) y0 hLpos
        go_upto_region 16 with fail
        obtain ⟨k, hk⟩ : ∃ k : Nat, y % (pl.length : Int) = (k : Int) := Int.eq_ofNat_of_zero_le hyb.1
        rw [hk] at hyb hym ⊢
        clear hym
        clear hk y0 y1 HSQ hve hLne hLn0 hLnn
        have hkl : k < pl.length := by omega
        have hk0 : (0 : Int) ≤ (k : Int) := by omega
        have hk1 : (k : Int) < (pl.length : Int) := by omega
        clear hyb
        have Qf := B0.keep Qe
        have Pf := B0.keep Pe
        have Of := Oe.keep B0
        have Bf := Be.trans B0
        clear Qe Pe Oe Be B0
        generalize we.drew = wf at *
        have hf0 : wb.heap.size ≤ wf.heap.size ∨ True := .inr trivial
        obtain ⟨g9, cap9, e9, hbg, hgz, _, _, fz, cs9⟩ := Of.cells (by omega)
        injection e9 with e91 e92 e93
        subst e91 e93
        have fk := fz k
        have ckk := cs9 k _ (getD_at hkl)
        have hxb := getD_bd (xs := pl) HPR.out.2 k
        generalize hxk : pl.getD k 0 = x at *
        have HXK := Lib.hid hxk
        clear hxk e92 fz cs9
        have hw1 : IntKind.i64.wrap (x + 1) = x + 1 := IntWalk.i64_in _ (by omega)
        have B0 := (Bel.refl wf).drew
        have hvf := hv.keep (Ya.trans (Bf.trans B0))
        have HSQ : Hid (∀ W, Bel wf W → W.cell? ⟨wa.heap.size + 1, 2, none⟩ = some (.slice (some ⟨g9, 0, none⟩) pl.length c3) ∧ W.cell? ⟨g9, k, none⟩ = some (.int .i64 x)) := Lib.hid (fun W b => ⟨b.cell1 Qf.lt (Qf.facts.1 2), b.cell1 hgz ckk⟩)
        have Og0 := Of.keep B0
        refine wp_region_noPanic ?_
        refine wp_region_last 14 (fun W => W.cell? ⟨wa.heap.size + 1, 2, none⟩ = some (.slice (some ⟨g9, 0, none⟩) pl.length c3) ∧ W.cell? ⟨g9, k, none⟩ = some (.int .i64 x)) (by kernel_rfl) (by kernel_rfl) (HSQ.out _ B0) (fun hHeld => ?_)
        refine' wpAnyH_take (i := 0) (oi := _) (v := _) ?hi1 (by kernel_rfl) (by kernel_rfl) (by kernel_rfl) (fun _ _ _ h => h) (Or.inl ⟨?hw1, ?hy1⟩) (by assumption) ?rest1
        case hi1 => simp only [List.getElem?_toArray, List.getElem?_cons_zero]; rfl
        case hw1 => rfl
        case hy1 =>
          intro W hSW
          try dsimp only at hSW
          go_simp
          try with_reducible rfl
        simp only [Act.put, List.setIfInBounds_toArray, List.set_cons_zero, List.set_cons_succ]
        refine' wpAnyH_take (i := 1) (oi := _) (v := _) ?hi2 (by kernel_rfl) (by kernel_rfl) (by kernel_rfl) (fun _ _ _ h => h) (Or.inl ⟨?hw2, ?hy2⟩) (by assumption) ?rest2
        case hi2 => simp only [List.getElem?_toArray, List.getElem?_cons_succ, List.getElem?_cons_zero]; rfl
        case hw2 => rfl
        case hy2 =>
          intro W hSW
          try dsimp only at hSW
          go_simp
          try with_reducible rfl
        simp only [Act.put, List.setIfInBounds_toArray, List.set_cons_zero, List.set_cons_succ]
        refine' wpAnyH_take (i := 2) (oi := _) (v := _) ?hi3 (by kernel_rfl) (by kernel_rfl) (by kernel_rfl) (fun _ _ _ h => h) (Or.inl ⟨?hw3, ?hy3⟩) (by assumption) ?rest3
        case hi3 => simp only [List.getElem?_toArray, List.getElem?_cons_succ, List.getElem?_cons_zero]; rfl
        case hw3 => rfl
        case hy3 =>
          intro W hSW
          try dsimp only at hSW
          go_simp
          try with_reducible rfl
        simp only [Act.put, List.setIfInBounds_toArray, List.set_cons_zero, List.set_cons_succ]
        refine' wpAnyH_take (i := 3) (oi := _) (v := _) ?hi4 (by kernel_rfl) (by kernel_rfl) (by kernel_rfl) (fun _ _ _ h => h) (Or.inl ⟨?hw4, ?hy4⟩) (by assumption) ?rest4
        case hi4 => simp only [List.getElem?_toArray, List.getElem?_cons_succ, List.getElem?_cons_zero]; rfl
        case hw4 => rfl
        case hy4 =>
          intro W hSW
          try dsimp only at hSW
          go_simp
          try with_reducible rfl
        simp only [Act.put, List.setIfInBounds_toArray, List.set_cons_zero, List.set_cons_succ]
        refine' wpAnyH_take (i := 4) (oi := _) (v := _) ?hi5 (by kernel_rfl) (by kernel_rfl) (by kernel_rfl) (fun _ _ _ h => h) (Or.inl ⟨?hw5, ?hy5⟩) (by assumption) ?rest5
        case hi5 => simp only [List.getElem?_toArray, List.getElem?_cons_succ, List.getElem?_cons_zero]; rfl
        case hw5 => rfl
        case hy5 =>
          intro W hSW
          try dsimp only at hSW
          go_simp
          try with_reducible rfl
        simp only [Act.put, List.setIfInBounds_toArray, List.set_cons_zero, List.set_cons_succ]
        refine' wpAnyH_take (i := 5) (oi := _) (v := _) ?hi6 (by kernel_rfl) (by kernel_rfl) (by kernel_rfl) (fun _ _ _ h => h) (Or.inl ⟨?hw6, ?hy6⟩) (by assumption) ?rest6
        case hi6 => simp only [List.getElem?_toArray, List.getElem?_cons_succ, List.getElem?_cons_zero]; rfl
        case hw6 => rfl
        case hy6 =>
          intro W hSW
          try dsimp only at hSW
          go_simp
          try with_reducible rfl
        simp only [Act.put, List.setIfInBounds_toArray, List.set_cons_zero, List.set_cons_succ]
        refine' wpAnyH_take (i := 6) (oi := _) (v := _) ?hi7 (by kernel_rfl) (by kernel_rfl) (by kernel_rfl) (fun _ _ _ h => h) (Or.inl ⟨?hw7, ?hy7⟩) (by assumption) ?rest7
        case hi7 => simp only [List.getElem?_toArray, List.getElem?_cons_succ, List.getElem?_cons_zero]; rfl
        case hw7 => rfl
        case hy7 =>
          intro W hSW
          try dsimp only at hSW
          go_simp
          try with_reducible rfl
        simp only [Act.put, List.setIfInBounds_toArray, List.set_cons_zero, List.set_cons_succ]
        refine' wpAnyH_take (i := 7) (oi := _) (v := _) ?hi8 (by kernel_rfl) (by kernel_rfl) (by kernel_rfl) (fun _ _ _ h => h) (Or.inl ⟨?hw8, ?hy8⟩) (by assumption) ?rest8
        case hi8 => simp only [List.getElem?_toArray, List.getElem?_cons_succ, List.getElem?_cons_zero]; rfl
        case hw8 => rfl
        case hy8 =>
          intro W hSW
          try dsimp only at hSW
          go_simp
          try with_reducible rfl
        simp only [Act.put, List.setIfInBounds_toArray, List.set_cons_zero, List.set_cons_succ]
        refine' wpAnyH_take (i := 8) (oi := _) (v := _) ?hi9 (by kernel_rfl) (by kernel_rfl) (by kernel_rfl) (fun _ _ _ h => h) (Or.inl ⟨?hw9, ?hy9⟩) (by assumption) ?rest9
        case hi9 => simp only [List.getElem?_toArray, List.getElem?_cons_succ, List.getElem?_cons_zero]; rfl
        case hw9 => rfl
        case hy9 =>
          intro W hSW
          try dsimp only at hSW
          go_simp
          try with_reducible rfl
        simp only [Act.put, List.setIfInBounds_toArray, List.set_cons_zero, List.set_cons_succ]
        refine' wpAnyH_take (i := 9) (oi := _) (v := _) ?hi10 (by kernel_rfl) (by kernel_rfl) (by kernel_rfl) (fun _ _ _ h => h) (Or.inl ⟨?hw10, ?hy10⟩) (by assumption) ?rest10
        case hi10 => simp only [List.getElem?_toArray, List.getElem?_cons_succ, List.getElem?_cons_zero]; rfl
        case hw10 => rfl
        case hy10 =>
          intro W hSW
          try dsimp only at hSW
          go_simp
          try with_reducible rfl
        simp only [Act.put, List.setIfInBounds_toArray, List.set_cons_zero, List.set_cons_succ]
        refine wpAnyH_ready (rs := [10]) (by kernel_rfl) (by simp) ?_
        refine' AllReadyH.cons (o := _) ?ho11 (fun Kq hKq => ?step11) ?more11
        case ho11 => simp only [List.getElem?_toArray, List.getElem?_cons_succ, List.getElem?_cons_zero]; rfl
        case step11 =>
          go_simp
          go_at_call 16
          with_reducible refine (HAT4.out _ hvf).mono ?_
          rintro e w9 ⟨y, rfl, ⟨y0, y1⟩, rfl⟩
          have hw3 : IntKind.i64.wrap (x + 1 + y) = x + 1 + y := IntWalk.i64_in _ (by omega)
          have htm3 : (x + 1 + y).tmod 1019 = (x + 1 + y) % 1019 := Int.tmod_eq_emod_of_nonneg (by omega)
          try go_wp2_with fail
          refine hKq.out _ _ ?hS11 (fun hHeld => ?_)
          case hS11 => exact HSQ.out _ B0
          clear hKq Kq
          try simp only [Act.put, List.setIfInBounds_toArray, List.set_cons_zero, List.set_cons_succ]
          refine' wpAnyH_take (i := 11) (oi := _) (v := _) ?hi12 (by kernel_rfl) (by kernel_rfl) (by kernel_rfl) (fun _ _ _ h => h) (Or.inl ⟨?hw12, ?hy12⟩) (by assumption) ?rest12
          case hi12 => simp only [List.getElem?_toArray, List.getElem?_cons_succ, List.getElem?_cons_zero]; rfl
          case hw12 => rfl
          case hy12 =>
            intro W hSW
            try dsimp only at hSW
            go_simp
            try with_reducible rfl
          simp only [Act.put, List.setIfInBounds_toArray, List.set_cons_zero, List.set_cons_succ]
          refine' wpAnyH_take (i := 12) (oi := _) (v := _) ?hi13 (by kernel_rfl) (by kernel_rfl) (by kernel_rfl) (fun _ _ _ h => h) (Or.inl ⟨?hw13, ?hy13⟩) (by assumption) ?rest13
          case hi13 => simp only [List.getElem?_toArray, List.getElem?_cons_succ, List.getElem?_cons_zero]; rfl
          case hw13 => rfl
          case hy13 =>
            intro W hSW
            try dsimp only at hSW
            go_simp
            try with_reducible rfl
          simp only [Act.put, List.setIfInBounds_toArray, List.set_cons_zero, List.set_cons_succ]
          refine' wpAnyH_take (i := 13) (oi := _) (v := _) ?hi14 (by kernel_rfl) (by kernel_rfl) (by kernel_rfl) (fun _ _ _ h => h) (Or.inl ⟨?hw14, ?hy14⟩) (by assumption) ?rest14
          case hi14 => simp only [List.getElem?_toArray, List.getElem?_cons_succ, List.getElem?_cons_zero]; rfl
          case hw14 => rfl
          case hy14 =>
            intro W hSW
            try dsimp only at hSW
            go_simp
            try with_reducible rfl
          simp only [Act.put, List.setIfInBounds_toArray, List.set_cons_zero, List.set_cons_succ]
          refine wpAnyH_done (by kernel_rfl) ?_ _
          simp only [headPost, List.drop_succ_cons, List.drop_zero]
          obtain ⟨z, hz⟩ : ∃ z, z = (x + 1 + y) % 1019 := ⟨_, rfl⟩
          rw [← hz]
          have hzb : (0 ≤ z ∧ z ≤ 1018) ∧ z ≠ x := by omega
          clear hz hHeld htm3 hw3 hw1 y0 y1 HSQ hvf
          have Og := Og0.store (i := k) hkl z
          have Qg0 := B0.keep Qf
          have Pg0 := B0.keep Pf
          have Qg := Qg0.far (p := ⟨g9, k, none⟩) (by dsimp only; omega) (.int .i64 z)
          have Pg := Pg0.far (p := ⟨g9, k, none⟩) (by dsimp only; omega) (.int .i64 z)
          have Bg := (Bf.trans B0).setCell (p := ⟨g9, k, none⟩) (by dsimp only; omega) (.int .i64 z)
          have ckd := B0.cell1 hgz ckk
          have fkd : wf.drew.frozen? ⟨g9, k, none⟩ = false := fk
          clear Qf Pf Of Bf B0 Og0 ckk fk Qg0 Pg0
          go_upto_region 17 with fail
          refine NoPanic.normal ?_
          have eWG : wf.drew.setCell ⟨g9, k, none⟩ (.int .i64 z) = (wf.setCell ⟨g9, k, none⟩ (.int .i64 z)).drew := by first | rfl | simp
          rw [eWG] at Og Qg Pg Bg
          clear eWG
          generalize ((wf.setCell ⟨g9, k, none⟩ (.int .i64 z)).drew) = wg at *
          clear ckd fkd
          obtain ⟨ql, hql⟩ : ∃ ql, ql = pl.set k z := ⟨_, rfl⟩
          rw [← hql] at Og
          have hqll : ql.length = pl.length := by rw [hql, List.length_set]
          have hqlr : Row (colN m) ql := by rw [hql]; exact set_row HPR.out hzb.1
          have hqln : ql ≠ lcZ m cs := by rw [hql, ← HPL.out]; exact set_ne hkl HXK.out hzb.2
          have HQL := Lib.hid hql
          obtain ⟨n1, n2, n3, n4⟩ := nk_plain HG.out HK.out.1 HCL.out HCB.out hqlr hqln
          obtain ⟨⟨QU, hQU⟩, hUl, _⟩ := keys_und (show m.length + colN m ≤ 40 by omega) HK.out.1
          obtain ⟨U, hU⟩ : ∃ U, U = orthZ (m.length + colN m) (spanZ (m.length + colN m) K) := ⟨_, rfl⟩
          rw [← hU] at n2 n3 hQU hUl
          obtain ⟨S, hS⟩ : ∃ S, S = genZ m := ⟨_, rfl⟩
          have hSR : Red (m.length + colN m) S (fun i => i) := by rw [hS]; exact genZ_red HMT.out
          have hSl : S.length = m.length := by rw [hS, genZ_len]
          rw [← hS] at n3 n4
          obtain ⟨c, hc⟩ : ∃ c : Nat, c = m.length + colN m := ⟨_, rfl⟩
          have hrow : Row c (cs ++ ql) := by rw [hc]; exact gen_row HCL.out HCB.out hqlr
          have hc40 : c ≤ 40 := by omega
          have HVC : Hid (vecB cs = true) := Lib.hid (cpB_facts HCP.out).2.1
          have hpa : passB a (m.length : Int) (colN m : Int) a K cs pl = true := by rw [pass_eq HG.out HNK.out HCL.out HVC.out HPR.out, HPL.out]; exact n1
          have hqa : passB a (m.length : Int) (colN m : Int) a K cs ql = K.all (orthB (cs ++ ql)) := pass_eq HG.out HNK.out HCL.out HVC.out hqlr
          rw [← hc] at hQU hUl hSR
          have hcon : K.all (orthB (cs ++ ql)) = true ↔ InS U (cs ++ ql) := n2
          have RKg := RKa.keep Bg
          have RGg := RGa.keep Bg
          have R1g := R1a.keep Bg
          have R2g := R2a.keep Bg
          have R3g : RI wg (.slice (some ⟨g9, 0, none⟩) pl.length c3) ql := Og.reads
          have CU : Hid (∀ W, Bel wg W → Calls Tryz.prog 19 #[.agg #[.int .i64 a, .int .i64 (m.length : Int), .int .i64 (colN m : Int), .slice Ak K.length ck]] W fun e w' => ∃ Au cu, e = .returned (.agg #[.int .i64 (c : Int), .slice Au U.length cu]) ∧ RII w' (.slice Au U.length cu) U ∧ Bel W w') := Lib.hid (fun W b => by
            have h := undI a (m.length : Int) (colN m : Int) _ K W (RKg.keep b)
            rw [(und_yes HNK.out).1, (und_yes HNK.out).2, ← hU, ← hc] at h
            refine h.mono ?_
            rintro e w' ⟨r, rfl, O, b'⟩
            obtain ⟨Au, cu, er, _, _, _⟩ := id O.reads
            subst er
            exact ⟨Au, cu, rfl, O.reads, b'⟩)
          have CS : Hid (∀ W, Bel wg W → Calls Tryz.prog 20 #[.agg #[.int .i64 a, .slice Ag m.length cg]] W fun e w' => ∃ As cz, e = .returned (.agg #[.int .i64 (c : Int), .slice As S.length cz]) ∧ RII w' (.slice As S.length cz) S ∧ Bel W w') := Lib.hid (fun W b => by
            have h := gspI a _ m W (RGg.keep b)
            rw [(gsp_yes HG.out).1, (gsp_yes HG.out).2, ← hS, ← hc] at h
            refine h.mono ?_
            rintro e w' ⟨r, rfl, O, b'⟩
            obtain ⟨As, cz, er, _, _, _⟩ := id O.reads
            subst er
            exact ⟨As, cz, rfl, O.reads, b'⟩)
          have HRC := Lib.hid (And.intro hrow (And.intro hc40 (And.intro hQU (And.intro hSR (And.intro n3 n4)))))
          have HCON := Lib.hid hcon
          have HPA := Lib.hid hpa
          have HQA := Lib.hid hqa
          have HSL := Lib.hid hSl
          have hUlt : (U.length : Int) < (m.length : Int) + (pl.length : Int) := by have := HLL.out; omega
          have hwm : IntKind.i64.wrap ((m.length : Int) + (pl.length : Int)) = (m.length : Int) + (pl.length : Int) := IntWalk.i64_in _ (by omega)
          have HQLL := Lib.hid hqll
          have HQLR := Lib.hid hqlr
          clear n1 n2 n3 n4 hQU hU hS hSR hrow hcon hpa hqa hSl hc hql hqll hqlr hqln hUl
          have Kg := Bg.keep Ka
          have Gg := Bg.keep Ga
          have Yg := Ya.trans Bg
          clear Ka Ga Ya Bg RKa RGa R1a R2a HQL
          obtain ⟨ckk, fkk, zkk⟩ := Kg.facts
          go_wp2_with fail
          refine (CU.out _ (Bel.refl _)).mono ?_
          rintro e wh ⟨Au, cu, rfl, RU, bh⟩
          clear ckk fkk zkk
          have Bi := bh.alloc (.cells #[.int .i64 (c : Int), .slice Au U.length cu] 40)
          have Ui := Blk.new wh 40 #[.int .i64 (c : Int), .slice Au U.length cu]
          have RUi := RU.keep ((Bel.refl wh).alloc (.cells #[.int .i64 (c : Int), .slice Au U.length cu] 40))
          have Gi := Bi.keep Gg
          obtain ⟨cgi, fgi, zgi⟩ := Gi.facts
          go_wp2_with fail
          refine (CS.out _ Bi).mono ?_
          rintro e wj ⟨As, cz, rfl, RS, bj⟩
          clear cgi fgi zgi
          have Bk := (Bi.trans bj).alloc (.cells #[.int .i64 (c : Int), .slice As S.length cz] 40)
          have bjk := bj.alloc (.cells #[.int .i64 (c : Int), .slice As S.length cz] 40)
          have Sk := Blk.new wj 40 #[.int .i64 (c : Int), .slice As S.length cz]
          have Uk := bjk.keep Ui
          have Kk := Bk.keep Kg
          have Pk := Bk.keep Pg
          have Qk := Bk.keep Qg
          have Gk := Bk.keep Gg
          have RUk := RUi.keep bjk
          have RSk := RS.keep ((Bel.refl wj).alloc (.cells #[.int .i64 (c : Int), .slice As S.length cz] 40))
          have RKk := RKg.keep Bk
          have R1k := R1g.keep Bk
          have R2k := R2g.keep Bk
          have R3k := R3g.keep Bk
          have Yk := Yg.trans Bk
          clear CU CS Ui Gi RUi Bi bj bjk Kg Pg Qg Gg RKg RGg R1g R2g R3g Yg Bk RU RS bh Og
          go_upto_region 19 with fail
          generalize (wj.alloc (.cells #[.int .i64 (c : Int), .slice As S.length cz] 40)) = wk at *
          have HSX : Hid (∀ W, Bel wk W → W.cell? ⟨b5, 0, none⟩ = some (.int .i64 a) ∧ W.cell? ⟨b5, 1, none⟩ = some (.int .i64 (m.length : Int)) ∧ W.cell? ⟨b5, 2, none⟩ = some (.int .i64 (colN m : Int)) ∧ W.cell? ⟨b5, 3, none⟩ = some (.slice Ak K.length ck) ∧ W.cell? ⟨wa.heap.size, 0, none⟩ = some (.int .i64 a) ∧ W.cell? ⟨wa.heap.size, 1, none⟩ = some (.slice A1 cs.length c1) ∧ W.cell? ⟨wa.heap.size, 2, none⟩ = some (.slice A2 pl.length c2) ∧ W.cell? ⟨wa.heap.size + 1, 0, none⟩ = some (.int .i64 a) ∧ W.cell? ⟨wa.heap.size + 1, 1, none⟩ = some (.slice A1 cs.length c1) ∧ W.cell? ⟨wa.heap.size + 1, 2, none⟩ = some (.slice (some ⟨g9, 0, none⟩) pl.length c3) ∧ W.cell? ⟨wh.heap.size, 0, none⟩ = some (.int .i64 (c : Int)) ∧ W.cell? ⟨wh.heap.size, 1, none⟩ = some (.slice Au U.length cu) ∧ W.cell? ⟨wj.heap.size, 0, none⟩ = some (.int .i64 (c : Int)) ∧ W.cell? ⟨wj.heap.size, 1, none⟩ = some (.slice As S.length cz) ∧ W.cell? ⟨gG, 1, none⟩ = some (.slice Ag m.length cg)) := Lib.hid (fun W b => ⟨b.cell1 Kk.lt (Kk.facts.1 0), b.cell1 Kk.lt (Kk.facts.1 1), b.cell1 Kk.lt (Kk.facts.1 2), b.cell1 Kk.lt (Kk.facts.1 3), b.cell1 Pk.lt (Pk.facts.1 0), b.cell1 Pk.lt (Pk.facts.1 1), b.cell1 Pk.lt (Pk.facts.1 2), b.cell1 Qk.lt (Qk.facts.1 0), b.cell1 Qk.lt (Qk.facts.1 1), b.cell1 Qk.lt (Qk.facts.1 2), b.cell1 Uk.lt (Uk.facts.1 0), b.cell1 Uk.lt (Uk.facts.1 1), b.cell1 Sk.lt (Sk.facts.1 0), b.cell1 Sk.lt (Sk.facts.1 1), b.cell1 Gk.lt (Gk.facts.1 1)⟩)
          have CA : Hid (∀ W, Bel wk W → Calls Tryz.prog 21 #[.agg #[.int .i64 a, .int .i64 (m.length : Int), .int .i64 (colN m : Int), .slice Ak K.length ck], .agg #[.int .i64 a, .slice A1 cs.length c1, .slice A2 pl.length c2]] W fun e w' => e = .returned (.bool true) ∧ Bel W w') := Lib.hid (fun W b => by
            have h := passI a (m.length : Int) (colN m : Int) a _ _ _ K cs pl W (RKk.keep b) (R1k.keep b) (R2k.keep b)
            rwa [HPA.out] at h)
          have CI : Hid (∀ W, Bel wk W → Calls Tryz.prog 22 #[.agg #[.int .i64 (c : Int), .slice As S.length cz], .agg #[.int .i64 (c : Int), .slice Au U.length cu]] W fun e w' => e = .returned (.bool true) ∧ Bel W w') := Lib.hid (fun W b => issR c _ _ S U _ QU W (RSk.keep b) (RUk.keep b) HRC.out.2.2.2.1 HRC.out.2.2.1 HRC.out.2.1 HRC.out.2.2.2.2.1)
          have CDS : Hid (∀ W, Bel wk W → Calls Tryz.prog 23 #[.agg #[.int .i64 (c : Int), .slice As S.length cz]] W fun e w' => e = .returned (.int .i64 (m.length : Int)) ∧ Bel W w') := Lib.hid (fun W b => by
            have h := dimR c _ S _ W (RSk.keep b) HRC.out.2.2.2.1 HRC.out.2.1
            rw [← HSL.out]
            exact h)
          have CDU : Hid (∀ W, Bel wk W → Calls Tryz.prog 23 #[.agg #[.int .i64 (c : Int), .slice Au U.length cu]] W fun e w' => e = .returned (.int .i64 (U.length : Int)) ∧ Bel W w') := Lib.hid (fun W b => dimR c _ U _ W (RUk.keep b) HRC.out.2.2.1 HRC.out.2.1)
          obtain ⟨bq, hbq⟩ : ∃ bq, bq = K.all (orthB (cs ++ ql)) := ⟨_, rfl⟩
          have CQ : Hid (∀ W, Bel wk W → Calls Tryz.prog 21 #[.agg #[.int .i64 a, .int .i64 (m.length : Int), .int .i64 (colN m : Int), .slice Ak K.length ck], .agg #[.int .i64 a, .slice A1 cs.length c1, .slice (some ⟨g9, 0, none⟩) pl.length c3]] W fun e w' => e = .returned (.bool bq) ∧ Bel W w') := Lib.hid (fun W b => by
            have h := passI a (m.length : Int) (colN m : Int) a _ _ _ K cs ql W (RKk.keep b) (R1k.keep b) (R3k.keep b)
            rwa [HQA.out, ← hbq] at h)
          have CRW : Hid (∀ W, Bel wk W → Calls Tryz.prog 25 #[.agg #[.int .i64 a, .slice A1 cs.length c1, .slice (some ⟨g9, 0, none⟩) pl.length c3]] W fun e w' => ∃ r, e = .returned r ∧ RI w' r (cs ++ ql) ∧ Bel W w') := Lib.hid (fun W b => (rowI a _ _ cs ql W (R1k.keep b) (R3k.keep b) (by have q1 := HCL.out; have q2 := HQLL.out; omega)).mono (by
            rintro e w' ⟨r, rfl, O, b'⟩
            exact ⟨r, rfl, O.reads, b'⟩))
          have CCU : Hid (∀ W r, Bel wk W → RI W r (cs ++ ql) → Calls Tryz.prog 24 #[.agg #[.int .i64 (c : Int), .slice Au U.length cu], r] W fun e w' => e = .returned (.bool bq) ∧ Bel W w') := Lib.hid (fun W r b h => conR c _ r U (cs ++ ql) _ bq W (RUk.keep b) h HRC.out.2.2.1 HRC.out.1 HRC.out.2.1 (by rw [hbq]; exact HCON.out))
          have CCS : Hid (∀ W r, Bel wk W → RI W r (cs ++ ql) → Calls Tryz.prog 24 #[.agg #[.int .i64 (c : Int), .slice As S.length cz], r] W fun e w' => e = .returned (.bool false) ∧ Bel W w') := Lib.hid (fun W r b h => conR c _ r S (cs ++ ql) _ false W (RSk.keep b) h HRC.out.2.2.2.1 HRC.out.1 HRC.out.2.1 ⟨fun q => absurd q (by decide), fun q => absurd q HRC.out.2.2.2.2.2⟩)
          clear hbq
          have B0 := (Bel.refl wk).drew
          go_region_held3 (fun W => W.cell? ⟨b5, 0, none⟩ = some (.int .i64 a) ∧ W.cell? ⟨b5, 1, none⟩ = some (.int .i64 (m.length : Int)) ∧ W.cell? ⟨b5, 2, none⟩ = some (.int .i64 (colN m : Int)) ∧ W.cell? ⟨b5, 3, none⟩ = some (.slice Ak K.length ck) ∧ W.cell? ⟨wa.heap.size, 0, none⟩ = some (.int .i64 a) ∧ W.cell? ⟨wa.heap.size, 1, none⟩ = some (.slice A1 cs.length c1) ∧ W.cell? ⟨wa.heap.size, 2, none⟩ = some (.slice A2 pl.length c2) ∧ W.cell? ⟨wa.heap.size + 1, 0, none⟩ = some (.int .i64 a) ∧ W.cell? ⟨wa.heap.size + 1, 1, none⟩ = some (.slice A1 cs.length c1) ∧ W.cell? ⟨wa.heap.size + 1, 2, none⟩ = some (.slice (some ⟨g9, 0, none⟩) pl.length c3) ∧ W.cell? ⟨wh.heap.size, 0, none⟩ = some (.int .i64 (c : Int)) ∧ W.cell? ⟨wh.heap.size, 1, none⟩ = some (.slice Au U.length cu) ∧ W.cell? ⟨wj.heap.size, 0, none⟩ = some (.int .i64 (c : Int)) ∧ W.cell? ⟨wj.heap.size, 1, none⟩ = some (.slice As S.length cz) ∧ W.cell? ⟨gG, 1, none⟩ = some (.slice Ag m.length cg)) (first | assumption | with_reducible exact HSX.out _ B0 | with_reducible exact HSX.out _ BA | with_reducible exact HSX.out _ BB | with_reducible exact HSX.out _ BC | with_reducible exact HSX.out _ BD | with_reducible exact HSX.out _ BE | with_reducible exact HSX.out _ BF | with_reducible exact HSX.out _ BG | with_reducible exact HSX.out _ BH | with_reducible exact HSX.out _ BI) (first
            | (go_at_call 21; (with_reducible refine (CA.out _ B0).mono ?_); rintro e wA ⟨rfl, bA⟩; have BA := B0.trans bA)
            | (go_at_call 22; (with_reducible refine (CI.out _ BA).mono ?_); rintro e wB ⟨rfl, bB⟩; have BB := BA.trans bB)
            | (go_at_call 23; (with_reducible refine (CDS.out _ BB).mono ?_); rintro e wC ⟨rfl, bC⟩; have BC := BB.trans bC)
            | (go_at_call 21; (with_reducible refine (CQ.out _ BC).mono ?_); rintro e wD ⟨rfl, bD⟩; have BD := BC.trans bD)
            | (go_at_call 25; (with_reducible refine (CRW.out _ BD).mono ?_); rintro e wE ⟨rE, rfl, OE, bE⟩; have BE := BD.trans bE)
            | (go_at_call 24; (with_reducible refine (CCU.out _ _ BE OE).mono ?_); rintro e wF ⟨rfl, bF⟩; have BF := BE.trans bF)
            | (go_at_call 23; (with_reducible refine (CDU.out _ BF).mono ?_); rintro e wG ⟨rfl, bG⟩; have BG := BF.trans bG)
            | (go_at_call 25; (with_reducible refine (CRW.out _ BG).mono ?_); rintro e wH ⟨rH, rfl, OH, bH⟩; have BH := BG.trans bH)
            | (go_at_call 24; (with_reducible refine (CCS.out _ _ BH OH).mono ?_); rintro e wI ⟨rfl, bI⟩; have BI := BH.trans bI))
          go_wp2
          go_ret
          exact ⟨rfl, Yk.trans BI⟩
        exact AllReadyH.nil
set_option maxRecDepth 100000 in
theorem lifted (os : Os) (started : os.Started) (H : Type) (enc : TypeId × Value → H) :
    ReturnsInHanded {} Tryz.checked os 4 .any (Rows.fnNullKeysSpec.pre6 enc Tryz.prog Tryz.f4 Rows.fnNullKeysRow.domain false) (Rows.fnNullKeysSpec.post enc Tryz.prog Tryz.f4 false true false false) := by
  refine returnsInHanded_of_change (C := Tryz.checked) own started (by kernel_rfl) Tryz.func4
    (ChangeSpec.witness6 (enc := enc) (C := Tryz.checked) false ⟨#[], #[.slice none 0 0], []⟩ 8 (by kernel_rfl) (by kernel_rfl) (by kernel_rfl) (by kernel_rfl)) ?_
  intro W base args ds gs before hval0 hW hcnd _
  have hval : ∀ (j : Nat) t v, Tryz.f4.params[j]? = some t → args[j]? = some v → Value.okWide Tryz.prog W .any base t v := hval0
  have hW' := hW
  obtain ⟨p, q, hA0, hV, rfl, hfz, hnd⟩ := hW
  have hA : DataW.TrodAll enc Tryz.prog W 0 (fun _ => true) true Tryz.f4.params.toList args.toList ds p := hA0
  rw [Tryz.params4] at hA hval
  obtain ⟨v0, vs0, d0, ds0, p0, q0, hargs, rfl, rfl, h0, r0⟩ := trodAll_cons hA
  obtain ⟨rfl, rfl, rfl⟩ := trodAll_nil r0
  obtain rfl : args = #[v0] := by cases args; simp_all
  obtain ⟨rfl, rfl⟩ := trodVars_none hV
  have k0 := h0
  have lt0 : ∀ x ∈ p0, x.block < W.heap.size := by obtain ⟨m, hm⟩ := k0; exact DataW.trod_lt m _ _ _ hm
  obtain ⟨x0, f0⟩ := openBytes (hval 0 37 v0 rfl rfl) h0
  clear hA0 hval0
  refine (walk W v0 x0 f0).mono fun e W' ⟨he, bel⟩ => ?_
  subst he
  exact ⟨_, rfl, _, _, _, [], _, [], hW', trodAll_mk1 (shut_bool Tryz.underlying4 _), (trodAll_cons_mk (Below.trod laidOut (by kernel_rfl) (of_decide_eq_true (by kernel_rfl)) k0 bel lt0) trodAll_mk0), rfl, bel.frame _, fun h => by cases h⟩

theorem over : Rows.fnNullKeysRow.holds Tryz.pinned (OpenSpec.ofChange Rows.fnNullKeysSpec) :=
  OpenClaim.holds_of_wide 4 Tryz.f4 rfl rfl rfl rfl rfl rfl rfl ⟨rfl, rfl, rfl, rfl, rfl⟩ rfl rfl rfl rfl rfl (by kernel_rfl) Tryz.func4 (by kernel_rfl)
    (of_decide_eq_true (by kernel_rfl)) (by unfold Func.isWrapper; first | (rw [if_pos (by decide +kernel)]; kernel_rfl) | (rw [if_neg (by decide +kernel)]; exact ⟨rfl, rfl⟩))
    (fun os started H enc _ => lifted os started H enc)

theorem proved : Rows.FnNullKeysSaid := over
#print axioms proved
end Go.Proofs.YtjaagabbbnokdaaGreat.fnNullKeys
