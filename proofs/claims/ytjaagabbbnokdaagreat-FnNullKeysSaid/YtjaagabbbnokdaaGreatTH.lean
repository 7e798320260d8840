/-
  Draws of decoders: l14Decoder: a contract for a valid generation (the decoder is valid).
-/
import Derived.Test.YtjaagabbbnokdaaGreatTF
import Derived.Test.YtjaagabbbnokdaaGreatTG
namespace Go.Proofs.YtjaagabbbnokdaaGreat
open Go.ChangeShapes Go.WideShapes Go.ChangeAt Go.RowKit Go.Joins Go.Deep
set_option linter.unusedVariables false
set_option maxRecDepth 100000

theorem Trn.set5 {cb g : Nat} {a w : World} (t : Trn cb a w) (hb : a.heap.size ≤ g) (hl : cb < g) (v0 v1 v2 v3 v4 : Value) :
    Trn cb a (((((w.setCell ⟨g, 0, none⟩ v0).setCell ⟨g, 1, none⟩ v1).setCell ⟨g, 2, none⟩ v2).setCell ⟨g, 3, none⟩ v3).setCell ⟨g, 4, none⟩ v4) :=
  ((((t.set (p := ⟨g, 0, none⟩) v0 hb hl).set (p := ⟨g, 1, none⟩) v1 hb hl).set (p := ⟨g, 2, none⟩) v2 hb hl).set (p := ⟨g, 3, none⟩) v3 hb hl).set (p := ⟨g, 4, none⟩) v4 hb hl
theorem Blk.far5 {w : World} {g b : Nat} {T : TypeId} {cs : Array Value} (h : Blk w g T cs) (hne : g ≠ b) (v0 v1 v2 v3 v4 : Value) :
    Blk (((((w.setCell ⟨b, 0, none⟩ v0).setCell ⟨b, 1, none⟩ v1).setCell ⟨b, 2, none⟩ v2).setCell ⟨b, 3, none⟩ v3).setCell ⟨b, 4, none⟩ v4) g T cs :=
  ((((h.far (p := ⟨b, 0, none⟩) (by dsimp only; omega) v0).far (p := ⟨b, 1, none⟩) (by dsimp only; omega) v1).far (p := ⟨b, 2, none⟩) (by dsimp only; omega) v2).far (p := ⟨b, 3, none⟩) (by dsimp only; omega) v3).far (p := ⟨b, 4, none⟩) (by dsimp only; omega) v4
theorem dec_nil {a b c : Int} {n : Nat} (h : fmtB a b c = true) (hn : (n : Int) = b + c) (h40 : n ≤ 40) : decB a b c (n : Int) [] = true := by
  unfold decB
  rw [h, basB_red (red_nil n) h40]
  simp [hn]

set_option maxHeartbeats 20000000 in
theorem l14DS (cb lo : Nat) (a : Int) (v : Value) (m : List (List Int)) (w : World) (hc : Cur w cb) (M : ML w lo v m) (hlo : cb < lo) (hg : gnrB a m = true) :
    Calls Tryz.prog 46 #[.pointer (some ⟨cb, 0, none⟩), .agg #[.int .i64 a, v]] w fun e w' => ∃ n : Nat, ∃ r m1, e = .returned (.agg #[.int .i64 a, .int .i64 (m.length : Int), .int .i64 (colN m : Int), .int .i64 (n : Int), r]) ∧ ML w' w.heap.size r m1 ∧ decB a (m.length : Int) (colN m : Int) (n : Int) m1 = true ∧ Trn cb w w' := by
  have hlt0 := hc.lt
  obtain ⟨A, c, rfl, _, _⟩ := M.shape
  obtain ⟨g1, g2, g3, g4, _⟩ := gnrB_facts hg
  have HG := Lib.hid hg
  have hfm : fmtB a (m.length : Int) (colN m : Int) = true := by
    unfold fmtB
    rw [show inB a 0 1000000000000 = true from decide_eq_true g1, show inB (m.length : Int) 1 8 = true from decide_eq_true (by omega), show inB (colN m : Int) 1 16 = true from decide_eq_true (by omega)]
    rfl
  obtain ⟨n, hn⟩ : ∃ n : Nat, n = m.length + colN m := ⟨_, rfl⟩
  have hn40 : n ≤ 40 := by omega
  have HDN : Hid (decB a (m.length : Int) (colN m : Int) (n : Int) [] = true) := Lib.hid (dec_nil hfm (by omega) hn40)
  have HNW : Hid (∀ W, Calls Tryz.prog 86 #[.int .i64 a, .int .i64 (m.length : Int), .int .i64 (colN m : Int)] W fun e w' => e = .returned (.agg #[.int .i64 a, .int .i64 (m.length : Int), .int .i64 (colN m : Int), .int .i64 (n : Int), .slice none 0 0]) ∧ Bel W w') := Lib.hid (fun W => by
    have h := newDS a (m.length : Int) (colN m : Int) W hfm
    rwa [show (m.length : Int) + (colN m : Int) = (n : Int) by omega] at h)
  clear hg g1 g2 g3 g4 hfm hn
  have X0 := ((Bel.refl w).alloc (.cells #[.int .i64 a, .slice A m.length c] 30)).alloc (.cells #[.int .i64 0, .int .i64 0, .int .i64 0, .int .i64 0, .slice none 0 0] 42)
  have G0 := (Blk.new w 30 #[.int .i64 a, .slice A m.length c]).alloc (.cells #[.int .i64 0, .int .i64 0, .int .i64 0, .int .i64 0, .slice none 0 0] 42)
  have R0 := Blk.new2 w (.cells #[.int .i64 a, .slice A m.length c] 30) 42 #[.int .i64 0, .int .i64 0, .int .i64 0, .int .i64 0, .slice none 0 0]
  have M0 := M.keep X0
  have T0 : Trn cb w ((w.alloc (.cells #[.int .i64 a, .slice A m.length c] 30)).alloc (.cells #[.int .i64 0, .int .i64 0, .int .i64 0, .int .i64 0, .slice none 0 0] 42)) := Trn.of hc X0
  go_enter Tryz.func46, Tryz.ntmps46
  go_upto_region 1 with fail
  clear X0
  generalize (w.alloc (.cells #[.int .i64 a, .slice A m.length c] 30)).alloc (.cells #[.int .i64 0, .int .i64 0, .int .i64 0, .int .i64 0, .slice none 0 0] 42) = w1 at *
  have h1 : w.heap.size + 2 ≤ w1.heap.size := R0.lt
  have HSG : Hid (∀ W, Blk W w.heap.size 30 #[.int .i64 a, .slice A m.length c] → W.cell? ⟨w.heap.size, 0, none⟩ = some (.int .i64 a) ∧ W.cell? ⟨w.heap.size, 1, none⟩ = some (.slice A m.length c)) := Lib.hid (fun W k => ⟨k.facts.1 0, k.facts.1 1⟩)
  go_cut [5] from 9 to 17 (fun s5 wx => ∃ gb : Nat, s5 = .pointer (some ⟨gb, 0, none⟩) ∧ Blk wx gb 42 #[.int .i64 a, .int .i64 (m.length : Int), .int .i64 (colN m : Int), .int .i64 (n : Int), .slice none 0 0] ∧ w1.heap.size ≤ gb ∧ Bel w1 wx)
  case first =>
    have BZ := ((Bel.refl w1).alloc (.cells #[.int .i64 0, .int .i64 0, .int .i64 0, .int .i64 0, .slice none 0 0] 42)).drew
    have B0 := (Bel.refl w1).drew
    have G0d := B0.keep G0
    have GZ := BZ.keep G0
    have KZ0 := (Blk.new w1 42 #[.int .i64 0, .int .i64 0, .int .i64 0, .int .i64 0, .slice none 0 0]).drew
    have M0d := M0.keep B0
    have MZ := M0.keep BZ
    go_region_held3 (fun W => W.cell? ⟨w.heap.size, 0, none⟩ = some (.int .i64 a) ∧ W.cell? ⟨w.heap.size, 1, none⟩ = some (.slice A m.length c))
      (first | assumption | with_reducible exact HSG.out _ G0d | with_reducible exact HSG.out _ GZ | with_reducible exact HSG.out _ G6 | with_reducible exact HSG.out _ G6Z | with_reducible exact HSG.out _ GF)
      (first
        | (go_at_call 31; (with_reducible refine (colS _ m _ MZ.reads).mono ?_); rintro e w5 ⟨rfl, rfl⟩)
        | (go_at_call 31; (with_reducible refine (colS _ m _ M0d.reads).mono ?_); rintro e w5 ⟨rfl, rfl⟩)
        | (go_at_call 86; (with_reducible refine (HNW.out (w1.alloc (.cells #[.int .i64 0, .int .i64 0, .int .i64 0, .int .i64 0, .slice none 0 0] 42)).drew).mono ?_); rintro e w6 ⟨rfl, b6⟩; have G6 := b6.keep GZ; have K6 := b6.keep KZ0; have YF := ((BZ.trans b6).set5 (g := w1.heap.size) (Nat.le_refl _) (.int .i64 a) (.int .i64 (m.length : Int)) (.int .i64 (colN m : Int)) (.int .i64 (n : Int)) (.slice none 0 0)); have KF := K6.set5 (.int .i64 a) (.int .i64 (m.length : Int)) (.int .i64 (colN m : Int)) (.int .i64 (n : Int)) (.slice none 0 0); have hgb : w1.heap.size ≤ w1.heap.size := Nat.le_refl _; have GF := G6.far5 (b := w1.heap.size) (by omega) (.int .i64 a) (.int .i64 (m.length : Int)) (.int .i64 (colN m : Int)) (.int .i64 (n : Int)) (.slice none 0 0); obtain ⟨ck6, fk6, zk6⟩ := K6.facts)
        | (go_at_call 86; (with_reducible refine (HNW.out w1.drew).mono ?_); rintro e w6 ⟨rfl, b6⟩; have G6 := b6.keep G0d; have G6Z := G6.alloc (.cells #[.int .i64 0, .int .i64 0, .int .i64 0, .int .i64 0, .slice none 0 0] 42); have YF := (B0.trans b6).alloc (.cells #[.int .i64 a, .int .i64 (m.length : Int), .int .i64 (colN m : Int), .int .i64 (n : Int), .slice none 0 0] 42); have KF := Blk.new w6 42 #[.int .i64 a, .int .i64 (m.length : Int), .int .i64 (colN m : Int), .int .i64 (n : Int), .slice none 0 0]; have hgb : w1.heap.size ≤ w6.heap.size := (B0.trans b6).size; have GF := G6.alloc (.cells #[.int .i64 a, .int .i64 (m.length : Int), .int .i64 (colN m : Int), .int .i64 (n : Int), .slice none 0 0] 42)))
    all_goals (
      go_wp2_with fail
      go_meet
      exact ⟨_, rfl, KF, hgb, YF⟩)
  case rest =>
    obtain ⟨gb, rfl, K1, hgb, b1⟩ := hcut
    obtain ⟨w2, hw2⟩ : ∃ x, x = wc := ⟨_, rfl⟩
    subst hw2
    have G1 := b1.keep G0
    have R1 := b1.keep R0
    have T1 := T0.then b1
    clear G0 R0 M0 T0 b1 HNW
    go_wp2_with fail
    refine (l1BelowS cb 6 _ T1.1 (by omega) (by omega)).mono ?_
    rintro e w3 ⟨y, rfl, hy, t3⟩
    have K3 := K1.trn t3 (by omega)
    have G3 := G1.trn t3 hlt0
    have R3 := R1.trn t3 (by omega)
    have T3 := T1.trans t3
    clear K1 G1 R1 T1 t3
    obtain ⟨k, rfl⟩ : ∃ k : Nat, y = k := ⟨y.toNat, by omega⟩
    go_wp2
    go_loopg [6] k (fun f i wr => ∃ (v1 : Value) (m1 : List (List Int)), i = .int .i64 (f : Int) ∧ f ≤ 6 ∧ Blk wr gb 42 #[.int .i64 a, .int .i64 (m.length : Int), .int .i64 (colN m : Int), .int .i64 (n : Int), v1] ∧ ML wr (gb + 1) v1 m1 ∧ Hid (decB a (m.length : Int) (colN m : Int) (n : Int) m1 = true) ∧ Blk wr w.heap.size 30 #[.int .i64 a, .slice A m.length c] ∧ Blk wr (w.heap.size + 1) 42 #[.int .i64 0, .int .i64 0, .int .i64 0, .int .i64 0, .slice none 0 0] ∧ Trn cb w wr)
    case atStart => exact ⟨_, [], rfl, by omega, K3, ML.nil _ _, HDN, G3, R3, T3⟩
    case round =>
      clear K3 G3 R3 T3 HDN
      obtain ⟨v1, m1, rfl, hf6, K, O, HD, G, R, T⟩ := hrel
      obtain ⟨A1, c1, rfl, _, _⟩ := O.shape
      by_cases hlt : 0 < gk
      · have i0 : (0 : Int) < (gk : Int) := by omega
        have hwr : IntKind.i64.wrap ((gk : Int) - 1) = ((gk - 1 : Nat) : Int) := by rw [IntWalk.i64_in _ (by omega)]; omega
        have hzb := K.lt
        go_upto_region 5 with fail
        have HSB : Hid (∀ W, Blk W w.heap.size 30 #[.int .i64 a, .slice A m.length c] → Blk W gb 42 #[.int .i64 a, .int .i64 (m.length : Int), .int .i64 (colN m : Int), .int .i64 (n : Int), .slice A1 m1.length c1] → W.cell? ⟨w.heap.size, 0, none⟩ = some (.int .i64 a) ∧ W.cell? ⟨w.heap.size, 1, none⟩ = some (.slice A m.length c) ∧ W.cell? ⟨gb, 0, none⟩ = some (.int .i64 a) ∧ W.cell? ⟨gb, 1, none⟩ = some (.int .i64 (m.length : Int)) ∧ W.cell? ⟨gb, 2, none⟩ = some (.int .i64 (colN m : Int)) ∧ W.cell? ⟨gb, 3, none⟩ = some (.int .i64 (n : Int)) ∧ W.cell? ⟨gb, 4, none⟩ = some (.slice A1 m1.length c1)) := Lib.hid (fun W k q => ⟨k.facts.1 0, k.facts.1 1, q.facts.1 0, q.facts.1 1, q.facts.1 2, q.facts.1 3, q.facts.1 4⟩)
        have BZ := ((Bel.refl wr).alloc (.cells #[.int .i64 0, .int .i64 0, .int .i64 0, .int .i64 0, .slice none 0 0] 42)).drew
        have B0 := (Bel.refl wr).drew
        have G0d := B0.keep G
        have GZ := BZ.keep G
        have K0d := B0.keep K
        have KZ := BZ.keep K
        have X0 := (Blk.new wr 42 #[.int .i64 0, .int .i64 0, .int .i64 0, .int .i64 0, .slice none 0 0]).drew
        have T0d := T.then B0
        have TZ := T.then BZ
        have M0d := M.mid T0d.2 (by omega)
        have MZ := M.mid TZ.2 (by omega)
        have C0d := T0d.1
        have CZ := TZ.1
        have O0d := O.keep B0
        have OZ := O.keep BZ
        have R0d := B0.keep R
        have RZ := BZ.keep R
        have hwz : w.heap.size + 2 ≤ wr.heap.size := by omega
        go_region_held3 (fun W => W.cell? ⟨w.heap.size, 0, none⟩ = some (.int .i64 a) ∧ W.cell? ⟨w.heap.size, 1, none⟩ = some (.slice A m.length c) ∧ W.cell? ⟨gb, 0, none⟩ = some (.int .i64 a) ∧ W.cell? ⟨gb, 1, none⟩ = some (.int .i64 (m.length : Int)) ∧ W.cell? ⟨gb, 2, none⟩ = some (.int .i64 (colN m : Int)) ∧ W.cell? ⟨gb, 3, none⟩ = some (.int .i64 (n : Int)) ∧ W.cell? ⟨gb, 4, none⟩ = some (.slice A1 m1.length c1))
          (first | assumption | with_reducible exact HSB.out _ G0d K0d | with_reducible exact HSB.out _ GZ KZ | with_reducible exact HSB.out _ G5 K5 | with_reducible exact HSB.out _ G5Z K5Z | with_reducible exact HSB.out _ G6 K6 | with_reducible exact HSB.out _ G6Z K6Z | with_reducible exact HSB.out _ GF KF)
          (first
            | (go_at_call 88; (with_reducible refine (l11PS cb lo a _ m _ CZ MZ hlo HG.out).mono ?_); rintro e w5 ⟨p1, p2, co, pl, rfl, Q1, Q2, hql, t5⟩; have G5 := GZ.trn t5 hlt0; have K5 := KZ.trn t5 (by omega); have O5 := OZ.mid t5.2 (by omega); have R5 := RZ.trn t5 (by omega); have T5 := TZ.trans t5; have X5 := X0.trn t5 (by omega); have HQL := Lib.hid hql; clear hql)
            | (go_at_call 88; (with_reducible refine (l11PS cb lo a _ m _ C0d M0d hlo HG.out).mono ?_); rintro e w5 ⟨p1, p2, co, pl, rfl, Q1, Q2, hql, t5⟩; have G5 := G0d.trn t5 hlt0; have K5 := K0d.trn t5 (by omega); have O5 := O0d.mid t5.2 (by omega); have R5 := R0d.trn t5 (by omega); have T5 := T0d.trans t5; have B5 := (Bel.refl w5).alloc (.cells #[.int .i64 0, .int .i64 0, .int .i64 0, .int .i64 0, .slice none 0 0] 42); have G5Z := B5.keep G5; have K5Z := B5.keep K5; have HQL := Lib.hid hql; clear hql)
            | (have _ := X5; go_at_call 87; (with_reducible refine (addPS a (m.length : Int) (colN m : Int) n _ m1 a _ _ co pl _ O5.reads Q1.reads Q2.reads HD.out HQL.out).mono ?_); rintro e w6 ⟨r2, qf, m2, rfl, O6, hd2, b6⟩; obtain ⟨A2, c2, e2, _, _⟩ := O6.shape; subst e2; have HD2 := Lib.hid hd2; clear hd2; have hx5 := X5.lt; have hk5 := K5.lt; have X6 := b6.keep X5; have R6 := b6.keep R5; have T6 := T5.then b6; have G6 := b6.keep G5; have K6 := b6.keep K5; have XF := X6.set5 (.int .i64 a) (.int .i64 (m.length : Int)) (.int .i64 (colN m : Int)) (.int .i64 (n : Int)) (.slice A2 m2.length c2); have GF := G6.far5 (b := wr.heap.size) (by omega) (.int .i64 a) (.int .i64 (m.length : Int)) (.int .i64 (colN m : Int)) (.int .i64 (n : Int)) (.slice A2 m2.length c2); have KF := K6.far5 (b := wr.heap.size) (by omega) (.int .i64 a) (.int .i64 (m.length : Int)) (.int .i64 (colN m : Int)) (.int .i64 (n : Int)) (.slice A2 m2.length c2); have RF := R6.far5 (b := wr.heap.size) (by omega) (.int .i64 a) (.int .i64 (m.length : Int)) (.int .i64 (colN m : Int)) (.int .i64 (n : Int)) (.slice A2 m2.length c2); have OF := (O6.set5 (g := wr.heap.size) (by omega) (.int .i64 a) (.int .i64 (m.length : Int)) (.int .i64 (colN m : Int)) (.int .i64 (n : Int)) (.slice A2 m2.length c2)).low (lo' := gb + 1) (by omega); have TF := T6.set5 (g := wr.heap.size) (by omega) (by omega) (.int .i64 a) (.int .i64 (m.length : Int)) (.int .i64 (colN m : Int)) (.int .i64 (n : Int)) (.slice A2 m2.length c2); obtain ⟨cx6, fx6, zx6⟩ := X6.facts)
            | (go_at_call 87; (with_reducible refine (addPS a (m.length : Int) (colN m : Int) n _ m1 a _ _ co pl _ (O5.keep B5).reads (Q1.keep B5).reads (Q2.keep B5).reads HD.out HQL.out).mono ?_); rintro e w6 ⟨r2, qf, m2, rfl, O6, hd2, b6⟩; obtain ⟨A2, c2, e2, _, _⟩ := O6.shape; subst e2; have HD2 := Lib.hid hd2; clear hd2; have X5 := Blk.new w5 42 #[.int .i64 0, .int .i64 0, .int .i64 0, .int .i64 0, .slice none 0 0]; have hx5 := X5.lt; have hk5 := K5.lt; have hr5 := R5.lt; have hc5 := T5.1.lt; have X6 := b6.keep X5; have R6 := b6.keep (B5.keep R5); have T6 := (T5.then B5).then b6; have G6 := b6.keep G5Z; have K6 := b6.keep K5Z; have XF := X6.set5 (.int .i64 a) (.int .i64 (m.length : Int)) (.int .i64 (colN m : Int)) (.int .i64 (n : Int)) (.slice A2 m2.length c2); have GF := G6.far5 (b := w5.heap.size) (by omega) (.int .i64 a) (.int .i64 (m.length : Int)) (.int .i64 (colN m : Int)) (.int .i64 (n : Int)) (.slice A2 m2.length c2); have KF := K6.far5 (b := w5.heap.size) (by omega) (.int .i64 a) (.int .i64 (m.length : Int)) (.int .i64 (colN m : Int)) (.int .i64 (n : Int)) (.slice A2 m2.length c2); have RF := R6.far5 (b := w5.heap.size) (by omega) (.int .i64 a) (.int .i64 (m.length : Int)) (.int .i64 (colN m : Int)) (.int .i64 (n : Int)) (.slice A2 m2.length c2); have OF := (O6.set5 (g := w5.heap.size) (by omega) (.int .i64 a) (.int .i64 (m.length : Int)) (.int .i64 (colN m : Int)) (.int .i64 (n : Int)) (.slice A2 m2.length c2)).low (lo' := gb + 1) (by omega); have TF := T6.set5 (g := w5.heap.size) (by omega) (by omega) (.int .i64 a) (.int .i64 (m.length : Int)) (.int .i64 (colN m : Int)) (.int .i64 (n : Int)) (.slice A2 m2.length c2); obtain ⟨cx6, fx6, zx6⟩ := X6.facts)
            | (go_at_call 87; (with_reducible refine (addPS a (m.length : Int) (colN m : Int) n _ m1 a _ _ co pl _ O5.reads Q1.reads Q2.reads HD.out HQL.out).mono ?_); rintro e w6 ⟨r2, qf, m2, rfl, O6, hd2, b6⟩; obtain ⟨A2, c2, e2, _, _⟩ := O6.shape; subst e2; have HD2 := Lib.hid hd2; clear hd2; have hk5 := K5.lt; have hr5 := R5.lt; have BF := (Bel.refl w6).alloc (.cells #[.int .i64 a, .int .i64 (m.length : Int), .int .i64 (colN m : Int), .int .i64 (n : Int), .slice A2 m2.length c2] 42); have G6 := b6.keep G5; have K6 := b6.keep K5; have G6Z := G6.alloc (.cells #[.int .i64 0, .int .i64 0, .int .i64 0, .int .i64 0, .slice none 0 0] 42); have K6Z := K6.alloc (.cells #[.int .i64 0, .int .i64 0, .int .i64 0, .int .i64 0, .slice none 0 0] 42); have XF := Blk.new w6 42 #[.int .i64 a, .int .i64 (m.length : Int), .int .i64 (colN m : Int), .int .i64 (n : Int), .slice A2 m2.length c2]; have GF := BF.keep G6; have KF := BF.keep K6; have RF := BF.keep (b6.keep R5); have OF := (O6.keep BF).low (lo' := gb + 1) (by omega); have TF := (T5.then b6).then BF; have hz6 := b6.size))
        all_goals (
          obtain ⟨cxf, fxf, zxf⟩ := XF.facts
          obtain ⟨ckf, fkf, zkf⟩ := KF.facts
          have K9 := KF.set5 (.int .i64 a) (.int .i64 (m.length : Int)) (.int .i64 (colN m : Int)) (.int .i64 (n : Int)) (.slice A2 m2.length c2)
          have G9 := GF.far5 (b := gb) (by omega) (.int .i64 a) (.int .i64 (m.length : Int)) (.int .i64 (colN m : Int)) (.int .i64 (n : Int)) (.slice A2 m2.length c2)
          have R9 := RF.far5 (b := gb) (by omega) (.int .i64 a) (.int .i64 (m.length : Int)) (.int .i64 (colN m : Int)) (.int .i64 (n : Int)) (.slice A2 m2.length c2)
          have O9 := OF.set5 (g := gb) (by omega) (.int .i64 a) (.int .i64 (m.length : Int)) (.int .i64 (colN m : Int)) (.int .i64 (n : Int)) (.slice A2 m2.length c2)
          have T9 := TF.set5 (g := gb) (by omega) (by omega) (.int .i64 a) (.int .i64 (m.length : Int)) (.int .i64 (colN m : Int)) (.int .i64 (n : Int)) (.slice A2 m2.length c2)
          go_wp2
          go_roundg (gk - 1)
          case measure => omega
          case rel => exact ⟨_, m2, by first | rfl | go_num | (congr 1; omega), by omega, K9, O9, HD2, G9, R9, T9⟩)
      · have i0 : ¬ (0 : Int) < (gk : Int) := by omega
        obtain ⟨ck, fk, zk⟩ := K.facts
        obtain ⟨cr, fr, zr⟩ := R.facts
        have R9 := R.set5 (.int .i64 a) (.int .i64 (m.length : Int)) (.int .i64 (colN m : Int)) (.int .i64 (n : Int)) (.slice A1 m1.length c1)
        have O9 := O.set5 (g := w.heap.size + 1) (by omega) (.int .i64 a) (.int .i64 (m.length : Int)) (.int .i64 (colN m : Int)) (.int .i64 (n : Int)) (.slice A1 m1.length c1)
        have T9 := T.set5 (g := w.heap.size + 1) (by omega) (by omega) (.int .i64 a) (.int .i64 (m.length : Int)) (.int .i64 (colN m : Int)) (.int .i64 (n : Int)) (.slice A1 m1.length c1)
        go_wp2
        have cr9 := R9.facts.1
        clear cr fr ck fk
        refine bodyPost_ret (v := .agg #[.int .i64 a, .int .i64 (m.length : Int), .int .i64 (colN m : Int), .int .i64 (n : Int), .slice A1 m1.length c1]) (by simp [results, Tryz.results46, go_sem, cr9]) rfl ?_
        have O10 := O9.low (lo' := w.heap.size) (by omega)
        first | exact ⟨n, _, rfl, m1, O10, HD.out, T9⟩ | exact ⟨n, _, m1, rfl, O10, HD.out, T9⟩ | exact ⟨⟨n, _, rfl, m1, O10, HD.out⟩, T9⟩
end Go.Proofs.YtjaagabbbnokdaaGreat
