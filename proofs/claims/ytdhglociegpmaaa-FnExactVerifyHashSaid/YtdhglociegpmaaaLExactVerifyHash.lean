/-
  FnExactVerifyHash: for every hash key, hashes and packet the program's VerifyHash returns what the reference's returns, and leaves its arguments alone. No condition.
-/
import Derived.Test.YtdhglociegpmaaaOpenP
import Derived.Test.YtdhglociegpmaaaKHkey
import Derived.Test.YtdhglociegpmaaaKPkt
import Derived.Test.YtdhglociegpmaaaVh
import Derived.Deep.RegionHeld3
namespace Go.Proofs.Ytdhglociegpmaaa.fnExactVerifyHash
open Go.ChangeShapes Go.WideShapes Go.ChangeAt Go.RowKit
set_option linter.unusedVariables false
set_option maxRecDepth 100000

set_option maxHeartbeats 4000000 in
theorem walk (w : World) (v0 : Value) (x0 : List Int) (f0 : IsHkey w v0 x0) (v1 : Value) (x1 : List Int) (f1 : IsInts w v1 x1) (v2 : Value) (x2 : Int × List Int × List Int) (f2 : IsPkt w v2 x2) :
    Calls Try.prog 6 #[v0, v1, v2] w fun e w' => e = .returned (.bool true) ∧ Below w.heap.size w w' := by
  obtain ⟨p0v, rfl, hp0v, kp0v⟩ := f0
  obtain ⟨hv1, kv1⟩ := f1
  obtain ⟨p2a, xp2v, xp2u⟩ := x2
  obtain ⟨p2v, p2u, rfl, hp2v, kp2v, hp2u, kp2u, b2⟩ := f2
  dsimp only at *
  rcases Or.symm (Decidable.em (x1.length ≤ 1048576)) with nv1 | nv1
  · obtain ⟨Av1, cv1, ev1, _, _, _⟩ := hv1
    subst ev1
    have dv1 : decide ((1048576 : Int) < (x1.length : Int)) = true := by simp; omega
    go_enter Try.func6, Try.ntmps6
    go_wp2
    go_ret
    exact ⟨rfl, (((Bel.refl _).alloc _).alloc _)⟩
  have dv1 : decide ((1048576 : Int) < (x1.length : Int)) = false := by simp; omega
  have hhv1 := hv1
  obtain ⟨Av1, cv1, ev1, _, _, _⟩ := hhv1
  subst ev1
  rcases Or.symm (Decidable.em ((x0.length : Int) ≤ 1048576)) with z0 | z0
  · go_enter Try.func6, Try.ntmps6
    go_wp2_with fail
    refine (szHkey_no p0v x0 (1048576) _ (hp0v.keep (((Bel.refl _).alloc _).alloc _)) (by omega) (by omega) (by omega)).mono ?_
    rintro e wz ⟨rfl, hbz⟩
    go_wp2
    go_ret
    exact ⟨rfl, (((Bel.refl _).alloc _).alloc _).trans hbz⟩
  have dz0 : decide (1048576 - ((x0.length : Int)) < 0) = false := by simp; omega
  rcases Or.symm (Decidable.em ((xp2v.length : Int) + (xp2u.length : Int) ≤ 1048576 - ((x0.length : Int)))) with z1 | z1
  · go_enter Try.func6, Try.ntmps6
    go_wp2_with fail
    refine (szHkey_ok p0v x0 (1048576) _ (hp0v.keep (((Bel.refl _).alloc _).alloc _)) (by omega) (by omega)).mono ?_
    rintro e w1 ⟨rfl, hb1⟩
    have X0_1 := hb1.keep ((Blk.new w _ _).alloc _)
    have X1_1 := hb1.keep ((Blk.new2 w _ _ _))
    have Y1 : Bel w w1 := (((Bel.refl _).alloc _).alloc _).trans hb1
    clear hb1
    obtain ⟨cc0, _, _⟩ := X0_1.facts
    obtain ⟨cc1, _, _⟩ := X1_1.facts
    go_wp2_with fail
    refine (szPkt_no p2a p2v p2u xp2v xp2u (1048576 - ((x0.length : Int))) _ (hp2v.keep Y1) (hp2u.keep Y1) (by omega) (by omega) (by omega)).mono ?_
    rintro e wz ⟨rfl, hbz⟩
    go_wp2
    go_ret
    exact ⟨rfl, Y1.trans hbz⟩
  have dz1 : decide (1048576 - ((x0.length : Int)) - ((xp2v.length : Int) + (xp2u.length : Int)) < 0) = false := by simp; omega
  have np0v : x0.length ≤ 1048576 := by omega
  have np2v : xp2v.length ≤ 1048576 := by omega
  have np2u : xp2u.length ≤ 1048576 := by omega
  go_enter Try.func6, Try.ntmps6
  go_wp2_with fail
  refine (szHkey_ok p0v x0 (1048576) _ (hp0v.keep (((Bel.refl _).alloc _).alloc _)) (by omega) (by omega)).mono ?_
  rintro e w1 ⟨rfl, hb1⟩
  have X0_1 := hb1.keep ((Blk.new w _ _).alloc _)
  have X1_1 := hb1.keep ((Blk.new2 w _ _ _))
  have Y1 : Bel w w1 := (((Bel.refl _).alloc _).alloc _).trans hb1
  clear hb1
  obtain ⟨cc0, _, _⟩ := X0_1.facts
  obtain ⟨cc1, _, _⟩ := X1_1.facts
  go_wp2_with fail
  refine (szPkt_ok p2a p2v p2u xp2v xp2u (1048576 - ((x0.length : Int))) _ (hp2v.keep Y1) (hp2u.keep Y1) (by omega) (by omega)).mono ?_
  rintro e w2 ⟨rfl, hb2⟩
  have X0_2 := hb2.keep X0_1
  have X1_2 := hb2.keep X1_1
  have Y2 : Bel w w2 := Y1.trans hb2
  clear hb2
  clear cc0 cc1
  obtain ⟨cc0, _, _⟩ := X0_2.facts
  obtain ⟨cc1, _, _⟩ := X1_2.facts
  obtain ⟨hcX02, _, hzX02⟩ := X0_2.facts
  have rX02o0 : w2.cell? ⟨w.heap.size, 0, none⟩ = some (p0v) := hcX02 0
  clear hcX02
  obtain ⟨hcX12, _, hzX12⟩ := X1_2.facts
  have rX12o0 : w2.cell? ⟨w.heap.size + 1, 0, none⟩ = some (.int .i64 p2a) := hcX12 0
  have rX12o1 : w2.cell? ⟨w.heap.size + 1, 1, none⟩ = some (p2v) := hcX12 1
  have rX12o2 : w2.cell? ⟨w.heap.size + 1, 2, none⟩ = some (p2u) := hcX12 2
  clear hcX12
  have Yd := Y2.drew
  go_wp2_with fail
  go_region_held3 (fun w' => w'.cell? ⟨w.heap.size, 0, none⟩ = some (p0v) ∧ w'.cell? ⟨w.heap.size + 1, 0, none⟩ = some (.int .i64 p2a) ∧ w'.cell? ⟨w.heap.size + 1, 1, none⟩ = some (p2v) ∧ w'.cell? ⟨w.heap.size + 1, 2, none⟩ = some (p2u)) (first | exact ⟨hbT0.cell1 (hzX02) (rX02o0), hbT0.cell1 (hzX12) (rX12o0), hbT0.cell1 (hzX12) (rX12o1), hbT0.cell1 (hzX12) (rX12o2)⟩ | exact ⟨hbT1.cell1 (Nat.lt_of_lt_of_le (hzX02) hbT0.size) (hbT0.cell1 (hzX02) (rX02o0)), hbT1.cell1 (Nat.lt_of_lt_of_le (hzX12) hbT0.size) (hbT0.cell1 (hzX12) (rX12o0)), hbT1.cell1 (Nat.lt_of_lt_of_le (hzX12) hbT0.size) (hbT0.cell1 (hzX12) (rX12o1)), hbT1.cell1 (Nat.lt_of_lt_of_le (hzX12) hbT0.size) (hbT0.cell1 (hzX12) (rX12o2))⟩ | exact ⟨hbT2.cell1 (Nat.lt_of_lt_of_le (Nat.lt_of_lt_of_le (hzX02) hbT0.size) hbT1.size) (hbT1.cell1 (Nat.lt_of_lt_of_le (hzX02) hbT0.size) (hbT0.cell1 (hzX02) (rX02o0))), hbT2.cell1 (Nat.lt_of_lt_of_le (Nat.lt_of_lt_of_le (hzX12) hbT0.size) hbT1.size) (hbT1.cell1 (Nat.lt_of_lt_of_le (hzX12) hbT0.size) (hbT0.cell1 (hzX12) (rX12o0))), hbT2.cell1 (Nat.lt_of_lt_of_le (Nat.lt_of_lt_of_le (hzX12) hbT0.size) hbT1.size) (hbT1.cell1 (Nat.lt_of_lt_of_le (hzX12) hbT0.size) (hbT0.cell1 (hzX12) (rX12o1))), hbT2.cell1 (Nat.lt_of_lt_of_le (Nat.lt_of_lt_of_le (hzX12) hbT0.size) hbT1.size) (hbT1.cell1 (Nat.lt_of_lt_of_le (hzX12) hbT0.size) (hbT0.cell1 (hzX12) (rX12o2)))⟩ | exact ⟨hbS.cell1 (Nat.lt_of_lt_of_le (Nat.lt_of_lt_of_le (Nat.lt_of_lt_of_le (hzX02) hbT0.size) hbT1.size) hbT2.size) (hbT2.cell1 (Nat.lt_of_lt_of_le (Nat.lt_of_lt_of_le (hzX02) hbT0.size) hbT1.size) (hbT1.cell1 (Nat.lt_of_lt_of_le (hzX02) hbT0.size) (hbT0.cell1 (hzX02) (rX02o0)))), hbS.cell1 (Nat.lt_of_lt_of_le (Nat.lt_of_lt_of_le (Nat.lt_of_lt_of_le (hzX12) hbT0.size) hbT1.size) hbT2.size) (hbT2.cell1 (Nat.lt_of_lt_of_le (Nat.lt_of_lt_of_le (hzX12) hbT0.size) hbT1.size) (hbT1.cell1 (Nat.lt_of_lt_of_le (hzX12) hbT0.size) (hbT0.cell1 (hzX12) (rX12o0)))), hbS.cell1 (Nat.lt_of_lt_of_le (Nat.lt_of_lt_of_le (Nat.lt_of_lt_of_le (hzX12) hbT0.size) hbT1.size) hbT2.size) (hbT2.cell1 (Nat.lt_of_lt_of_le (Nat.lt_of_lt_of_le (hzX12) hbT0.size) hbT1.size) (hbT1.cell1 (Nat.lt_of_lt_of_le (hzX12) hbT0.size) (hbT0.cell1 (hzX12) (rX12o1)))), hbS.cell1 (Nat.lt_of_lt_of_le (Nat.lt_of_lt_of_le (Nat.lt_of_lt_of_le (hzX12) hbT0.size) hbT1.size) hbT2.size) (hbT2.cell1 (Nat.lt_of_lt_of_le (Nat.lt_of_lt_of_le (hzX12) hbT0.size) hbT1.size) (hbT1.cell1 (Nat.lt_of_lt_of_le (hzX12) hbT0.size) (hbT0.cell1 (hzX12) (rX12o2))))⟩ | go_keep) (first | (go_at_call 21; ((with_reducible refine (toHkey p0v x0 _ (by exact hp0v.keep (Yd)) np0v).mono ?_); rintro e wT0 ⟨sp0v, rfl, Op0vs, hbT0⟩)) | (go_at_call 22; ((with_reducible refine (toInts _ x1 _ (by exact hv1.keep ((Yd).trans hbT0)) nv1).mono ?_); rintro e wT1 ⟨sv1, rfl, Ov1s, hbT1⟩)) | (go_at_call 34; ((with_reducible refine (toPkt p2a p2v p2u xp2v xp2u _ (by exact hp2v.keep (((Yd).trans hbT0).trans hbT1)) (by exact hp2u.keep (((Yd).trans hbT0).trans hbT1)) np2v np2u).mono ?_); rintro e wT2 ⟨sp2v, sp2u, rfl, Op2vs, Op2us, _, hbT2⟩)) | (go_at_call 33; ((with_reducible refine (vhS p2a _ _ _ _ x0 x1 xp2v xp2u _ (by exact ((Op0vs.reads).keep hbT1).keep hbT2) (by exact (Ov1s.reads).keep hbT2) (by exact Op2vs.reads) (by exact Op2us.reads)).mono ?_); rintro e wS ⟨rfl, hbS⟩)))
  have hbR := (((((Bel.refl w2).drew).trans hbT0).trans hbT1).trans hbT2).trans hbS
  clear rX02o0 rX12o0 rX12o1 rX12o2
  have X0_R := hbR.keep X0_2
  have X1_R := hbR.keep X1_2
  have YR : Bel w wS := Y2.trans hbR
  clear Yd
  try clear cc0 cc1
  obtain ⟨cc0, _, _⟩ := X0_R.facts
  go_wp2_with fail
  refine (toHkey p0v x0 _ (hp0v.keep YR) np0v).mono ?_
  rintro e w3 ⟨tp0v, rfl, Op0vt, hb3⟩
  have X0_3 := hb3.keep X0_R
  have X1_3 := hb3.keep X1_R
  have Y3 : Bel w w3 := YR.trans hb3
  clear cc0
  obtain ⟨Atp0v, ctp0v, etp0v, _, _, _⟩ := Op0vt.reads
  subst etp0v
  have X0_3a := X0_3.alloc (.cells #[(.slice Atp0v x0.length ctp0v)] 24)
  have X1_3a := X1_3.alloc (.cells #[(.slice Atp0v x0.length ctp0v)] 24)
  have Z0_3a := Blk.new w3 24 #[(.slice Atp0v x0.length ctp0v)]
  have Y3a := Y3.alloc (.cells #[(.slice Atp0v x0.length ctp0v)] 24)
  have Pp0v_3a := Op0vt.reads.keep ((Bel.refl _).alloc (.cells #[(.slice Atp0v x0.length ctp0v)] 24))
  obtain ⟨g0, hg0⟩ : ∃ g, w3.heap.size = g := ⟨_, rfl⟩
  rw [hg0] at Z0_3a
  have HG0 := Lib.hid hg0
  clear hg0
  go_wp2_with fail
  refine (toInts _ x1 _ (hv1.keep Y3a) nv1).mono ?_
  rintro e w4 ⟨tv1, rfl, Ov1t, hb4⟩
  have X0_4 := hb4.keep X0_3a
  have X1_4 := hb4.keep X1_3a
  have Z0_4 := hb4.keep Z0_3a
  have Y4 : Bel w w4 := Y3a.trans hb4
  have Pp0v_4 := (Pp0v_3a).keep hb4
  obtain ⟨Atv1, ctv1, etv1, _, _, _⟩ := Ov1t.reads
  subst etv1
  try clear cc0 cc1
  obtain ⟨cc1, _, _⟩ := X1_4.facts
  go_wp2_with fail
  refine (toPkt p2a p2v p2u xp2v xp2u _ (hp2v.keep Y4) (hp2u.keep Y4) np2v np2u).mono ?_
  rintro e w5 ⟨tp2v, tp2u, rfl, Op2vt, Op2ut, _, hb5⟩
  have X0_5 := hb5.keep X0_4
  have X1_5 := hb5.keep X1_4
  have Z0_5 := hb5.keep Z0_4
  have Y5 : Bel w w5 := Y4.trans hb5
  have Pp0v_5 := (Pp0v_4).keep hb5
  have Pv1_5 := (Ov1t.reads).keep hb5
  clear cc1
  obtain ⟨Atp2v, ctp2v, etp2v, _, _, _⟩ := Op2vt.reads
  subst etp2v
  obtain ⟨Atp2u, ctp2u, etp2u, _, _, _⟩ := Op2ut.reads
  subst etp2u
  have X0_5a := X0_5.alloc (.cells #[.int .i64 p2a, (.slice Atp2v xp2v.length ctp2v), (.slice Atp2u xp2u.length ctp2u)] 50)
  have X1_5a := X1_5.alloc (.cells #[.int .i64 p2a, (.slice Atp2v xp2v.length ctp2v), (.slice Atp2u xp2u.length ctp2u)] 50)
  have Z0_5a := Z0_5.alloc (.cells #[.int .i64 p2a, (.slice Atp2v xp2v.length ctp2v), (.slice Atp2u xp2u.length ctp2u)] 50)
  have Z2_5a := Blk.new w5 50 #[.int .i64 p2a, (.slice Atp2v xp2v.length ctp2v), (.slice Atp2u xp2u.length ctp2u)]
  have Y5a := Y5.alloc (.cells #[.int .i64 p2a, (.slice Atp2v xp2v.length ctp2v), (.slice Atp2u xp2u.length ctp2u)] 50)
  have Pp0v_5a := (Pp0v_5).keep ((Bel.refl _).alloc (.cells #[.int .i64 p2a, (.slice Atp2v xp2v.length ctp2v), (.slice Atp2u xp2u.length ctp2u)] 50))
  have Pv1_5a := (Pv1_5).keep ((Bel.refl _).alloc (.cells #[.int .i64 p2a, (.slice Atp2v xp2v.length ctp2v), (.slice Atp2u xp2u.length ctp2u)] 50))
  have Pp2v_5a := Op2vt.reads.keep ((Bel.refl _).alloc (.cells #[.int .i64 p2a, (.slice Atp2v xp2v.length ctp2v), (.slice Atp2u xp2u.length ctp2u)] 50))
  have Pp2u_5a := Op2ut.reads.keep ((Bel.refl _).alloc (.cells #[.int .i64 p2a, (.slice Atp2v xp2v.length ctp2v), (.slice Atp2u xp2u.length ctp2u)] 50))
  obtain ⟨g2, hg2⟩ : ∃ g, w5.heap.size = g := ⟨_, rfl⟩
  rw [hg2] at Z2_5a
  have HG2 := Lib.hid hg2
  clear hg2
  have Z0_p := Z0_5a
  rw [← HG0.out] at Z0_p
  have Z2_p := Z2_5a
  rw [← HG2.out] at Z2_p
  try clear cc0 cc1
  obtain ⟨ccz0, _, _⟩ := Z0_p.facts
  obtain ⟨ccz2, _, _⟩ := Z2_p.facts
  go_wp2_with fail
  refine (vhI p2a _ _ _ _ x0 x1 xp2v xp2u _ (Pp0v_5a) (Pv1_5a) (Pp2v_5a) (Pp2u_5a)).mono ?_
  rintro e w6 ⟨rfl, hb6⟩
  have X0_6 := hb6.keep X0_5a
  have X1_6 := hb6.keep X1_5a
  have Z0_6 := hb6.keep Z0_p
  have Z2_6 := hb6.keep Z2_p
  have Y6 : Bel w w6 := Y5a.trans hb6
  have Pp0v_6 := (Pp0v_5a).keep hb6
  have Pv1_6 := (Pv1_5a).keep hb6
  have Pp2v_6 := (Pp2v_5a).keep hb6
  have Pp2u_6 := (Pp2u_5a).keep hb6
  clear ccz0
  clear ccz2
  obtain ⟨hcX06, _, hzX06⟩ := X0_6.facts
  have rX06o0 : w6.cell? ⟨w.heap.size, 0, none⟩ = some (p0v) := hcX06 0
  clear hcX06
  obtain ⟨hcZ06, _, hzZ06⟩ := Z0_6.facts
  have rZ06o0 : w6.cell? ⟨w3.heap.size, 0, none⟩ = some ((.slice Atp0v x0.length ctp0v)) := hcZ06 0
  clear hcZ06
  have Yd := Y6.drew
  go_wp2_with fail
  go_region_held3 (fun w' => w'.cell? ⟨w.heap.size, 0, none⟩ = some (p0v) ∧ w'.cell? ⟨w3.heap.size, 0, none⟩ = some ((.slice Atp0v x0.length ctp0v))) (first | exact ⟨hbT.cell1 hzX06 rX06o0, hbT.cell1 hzZ06 rZ06o0⟩ | exact ⟨hbE.cell1 (Nat.lt_of_lt_of_le hzX06 hbT.size) (hbT.cell1 hzX06 rX06o0), hbE.cell1 (Nat.lt_of_lt_of_le hzZ06 hbT.size) (hbT.cell1 hzZ06 rZ06o0)⟩ | go_keep) (first | (go_at_call 21; ((with_reducible refine (toHkey p0v x0 _ (by exact hp0v.keep Yd) np0v).mono ?_); rintro e wT ⟨qp0v, rfl, Op0vq, hbT⟩)) | (go_at_call 16; ((with_reducible refine (eqHkey_same  _ x0 _ _ (by exact (Pp0v_6).keep (((Bel.refl _).drew).trans hbT)) (by exact Op0vq.reads)).mono ?_); rintro e wE ⟨rfl, hbE⟩)))
  have hbR := (((Bel.refl w6).drew).trans hbT).trans hbE
  clear rX06o0 rZ06o0 Yd
  obtain ⟨w7, hw7⟩ : ∃ x, x = wE := ⟨_, rfl⟩
  subst hw7
  have X0_7 := hbR.keep X0_6
  have X1_7 := hbR.keep X1_6
  have Z0_7 := hbR.keep Z0_6
  have Z2_7 := hbR.keep Z2_6
  have Y7 := Y6.trans hbR
  have Pp0v_7 := (Pp0v_6).keep hbR
  have Pv1_7 := (Pv1_6).keep hbR
  have Pp2v_7 := (Pp2v_6).keep hbR
  have Pp2u_7 := (Pp2u_6).keep hbR
  clear hbR hbT hbE
  go_wp2_with fail
  refine (toInts _ x1 _ (hv1.keep Y7) nv1).mono ?_
  rintro e w8 ⟨qv1, rfl, Ov1q, hb8⟩
  have X0_8 := hb8.keep X0_7
  have X1_8 := hb8.keep X1_7
  have Z0_8 := hb8.keep Z0_7
  have Z2_8 := hb8.keep Z2_7
  have Y8 : Bel w w8 := Y7.trans hb8
  have Pp0v_8 := (Pp0v_7).keep hb8
  have Pv1_8 := (Pv1_7).keep hb8
  have Pp2v_8 := (Pp2v_7).keep hb8
  have Pp2u_8 := (Pp2u_7).keep hb8
  go_wp2_with fail
  refine (eqInts_any _ qv1 x1 x1 _ (Pv1_8) (Ov1q.reads.keep (Bel.refl _))).mono ?_
  rintro e w9 ⟨rfl, hb9⟩
  have X0_9 := hb9.keep X0_8
  have X1_9 := hb9.keep X1_8
  have Z0_9 := hb9.keep Z0_8
  have Z2_9 := hb9.keep Z2_8
  have Y9 : Bel w w9 := Y8.trans hb9
  have Pp0v_9 := (Pp0v_8).keep hb9
  have Pv1_9 := (Pv1_8).keep hb9
  have Pp2v_9 := (Pp2v_8).keep hb9
  have Pp2u_9 := (Pp2u_8).keep hb9
  rw [decide_eq_true rfl]
  obtain ⟨hcX19, _, hzX19⟩ := X1_9.facts
  have rX19o0 : w9.cell? ⟨w.heap.size + 1, 0, none⟩ = some (.int .i64 p2a) := hcX19 0
  have rX19o1 : w9.cell? ⟨w.heap.size + 1, 1, none⟩ = some (p2v) := hcX19 1
  have rX19o2 : w9.cell? ⟨w.heap.size + 1, 2, none⟩ = some (p2u) := hcX19 2
  clear hcX19
  obtain ⟨hcZ29, _, hzZ29⟩ := Z2_9.facts
  have rZ29o0 : w9.cell? ⟨w5.heap.size, 0, none⟩ = some (.int .i64 p2a) := hcZ29 0
  have rZ29o1 : w9.cell? ⟨w5.heap.size, 1, none⟩ = some ((.slice Atp2v xp2v.length ctp2v)) := hcZ29 1
  have rZ29o2 : w9.cell? ⟨w5.heap.size, 2, none⟩ = some ((.slice Atp2u xp2u.length ctp2u)) := hcZ29 2
  clear hcZ29
  have Yd := Y9.drew
  go_wp2_with fail
  go_region_held3 (fun w' => w'.cell? ⟨w.heap.size + 1, 0, none⟩ = some (.int .i64 p2a) ∧ w'.cell? ⟨w.heap.size + 1, 1, none⟩ = some (p2v) ∧ w'.cell? ⟨w.heap.size + 1, 2, none⟩ = some (p2u) ∧ w'.cell? ⟨w5.heap.size, 0, none⟩ = some (.int .i64 p2a) ∧ w'.cell? ⟨w5.heap.size, 1, none⟩ = some ((.slice Atp2v xp2v.length ctp2v)) ∧ w'.cell? ⟨w5.heap.size, 2, none⟩ = some ((.slice Atp2u xp2u.length ctp2u))) (first | exact ⟨hbT.cell1 hzX19 rX19o0, hbT.cell1 hzX19 rX19o1, hbT.cell1 hzX19 rX19o2, hbT.cell1 hzZ29 rZ29o0, hbT.cell1 hzZ29 rZ29o1, hbT.cell1 hzZ29 rZ29o2⟩ | exact ⟨hbE.cell1 (Nat.lt_of_lt_of_le hzX19 hbT.size) (hbT.cell1 hzX19 rX19o0), hbE.cell1 (Nat.lt_of_lt_of_le hzX19 hbT.size) (hbT.cell1 hzX19 rX19o1), hbE.cell1 (Nat.lt_of_lt_of_le hzX19 hbT.size) (hbT.cell1 hzX19 rX19o2), hbE.cell1 (Nat.lt_of_lt_of_le hzZ29 hbT.size) (hbT.cell1 hzZ29 rZ29o0), hbE.cell1 (Nat.lt_of_lt_of_le hzZ29 hbT.size) (hbT.cell1 hzZ29 rZ29o1), hbE.cell1 (Nat.lt_of_lt_of_le hzZ29 hbT.size) (hbT.cell1 hzZ29 rZ29o2)⟩ | go_keep) (first | (go_at_call 34; ((with_reducible refine (toPkt p2a p2v p2u xp2v xp2u _ (by exact hp2v.keep Yd) (by exact hp2u.keep Yd) np2v np2u).mono ?_); rintro e wT ⟨qp2v, qp2u, rfl, Op2vq, Op2uq, _, hbT⟩)) | (go_at_call 36; ((with_reducible refine (eqPkt_same p2a _ _ xp2v xp2u _ _ _ (by exact (Pp2v_9).keep (((Bel.refl _).drew).trans hbT)) (by exact (Pp2u_9).keep (((Bel.refl _).drew).trans hbT)) (by exact Op2vq.reads) (by exact Op2uq.reads)).mono ?_); rintro e wE ⟨rfl, hbE⟩)))
  have hbR := (((Bel.refl w9).drew).trans hbT).trans hbE
  clear rX19o0 rX19o1 rX19o2 rZ29o0 rZ29o1 rZ29o2 Yd
  obtain ⟨w10, hw10⟩ : ∃ x, x = wE := ⟨_, rfl⟩
  subst hw10
  have X0_10 := hbR.keep X0_9
  have X1_10 := hbR.keep X1_9
  have Z0_10 := hbR.keep Z0_9
  have Z2_10 := hbR.keep Z2_9
  have Y10 := Y9.trans hbR
  have Pp0v_10 := (Pp0v_9).keep hbR
  have Pv1_10 := (Pv1_9).keep hbR
  have Pp2v_10 := (Pp2v_9).keep hbR
  have Pp2u_10 := (Pp2u_9).keep hbR
  clear hbR hbT hbE
  go_wp2
  go_ret
  exact ⟨rfl, Y10⟩

set_option maxRecDepth 100000 in
theorem lifted (os : Os) (started : os.Started) (H : Type) (enc : TypeId × Value → H) :
    ReturnsInHanded {} Try.checked os 6 .any (Rows.fnExactVerifyHashSpec.pre6 enc Try.prog Try.f6 Rows.fnExactVerifyHashRow.domain false) (Rows.fnExactVerifyHashSpec.post enc Try.prog Try.f6 false true false false) := by
  refine returnsInHanded_of_change (C := Try.checked) own started (by kernel_rfl) Try.func6
    (ChangeSpec.witness6 (enc := enc) (C := Try.checked) false ⟨#[], #[.agg #[.slice none 0 0], .slice none 0 0, .agg #[.int .i64 0, .slice none 0 0, .slice none 0 0]], []⟩ 8 (by kernel_rfl) (by kernel_rfl) (by kernel_rfl) (by kernel_rfl)) ?_
  intro W base args ds gs before hval0 hW hcnd _
  have hval : ∀ (j : Nat) t v, Try.f6.params[j]? = some t → args[j]? = some v → Value.okWide Try.prog W .any base t v := hval0
  have hW' := hW
  obtain ⟨p, q, hA0, hV, rfl, hfz, hnd⟩ := hW
  have hA : DataW.TrodAll enc Try.prog W 0 (fun _ => true) true Try.f6.params.toList args.toList ds p := hA0
  rw [Try.params6] at hA hval
  obtain ⟨v0, vs0, d0, ds0, p0, q0, hargs, rfl, rfl, h0, r0⟩ := trodAll_cons hA
  obtain ⟨v1, vs1, d1, ds1, p1, q1, rfl, rfl, rfl, h1, r1⟩ := trodAll_cons r0
  obtain ⟨v2, vs2, d2, ds2, p2, q2, rfl, rfl, rfl, h2, r2⟩ := trodAll_cons r1
  obtain ⟨rfl, rfl, rfl⟩ := trodAll_nil r2
  obtain rfl : args = #[v0, v1, v2] := by cases args; simp_all
  obtain ⟨rfl, rfl⟩ := trodVars_none hV
  have k0 := h0
  have lt0 : ∀ x ∈ p0, x.block < W.heap.size := by obtain ⟨m, hm⟩ := k0; exact DataW.trod_lt m _ _ _ hm
  obtain ⟨x0, f0⟩ := openHkey (hval 0 29 v0 rfl rfl) h0
  have k1 := h1
  have lt1 : ∀ x ∈ p1, x.block < W.heap.size := by obtain ⟨m, hm⟩ := k1; exact DataW.trod_lt m _ _ _ hm
  obtain ⟨x1, f1⟩ := openInts (hval 1 22 v1 rfl rfl) h1
  have k2 := h2
  have lt2 : ∀ x ∈ p2, x.block < W.heap.size := by obtain ⟨m, hm⟩ := k2; exact DataW.trod_lt m _ _ _ hm
  obtain ⟨x2, f2⟩ := openPkt (hval 2 47 v2 rfl rfl) h2
  clear hA0 hval0
  refine (walk W v0 x0 f0 v1 x1 f1 v2 x2 f2).mono fun e W' ⟨he, bel⟩ => ?_
  subst he
  exact ⟨_, rfl, _, _, _, [], _, [], hW', trodAll_mk1 (shut_bool Try.underlying4 _), (trodAll_cons_mk (Below.trod laidOut (by kernel_rfl) (of_decide_eq_true (by kernel_rfl)) k0 bel lt0) (trodAll_cons_mk (Below.trod laidOut (by kernel_rfl) (of_decide_eq_true (by kernel_rfl)) k1 bel lt1) (trodAll_cons_mk (Below.trod laidOut (by kernel_rfl) (of_decide_eq_true (by kernel_rfl)) k2 bel lt2) trodAll_mk0))), rfl, bel.frame _, fun h => by cases h⟩

theorem over : Rows.fnExactVerifyHashRow.holds Try.pinned (OpenSpec.ofChange Rows.fnExactVerifyHashSpec) :=
  OpenClaim.holds_of_wide 6 Try.f6 rfl rfl rfl rfl rfl rfl rfl ⟨rfl, rfl, rfl, rfl, rfl⟩ rfl rfl rfl rfl rfl (by kernel_rfl) Try.func6 (by kernel_rfl)
    (of_decide_eq_true (by kernel_rfl)) (by unfold Func.isWrapper; first | (rw [if_pos (by decide +kernel)]; kernel_rfl) | (rw [if_neg (by decide +kernel)]; exact ⟨rfl, rfl⟩))
    (fun os started H enc _ => lifted os started H enc)

theorem proved : Rows.FnExactVerifyHashSaid := over
#print axioms proved
end Go.Proofs.Ytdhglociegpmaaa.fnExactVerifyHash
