/-
  FnExactFindCollision: for every hash key and vector the program's FindCollision returns what the reference's returns, in memory of its own, and leaves its arguments alone. No condition.
-/
import Derived.Test.YtjlcnbicehjjjaaOpenS
import Derived.Test.YtjlcnbicehjjjaaKHkey
import Derived.Test.YtjlcnbicehjjjaaHkM
import Derived.Test.YtjlcnbicehjjjaaFnd
import Derived.Deep.RegionHeld3
namespace Go.Proofs.Ytjlcnbicehjjjaa.fnExactFindCollision
open Go.ChangeShapes Go.WideShapes Go.ChangeAt Go.RowKit
set_option linter.unusedVariables false
set_option maxRecDepth 100000

set_option maxHeartbeats 4000000 in
theorem walk (w : World) (v0 : Value) (x0 : List Int) (f0 : IsHkey w v0 x0) (v1 : Value) (x1 : List Int) (f1 : IsInts w v1 x1) :
    Calls Try.prog 4 #[v0, v1] w fun e w' => e = .returned (.bool true) ∧ Below w.heap.size w w' := by
  obtain ⟨p0v, rfl, hp0v, kp0v⟩ := f0
  obtain ⟨hv1, kv1⟩ := f1
  rcases Or.symm (Decidable.em (x1.length ≤ 1048576)) with nv1 | nv1
  · obtain ⟨Av1, cv1, ev1, _, _, _⟩ := hv1
    subst ev1
    have dv1 : decide ((1048576 : Int) < (x1.length : Int)) = true := by simp; omega
    go_enter Try.func4, Try.ntmps4
    go_wp2
    go_ret
    exact ⟨rfl, ((Bel.refl _).alloc _)⟩
  have dv1 : decide ((1048576 : Int) < (x1.length : Int)) = false := by simp; omega
  have hhv1 := hv1
  obtain ⟨Av1, cv1, ev1, _, _, _⟩ := hhv1
  subst ev1
  rcases Or.symm (Decidable.em ((x0.length : Int) ≤ 1048576)) with z0 | z0
  · go_enter Try.func4, Try.ntmps4
    go_wp2_with fail
    refine (szHkey_no p0v x0 (1048576) _ (hp0v.keep ((Bel.refl _).alloc _)) (by omega) (by omega) (by omega)).mono ?_
    rintro e wz ⟨rfl, hbz⟩
    go_wp2
    go_ret
    exact ⟨rfl, ((Bel.refl _).alloc _).trans hbz⟩
  have dz0 : decide (1048576 - ((x0.length : Int)) < 0) = false := by simp; omega
  have np0v : x0.length ≤ 1048576 := by omega
  have nD : (fcolZ x0 x1).length ≤ 2097152 := by have := fcol_len x0 x1; omega
  have hff : ((fcolB x0 x1) != (fcolB x0 x1)) = false := by simp
  obtain ⟨D, hD⟩ : ∃ D, D = fcolZ x0 x1 := ⟨_, rfl⟩
  rw [← hD] at nD
  have HD := Lib.hid hD.symm
  clear hD
  go_enter Try.func4, Try.ntmps4
  go_wp2_with fail
  refine (szHkey_ok p0v x0 (1048576) _ (hp0v.keep ((Bel.refl _).alloc _)) (by omega) (by omega)).mono ?_
  rintro e w1 ⟨rfl, hb1⟩
  have X0_1 := hb1.keep (Blk.new w _ _)
  have Y1 : Bel w w1 := ((Bel.refl _).alloc _).trans hb1
  have s1 : Hid (w.heap.size + 1 ≤ w1.heap.size) := Lib.hid hb1.sz1
  clear hb1
  obtain ⟨cc0, _, _⟩ := X0_1.facts
  clear cc0
  obtain ⟨ccX0, _, _⟩ := X0_1.facts
  go_wp2_with fail
  refine (toHkey p0v x0 _ (hp0v.keep Y1) np0v).mono ?_
  rintro e w2 ⟨sp0v, rfl, Op0vs, hb2⟩
  clear ccX0
  have X0_2 := hb2.keep X0_1
  have Y2 : Bel w w2 := Y1.trans hb2
  have s2 : Hid (w1.heap.size + 0 ≤ w2.heap.size) := Lib.hid hb2.sz0
  have M0s := Op0vs.loc (hb2.size)
  go_wp2_with fail
  refine (toInts _ x1 _ (hv1.keep Y2) nv1).mono ?_
  rintro e w3 ⟨sv1, rfl, Ov1s, hb3⟩
  have X0_3 := hb3.keep X0_2
  have Y3 : Bel w w3 := Y2.trans hb3
  have M0s_3 := M0s.keep hb3
  have s3 : Hid (w2.heap.size + 0 ≤ w3.heap.size) := Lib.hid hb3.sz0
  have M1s := Ov1s.loc (hb3.size)
  go_wp2_with fail
  refine (fcoS _ _ x0 x1 _ (M0s_3.out.reads) (M1s.out.reads)).mono ?_
  rintro e w4 ⟨rs, rfl, Os, hb4⟩
  have X0_4 := hb4.keep X0_3
  have Y4 : Bel w w4 := Y3.trans hb4
  have M0s_4 := M0s_3.keep hb4
  have M1s_4 := M1s.keep hb4
  have s4 : Hid (w3.heap.size + 0 ≤ w4.heap.size) := Lib.hid hb4.sz0
  rw [HD.out] at Os
  have Ns := Os.loc (hb4.size)
  obtain ⟨Ars, crs, ers, _, _, _⟩ := Os.reads
  subst ers
  obtain ⟨ccX0, _, _⟩ := X0_4.facts
  go_wp2_with fail
  refine (toHkey p0v x0 _ (hp0v.keep Y4) np0v).mono ?_
  rintro e w5 ⟨tp0v, rfl, Op0vt, hb5⟩
  clear ccX0
  have X0_5 := hb5.keep X0_4
  have Y5 : Bel w w5 := Y4.trans hb5
  have Ns_5 := Ns.keep hb5
  have s5 : Hid (w4.heap.size + 0 ≤ w5.heap.size) := Lib.hid hb5.sz0
  have M0t := Op0vt.loc (hb5.size)
  obtain ⟨Atp0v, ctp0v, etp0v, _, _, _⟩ := Op0vt.reads
  subst etp0v
  have Z0_a := Blk.new w5 24 #[(.slice Atp0v x0.length ctp0v)]
  have X0_Z0 := X0_5.alloc (.cells #[(.slice Atp0v x0.length ctp0v)] 24)
  have YZ0 := Y5.alloc (.cells #[(.slice Atp0v x0.length ctp0v)] 24)
  have Ns_Z0 := Ns_5.keep ((Bel.refl _).alloc (.cells #[(.slice Atp0v x0.length ctp0v)] 24))
  have M0t_Z0 := M0t.keep ((Bel.refl _).alloc (.cells #[(.slice Atp0v x0.length ctp0v)] 24))
  go_wp2_with fail
  refine (toInts _ x1 _ (hv1.keep YZ0) nv1).mono ?_
  rintro e w6 ⟨tv1, rfl, Ov1t, hb6⟩
  have X0_6 := hb6.keep X0_Z0
  have Z0_6 := hb6.keep Z0_a
  have Y6 : Bel w w6 := YZ0.trans hb6
  have Ns_6 := Ns_Z0.keep hb6
  have M0t_6 := M0t_Z0.keep hb6
  have s6 : Hid (w5.heap.size + 1 ≤ w6.heap.size) := Lib.hid hb6.sz1
  have M1t := Ov1t.loc (hb6.size)
  obtain ⟨Atv1, ctv1, etv1, _, _, _⟩ := Ov1t.reads
  subst etv1
  obtain ⟨ccZ0, _, _⟩ := Z0_6.facts
  go_wp2_with fail
  refine (fcoI _ _ x0 x1 _ (M0t_6.out.reads) (M1t.out.reads)).mono ?_
  rintro e w7 ⟨rg, rfl, Og, hb7⟩
  clear ccZ0
  have X0_7 := hb7.keep X0_6
  have Z0_7 := hb7.keep Z0_6
  have Y7 : Bel w w7 := Y6.trans hb7
  have Ns_7 := Ns_6.keep hb7
  have M0t_7 := M0t_6.keep hb7
  have M1t_7 := M1t.keep hb7
  have s7 : Hid (w6.heap.size + 0 ≤ w7.heap.size) := Lib.hid hb7.sz0
  rw [HD.out] at Og
  have Ng := Og.loc (hb7.size)
  obtain ⟨Arg, crg, erg, _, _, _⟩ := Og.reads
  subst erg
  go_wp2_with fail
  refine (eqInts_same  _ _ (D) _ (Ng.out.reads) (Ns_7.out.reads)).mono ?_
  rintro e w8 ⟨rfl, hb8⟩
  have X0_8 := hb8.keep X0_7
  have Z0_8 := hb8.keep Z0_7
  have Y8 : Bel w w8 := Y7.trans hb8
  have Ns_8 := Ns_7.keep hb8
  have M0t_8 := M0t_7.keep hb8
  have M1t_8 := M1t_7.keep hb8
  have Ng_8 := Ng.keep hb8
  have s8 : Hid (w7.heap.size + 0 ≤ w8.heap.size) := Lib.hid hb8.sz0
  obtain ⟨hcX08, _, hzX08⟩ := X0_8.facts
  have rX08o0 : w8.cell? ⟨w.heap.size, 0, none⟩ = some (p0v) := hcX08 0
  clear hcX08
  obtain ⟨hcZ08, _, hzZ08⟩ := Z0_8.facts
  have rZ08o0 : w8.cell? ⟨w5.heap.size, 0, none⟩ = some ((.slice Atp0v x0.length ctp0v)) := hcZ08 0
  clear hcZ08
  have Yd := Y8.drew
  go_wp2_with fail
  go_region_held3 (fun w' => w'.cell? ⟨w.heap.size, 0, none⟩ = some (p0v) ∧ w'.cell? ⟨w5.heap.size, 0, none⟩ = some ((.slice Atp0v x0.length ctp0v))) (first | exact ⟨hbT.cell1 hzX08 rX08o0, hbT.cell1 hzZ08 rZ08o0⟩ | exact ⟨hbE.cell1 (Nat.lt_of_lt_of_le hzX08 hbT.size) (hbT.cell1 hzX08 rX08o0), hbE.cell1 (Nat.lt_of_lt_of_le hzZ08 hbT.size) (hbT.cell1 hzZ08 rZ08o0)⟩ | go_keep) (first | (go_at_call 17; ((with_reducible refine (toHkey p0v x0 _ (by exact hp0v.keep Yd) np0v).mono ?_); rintro e wT ⟨qp0v, rfl, Op0vq, hbT⟩)) | (go_at_call 12; ((with_reducible refine (eqHkey_same  _ x0 _ _ (by exact (M0t_8.out.reads).keep (((Bel.refl _).drew).trans hbT)) (by exact Op0vq.reads)).mono ?_); rintro e wE ⟨rfl, hbE⟩)))
  have hbR := (((Bel.refl w8).drew).trans hbT).trans hbE
  clear rX08o0 rZ08o0 Yd
  obtain ⟨w9, hw9⟩ : ∃ x, x = wE := ⟨_, rfl⟩
  subst hw9
  have X0_9 := hbR.keep X0_8
  have Z0_9 := hbR.keep Z0_8
  have Y9 : Bel w w9 := Y8.trans hbR
  have Ns_9 := Ns_8.keep hbR
  have M0t_9 := M0t_8.keep hbR
  have M1t_9 := M1t_8.keep hbR
  have Ng_9 := Ng_8.keep hbR
  have s9 : Hid (w8.heap.size + 0 ≤ w9.heap.size) := Lib.hid hbR.sz0
  clear hbR hbT hbE
  go_wp2_with fail
  refine (toInts _ x1 _ (hv1.keep Y9) nv1).mono ?_
  rintro e w10 ⟨qv1, rfl, Ov1q, hb10⟩
  have X0_10 := hb10.keep X0_9
  have Z0_10 := hb10.keep Z0_9
  have Y10 : Bel w w10 := Y9.trans hb10
  have Ns_10 := Ns_9.keep hb10
  have M0t_10 := M0t_9.keep hb10
  have M1t_10 := M1t_9.keep hb10
  have Ng_10 := Ng_9.keep hb10
  have s10 : Hid (w9.heap.size + 0 ≤ w10.heap.size) := Lib.hid hb10.sz0
  go_wp2_with fail
  refine (eqInts_same _ qv1 x1 _ (M1t_10.out.reads) (Ov1q.reads.keep (Bel.refl _))).mono ?_
  rintro e w11 ⟨rfl, hb11⟩
  have X0_11 := hb11.keep X0_10
  have Z0_11 := hb11.keep Z0_10
  have Y11 : Bel w w11 := Y10.trans hb11
  have Ns_11 := Ns_10.keep hb11
  have M0t_11 := M0t_10.keep hb11
  have M1t_11 := M1t_10.keep hb11
  have Ng_11 := Ng_10.keep hb11
  have s11 : Hid (w10.heap.size + 0 ≤ w11.heap.size) := Lib.hid hb11.sz0
  obtain ⟨ccZ0, _, _⟩ := Z0_11.facts
  go_wp2_with fail
  refine (mkHkey  _ _ x0 _ _ _ M0t_11 (by omega) (by omega)).mono ?_
  rintro e w12 ⟨rfl, _, m12⟩
  clear ccZ0
  have X0_12 := X0_11.mid m12 (by have as1 := s1.out; have as2 := s2.out; have as3 := s3.out; have as4 := s4.out; have as5 := s5.out; have as6 := s6.out; have as7 := s7.out; have as8 := s8.out; have as9 := s9.out; have as10 := s10.out; have as11 := s11.out; (try simp only [World.size_alloc]); omega)
  have Z0_12 := Z0_11.mid m12 (by have as1 := s1.out; have as2 := s2.out; have as3 := s3.out; have as4 := s4.out; have as5 := s5.out; have as6 := s6.out; have as7 := s7.out; have as8 := s8.out; have as9 := s9.out; have as10 := s10.out; have as11 := s11.out; (try simp only [World.size_alloc]); omega)
  have Y12 : Bel w w12 := Y11.mid m12 (by have as1 := s1.out; have as2 := s2.out; have as3 := s3.out; have as4 := s4.out; have as5 := s5.out; have as6 := s6.out; have as7 := s7.out; have as8 := s8.out; have as9 := s9.out; have as10 := s10.out; have as11 := s11.out; (try simp only [World.size_alloc]); omega)
  have Ns_12 := Ns_11.mid m12 (by have as1 := s1.out; have as2 := s2.out; have as3 := s3.out; have as4 := s4.out; have as5 := s5.out; have as6 := s6.out; have as7 := s7.out; have as8 := s8.out; have as9 := s9.out; have as10 := s10.out; have as11 := s11.out; (try simp only [World.size_alloc]); omega)
  have M1t_12 := M1t_11.mid m12 (by have as1 := s1.out; have as2 := s2.out; have as3 := s3.out; have as4 := s4.out; have as5 := s5.out; have as6 := s6.out; have as7 := s7.out; have as8 := s8.out; have as9 := s9.out; have as10 := s10.out; have as11 := s11.out; (try simp only [World.size_alloc]); omega)
  have Ng_12 := Ng_11.mid m12 (by have as1 := s1.out; have as2 := s2.out; have as3 := s3.out; have as4 := s4.out; have as5 := s5.out; have as6 := s6.out; have as7 := s7.out; have as8 := s8.out; have as9 := s9.out; have as10 := s10.out; have as11 := s11.out; (try simp only [World.size_alloc]); omega)
  have s12 : Hid (w11.heap.size + 0 ≤ w12.heap.size) := Lib.hid m12.sz0
  go_wp2_with fail
  refine (mkIn _ _ x1 _ _ _ M1t_12.out M1t_12.1 M1t_12.2.1 (by omega) (by omega)).mono ?_
  rintro e w13 ⟨rfl, _, m13⟩
  have X0_13 := X0_12.mid m13 (by have as1 := s1.out; have as2 := s2.out; have as3 := s3.out; have as4 := s4.out; have as5 := s5.out; have as6 := s6.out; have as7 := s7.out; have as8 := s8.out; have as9 := s9.out; have as10 := s10.out; have as11 := s11.out; have as12 := s12.out; (try simp only [World.size_alloc]); omega)
  have Z0_13 := Z0_12.mid m13 (by have as1 := s1.out; have as2 := s2.out; have as3 := s3.out; have as4 := s4.out; have as5 := s5.out; have as6 := s6.out; have as7 := s7.out; have as8 := s8.out; have as9 := s9.out; have as10 := s10.out; have as11 := s11.out; have as12 := s12.out; (try simp only [World.size_alloc]); omega)
  have Y13 : Bel w w13 := Y12.mid m13 (by have as1 := s1.out; have as2 := s2.out; have as3 := s3.out; have as4 := s4.out; have as5 := s5.out; have as6 := s6.out; have as7 := s7.out; have as8 := s8.out; have as9 := s9.out; have as10 := s10.out; have as11 := s11.out; have as12 := s12.out; (try simp only [World.size_alloc]); omega)
  have Ns_13 := Ns_12.mid m13 (by have as1 := s1.out; have as2 := s2.out; have as3 := s3.out; have as4 := s4.out; have as5 := s5.out; have as6 := s6.out; have as7 := s7.out; have as8 := s8.out; have as9 := s9.out; have as10 := s10.out; have as11 := s11.out; have as12 := s12.out; (try simp only [World.size_alloc]); omega)
  have Ng_13 := Ng_12.mid m13 (by have as1 := s1.out; have as2 := s2.out; have as3 := s3.out; have as4 := s4.out; have as5 := s5.out; have as6 := s6.out; have as7 := s7.out; have as8 := s8.out; have as9 := s9.out; have as10 := s10.out; have as11 := s11.out; have as12 := s12.out; (try simp only [World.size_alloc]); omega)
  have s13 : Hid (w12.heap.size + 0 ≤ w13.heap.size) := Lib.hid m13.sz0
  have qk : decide (((1 + (x0.length : Int)) + (x1.length : Int)) < 0) = false := decide_eq_false (by omega)
  go_wp2_with fail
  refine (eqInts_same  _ _ (D) _ (Ng_13.out.reads) (Ns_13.out.reads)).mono ?_
  rintro e w14 ⟨rfl, hb14⟩
  have X0_14 := hb14.keep X0_13
  have Z0_14 := hb14.keep Z0_13
  have Y14 : Bel w w14 := Y13.trans hb14
  have Ns_14 := Ns_13.keep hb14
  have Ng_14 := Ng_13.keep hb14
  have s14 : Hid (w13.heap.size + 0 ≤ w14.heap.size) := Lib.hid hb14.sz0
  go_wp2_with fail
  refine (mkIn _ 1 (D) _ _ _ Ng_14.out Ng_14.1 Ng_14.2.1 (by omega) (by omega)).mono ?_
  rintro e w15 ⟨rfl, Lm, m15⟩
  have X0_15 := X0_14.mid m15 (by have as1 := s1.out; have as2 := s2.out; have as3 := s3.out; have as4 := s4.out; have as5 := s5.out; have as6 := s6.out; have as7 := s7.out; have as8 := s8.out; have as9 := s9.out; have as10 := s10.out; have as11 := s11.out; have as12 := s12.out; have as13 := s13.out; have as14 := s14.out; (try simp only [World.size_alloc]); omega)
  have Z0_15 := Z0_14.mid m15 (by have as1 := s1.out; have as2 := s2.out; have as3 := s3.out; have as4 := s4.out; have as5 := s5.out; have as6 := s6.out; have as7 := s7.out; have as8 := s8.out; have as9 := s9.out; have as10 := s10.out; have as11 := s11.out; have as12 := s12.out; have as13 := s13.out; have as14 := s14.out; (try simp only [World.size_alloc]); omega)
  have Y15 : Bel w w15 := Y14.mid m15 (by have as1 := s1.out; have as2 := s2.out; have as3 := s3.out; have as4 := s4.out; have as5 := s5.out; have as6 := s6.out; have as7 := s7.out; have as8 := s8.out; have as9 := s9.out; have as10 := s10.out; have as11 := s11.out; have as12 := s12.out; have as13 := s13.out; have as14 := s14.out; (try simp only [World.size_alloc]); omega)
  have Ns_15 := Ns_14.mid m15 (by have as1 := s1.out; have as2 := s2.out; have as3 := s3.out; have as4 := s4.out; have as5 := s5.out; have as6 := s6.out; have as7 := s7.out; have as8 := s8.out; have as9 := s9.out; have as10 := s10.out; have as11 := s11.out; have as12 := s12.out; have as13 := s13.out; have as14 := s14.out; (try simp only [World.size_alloc]); omega)
  have s15 : Hid (w14.heap.size + 0 ≤ w15.heap.size) := Lib.hid m15.sz0
  have qm : decide (1 + (((D).length : Nat) : Int) < 0) = false := decide_eq_false (by omega)
  go_wp2_with fail
  refine (heldInts _ 1 (D).length _ (Lm.out.reads) (by omega) (by omega)).mono ?_
  rintro e wh ⟨rfl, rfl⟩
  obtain ⟨ccX0, _, _⟩ := X0_15.facts
  go_wp2_with fail
  refine (toHkey p0v x0 _ (hp0v.keep Y15) np0v).mono ?_
  rintro e w16 ⟨hp0v, rfl, Op0vh, hb16⟩
  clear ccX0
  have X0_16 := hb16.keep X0_15
  have Z0_16 := hb16.keep Z0_15
  have Y16 : Bel w w16 := Y15.trans hb16
  have Ns_16 := Ns_15.keep hb16
  have Lm_16 := Lm.keep hb16
  have s16 : Hid (w15.heap.size + 0 ≤ w16.heap.size) := Lib.hid hb16.sz0
  have M0h := Op0vh.loc (hb16.size)
  go_wp2_with fail
  refine (toInts _ x1 _ (hv1.keep Y16) nv1).mono ?_
  rintro e w17 ⟨hv1, rfl, Ov1h, hb17⟩
  have X0_17 := hb17.keep X0_16
  have Z0_17 := hb17.keep Z0_16
  have Y17 : Bel w w17 := Y16.trans hb17
  have Ns_17 := Ns_16.keep hb17
  have Lm_17 := Lm_16.keep hb17
  have M0h_17 := M0h.keep hb17
  have s17 : Hid (w16.heap.size + 0 ≤ w17.heap.size) := Lib.hid hb17.sz0
  have M1h := Ov1h.loc (hb17.size)
  go_wp2_with fail
  refine (fcoI _ _ x0 x1 _ (M0h_17.out.reads) (M1h.out.reads)).mono ?_
  rintro e w18 ⟨rh, rfl, Oh, hb18⟩
  have X0_18 := hb18.keep X0_17
  have Z0_18 := hb18.keep Z0_17
  have Y18 : Bel w w18 := Y17.trans hb18
  have Ns_18 := Ns_17.keep hb18
  have Lm_18 := Lm_17.keep hb18
  have M0h_18 := M0h_17.keep hb18
  have M1h_18 := M1h.keep hb18
  have s18 : Hid (w17.heap.size + 0 ≤ w18.heap.size) := Lib.hid hb18.sz0
  rw [HD.out] at Oh
  have Nh := Oh.loc (hb18.size)
  obtain ⟨Arh, crh, erh, _, _, _⟩ := Oh.reads
  subst erh
  go_wp2_with fail
  refine (eqInts_same  _ _ (D) _ (Nh.out.reads) (Ns_18.out.reads)).mono ?_
  rintro e w19 ⟨rfl, hb19⟩
  have X0_19 := hb19.keep X0_18
  have Z0_19 := hb19.keep Z0_18
  have Y19 : Bel w w19 := Y18.trans hb19
  have Ns_19 := Ns_18.keep hb19
  have Lm_19 := Lm_18.keep hb19
  have Nh_19 := Nh.keep hb19
  have s19 : Hid (w18.heap.size + 0 ≤ w19.heap.size) := Lib.hid hb19.sz0
  go_wp2_with fail
  refine (heldInts _ 1 (D).length _ (Lm_19.out.reads) (by omega) (by omega)).mono ?_
  rintro e wh ⟨rfl, rfl⟩
  go_wp2
  go_ret
  exact ⟨rfl, Y19⟩

set_option maxRecDepth 100000 in
theorem lifted (os : Os) (started : os.Started) (H : Type) (enc : TypeId × Value → H) :
    ReturnsInHanded {} Try.checked os 4 .any (Rows.fnExactFindCollisionSpec.pre6 enc Try.prog Try.f4 Rows.fnExactFindCollisionRow.domain false) (Rows.fnExactFindCollisionSpec.post enc Try.prog Try.f4 false true false false) := by
  refine returnsInHanded_of_change (C := Try.checked) own started (by kernel_rfl) Try.func4
    (ChangeSpec.witness6 (enc := enc) (C := Try.checked) false ⟨#[], #[.agg #[.slice none 0 0], .slice none 0 0], []⟩ 8 (by kernel_rfl) (by kernel_rfl) (by kernel_rfl) (by kernel_rfl)) ?_
  intro W base args ds gs before hval0 hW hcnd _
  have hval : ∀ (j : Nat) t v, Try.f4.params[j]? = some t → args[j]? = some v → Value.okWide Try.prog W .any base t v := hval0
  have hW' := hW
  obtain ⟨p, q, hA0, hV, rfl, hfz, hnd⟩ := hW
  have hA : DataW.TrodAll enc Try.prog W 0 (fun _ => true) true Try.f4.params.toList args.toList ds p := hA0
  rw [Try.params4] at hA hval
  obtain ⟨v0, vs0, d0, ds0, p0, q0, hargs, rfl, rfl, h0, r0⟩ := trodAll_cons hA
  obtain ⟨v1, vs1, d1, ds1, p1, q1, rfl, rfl, rfl, h1, r1⟩ := trodAll_cons r0
  obtain ⟨rfl, rfl, rfl⟩ := trodAll_nil r1
  obtain rfl : args = #[v0, v1] := by cases args; simp_all
  obtain ⟨rfl, rfl⟩ := trodVars_none hV
  have k0 := h0
  have lt0 : ∀ x ∈ p0, x.block < W.heap.size := by obtain ⟨m, hm⟩ := k0; exact DataW.trod_lt m _ _ _ hm
  obtain ⟨x0, f0⟩ := openHkey (hval 0 29 v0 rfl rfl) h0
  have k1 := h1
  have lt1 : ∀ x ∈ p1, x.block < W.heap.size := by obtain ⟨m, hm⟩ := k1; exact DataW.trod_lt m _ _ _ hm
  obtain ⟨x1, f1⟩ := openInts (hval 1 22 v1 rfl rfl) h1
  clear hA0 hval0
  refine (walk W v0 x0 f0 v1 x1 f1).mono fun e W' ⟨he, bel⟩ => ?_
  subst he
  exact ⟨_, rfl, _, _, _, [], _, [], hW', trodAll_mk1 (shut_bool Try.underlying4 _), (trodAll_cons_mk (Below.trod laidOut (by kernel_rfl) (of_decide_eq_true (by kernel_rfl)) k0 bel lt0) (trodAll_cons_mk (Below.trod laidOut (by kernel_rfl) (of_decide_eq_true (by kernel_rfl)) k1 bel lt1) trodAll_mk0)), rfl, bel.frame _, fun h => by cases h⟩

theorem over : Rows.fnExactFindCollisionRow.holds Try.pinned (OpenSpec.ofChange Rows.fnExactFindCollisionSpec) :=
  OpenClaim.holds_of_wide 4 Try.f4 rfl rfl rfl rfl rfl rfl rfl ⟨rfl, rfl, rfl, rfl, rfl⟩ rfl rfl rfl rfl rfl (by kernel_rfl) Try.func4 (by kernel_rfl)
    (of_decide_eq_true (by kernel_rfl)) (by unfold Func.isWrapper; first | (rw [if_pos (by decide +kernel)]; kernel_rfl) | (rw [if_neg (by decide +kernel)]; exact ⟨rfl, rfl⟩))
    (fun os started H enc _ => lifted os started H enc)

theorem proved : Rows.FnExactFindCollisionSaid := over
#print axioms proved
end Go.Proofs.Ytjlcnbicehjjjaa.fnExactFindCollision
