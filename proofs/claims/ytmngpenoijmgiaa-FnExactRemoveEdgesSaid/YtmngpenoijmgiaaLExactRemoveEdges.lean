/-
  FnExactRemoveEdges: for every graph and list of edges the program's RemoveEdges returns what the reference's returns, in memory of its own, and leaves its arguments alone. No condition.
-/
import Derived.Test.YtmngpenoijmgiaaOpenT
import Derived.Test.YtmngpenoijmgiaaKGraph
import Derived.Test.YtmngpenoijmgiaaRem
import Derived.Deep.RegionHeld3
namespace Go.Proofs.Ytmngpenoijmgiaa.fnExactRemoveEdges
open Go.ChangeShapes Go.WideShapes Go.ChangeAt Go.RowKit
set_option linter.unusedVariables false
set_option maxRecDepth 100000

set_option maxHeartbeats 4000000 in
theorem walk (w : World) (v0 : Value) (x0 : Int × List Tr) (f0 : IsGraph w v0 x0) (v1 : Value) (x1 : List Int) (f1 : IsInts w v1 x1) :
    Calls Try.prog 6 #[v0, v1] w fun e w' => e = .returned (.bool true) ∧ Below w.heap.size w w' := by
  obtain ⟨p0a, xp0v⟩ := x0
  obtain ⟨p0v, rfl, hp0v, kp0v, b0⟩ := f0
  dsimp only at *
  obtain ⟨hv1, kv1⟩ := f1
  rcases Or.symm (Decidable.em (x1.length ≤ 1048576)) with nv1 | nv1
  · obtain ⟨Av1, cv1, ev1, _, _, _⟩ := hv1
    subst ev1
    have dv1 : decide ((1048576 : Int) < (x1.length : Int)) = true := by simp; omega
    go_enter Try.func6, Try.ntmps6
    go_wp2
    go_ret
    exact ⟨rfl, ((Bel.refl _).alloc _)⟩
  have dv1 : decide ((1048576 : Int) < (x1.length : Int)) = false := by simp; omega
  have hhv1 := hv1
  obtain ⟨Av1, cv1, ev1, _, _, _⟩ := hhv1
  subst ev1
  rcases Or.symm (Decidable.em ((xp0v.length : Int) ≤ 1048576)) with z0 | z0
  · go_enter Try.func6, Try.ntmps6
    go_wp2_with fail
    refine (szGraph_no p0a p0v xp0v (1048576) _ (hp0v.keep ((Bel.refl _).alloc _)) (by omega) (by omega) (by omega)).mono ?_
    rintro e wz ⟨rfl, hbz⟩
    go_wp2
    go_ret
    exact ⟨rfl, ((Bel.refl _).alloc _).trans hbz⟩
  have dz0 : decide (1048576 - ((xp0v.length : Int)) < 0) = false := by simp; omega
  have np0v : xp0v.length ≤ 1048576 := by omega
  have nD : (remL x1 xp0v).length ≤ 2097152 := by have := remL_len x1 xp0v; omega
  obtain ⟨D, hD⟩ : ∃ D, D = remL x1 xp0v := ⟨_, rfl⟩
  rw [← hD] at nD
  have HD := Lib.hid hD.symm
  clear hD
  go_enter Try.func6, Try.ntmps6
  go_wp2_with fail
  refine (szGraph_ok p0a p0v xp0v (1048576) _ (hp0v.keep ((Bel.refl _).alloc _)) (by omega) (by omega)).mono ?_
  rintro e w1 ⟨rfl, hb1⟩
  have X0_1 := hb1.keep ((Blk.new w _ _))
  have Y1 : Bel w w1 := ((Bel.refl _).alloc _).trans hb1
  have s1 : Hid (w.heap.size + 1 ≤ w1.heap.size) := Lib.hid hb1.sz1
  clear hb1
  obtain ⟨cc0, _, _⟩ := X0_1.facts
  clear cc0
  obtain ⟨ccX0, _, _⟩ := X0_1.facts
  go_wp2_with fail
  refine (toGraph p0a p0v xp0v _ (hp0v.keep Y1) np0v).mono ?_
  rintro e w2 ⟨sp0v, rfl, Op0vs, hb2⟩
  clear ccX0
  have X0_2 := hb2.keep X0_1
  have Y2 : Bel w w2 := Y1.trans hb2
  have s2 : Hid (w1.heap.size + 0 ≤ w2.heap.size) := Lib.hid hb2.sz0
  have M0s := Op0vs.loc (hb2.size)
  go_wp2_with fail
  refine (toInts _ x1 _ (hv1.keep Y2) nv1).mono ?_
  rintro e w3 ⟨sv1, rfl, Ov1s, hb3⟩
  have X0_3 := hb3.keep X0_2
  have Y3 : Bel w w3 := Y2.trans hb3
  have M0s_3 := M0s.keep hb3
  have s3 : Hid (w2.heap.size + 0 ≤ w3.heap.size) := Lib.hid hb3.sz0
  have M1s := Ov1s.loc (hb3.size)
  go_wp2_with fail
  refine (remS p0a _ _ xp0v x1 _ (M0s_3.out.reads) (M1s.out.reads) np0v).mono ?_
  rintro e w4 ⟨rs, rfl, Os, hb4⟩
  have X0_4 := hb4.keep X0_3
  have Y4 : Bel w w4 := Y3.trans hb4
  have M0s_4 := M0s_3.keep hb4
  have M1s_4 := M1s.keep hb4
  have s4 : Hid (w3.heap.size + 0 ≤ w4.heap.size) := Lib.hid hb4.sz0
  rw [HD.out] at Os
  have Ns := Os.loc (hb4.size)
  obtain ⟨Ars, crs, ers, _, _, _⟩ := Os.reads
  subst ers
  have Gs_a := Blk.new w4 42 #[.int .i64 p0a, (.slice Ars (D).length crs)]
  have X0_Gs := X0_4.alloc (.cells #[.int .i64 p0a, (.slice Ars (D).length crs)] 42)
  have YGs := Y4.alloc (.cells #[.int .i64 p0a, (.slice Ars (D).length crs)] 42)
  have Ns_Gs := Ns.keep ((Bel.refl _).alloc (.cells #[.int .i64 p0a, (.slice Ars (D).length crs)] 42))
  obtain ⟨ccX0, _, _⟩ := X0_Gs.facts
  go_wp2_with fail
  refine (toGraph p0a p0v xp0v _ (hp0v.keep YGs) np0v).mono ?_
  rintro e w5 ⟨tp0v, rfl, Op0vt, hb5⟩
  clear ccX0
  have X0_5 := hb5.keep X0_Gs
  have Gs_5 := hb5.keep Gs_a
  have Y5 : Bel w w5 := YGs.trans hb5
  have Ns_5 := Ns_Gs.keep hb5
  have s5 : Hid (w4.heap.size + 1 ≤ w5.heap.size) := Lib.hid hb5.sz1
  have M0t := Op0vt.loc (hb5.size)
  obtain ⟨Atp0v, ctp0v, etp0v, _, _, _⟩ := Op0vt.reads
  subst etp0v
  have Z0_a := Blk.new w5 42 #[.int .i64 p0a, (.slice Atp0v xp0v.length ctp0v)]
  have X0_Z0 := X0_5.alloc (.cells #[.int .i64 p0a, (.slice Atp0v xp0v.length ctp0v)] 42)
  have Gs_Z0 := Gs_5.alloc (.cells #[.int .i64 p0a, (.slice Atp0v xp0v.length ctp0v)] 42)
  have YZ0 := Y5.alloc (.cells #[.int .i64 p0a, (.slice Atp0v xp0v.length ctp0v)] 42)
  have Ns_Z0 := Ns_5.keep ((Bel.refl _).alloc (.cells #[.int .i64 p0a, (.slice Atp0v xp0v.length ctp0v)] 42))
  have M0t_Z0 := M0t.keep ((Bel.refl _).alloc (.cells #[.int .i64 p0a, (.slice Atp0v xp0v.length ctp0v)] 42))
  go_wp2_with fail
  refine (toInts _ x1 _ (hv1.keep YZ0) nv1).mono ?_
  rintro e w6 ⟨tv1, rfl, Ov1t, hb6⟩
  have X0_6 := hb6.keep X0_Z0
  have Gs_6 := hb6.keep Gs_Z0
  have Z0_6 := hb6.keep Z0_a
  have Y6 : Bel w w6 := YZ0.trans hb6
  have Ns_6 := Ns_Z0.keep hb6
  have M0t_6 := M0t_Z0.keep hb6
  have s6 : Hid (w5.heap.size + 1 ≤ w6.heap.size) := Lib.hid hb6.sz1
  have M1t := Ov1t.loc (hb6.size)
  obtain ⟨Atv1, ctv1, etv1, _, _, _⟩ := Ov1t.reads
  subst etv1
  obtain ⟨ccZ0, _, _⟩ := Z0_6.facts
  go_wp2_with fail
  refine (remI p0a _ _ xp0v x1 _ (M0t_6.out.reads) (M1t.out.reads) np0v).mono ?_
  rintro e w7 ⟨rg, rfl, Og, hb7⟩
  clear ccZ0
  have X0_7 := hb7.keep X0_6
  have Gs_7 := hb7.keep Gs_6
  have Z0_7 := hb7.keep Z0_6
  have Y7 : Bel w w7 := Y6.trans hb7
  have Ns_7 := Ns_6.keep hb7
  have M0t_7 := M0t_6.keep hb7
  have M1t_7 := M1t.keep hb7
  have s7 : Hid (w6.heap.size + 0 ≤ w7.heap.size) := Lib.hid hb7.sz0
  rw [HD.out] at Og
  have Ng := Og.loc (hb7.size)
  obtain ⟨Arg, crg, erg, _, _, _⟩ := Og.reads
  subst erg
  have Gg_a := Blk.new w7 42 #[.int .i64 p0a, (.slice Arg (D).length crg)]
  have X0_Gg := X0_7.alloc (.cells #[.int .i64 p0a, (.slice Arg (D).length crg)] 42)
  have Gs_Gg := Gs_7.alloc (.cells #[.int .i64 p0a, (.slice Arg (D).length crg)] 42)
  have Z0_Gg := Z0_7.alloc (.cells #[.int .i64 p0a, (.slice Arg (D).length crg)] 42)
  have YGg := Y7.alloc (.cells #[.int .i64 p0a, (.slice Arg (D).length crg)] 42)
  have Ns_Gg := Ns_7.keep ((Bel.refl _).alloc (.cells #[.int .i64 p0a, (.slice Arg (D).length crg)] 42))
  have M0t_Gg := M0t_7.keep ((Bel.refl _).alloc (.cells #[.int .i64 p0a, (.slice Arg (D).length crg)] 42))
  have M1t_Gg := M1t_7.keep ((Bel.refl _).alloc (.cells #[.int .i64 p0a, (.slice Arg (D).length crg)] 42))
  have Ng_Gg := Ng.keep ((Bel.refl _).alloc (.cells #[.int .i64 p0a, (.slice Arg (D).length crg)] 42))
  obtain ⟨ccGg, _, _⟩ := Gg_a.facts
  obtain ⟨ccGs, _, _⟩ := Gs_Gg.facts
  go_wp2_with fail
  refine (eqGraph_same p0a _ (D) _ _ (Ng_Gg.out.reads) (Ns_Gg.out.reads)).mono ?_
  rintro e w8 ⟨rfl, hb8⟩
  clear ccGg ccGs
  have X0_8 := hb8.keep X0_Gg
  have Gs_8 := hb8.keep Gs_Gg
  have Z0_8 := hb8.keep Z0_Gg
  have Gg_8 := hb8.keep Gg_a
  have Y8 : Bel w w8 := YGg.trans hb8
  have Ns_8 := Ns_Gg.keep hb8
  have M0t_8 := M0t_Gg.keep hb8
  have M1t_8 := M1t_Gg.keep hb8
  have Ng_8 := Ng_Gg.keep hb8
  have s8 : Hid (w7.heap.size + 1 ≤ w8.heap.size) := Lib.hid hb8.sz1
  obtain ⟨hcX08, _, hzX08⟩ := X0_8.facts
  have rX08o0 : w8.cell? ⟨w.heap.size, 0, none⟩ = some (.int .i64 p0a) := hcX08 0
  have rX08o1 : w8.cell? ⟨w.heap.size, 1, none⟩ = some (p0v) := hcX08 1
  clear hcX08
  obtain ⟨hcZ08, _, hzZ08⟩ := Z0_8.facts
  have rZ08o0 : w8.cell? ⟨w5.heap.size, 0, none⟩ = some (.int .i64 p0a) := hcZ08 0
  have rZ08o1 : w8.cell? ⟨w5.heap.size, 1, none⟩ = some ((.slice Atp0v xp0v.length ctp0v)) := hcZ08 1
  clear hcZ08
  have Yd := Y8.drew
  go_wp2_with fail
  go_region_held3 (fun w' => w'.cell? ⟨w.heap.size, 0, none⟩ = some (.int .i64 p0a) ∧ w'.cell? ⟨w.heap.size, 1, none⟩ = some (p0v) ∧ w'.cell? ⟨w5.heap.size, 0, none⟩ = some (.int .i64 p0a) ∧ w'.cell? ⟨w5.heap.size, 1, none⟩ = some ((.slice Atp0v xp0v.length ctp0v))) (first | exact ⟨hbT.cell1 hzX08 rX08o0, hbT.cell1 hzX08 rX08o1, hbT.cell1 hzZ08 rZ08o0, hbT.cell1 hzZ08 rZ08o1⟩ | exact ⟨hbE.cell1 (Nat.lt_of_lt_of_le hzX08 hbT.size) (hbT.cell1 hzX08 rX08o0), hbE.cell1 (Nat.lt_of_lt_of_le hzX08 hbT.size) (hbT.cell1 hzX08 rX08o1), hbE.cell1 (Nat.lt_of_lt_of_le hzZ08 hbT.size) (hbT.cell1 hzZ08 rZ08o0), hbE.cell1 (Nat.lt_of_lt_of_le hzZ08 hbT.size) (hbT.cell1 hzZ08 rZ08o1)⟩ | go_keep) (first | (go_at_call 24; ((with_reducible refine (toGraph p0a p0v xp0v _ (by exact hp0v.keep Yd) np0v).mono ?_); rintro e wT ⟨qp0v, rfl, Op0vq, hbT⟩)) | (go_at_call 27; ((with_reducible refine (eqGraph_same p0a _ xp0v _ _ (by exact (M0t_8.out.reads).keep (((Bel.refl _).drew).trans hbT)) (by exact Op0vq.reads)).mono ?_); rintro e wE ⟨rfl, hbE⟩)))
  have hbR := (((Bel.refl w8).drew).trans hbT).trans hbE
  clear rX08o0 rX08o1 rZ08o0 rZ08o1 Yd
  obtain ⟨w9, hw9⟩ : ∃ x, x = wE := ⟨_, rfl⟩
  subst hw9
  have X0_9 := hbR.keep X0_8
  have Gs_9 := hbR.keep Gs_8
  have Z0_9 := hbR.keep Z0_8
  have Gg_9 := hbR.keep Gg_8
  have Y9 : Bel w w9 := Y8.trans hbR
  have Ns_9 := Ns_8.keep hbR
  have M0t_9 := M0t_8.keep hbR
  have M1t_9 := M1t_8.keep hbR
  have Ng_9 := Ng_8.keep hbR
  have s9 : Hid (w8.heap.size + 0 ≤ w9.heap.size) := Lib.hid hbR.sz0
  clear hbR hbT hbE
  go_wp2_with fail
  refine (toInts _ x1 _ (hv1.keep Y9) nv1).mono ?_
  rintro e w10 ⟨qv1, rfl, Ov1q, hb10⟩
  have X0_10 := hb10.keep X0_9
  have Gs_10 := hb10.keep Gs_9
  have Z0_10 := hb10.keep Z0_9
  have Gg_10 := hb10.keep Gg_9
  have Y10 : Bel w w10 := Y9.trans hb10
  have Ns_10 := Ns_9.keep hb10
  have M0t_10 := M0t_9.keep hb10
  have M1t_10 := M1t_9.keep hb10
  have Ng_10 := Ng_9.keep hb10
  have s10 : Hid (w9.heap.size + 0 ≤ w10.heap.size) := Lib.hid hb10.sz0
  go_wp2_with fail
  refine (eqInts_same _ qv1 x1 _ (M1t_10.out.reads) (Ov1q.reads.keep (Bel.refl _))).mono ?_
  rintro e w11 ⟨rfl, hb11⟩
  have X0_11 := hb11.keep X0_10
  have Gs_11 := hb11.keep Gs_10
  have Z0_11 := hb11.keep Z0_10
  have Gg_11 := hb11.keep Gg_10
  have Y11 : Bel w w11 := Y10.trans hb11
  have Ns_11 := Ns_10.keep hb11
  have M0t_11 := M0t_10.keep hb11
  have M1t_11 := M1t_10.keep hb11
  have Ng_11 := Ng_10.keep hb11
  have s11 : Hid (w10.heap.size + 0 ≤ w11.heap.size) := Lib.hid hb11.sz0
  obtain ⟨ccZ0, _, _⟩ := Z0_11.facts
  go_wp2_with fail
  refine (mkGraph _ _ _ xp0v _ _ _ M0t_11 (by omega) (by omega)).mono ?_
  rintro e w12 ⟨rfl, _, m12⟩
  clear ccZ0
  have X0_12 := X0_11.mid m12 (by have as1 := s1.out; have as2 := s2.out; have as3 := s3.out; have as4 := s4.out; have as5 := s5.out; have as6 := s6.out; have as7 := s7.out; have as8 := s8.out; have as9 := s9.out; have as10 := s10.out; have as11 := s11.out; (try simp only [World.size_alloc]); omega)
  have Gs_12 := Gs_11.mid m12 (by have as1 := s1.out; have as2 := s2.out; have as3 := s3.out; have as4 := s4.out; have as5 := s5.out; have as6 := s6.out; have as7 := s7.out; have as8 := s8.out; have as9 := s9.out; have as10 := s10.out; have as11 := s11.out; (try simp only [World.size_alloc]); omega)
  have Z0_12 := Z0_11.mid m12 (by have as1 := s1.out; have as2 := s2.out; have as3 := s3.out; have as4 := s4.out; have as5 := s5.out; have as6 := s6.out; have as7 := s7.out; have as8 := s8.out; have as9 := s9.out; have as10 := s10.out; have as11 := s11.out; (try simp only [World.size_alloc]); omega)
  have Gg_12 := Gg_11.mid m12 (by have as1 := s1.out; have as2 := s2.out; have as3 := s3.out; have as4 := s4.out; have as5 := s5.out; have as6 := s6.out; have as7 := s7.out; have as8 := s8.out; have as9 := s9.out; have as10 := s10.out; have as11 := s11.out; (try simp only [World.size_alloc]); omega)
  have Y12 : Bel w w12 := Y11.mid m12 (by have as1 := s1.out; have as2 := s2.out; have as3 := s3.out; have as4 := s4.out; have as5 := s5.out; have as6 := s6.out; have as7 := s7.out; have as8 := s8.out; have as9 := s9.out; have as10 := s10.out; have as11 := s11.out; (try simp only [World.size_alloc]); omega)
  have Ns_12 := Ns_11.mid m12 (by have as1 := s1.out; have as2 := s2.out; have as3 := s3.out; have as4 := s4.out; have as5 := s5.out; have as6 := s6.out; have as7 := s7.out; have as8 := s8.out; have as9 := s9.out; have as10 := s10.out; have as11 := s11.out; (try simp only [World.size_alloc]); omega)
  have M1t_12 := M1t_11.mid m12 (by have as1 := s1.out; have as2 := s2.out; have as3 := s3.out; have as4 := s4.out; have as5 := s5.out; have as6 := s6.out; have as7 := s7.out; have as8 := s8.out; have as9 := s9.out; have as10 := s10.out; have as11 := s11.out; (try simp only [World.size_alloc]); omega)
  have Ng_12 := Ng_11.mid m12 (by have as1 := s1.out; have as2 := s2.out; have as3 := s3.out; have as4 := s4.out; have as5 := s5.out; have as6 := s6.out; have as7 := s7.out; have as8 := s8.out; have as9 := s9.out; have as10 := s10.out; have as11 := s11.out; (try simp only [World.size_alloc]); omega)
  have s12 : Hid (w11.heap.size + 0 ≤ w12.heap.size) := Lib.hid m12.sz0
  go_wp2_with fail
  refine (mkIn _ _ x1 _ _ _ M1t_12.out M1t_12.1 M1t_12.2.1 (by omega) (by omega)).mono ?_
  rintro e w13 ⟨rfl, _, m13⟩
  have X0_13 := X0_12.mid m13 (by have as1 := s1.out; have as2 := s2.out; have as3 := s3.out; have as4 := s4.out; have as5 := s5.out; have as6 := s6.out; have as7 := s7.out; have as8 := s8.out; have as9 := s9.out; have as10 := s10.out; have as11 := s11.out; have as12 := s12.out; (try simp only [World.size_alloc]); omega)
  have Gs_13 := Gs_12.mid m13 (by have as1 := s1.out; have as2 := s2.out; have as3 := s3.out; have as4 := s4.out; have as5 := s5.out; have as6 := s6.out; have as7 := s7.out; have as8 := s8.out; have as9 := s9.out; have as10 := s10.out; have as11 := s11.out; have as12 := s12.out; (try simp only [World.size_alloc]); omega)
  have Z0_13 := Z0_12.mid m13 (by have as1 := s1.out; have as2 := s2.out; have as3 := s3.out; have as4 := s4.out; have as5 := s5.out; have as6 := s6.out; have as7 := s7.out; have as8 := s8.out; have as9 := s9.out; have as10 := s10.out; have as11 := s11.out; have as12 := s12.out; (try simp only [World.size_alloc]); omega)
  have Gg_13 := Gg_12.mid m13 (by have as1 := s1.out; have as2 := s2.out; have as3 := s3.out; have as4 := s4.out; have as5 := s5.out; have as6 := s6.out; have as7 := s7.out; have as8 := s8.out; have as9 := s9.out; have as10 := s10.out; have as11 := s11.out; have as12 := s12.out; (try simp only [World.size_alloc]); omega)
  have Y13 : Bel w w13 := Y12.mid m13 (by have as1 := s1.out; have as2 := s2.out; have as3 := s3.out; have as4 := s4.out; have as5 := s5.out; have as6 := s6.out; have as7 := s7.out; have as8 := s8.out; have as9 := s9.out; have as10 := s10.out; have as11 := s11.out; have as12 := s12.out; (try simp only [World.size_alloc]); omega)
  have Ns_13 := Ns_12.mid m13 (by have as1 := s1.out; have as2 := s2.out; have as3 := s3.out; have as4 := s4.out; have as5 := s5.out; have as6 := s6.out; have as7 := s7.out; have as8 := s8.out; have as9 := s9.out; have as10 := s10.out; have as11 := s11.out; have as12 := s12.out; (try simp only [World.size_alloc]); omega)
  have Ng_13 := Ng_12.mid m13 (by have as1 := s1.out; have as2 := s2.out; have as3 := s3.out; have as4 := s4.out; have as5 := s5.out; have as6 := s6.out; have as7 := s7.out; have as8 := s8.out; have as9 := s9.out; have as10 := s10.out; have as11 := s11.out; have as12 := s12.out; (try simp only [World.size_alloc]); omega)
  have s13 : Hid (w12.heap.size + 0 ≤ w13.heap.size) := Lib.hid m13.sz0
  have qk : decide (((1 + ((xp0v.length * 3 : Nat) : Int)) + (x1.length : Int)) < 0) = false := decide_eq_false (by omega)
  obtain ⟨ccGg, _, _⟩ := Gg_13.facts
  obtain ⟨ccGs, _, _⟩ := Gs_13.facts
  go_wp2_with fail
  refine (eqGraph_same p0a _ (D) _ _ (Ng_13.out.reads) (Ns_13.out.reads)).mono ?_
  rintro e w14 ⟨rfl, hb14⟩
  clear ccGg ccGs
  have X0_14 := hb14.keep X0_13
  have Gs_14 := hb14.keep Gs_13
  have Z0_14 := hb14.keep Z0_13
  have Gg_14 := hb14.keep Gg_13
  have Y14 : Bel w w14 := Y13.trans hb14
  have Ns_14 := Ns_13.keep hb14
  have Ng_14 := Ng_13.keep hb14
  have s14 : Hid (w13.heap.size + 0 ≤ w14.heap.size) := Lib.hid hb14.sz0
  obtain ⟨ccGg, _, _⟩ := Gg_14.facts
  go_wp2_with fail
  refine (mkGraph p0a _ 1 (D) _ _ _ Ng_14 (by omega) (by omega)).mono ?_
  rintro e w15 ⟨rfl, Lm, m15⟩
  clear ccGg
  have X0_15 := X0_14.mid m15 (by have as1 := s1.out; have as2 := s2.out; have as3 := s3.out; have as4 := s4.out; have as5 := s5.out; have as6 := s6.out; have as7 := s7.out; have as8 := s8.out; have as9 := s9.out; have as10 := s10.out; have as11 := s11.out; have as12 := s12.out; have as13 := s13.out; have as14 := s14.out; (try simp only [World.size_alloc]); omega)
  have Gs_15 := Gs_14.mid m15 (by have as1 := s1.out; have as2 := s2.out; have as3 := s3.out; have as4 := s4.out; have as5 := s5.out; have as6 := s6.out; have as7 := s7.out; have as8 := s8.out; have as9 := s9.out; have as10 := s10.out; have as11 := s11.out; have as12 := s12.out; have as13 := s13.out; have as14 := s14.out; (try simp only [World.size_alloc]); omega)
  have Z0_15 := Z0_14.mid m15 (by have as1 := s1.out; have as2 := s2.out; have as3 := s3.out; have as4 := s4.out; have as5 := s5.out; have as6 := s6.out; have as7 := s7.out; have as8 := s8.out; have as9 := s9.out; have as10 := s10.out; have as11 := s11.out; have as12 := s12.out; have as13 := s13.out; have as14 := s14.out; (try simp only [World.size_alloc]); omega)
  have Gg_15 := Gg_14.mid m15 (by have as1 := s1.out; have as2 := s2.out; have as3 := s3.out; have as4 := s4.out; have as5 := s5.out; have as6 := s6.out; have as7 := s7.out; have as8 := s8.out; have as9 := s9.out; have as10 := s10.out; have as11 := s11.out; have as12 := s12.out; have as13 := s13.out; have as14 := s14.out; (try simp only [World.size_alloc]); omega)
  have Y15 : Bel w w15 := Y14.mid m15 (by have as1 := s1.out; have as2 := s2.out; have as3 := s3.out; have as4 := s4.out; have as5 := s5.out; have as6 := s6.out; have as7 := s7.out; have as8 := s8.out; have as9 := s9.out; have as10 := s10.out; have as11 := s11.out; have as12 := s12.out; have as13 := s13.out; have as14 := s14.out; (try simp only [World.size_alloc]); omega)
  have Ns_15 := Ns_14.mid m15 (by have as1 := s1.out; have as2 := s2.out; have as3 := s3.out; have as4 := s4.out; have as5 := s5.out; have as6 := s6.out; have as7 := s7.out; have as8 := s8.out; have as9 := s9.out; have as10 := s10.out; have as11 := s11.out; have as12 := s12.out; have as13 := s13.out; have as14 := s14.out; (try simp only [World.size_alloc]); omega)
  have s15 : Hid (w14.heap.size + 0 ≤ w15.heap.size) := Lib.hid m15.sz0
  have qm : decide (1 + ((((D).length * 3 : Nat) : Nat) : Int) < 0) = false := decide_eq_false (by omega)
  obtain ⟨ccGg, _, _⟩ := Gg_15.facts
  go_wp2_with fail
  refine (hdGraph p0a _ 1 (D).length _ (Lm.out.reads) (by omega) (by omega)).mono ?_
  rintro e w16 ⟨rfl, hb16⟩
  clear ccGg
  have X0_16 := hb16.keep X0_15
  have Gs_16 := hb16.keep Gs_15
  have Z0_16 := hb16.keep Z0_15
  have Gg_16 := hb16.keep Gg_15
  have Y16 : Bel w w16 := Y15.trans hb16
  have Ns_16 := Ns_15.keep hb16
  have Lm_16 := Lm.keep hb16
  have s16 : Hid (w15.heap.size + 0 ≤ w16.heap.size) := Lib.hid hb16.sz0
  obtain ⟨ccX0, _, _⟩ := X0_16.facts
  go_wp2_with fail
  refine (toGraph p0a p0v xp0v _ (hp0v.keep Y16) np0v).mono ?_
  rintro e w17 ⟨hp0v, rfl, Op0vh, hb17⟩
  clear ccX0
  have X0_17 := hb17.keep X0_16
  have Gs_17 := hb17.keep Gs_16
  have Z0_17 := hb17.keep Z0_16
  have Gg_17 := hb17.keep Gg_16
  have Y17 : Bel w w17 := Y16.trans hb17
  have Ns_17 := Ns_16.keep hb17
  have Lm_17 := Lm_16.keep hb17
  have s17 : Hid (w16.heap.size + 0 ≤ w17.heap.size) := Lib.hid hb17.sz0
  have M0h := Op0vh.loc (hb17.size)
  go_wp2_with fail
  refine (toInts _ x1 _ (hv1.keep Y17) nv1).mono ?_
  rintro e w18 ⟨hv1, rfl, Ov1h, hb18⟩
  have X0_18 := hb18.keep X0_17
  have Gs_18 := hb18.keep Gs_17
  have Z0_18 := hb18.keep Z0_17
  have Gg_18 := hb18.keep Gg_17
  have Y18 : Bel w w18 := Y17.trans hb18
  have Ns_18 := Ns_17.keep hb18
  have Lm_18 := Lm_17.keep hb18
  have M0h_18 := M0h.keep hb18
  have s18 : Hid (w17.heap.size + 0 ≤ w18.heap.size) := Lib.hid hb18.sz0
  have M1h := Ov1h.loc (hb18.size)
  go_wp2_with fail
  refine (remI p0a _ _ xp0v x1 _ (M0h_18.out.reads) (M1h.out.reads) np0v).mono ?_
  rintro e w19 ⟨rh, rfl, Oh, hb19⟩
  have X0_19 := hb19.keep X0_18
  have Gs_19 := hb19.keep Gs_18
  have Z0_19 := hb19.keep Z0_18
  have Gg_19 := hb19.keep Gg_18
  have Y19 : Bel w w19 := Y18.trans hb19
  have Ns_19 := Ns_18.keep hb19
  have Lm_19 := Lm_18.keep hb19
  have M0h_19 := M0h_18.keep hb19
  have M1h_19 := M1h.keep hb19
  have s19 : Hid (w18.heap.size + 0 ≤ w19.heap.size) := Lib.hid hb19.sz0
  rw [HD.out] at Oh
  have Nh := Oh.loc (hb19.size)
  obtain ⟨Arh, crh, erh, _, _, _⟩ := Oh.reads
  subst erh
  have Gh_a := Blk.new w19 42 #[.int .i64 p0a, (.slice Arh (D).length crh)]
  have X0_Gh := X0_19.alloc (.cells #[.int .i64 p0a, (.slice Arh (D).length crh)] 42)
  have Gs_Gh := Gs_19.alloc (.cells #[.int .i64 p0a, (.slice Arh (D).length crh)] 42)
  have Z0_Gh := Z0_19.alloc (.cells #[.int .i64 p0a, (.slice Arh (D).length crh)] 42)
  have Gg_Gh := Gg_19.alloc (.cells #[.int .i64 p0a, (.slice Arh (D).length crh)] 42)
  have YGh := Y19.alloc (.cells #[.int .i64 p0a, (.slice Arh (D).length crh)] 42)
  have Ns_Gh := Ns_19.keep ((Bel.refl _).alloc (.cells #[.int .i64 p0a, (.slice Arh (D).length crh)] 42))
  have Lm_Gh := Lm_19.keep ((Bel.refl _).alloc (.cells #[.int .i64 p0a, (.slice Arh (D).length crh)] 42))
  have Nh_Gh := Nh.keep ((Bel.refl _).alloc (.cells #[.int .i64 p0a, (.slice Arh (D).length crh)] 42))
  obtain ⟨ccGh, _, _⟩ := Gh_a.facts
  obtain ⟨ccGs, _, _⟩ := Gs_Gh.facts
  go_wp2_with fail
  refine (eqGraph_same p0a _ (D) _ _ (Nh_Gh.out.reads) (Ns_Gh.out.reads)).mono ?_
  rintro e w20 ⟨rfl, hb20⟩
  clear ccGh ccGs
  have X0_20 := hb20.keep X0_Gh
  have Gs_20 := hb20.keep Gs_Gh
  have Z0_20 := hb20.keep Z0_Gh
  have Gg_20 := hb20.keep Gg_Gh
  have Gh_20 := hb20.keep Gh_a
  have Y20 : Bel w w20 := YGh.trans hb20
  have Ns_20 := Ns_Gh.keep hb20
  have Lm_20 := Lm_Gh.keep hb20
  have Nh_20 := Nh_Gh.keep hb20
  have s20 : Hid (w19.heap.size + 1 ≤ w20.heap.size) := Lib.hid hb20.sz1
  obtain ⟨ccGg, _, _⟩ := Gg_20.facts
  go_wp2_with fail
  refine (hdGraph p0a _ 1 (D).length _ (Lm_20.out.reads) (by omega) (by omega)).mono ?_
  rintro e w21 ⟨rfl, hb21⟩
  clear ccGg
  have X0_21 := hb21.keep X0_20
  have Gs_21 := hb21.keep Gs_20
  have Z0_21 := hb21.keep Z0_20
  have Gg_21 := hb21.keep Gg_20
  have Gh_21 := hb21.keep Gh_20
  have Y21 : Bel w w21 := Y20.trans hb21
  have Ns_21 := Ns_20.keep hb21
  have Lm_21 := Lm_20.keep hb21
  have Nh_21 := Nh_20.keep hb21
  have s21 : Hid (w20.heap.size + 0 ≤ w21.heap.size) := Lib.hid hb21.sz0
  go_wp2
  go_ret
  exact ⟨rfl, Y21⟩

set_option maxRecDepth 100000 in
theorem lifted (os : Os) (started : os.Started) (H : Type) (enc : TypeId × Value → H) :
    ReturnsInHanded {} Try.checked os 6 .any (Rows.fnExactRemoveEdgesSpec.pre6 enc Try.prog Try.f6 Rows.fnExactRemoveEdgesRow.domain false) (Rows.fnExactRemoveEdgesSpec.post enc Try.prog Try.f6 false true false false) := by
  refine returnsInHanded_of_change (C := Try.checked) own started (by kernel_rfl) Try.func6
    (ChangeSpec.witness6 (enc := enc) (C := Try.checked) false ⟨#[], #[.agg #[.int .i64 0, .slice none 0 0], .slice none 0 0], []⟩ 8 (by kernel_rfl) (by kernel_rfl) (by kernel_rfl) (by kernel_rfl)) ?_
  intro W base args ds gs before hval0 hW hcnd _
  have hval : ∀ (j : Nat) t v, Try.f6.params[j]? = some t → args[j]? = some v → Value.okWide Try.prog W .any base t v := hval0
  have hW' := hW
  obtain ⟨p, q, hA0, hV, rfl, hfz, hnd⟩ := hW
  have hA : DataW.TrodAll enc Try.prog W 0 (fun _ => true) true Try.f6.params.toList args.toList ds p := hA0
  rw [Try.params6] at hA hval
  obtain ⟨v0, vs0, d0, ds0, p0, q0, hargs, rfl, rfl, h0, r0⟩ := trodAll_cons hA
  obtain ⟨v1, vs1, d1, ds1, p1, q1, rfl, rfl, rfl, h1, r1⟩ := trodAll_cons r0
  obtain ⟨rfl, rfl, rfl⟩ := trodAll_nil r1
  obtain rfl : args = #[v0, v1] := by cases args; simp_all
  obtain ⟨rfl, rfl⟩ := trodVars_none hV
  have k0 := h0
  have lt0 : ∀ x ∈ p0, x.block < W.heap.size := by obtain ⟨m, hm⟩ := k0; exact DataW.trod_lt m _ _ _ hm
  obtain ⟨x0, f0⟩ := openGraph (hval 0 36 v0 rfl rfl) h0
  have k1 := h1
  have lt1 : ∀ x ∈ p1, x.block < W.heap.size := by obtain ⟨m, hm⟩ := k1; exact DataW.trod_lt m _ _ _ hm
  obtain ⟨x1, f1⟩ := openInts (hval 1 38 v1 rfl rfl) h1
  clear hA0 hval0
  refine (walk W v0 x0 f0 v1 x1 f1).mono fun e W' ⟨he, bel⟩ => ?_
  subst he
  exact ⟨_, rfl, _, _, _, [], _, [], hW', trodAll_mk1 (shut_bool Try.underlying4 _), (trodAll_cons_mk (Below.trod laidOut (by kernel_rfl) (of_decide_eq_true (by kernel_rfl)) k0 bel lt0) (trodAll_cons_mk (Below.trod laidOut (by kernel_rfl) (of_decide_eq_true (by kernel_rfl)) k1 bel lt1) trodAll_mk0)), rfl, bel.frame _, fun h => by cases h⟩

theorem over : Rows.fnExactRemoveEdgesRow.holds Try.pinned (OpenSpec.ofChange Rows.fnExactRemoveEdgesSpec) :=
  OpenClaim.holds_of_wide 6 Try.f6 rfl rfl rfl rfl rfl rfl rfl ⟨rfl, rfl, rfl, rfl, rfl⟩ rfl rfl rfl rfl rfl (by kernel_rfl) Try.func6 (by kernel_rfl)
    (of_decide_eq_true (by kernel_rfl)) (by unfold Func.isWrapper; first | (rw [if_pos (by decide +kernel)]; kernel_rfl) | (rw [if_neg (by decide +kernel)]; exact ⟨rfl, rfl⟩))
    (fun os started H enc _ => lifted os started H enc)

theorem proved : Rows.FnExactRemoveEdgesSaid := over
#print axioms proved
end Go.Proofs.Ytmngpenoijmgiaa.fnExactRemoveEdges
