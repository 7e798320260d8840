/-
  FnExactMakeNullKeys: for every generation, seed and count the program's MakeNullKeys returns what the reference's returns, in memory of its own, and leaves its argument alone. No condition.
-/
import Derived.Test.YtjaagabbbnokdaaGreatOpenM
import Derived.Test.YtjaagabbbnokdaaGreatKGen
import Derived.Test.YtjaagabbbnokdaaGreatKNk
import Derived.Test.YtjaagabbbnokdaaGreatGJ
import Derived.Test.YtjaagabbbnokdaaGreatGK
import Derived.Test.YtjaagabbbnokdaaGreatGB
import Derived.Deep.RegionHeld3
namespace Go.Proofs.YtjaagabbbnokdaaGreat.fnExactMakeNullKeys
open Go.ChangeShapes Go.WideShapes Go.ChangeAt Go.RowKit
set_option linter.unusedVariables false
set_option maxRecDepth 100000

set_option maxHeartbeats 4000000 in
theorem walk (w : World) (v0 : Value) (x0 : Int × List (List Int)) (f0 : IsGen w v0 x0) (v1 : Value) (x1 : Int) (f1 : IsI w v1 x1) (v2 : Value) (x2 : Int) (f2 : IsI w v2 x2) :
    Calls Tryz.prog 3 #[v0, v1, v2] w fun e w' => e = .returned (.bool true) ∧ Below w.heap.size w w' := by
  obtain ⟨p0a, xp0v⟩ := x0
  obtain ⟨p0v, rfl, hp0v, kp0v, b0⟩ := f0
  dsimp only at *
  obtain ⟨rfl, b1⟩ := f1
  obtain ⟨rfl, b2⟩ := f2
  rcases Or.symm (Decidable.em ((szM xp0v : Int) ≤ 1048576)) with z0 | z0
  · go_enter Tryz.func3, Tryz.ntmps3
    go_wp2_with fail
    refine (szGen_no p0a p0v xp0v (1048576) _ (hp0v.keep ((Bel.refl _).alloc _)) (by omega) (by omega) (by omega)).mono ?_
    rintro e wz ⟨rfl, hbz⟩
    go_wp2
    go_ret
    exact ⟨rfl, ((Bel.refl _).alloc _).trans hbz⟩
  have dz0 : decide (1048576 - ((szM xp0v : Int)) < 0) = false := by simp; omega
  have np0v : szM xp0v ≤ 1048576 := by omega
  have flp0v : flN xp0v ≤ 1048576 := by have h9 := np0v; unfold szM at h9; show xp0v.flatten.length ≤ 1048576; omega
  have nD : flN (mnkK p0a xp0v x1 x2) ≤ 2097152 := by have := mnkK_fl p0a xp0v x1 x2; omega
  have hff : ((mnkB p0a xp0v x2) != (mnkB p0a xp0v x2)) = false := by simp
  obtain ⟨D, hD⟩ : ∃ D, D = mnkK p0a xp0v x1 x2 := ⟨_, rfl⟩
  rw [← hD] at nD
  have HD := Lib.hid hD.symm
  clear hD
  go_enter Tryz.func3, Tryz.ntmps3
  go_wp2_with fail
  refine (szGen_ok p0a p0v xp0v (1048576) _ (hp0v.keep ((Bel.refl _).alloc _)) (by omega) (by omega)).mono ?_
  rintro e w1 ⟨rfl, hb1⟩
  have X0_1 := hb1.keep (Blk.new w _ _)
  have Y1 : Bel w w1 := ((Bel.refl _).alloc _).trans hb1
  have s1 : Hid (w.heap.size + 1 ≤ w1.heap.size) := Lib.hid hb1.sz1
  clear hb1
  obtain ⟨cc0, _, _⟩ := X0_1.facts
  clear cc0
  obtain ⟨ccX0, _, _⟩ := X0_1.facts
  go_wp2_with fail
  refine (toGen p0a p0v xp0v _ (hp0v.keep Y1) np0v).mono ?_
  rintro e w2 ⟨sp0v, rfl, Op0vs, hb2⟩
  clear ccX0
  have X0_2 := hb2.keep X0_1
  have Y2 : Bel w w2 := Y1.trans hb2
  have s2 : Hid (w1.heap.size + 0 ≤ w2.heap.size) := Lib.hid hb2.sz0
  have M0s := Op0vs.loc (hb2.size)
  go_wp2_with fail
  refine (mnkS p0a x1 x2 _ xp0v _ (M0s.out.reads) b1).mono ?_
  rintro e w3 ⟨rs, rfl, Os, hb3⟩
  have X0_3 := hb3.keep X0_2
  have Y3 : Bel w w3 := Y2.trans hb3
  have M0s_3 := M0s.keep hb3
  have s3 : Hid (w2.heap.size + 0 ≤ w3.heap.size) := Lib.hid hb3.sz0
  rw [HD.out] at Os
  have Ns := Os.locr (hb3.size)
  obtain ⟨Ars, crs, ers, _, _, _⟩ := Os.reads
  subst ers
  have Gs_a := Blk.new w3 27 #[.int .i64 (mnkA p0a xp0v x2), .int .i64 (mnkN p0a xp0v x2), .int .i64 (mnkW p0a xp0v x2), (.slice Ars (D).length crs)]
  have X0_Gs := X0_3.alloc (.cells #[.int .i64 (mnkA p0a xp0v x2), .int .i64 (mnkN p0a xp0v x2), .int .i64 (mnkW p0a xp0v x2), (.slice Ars (D).length crs)] 27)
  have YGs := Y3.alloc (.cells #[.int .i64 (mnkA p0a xp0v x2), .int .i64 (mnkN p0a xp0v x2), .int .i64 (mnkW p0a xp0v x2), (.slice Ars (D).length crs)] 27)
  have Ns_Gs := Ns.keep ((Bel.refl _).alloc (.cells #[.int .i64 (mnkA p0a xp0v x2), .int .i64 (mnkN p0a xp0v x2), .int .i64 (mnkW p0a xp0v x2), (.slice Ars (D).length crs)] 27))
  obtain ⟨ccX0, _, _⟩ := X0_Gs.facts
  go_wp2_with fail
  refine (toGen p0a p0v xp0v _ (hp0v.keep YGs) np0v).mono ?_
  rintro e w4 ⟨tp0v, rfl, Op0vt, hb4⟩
  clear ccX0
  have X0_4 := hb4.keep X0_Gs
  have Gs_4 := hb4.keep Gs_a
  have Y4 : Bel w w4 := YGs.trans hb4
  have Ns_4 := Ns_Gs.keep hb4
  have s4 : Hid (w3.heap.size + 1 ≤ w4.heap.size) := Lib.hid hb4.sz1
  have M0t := Op0vt.loc (hb4.size)
  obtain ⟨Atp0v, ctp0v, etp0v, _, _, _⟩ := Op0vt.reads
  subst etp0v
  have Z0_a := Blk.new w4 30 #[.int .i64 p0a, (.slice Atp0v xp0v.length ctp0v)]
  have X0_Z0 := X0_4.alloc (.cells #[.int .i64 p0a, (.slice Atp0v xp0v.length ctp0v)] 30)
  have Gs_Z0 := Gs_4.alloc (.cells #[.int .i64 p0a, (.slice Atp0v xp0v.length ctp0v)] 30)
  have YZ0 := Y4.alloc (.cells #[.int .i64 p0a, (.slice Atp0v xp0v.length ctp0v)] 30)
  have Ns_Z0 := Ns_4.keep ((Bel.refl _).alloc (.cells #[.int .i64 p0a, (.slice Atp0v xp0v.length ctp0v)] 30))
  have M0t_Z0 := M0t.keep ((Bel.refl _).alloc (.cells #[.int .i64 p0a, (.slice Atp0v xp0v.length ctp0v)] 30))
  obtain ⟨ccZ0, _, _⟩ := Z0_a.facts
  go_wp2_with fail
  refine (mnkI p0a x1 x2 _ xp0v _ (M0t_Z0.out.reads) b1).mono ?_
  rintro e w5 ⟨rg, rfl, Og, hb5⟩
  clear ccZ0
  have X0_5 := hb5.keep X0_Z0
  have Gs_5 := hb5.keep Gs_Z0
  have Z0_5 := hb5.keep Z0_a
  have Y5 : Bel w w5 := YZ0.trans hb5
  have Ns_5 := Ns_Z0.keep hb5
  have M0t_5 := M0t_Z0.keep hb5
  have s5 : Hid (w4.heap.size + 1 ≤ w5.heap.size) := Lib.hid hb5.sz1
  rw [HD.out] at Og
  have Ng := Og.loc (hb5.size)
  obtain ⟨Arg, crg, erg, _, _, _⟩ := Og.reads
  subst erg
  have Gg_a := Blk.new w5 27 #[.int .i64 (mnkA p0a xp0v x2), .int .i64 (mnkN p0a xp0v x2), .int .i64 (mnkW p0a xp0v x2), (.slice Arg (D).length crg)]
  have X0_Gg := X0_5.alloc (.cells #[.int .i64 (mnkA p0a xp0v x2), .int .i64 (mnkN p0a xp0v x2), .int .i64 (mnkW p0a xp0v x2), (.slice Arg (D).length crg)] 27)
  have Gs_Gg := Gs_5.alloc (.cells #[.int .i64 (mnkA p0a xp0v x2), .int .i64 (mnkN p0a xp0v x2), .int .i64 (mnkW p0a xp0v x2), (.slice Arg (D).length crg)] 27)
  have Z0_Gg := Z0_5.alloc (.cells #[.int .i64 (mnkA p0a xp0v x2), .int .i64 (mnkN p0a xp0v x2), .int .i64 (mnkW p0a xp0v x2), (.slice Arg (D).length crg)] 27)
  have YGg := Y5.alloc (.cells #[.int .i64 (mnkA p0a xp0v x2), .int .i64 (mnkN p0a xp0v x2), .int .i64 (mnkW p0a xp0v x2), (.slice Arg (D).length crg)] 27)
  have Ns_Gg := Ns_5.keep ((Bel.refl _).alloc (.cells #[.int .i64 (mnkA p0a xp0v x2), .int .i64 (mnkN p0a xp0v x2), .int .i64 (mnkW p0a xp0v x2), (.slice Arg (D).length crg)] 27))
  have M0t_Gg := M0t_5.keep ((Bel.refl _).alloc (.cells #[.int .i64 (mnkA p0a xp0v x2), .int .i64 (mnkN p0a xp0v x2), .int .i64 (mnkW p0a xp0v x2), (.slice Arg (D).length crg)] 27))
  have Ng_Gg := Ng.keep ((Bel.refl _).alloc (.cells #[.int .i64 (mnkA p0a xp0v x2), .int .i64 (mnkN p0a xp0v x2), .int .i64 (mnkW p0a xp0v x2), (.slice Arg (D).length crg)] 27))
  obtain ⟨ccGg, _, _⟩ := Gg_a.facts
  obtain ⟨ccGs, _, _⟩ := Gs_Gg.facts
  go_wp2_with fail
  refine (eqNk_same (mnkA p0a xp0v x2) (mnkN p0a xp0v x2) (mnkW p0a xp0v x2) _ (D) _ _ (Ng_Gg.out.reads) (Ns_Gg.out.reads)).mono ?_
  rintro e w6 ⟨rfl, hb6⟩
  clear ccGg ccGs
  have X0_6 := hb6.keep X0_Gg
  have Gs_6 := hb6.keep Gs_Gg
  have Z0_6 := hb6.keep Z0_Gg
  have Gg_6 := hb6.keep Gg_a
  have Y6 : Bel w w6 := YGg.trans hb6
  have Ns_6 := Ns_Gg.keep hb6
  have M0t_6 := M0t_Gg.keep hb6
  have Ng_6 := Ng_Gg.keep hb6
  have s6 : Hid (w5.heap.size + 1 ≤ w6.heap.size) := Lib.hid hb6.sz1
  obtain ⟨hcX06, _, hzX06⟩ := X0_6.facts
  have rX06o0 : w6.cell? ⟨w.heap.size, 0, none⟩ = some (.int .i64 p0a) := hcX06 0
  have rX06o1 : w6.cell? ⟨w.heap.size, 1, none⟩ = some (p0v) := hcX06 1
  clear hcX06
  obtain ⟨hcZ06, _, hzZ06⟩ := Z0_6.facts
  have rZ06o0 : w6.cell? ⟨w4.heap.size, 0, none⟩ = some (.int .i64 p0a) := hcZ06 0
  have rZ06o1 : w6.cell? ⟨w4.heap.size, 1, none⟩ = some ((.slice Atp0v xp0v.length ctp0v)) := hcZ06 1
  clear hcZ06
  have Yd := Y6.drew
  go_wp2_with fail
  go_region_held3 (fun w' => w'.cell? ⟨w.heap.size, 0, none⟩ = some (.int .i64 p0a) ∧ w'.cell? ⟨w.heap.size, 1, none⟩ = some (p0v) ∧ w'.cell? ⟨w4.heap.size, 0, none⟩ = some (.int .i64 p0a) ∧ w'.cell? ⟨w4.heap.size, 1, none⟩ = some ((.slice Atp0v xp0v.length ctp0v))) (first | exact ⟨hbT.cell1 hzX06 rX06o0, hbT.cell1 hzX06 rX06o1, hbT.cell1 hzZ06 rZ06o0, hbT.cell1 hzZ06 rZ06o1⟩ | exact ⟨hbE.cell1 (Nat.lt_of_lt_of_le hzX06 hbT.size) (hbT.cell1 hzX06 rX06o0), hbE.cell1 (Nat.lt_of_lt_of_le hzX06 hbT.size) (hbT.cell1 hzX06 rX06o1), hbE.cell1 (Nat.lt_of_lt_of_le hzZ06 hbT.size) (hbT.cell1 hzZ06 rZ06o0), hbE.cell1 (Nat.lt_of_lt_of_le hzZ06 hbT.size) (hbT.cell1 hzZ06 rZ06o1)⟩ | go_keep) (first | (go_at_call 7; ((with_reducible refine (toGen p0a p0v xp0v _ (by exact hp0v.keep Yd) np0v).mono ?_); rintro e wT ⟨qp0v, rfl, Op0vq, hbT⟩)) | (go_at_call 10; ((with_reducible refine (eqGen_same p0a _ xp0v _ _ (by exact (M0t_6.out.reads).keep (((Bel.refl _).drew).trans hbT)) (by exact Op0vq.reads)).mono ?_); rintro e wE ⟨rfl, hbE⟩)))
  have hbR := (((Bel.refl w6).drew).trans hbT).trans hbE
  clear rX06o0 rX06o1 rZ06o0 rZ06o1 Yd
  obtain ⟨w7, hw7⟩ : ∃ x, x = wE := ⟨_, rfl⟩
  subst hw7
  have X0_7 := hbR.keep X0_6
  have Gs_7 := hbR.keep Gs_6
  have Z0_7 := hbR.keep Z0_6
  have Gg_7 := hbR.keep Gg_6
  have Y7 : Bel w w7 := Y6.trans hbR
  have Ns_7 := Ns_6.keep hbR
  have M0t_7 := M0t_6.keep hbR
  have Ng_7 := Ng_6.keep hbR
  have s7 : Hid (w6.heap.size + 0 ≤ w7.heap.size) := Lib.hid hbR.sz0
  clear hbR hbT hbE
  obtain ⟨ccZ0, _, _⟩ := Z0_7.facts
  go_wp2_with fail
  refine (mkGen _ _ _ xp0v _ _ _ M0t_7 (by omega) (by omega)).mono ?_
  rintro e w8 ⟨rfl, _, m8⟩
  clear ccZ0
  have X0_8 := X0_7.mid m8 (by have as1 := s1.out; have as2 := s2.out; have as3 := s3.out; have as4 := s4.out; have as5 := s5.out; have as6 := s6.out; have as7 := s7.out; (try simp only [World.size_alloc]); omega)
  have Gs_8 := Gs_7.mid m8 (by have as1 := s1.out; have as2 := s2.out; have as3 := s3.out; have as4 := s4.out; have as5 := s5.out; have as6 := s6.out; have as7 := s7.out; (try simp only [World.size_alloc]); omega)
  have Z0_8 := Z0_7.mid m8 (by have as1 := s1.out; have as2 := s2.out; have as3 := s3.out; have as4 := s4.out; have as5 := s5.out; have as6 := s6.out; have as7 := s7.out; (try simp only [World.size_alloc]); omega)
  have Gg_8 := Gg_7.mid m8 (by have as1 := s1.out; have as2 := s2.out; have as3 := s3.out; have as4 := s4.out; have as5 := s5.out; have as6 := s6.out; have as7 := s7.out; (try simp only [World.size_alloc]); omega)
  have Y8 : Bel w w8 := Y7.mid m8 (by have as1 := s1.out; have as2 := s2.out; have as3 := s3.out; have as4 := s4.out; have as5 := s5.out; have as6 := s6.out; have as7 := s7.out; (try simp only [World.size_alloc]); omega)
  have Ns_8 := Ns_7.mid m8 (by have as1 := s1.out; have as2 := s2.out; have as3 := s3.out; have as4 := s4.out; have as5 := s5.out; have as6 := s6.out; have as7 := s7.out; (try simp only [World.size_alloc]); omega)
  have Ng_8 := Ng_7.mid m8 (by have as1 := s1.out; have as2 := s2.out; have as3 := s3.out; have as4 := s4.out; have as5 := s5.out; have as6 := s6.out; have as7 := s7.out; (try simp only [World.size_alloc]); omega)
  have s8 : Hid (w7.heap.size + 0 ≤ w8.heap.size) := Lib.hid m8.sz0
  have qk : decide ((1 + ((flN xp0v : Nat) : Int)) < 0) = false := decide_eq_false (by omega)
  obtain ⟨ccGg, _, _⟩ := Gg_8.facts
  obtain ⟨ccGs, _, _⟩ := Gs_8.facts
  go_wp2_with fail
  refine (eqNk_same (mnkA p0a xp0v x2) (mnkN p0a xp0v x2) (mnkW p0a xp0v x2) _ (D) _ _ (Ng_8.out.reads) (Ns_8.out.reads)).mono ?_
  rintro e w9 ⟨rfl, hb9⟩
  clear ccGg ccGs
  have X0_9 := hb9.keep X0_8
  have Gs_9 := hb9.keep Gs_8
  have Z0_9 := hb9.keep Z0_8
  have Gg_9 := hb9.keep Gg_8
  have Y9 : Bel w w9 := Y8.trans hb9
  have Ns_9 := Ns_8.keep hb9
  have Ng_9 := Ng_8.keep hb9
  have s9 : Hid (w8.heap.size + 0 ≤ w9.heap.size) := Lib.hid hb9.sz0
  obtain ⟨ccGg, _, _⟩ := Gg_9.facts
  go_wp2_with fail
  refine (mkNk (mnkA p0a xp0v x2) (mnkN p0a xp0v x2) (mnkW p0a xp0v x2) _ 1 (D) _ _ _ Ng_9 (by omega) (by omega)).mono ?_
  rintro e w10 ⟨rfl, Lm, m10⟩
  clear ccGg
  have X0_10 := X0_9.mid m10 (by have as1 := s1.out; have as2 := s2.out; have as3 := s3.out; have as4 := s4.out; have as5 := s5.out; have as6 := s6.out; have as7 := s7.out; have as8 := s8.out; have as9 := s9.out; (try simp only [World.size_alloc]); omega)
  have Gs_10 := Gs_9.mid m10 (by have as1 := s1.out; have as2 := s2.out; have as3 := s3.out; have as4 := s4.out; have as5 := s5.out; have as6 := s6.out; have as7 := s7.out; have as8 := s8.out; have as9 := s9.out; (try simp only [World.size_alloc]); omega)
  have Z0_10 := Z0_9.mid m10 (by have as1 := s1.out; have as2 := s2.out; have as3 := s3.out; have as4 := s4.out; have as5 := s5.out; have as6 := s6.out; have as7 := s7.out; have as8 := s8.out; have as9 := s9.out; (try simp only [World.size_alloc]); omega)
  have Gg_10 := Gg_9.mid m10 (by have as1 := s1.out; have as2 := s2.out; have as3 := s3.out; have as4 := s4.out; have as5 := s5.out; have as6 := s6.out; have as7 := s7.out; have as8 := s8.out; have as9 := s9.out; (try simp only [World.size_alloc]); omega)
  have Y10 : Bel w w10 := Y9.mid m10 (by have as1 := s1.out; have as2 := s2.out; have as3 := s3.out; have as4 := s4.out; have as5 := s5.out; have as6 := s6.out; have as7 := s7.out; have as8 := s8.out; have as9 := s9.out; (try simp only [World.size_alloc]); omega)
  have Ns_10 := Ns_9.mid m10 (by have as1 := s1.out; have as2 := s2.out; have as3 := s3.out; have as4 := s4.out; have as5 := s5.out; have as6 := s6.out; have as7 := s7.out; have as8 := s8.out; have as9 := s9.out; (try simp only [World.size_alloc]); omega)
  have s10 : Hid (w9.heap.size + 0 ≤ w10.heap.size) := Lib.hid m10.sz0
  have qm : decide (1 + (((flN (D)) : Nat) : Int) < 0) = false := decide_eq_false (by omega)
  obtain ⟨ccGg, _, _⟩ := Gg_10.facts
  go_wp2_with fail
  refine (hdNk (mnkA p0a xp0v x2) (mnkN p0a xp0v x2) (mnkW p0a xp0v x2) _ 1 (D) _ (Lm.out.reads) (by omega) (by omega)).mono ?_
  rintro e w11 ⟨rfl, hb11⟩
  clear ccGg
  have X0_11 := hb11.keep X0_10
  have Gs_11 := hb11.keep Gs_10
  have Z0_11 := hb11.keep Z0_10
  have Gg_11 := hb11.keep Gg_10
  have Y11 : Bel w w11 := Y10.trans hb11
  have Ns_11 := Ns_10.keep hb11
  have Lm_11 := Lm.keep hb11
  have s11 : Hid (w10.heap.size + 0 ≤ w11.heap.size) := Lib.hid hb11.sz0
  obtain ⟨ccX0, _, _⟩ := X0_11.facts
  go_wp2_with fail
  refine (toGen p0a p0v xp0v _ (hp0v.keep Y11) np0v).mono ?_
  rintro e w12 ⟨hp0v, rfl, Op0vh, hb12⟩
  clear ccX0
  have X0_12 := hb12.keep X0_11
  have Gs_12 := hb12.keep Gs_11
  have Z0_12 := hb12.keep Z0_11
  have Gg_12 := hb12.keep Gg_11
  have Y12 : Bel w w12 := Y11.trans hb12
  have Ns_12 := Ns_11.keep hb12
  have Lm_12 := Lm_11.keep hb12
  have s12 : Hid (w11.heap.size + 0 ≤ w12.heap.size) := Lib.hid hb12.sz0
  have M0h := Op0vh.loc (hb12.size)
  go_wp2_with fail
  refine (mnkI p0a x1 x2 _ xp0v _ (M0h.out.reads) b1).mono ?_
  rintro e w13 ⟨rh, rfl, Oh, hb13⟩
  have X0_13 := hb13.keep X0_12
  have Gs_13 := hb13.keep Gs_12
  have Z0_13 := hb13.keep Z0_12
  have Gg_13 := hb13.keep Gg_12
  have Y13 : Bel w w13 := Y12.trans hb13
  have Ns_13 := Ns_12.keep hb13
  have Lm_13 := Lm_12.keep hb13
  have M0h_13 := M0h.keep hb13
  have s13 : Hid (w12.heap.size + 0 ≤ w13.heap.size) := Lib.hid hb13.sz0
  rw [HD.out] at Oh
  have Nh := Oh.loc (hb13.size)
  obtain ⟨Arh, crh, erh, _, _, _⟩ := Oh.reads
  subst erh
  have Gh_a := Blk.new w13 27 #[.int .i64 (mnkA p0a xp0v x2), .int .i64 (mnkN p0a xp0v x2), .int .i64 (mnkW p0a xp0v x2), (.slice Arh (D).length crh)]
  have X0_Gh := X0_13.alloc (.cells #[.int .i64 (mnkA p0a xp0v x2), .int .i64 (mnkN p0a xp0v x2), .int .i64 (mnkW p0a xp0v x2), (.slice Arh (D).length crh)] 27)
  have Gs_Gh := Gs_13.alloc (.cells #[.int .i64 (mnkA p0a xp0v x2), .int .i64 (mnkN p0a xp0v x2), .int .i64 (mnkW p0a xp0v x2), (.slice Arh (D).length crh)] 27)
  have Z0_Gh := Z0_13.alloc (.cells #[.int .i64 (mnkA p0a xp0v x2), .int .i64 (mnkN p0a xp0v x2), .int .i64 (mnkW p0a xp0v x2), (.slice Arh (D).length crh)] 27)
  have Gg_Gh := Gg_13.alloc (.cells #[.int .i64 (mnkA p0a xp0v x2), .int .i64 (mnkN p0a xp0v x2), .int .i64 (mnkW p0a xp0v x2), (.slice Arh (D).length crh)] 27)
  have YGh := Y13.alloc (.cells #[.int .i64 (mnkA p0a xp0v x2), .int .i64 (mnkN p0a xp0v x2), .int .i64 (mnkW p0a xp0v x2), (.slice Arh (D).length crh)] 27)
  have Ns_Gh := Ns_13.keep ((Bel.refl _).alloc (.cells #[.int .i64 (mnkA p0a xp0v x2), .int .i64 (mnkN p0a xp0v x2), .int .i64 (mnkW p0a xp0v x2), (.slice Arh (D).length crh)] 27))
  have Lm_Gh := Lm_13.keep ((Bel.refl _).alloc (.cells #[.int .i64 (mnkA p0a xp0v x2), .int .i64 (mnkN p0a xp0v x2), .int .i64 (mnkW p0a xp0v x2), (.slice Arh (D).length crh)] 27))
  have Nh_Gh := Nh.keep ((Bel.refl _).alloc (.cells #[.int .i64 (mnkA p0a xp0v x2), .int .i64 (mnkN p0a xp0v x2), .int .i64 (mnkW p0a xp0v x2), (.slice Arh (D).length crh)] 27))
  obtain ⟨ccGh, _, _⟩ := Gh_a.facts
  obtain ⟨ccGs, _, _⟩ := Gs_Gh.facts
  go_wp2_with fail
  refine (eqNk_same (mnkA p0a xp0v x2) (mnkN p0a xp0v x2) (mnkW p0a xp0v x2) _ (D) _ _ (Nh_Gh.out.reads) (Ns_Gh.out.reads)).mono ?_
  rintro e w14 ⟨rfl, hb14⟩
  clear ccGh ccGs
  have X0_14 := hb14.keep X0_Gh
  have Gs_14 := hb14.keep Gs_Gh
  have Z0_14 := hb14.keep Z0_Gh
  have Gg_14 := hb14.keep Gg_Gh
  have Gh_14 := hb14.keep Gh_a
  have Y14 : Bel w w14 := YGh.trans hb14
  have Ns_14 := Ns_Gh.keep hb14
  have Lm_14 := Lm_Gh.keep hb14
  have Nh_14 := Nh_Gh.keep hb14
  have s14 : Hid (w13.heap.size + 1 ≤ w14.heap.size) := Lib.hid hb14.sz1
  obtain ⟨ccGg, _, _⟩ := Gg_14.facts
  go_wp2_with fail
  refine (hdNk (mnkA p0a xp0v x2) (mnkN p0a xp0v x2) (mnkW p0a xp0v x2) _ 1 (D) _ (Lm_14.out.reads) (by omega) (by omega)).mono ?_
  rintro e w15 ⟨rfl, hb15⟩
  clear ccGg
  have X0_15 := hb15.keep X0_14
  have Gs_15 := hb15.keep Gs_14
  have Z0_15 := hb15.keep Z0_14
  have Gg_15 := hb15.keep Gg_14
  have Gh_15 := hb15.keep Gh_14
  have Y15 : Bel w w15 := Y14.trans hb15
  have Ns_15 := Ns_14.keep hb15
  have Lm_15 := Lm_14.keep hb15
  have Nh_15 := Nh_14.keep hb15
  have s15 : Hid (w14.heap.size + 0 ≤ w15.heap.size) := Lib.hid hb15.sz0
  go_wp2
  go_ret
  exact ⟨rfl, Y15⟩

set_option maxRecDepth 100000 in
theorem lifted (os : Os) (started : os.Started) (H : Type) (enc : TypeId × Value → H) :
    ReturnsInHanded {} Tryz.checked os 3 .any (Rows.fnExactMakeNullKeysSpec.pre6 enc Tryz.prog Tryz.f3 Rows.fnExactMakeNullKeysRow.domain false) (Rows.fnExactMakeNullKeysSpec.post enc Tryz.prog Tryz.f3 false true false false) := by
  refine returnsInHanded_of_change (C := Tryz.checked) own started (by kernel_rfl) Tryz.func3
    (ChangeSpec.witness6 (enc := enc) (C := Tryz.checked) false ⟨#[], #[.agg #[.int .i64 0, .slice none 0 0], .int .i64 0, .int .i64 0], []⟩ 8 (by kernel_rfl) (by kernel_rfl) (by kernel_rfl) (by kernel_rfl)) ?_
  intro W base args ds gs before hval0 hW hcnd _
  have hval : ∀ (j : Nat) t v, Tryz.f3.params[j]? = some t → args[j]? = some v → Value.okWide Tryz.prog W .any base t v := hval0
  have hW' := hW
  obtain ⟨p, q, hA0, hV, rfl, hfz, hnd⟩ := hW
  have hA : DataW.TrodAll enc Tryz.prog W 0 (fun _ => true) true Tryz.f3.params.toList args.toList ds p := hA0
  rw [Tryz.params3] at hA hval
  obtain ⟨v0, vs0, d0, ds0, p0, q0, hargs, rfl, rfl, h0, r0⟩ := trodAll_cons hA
  obtain ⟨v1, vs1, d1, ds1, p1, q1, rfl, rfl, rfl, h1, r1⟩ := trodAll_cons r0
  obtain ⟨v2, vs2, d2, ds2, p2, q2, rfl, rfl, rfl, h2, r2⟩ := trodAll_cons r1
  obtain ⟨rfl, rfl, rfl⟩ := trodAll_nil r2
  obtain rfl : args = #[v0, v1, v2] := by cases args; simp_all
  obtain ⟨rfl, rfl⟩ := trodVars_none hV
  have k0 := h0
  have lt0 : ∀ x ∈ p0, x.block < W.heap.size := by obtain ⟨m, hm⟩ := k0; exact DataW.trod_lt m _ _ _ hm
  obtain ⟨x0, f0⟩ := openGen (hval 0 24 v0 rfl rfl) h0
  have k1 := h1
  have lt1 : ∀ x ∈ p1, x.block < W.heap.size := by obtain ⟨m, hm⟩ := k1; exact DataW.trod_lt m _ _ _ hm
  obtain ⟨x1, f1⟩ := openI (hval 1 3 v1 rfl rfl) h1
  have k2 := h2
  have lt2 : ∀ x ∈ p2, x.block < W.heap.size := by obtain ⟨m, hm⟩ := k2; exact DataW.trod_lt m _ _ _ hm
  obtain ⟨x2, f2⟩ := openI (hval 2 3 v2 rfl rfl) h2
  clear hA0 hval0
  refine (walk W v0 x0 f0 v1 x1 f1 v2 x2 f2).mono fun e W' ⟨he, bel⟩ => ?_
  subst he
  exact ⟨_, rfl, _, _, _, [], _, [], hW', trodAll_mk1 (shut_bool Tryz.underlying4 _), (trodAll_cons_mk (Below.trod laidOut (by kernel_rfl) (of_decide_eq_true (by kernel_rfl)) k0 bel lt0) (trodAll_cons_mk (Below.trod laidOut (by kernel_rfl) (of_decide_eq_true (by kernel_rfl)) k1 bel lt1) (trodAll_cons_mk (Below.trod laidOut (by kernel_rfl) (of_decide_eq_true (by kernel_rfl)) k2 bel lt2) trodAll_mk0))), rfl, bel.frame _, fun h => by cases h⟩

theorem over : Rows.fnExactMakeNullKeysRow.holds Tryz.pinned (OpenSpec.ofChange Rows.fnExactMakeNullKeysSpec) :=
  OpenClaim.holds_of_wide 3 Tryz.f3 rfl rfl rfl rfl rfl rfl rfl ⟨rfl, rfl, rfl, rfl, rfl⟩ rfl rfl rfl rfl rfl (by kernel_rfl) Tryz.func3 (by kernel_rfl)
    (of_decide_eq_true (by kernel_rfl)) (by unfold Func.isWrapper; first | (rw [if_pos (by decide +kernel)]; kernel_rfl) | (rw [if_neg (by decide +kernel)]; exact ⟨rfl, rfl⟩))
    (fun os started H enc _ => lifted os started H enc)

theorem proved : Rows.FnExactMakeNullKeysSaid := over
#print axioms proved
end Go.Proofs.YtjaagabbbnokdaaGreat.fnExactMakeNullKeys
