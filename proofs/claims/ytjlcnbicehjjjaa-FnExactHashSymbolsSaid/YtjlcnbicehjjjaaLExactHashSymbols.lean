/-
  FnExactHashSymbols: for every hash key and generation the program's HashSymbols returns what the reference's returns, in memory of its own, and leaves its arguments alone. No condition.
-/
import Derived.Test.YtjlcnbicehjjjaaOpenS
import Derived.Test.YtjlcnbicehjjjaaOpenM
import Derived.Test.YtjlcnbicehjjjaaKHkey
import Derived.Test.YtjlcnbicehjjjaaKGen
import Derived.Test.YtjlcnbicehjjjaaHkM
import Derived.Test.YtjlcnbicehjjjaaHsy
import Derived.Test.YtjlcnbicehjjjaaMarkM
import Derived.Deep.RegionHeld3
namespace Go.Proofs.Ytjlcnbicehjjjaa.fnExactHashSymbols
open Go.ChangeShapes Go.WideShapes Go.ChangeAt Go.RowKit
set_option linter.unusedVariables false
set_option maxRecDepth 100000

set_option maxHeartbeats 4000000 in
theorem walk (w : World) (v0 : Value) (x0 : List Int) (f0 : IsHkey w v0 x0) (v1 : Value) (x1 : Int × List (List Int)) (f1 : IsGen w v1 x1) :
    Calls Try.prog 7 #[v0, v1] w fun e w' => e = .returned (.bool true) ∧ Below w.heap.size w w' := by
  obtain ⟨p0v, rfl, hp0v, kp0v⟩ := f0
  obtain ⟨p1a, xp1v⟩ := x1
  obtain ⟨p1v, rfl, hp1v, kp1v, b1⟩ := f1
  dsimp only at *
  rcases Or.symm (Decidable.em ((x0.length : Int) ≤ 1048576)) with z0 | z0
  · go_enter Try.func7, Try.ntmps7
    go_wp2_with fail
    refine (szHkey_no p0v x0 (1048576) _ (hp0v.keep (((Bel.refl _).alloc _).alloc _)) (by omega) (by omega) (by omega)).mono ?_
    rintro e wz ⟨rfl, hbz⟩
    go_wp2
    go_ret
    exact ⟨rfl, (((Bel.refl _).alloc _).alloc _).trans hbz⟩
  have dz0 : decide (1048576 - ((x0.length : Int)) < 0) = false := by simp; omega
  rcases Or.symm (Decidable.em ((szM xp1v : Int) ≤ 1048576 - ((x0.length : Int)))) with z1 | z1
  · go_enter Try.func7, Try.ntmps7
    go_wp2_with fail
    refine (szHkey_ok p0v x0 (1048576) _ (hp0v.keep (((Bel.refl _).alloc _).alloc _)) (by omega) (by omega)).mono ?_
    rintro e w1 ⟨rfl, hb1⟩
    have X0_1 := hb1.keep ((Blk.new w _ _).alloc _)
    have X1_1 := hb1.keep (Blk.new2 w _ _ _)
    have Y1 : Bel w w1 := (((Bel.refl _).alloc _).alloc _).trans hb1
    have s1 : Hid (w.heap.size + 2 ≤ w1.heap.size) := Lib.hid hb1.sz2
    clear hb1
    obtain ⟨cc0, _, _⟩ := X0_1.facts
    obtain ⟨cc1, _, _⟩ := X1_1.facts
    go_wp2_with fail
    refine (szGen_no p1a p1v xp1v (1048576 - ((x0.length : Int))) _ (hp1v.keep Y1) (by omega) (by omega) (by omega)).mono ?_
    rintro e wz ⟨rfl, hbz⟩
    go_wp2
    go_ret
    exact ⟨rfl, Y1.trans hbz⟩
  have dz1 : decide (1048576 - ((x0.length : Int)) - ((szM xp1v : Int)) < 0) = false := by simp; omega
  have np0v : x0.length ≤ 1048576 := by omega
  have np1v : szM xp1v ≤ 1048576 := by omega
  have flp1v : flN xp1v ≤ 1048576 := by have h9 := np1v; unfold szM at h9; show xp1v.flatten.length ≤ 1048576; omega
  have nD : (hsyZ x0 p1a xp1v).length ≤ 2097152 := by have := hsyZ_len x0 p1a xp1v; omega
  obtain ⟨D, hD⟩ : ∃ D, D = hsyZ x0 p1a xp1v := ⟨_, rfl⟩
  rw [← hD] at nD
  have HD := Lib.hid hD.symm
  clear hD
  go_enter Try.func7, Try.ntmps7
  go_wp2_with fail
  refine (szHkey_ok p0v x0 (1048576) _ (hp0v.keep (((Bel.refl _).alloc _).alloc _)) (by omega) (by omega)).mono ?_
  rintro e w1 ⟨rfl, hb1⟩
  have X0_1 := hb1.keep ((Blk.new w _ _).alloc _)
  have X1_1 := hb1.keep (Blk.new2 w _ _ _)
  have Y1 : Bel w w1 := (((Bel.refl _).alloc _).alloc _).trans hb1
  have s1 : Hid (w.heap.size + 2 ≤ w1.heap.size) := Lib.hid hb1.sz2
  clear hb1
  obtain ⟨cc0, _, _⟩ := X0_1.facts
  obtain ⟨cc1, _, _⟩ := X1_1.facts
  go_wp2_with fail
  refine (szGen_ok p1a p1v xp1v (1048576 - ((x0.length : Int))) _ (hp1v.keep Y1) (by omega) (by omega)).mono ?_
  rintro e w2 ⟨rfl, hb2⟩
  have X0_2 := hb2.keep X0_1
  have X1_2 := hb2.keep X1_1
  have Y2 : Bel w w2 := Y1.trans hb2
  have s2 : Hid (w1.heap.size + 0 ≤ w2.heap.size) := Lib.hid hb2.sz0
  clear hb2
  clear cc0 cc1
  obtain ⟨cc0, _, _⟩ := X0_2.facts
  obtain ⟨cc1, _, _⟩ := X1_2.facts
  clear cc0 cc1
  obtain ⟨hcX02, _, hzX02⟩ := X0_2.facts
  have rX02o0 : w2.cell? ⟨w.heap.size, 0, none⟩ = some (p0v) := hcX02 0
  clear hcX02
  obtain ⟨hcX12, _, hzX12⟩ := X1_2.facts
  have rX12o0 : w2.cell? ⟨w.heap.size + 1, 0, none⟩ = some (.int .i64 p1a) := hcX12 0
  have rX12o1 : w2.cell? ⟨w.heap.size + 1, 1, none⟩ = some (p1v) := hcX12 1
  clear hcX12
  have Yd := Y2.drew
  go_wp2_with fail
  go_region_held3 (fun w' => w'.cell? ⟨w.heap.size, 0, none⟩ = some (p0v) ∧ w'.cell? ⟨w.heap.size + 1, 0, none⟩ = some (.int .i64 p1a) ∧ w'.cell? ⟨w.heap.size + 1, 1, none⟩ = some (p1v)) (first | exact ⟨hbT0s.cell1 (hzX02) (rX02o0), hbT0s.cell1 (hzX12) (rX12o0), hbT0s.cell1 (hzX12) (rX12o1)⟩ | exact ⟨hbT1s.cell1 (Nat.lt_of_lt_of_le (hzX02) hbT0s.size) (hbT0s.cell1 (hzX02) (rX02o0)), hbT1s.cell1 (Nat.lt_of_lt_of_le (hzX12) hbT0s.size) (hbT0s.cell1 (hzX12) (rX12o0)), hbT1s.cell1 (Nat.lt_of_lt_of_le (hzX12) hbT0s.size) (hbT0s.cell1 (hzX12) (rX12o1))⟩ | exact ⟨hbSs.cell1 (Nat.lt_of_lt_of_le (Nat.lt_of_lt_of_le (hzX02) hbT0s.size) hbT1s.size) (hbT1s.cell1 (Nat.lt_of_lt_of_le (hzX02) hbT0s.size) (hbT0s.cell1 (hzX02) (rX02o0))), hbSs.cell1 (Nat.lt_of_lt_of_le (Nat.lt_of_lt_of_le (hzX12) hbT0s.size) hbT1s.size) (hbT1s.cell1 (Nat.lt_of_lt_of_le (hzX12) hbT0s.size) (hbT0s.cell1 (hzX12) (rX12o0))), hbSs.cell1 (Nat.lt_of_lt_of_le (Nat.lt_of_lt_of_le (hzX12) hbT0s.size) hbT1s.size) (hbT1s.cell1 (Nat.lt_of_lt_of_le (hzX12) hbT0s.size) (hbT0s.cell1 (hzX12) (rX12o1)))⟩ | go_keep) (first | (go_at_call 17; ((with_reducible refine (toHkey p0v x0 _ (by exact hp0v.keep (Yd)) np0v).mono ?_); rintro e wT0s ⟨sp0v, rfl, Op0vs, hbT0s⟩)) | (go_at_call 40; ((with_reducible refine (toGen p1a p1v xp1v _ (by exact hp1v.keep ((Yd).trans hbT0s)) np1v).mono ?_); rintro e wT1s ⟨sp1v, rfl, Op1vs, hbT1s⟩)) | (go_at_call 39; ((with_reducible refine (hsyS p1a _ _ xp1v x0 _ (by exact (Op0vs.reads).keep hbT1s) (by exact Op1vs.reads)).mono ?_); rintro e wSs ⟨rs, rfl, Os, hbSs⟩)))
  have u3 : Hid (w2.heap.size ≤ wT1s.heap.size) := Lib.hid ((((Bel.refl w2).drew).trans hbT0s).trans hbT1s).size
  have hbR := ((((Bel.refl w2).drew).trans hbT0s).trans hbT1s).trans hbSs
  clear rX02o0 rX12o0 rX12o1 Yd
  obtain ⟨w3, hw3⟩ : ∃ x, x = wSs := ⟨_, rfl⟩
  subst hw3
  have hb3 := hbSs
  have v3 : Hid (wT1s.heap.size ≤ w3.heap.size) := Lib.hid hbSs.size
  have X0_3 := hbR.keep X0_2
  have X1_3 := hbR.keep X1_2
  have Y3 : Bel w w3 := Y2.trans hbR
  have s3 : Hid (w2.heap.size + 0 ≤ w3.heap.size) := Lib.hid hbR.sz0
  rw [HD.out] at Os
  have Ns := Os.loc (hb3.size)
  obtain ⟨Ars, crs, ers, _, _, _⟩ := Os.reads
  subst ers
  obtain ⟨ccX0, _, _⟩ := X0_3.facts
  go_wp2_with fail
  refine (toHkey p0v x0 _ (hp0v.keep Y3) np0v).mono ?_
  rintro e w4 ⟨tp0v, rfl, Op0vt, hb4⟩
  clear ccX0
  have X0_4 := hb4.keep X0_3
  have X1_4 := hb4.keep X1_3
  have Y4 : Bel w w4 := Y3.trans hb4
  have Ns_4 := Ns.keep hb4
  have s4 : Hid (w3.heap.size + 0 ≤ w4.heap.size) := Lib.hid hb4.sz0
  have M0t := Op0vt.loc (hb4.size)
  obtain ⟨Atp0v, ctp0v, etp0v, _, _, _⟩ := Op0vt.reads
  subst etp0v
  have Z0_a := Blk.new w4 24 #[(.slice Atp0v x0.length ctp0v)]
  have X0_Z0 := X0_4.alloc (.cells #[(.slice Atp0v x0.length ctp0v)] 24)
  have X1_Z0 := X1_4.alloc (.cells #[(.slice Atp0v x0.length ctp0v)] 24)
  have YZ0 := Y4.alloc (.cells #[(.slice Atp0v x0.length ctp0v)] 24)
  have Ns_Z0 := Ns_4.keep ((Bel.refl _).alloc (.cells #[(.slice Atp0v x0.length ctp0v)] 24))
  have M0t_Z0 := M0t.keep ((Bel.refl _).alloc (.cells #[(.slice Atp0v x0.length ctp0v)] 24))
  obtain ⟨ccX1, _, _⟩ := X1_Z0.facts
  go_wp2_with fail
  refine (toGen p1a p1v xp1v _ (hp1v.keep YZ0) np1v).mono ?_
  rintro e w5 ⟨tp1v, rfl, Op1vt, hb5⟩
  clear ccX1
  have X0_5 := hb5.keep X0_Z0
  have X1_5 := hb5.keep X1_Z0
  have Z0_5 := hb5.keep Z0_a
  have Y5 : Bel w w5 := YZ0.trans hb5
  have Ns_5 := Ns_Z0.keep hb5
  have M0t_5 := M0t_Z0.keep hb5
  have s5 : Hid (w4.heap.size + 1 ≤ w5.heap.size) := Lib.hid hb5.sz1
  have M1t := Op1vt.loc (hb5.size)
  obtain ⟨Atp1v, ctp1v, etp1v, _, _, _⟩ := Op1vt.reads
  subst etp1v
  have Z1_a := Blk.new w5 47 #[.int .i64 p1a, (.slice Atp1v xp1v.length ctp1v)]
  have X0_Z1 := X0_5.alloc (.cells #[.int .i64 p1a, (.slice Atp1v xp1v.length ctp1v)] 47)
  have X1_Z1 := X1_5.alloc (.cells #[.int .i64 p1a, (.slice Atp1v xp1v.length ctp1v)] 47)
  have Z0_Z1 := Z0_5.alloc (.cells #[.int .i64 p1a, (.slice Atp1v xp1v.length ctp1v)] 47)
  have YZ1 := Y5.alloc (.cells #[.int .i64 p1a, (.slice Atp1v xp1v.length ctp1v)] 47)
  have Ns_Z1 := Ns_5.keep ((Bel.refl _).alloc (.cells #[.int .i64 p1a, (.slice Atp1v xp1v.length ctp1v)] 47))
  have M0t_Z1 := M0t_5.keep ((Bel.refl _).alloc (.cells #[.int .i64 p1a, (.slice Atp1v xp1v.length ctp1v)] 47))
  have M1t_Z1 := M1t.keep ((Bel.refl _).alloc (.cells #[.int .i64 p1a, (.slice Atp1v xp1v.length ctp1v)] 47))
  obtain ⟨ccZ0, _, _⟩ := Z0_Z1.facts
  obtain ⟨ccZ1, _, _⟩ := Z1_a.facts
  go_wp2_with fail
  refine (hsyI p1a _ _ xp1v x0 _ (M0t_Z1.out.reads) (M1t_Z1.out.reads)).mono ?_
  rintro e w6 ⟨rg, rfl, Og, hb6⟩
  clear ccZ0 ccZ1
  have X0_6 := hb6.keep X0_Z1
  have X1_6 := hb6.keep X1_Z1
  have Z0_6 := hb6.keep Z0_Z1
  have Z1_6 := hb6.keep Z1_a
  have Y6 : Bel w w6 := YZ1.trans hb6
  have Ns_6 := Ns_Z1.keep hb6
  have M0t_6 := M0t_Z1.keep hb6
  have M1t_6 := M1t_Z1.keep hb6
  have s6 : Hid (w5.heap.size + 1 ≤ w6.heap.size) := Lib.hid hb6.sz1
  rw [HD.out] at Og
  have Ng := Og.loc (hb6.size)
  obtain ⟨Arg, crg, erg, _, _, _⟩ := Og.reads
  subst erg
  go_wp2_with fail
  refine (eqInts_same  _ _ (D) _ (Ng.out.reads) (Ns_6.out.reads)).mono ?_
  rintro e w7 ⟨rfl, hb7⟩
  have X0_7 := hb7.keep X0_6
  have X1_7 := hb7.keep X1_6
  have Z0_7 := hb7.keep Z0_6
  have Z1_7 := hb7.keep Z1_6
  have Y7 : Bel w w7 := Y6.trans hb7
  have Ns_7 := Ns_6.keep hb7
  have M0t_7 := M0t_6.keep hb7
  have M1t_7 := M1t_6.keep hb7
  have Ng_7 := Ng.keep hb7
  have s7 : Hid (w6.heap.size + 0 ≤ w7.heap.size) := Lib.hid hb7.sz0
  obtain ⟨hcX07, _, hzX07⟩ := X0_7.facts
  have rX07o0 : w7.cell? ⟨w.heap.size, 0, none⟩ = some (p0v) := hcX07 0
  clear hcX07
  obtain ⟨hcZ07, _, hzZ07⟩ := Z0_7.facts
  have rZ07o0 : w7.cell? ⟨w4.heap.size, 0, none⟩ = some ((.slice Atp0v x0.length ctp0v)) := hcZ07 0
  clear hcZ07
  have Yd := Y7.drew
  go_wp2_with fail
  go_region_held3 (fun w' => w'.cell? ⟨w.heap.size, 0, none⟩ = some (p0v) ∧ w'.cell? ⟨w4.heap.size, 0, none⟩ = some ((.slice Atp0v x0.length ctp0v))) (first | exact ⟨hbT.cell1 hzX07 rX07o0, hbT.cell1 hzZ07 rZ07o0⟩ | exact ⟨hbE.cell1 (Nat.lt_of_lt_of_le hzX07 hbT.size) (hbT.cell1 hzX07 rX07o0), hbE.cell1 (Nat.lt_of_lt_of_le hzZ07 hbT.size) (hbT.cell1 hzZ07 rZ07o0)⟩ | go_keep) (first | (go_at_call 17; ((with_reducible refine (toHkey p0v x0 _ (by exact hp0v.keep Yd) np0v).mono ?_); rintro e wT ⟨qp0v, rfl, Op0vq, hbT⟩)) | (go_at_call 12; ((with_reducible refine (eqHkey_same  _ x0 _ _ (by exact (M0t_7.out.reads).keep (((Bel.refl _).drew).trans hbT)) (by exact Op0vq.reads)).mono ?_); rintro e wE ⟨rfl, hbE⟩)))
  have hbR := (((Bel.refl w7).drew).trans hbT).trans hbE
  clear rX07o0 rZ07o0 Yd
  obtain ⟨w8, hw8⟩ : ∃ x, x = wE := ⟨_, rfl⟩
  subst hw8
  have X0_8 := hbR.keep X0_7
  have X1_8 := hbR.keep X1_7
  have Z0_8 := hbR.keep Z0_7
  have Z1_8 := hbR.keep Z1_7
  have Y8 : Bel w w8 := Y7.trans hbR
  have Ns_8 := Ns_7.keep hbR
  have M0t_8 := M0t_7.keep hbR
  have M1t_8 := M1t_7.keep hbR
  have Ng_8 := Ng_7.keep hbR
  have s8 : Hid (w7.heap.size + 0 ≤ w8.heap.size) := Lib.hid hbR.sz0
  clear hbR hbT hbE
  obtain ⟨hcX18, _, hzX18⟩ := X1_8.facts
  have rX18o0 : w8.cell? ⟨w.heap.size + 1, 0, none⟩ = some (.int .i64 p1a) := hcX18 0
  have rX18o1 : w8.cell? ⟨w.heap.size + 1, 1, none⟩ = some (p1v) := hcX18 1
  clear hcX18
  obtain ⟨hcZ18, _, hzZ18⟩ := Z1_8.facts
  have rZ18o0 : w8.cell? ⟨w5.heap.size, 0, none⟩ = some (.int .i64 p1a) := hcZ18 0
  have rZ18o1 : w8.cell? ⟨w5.heap.size, 1, none⟩ = some ((.slice Atp1v xp1v.length ctp1v)) := hcZ18 1
  clear hcZ18
  have Yd := Y8.drew
  go_wp2_with fail
  go_region_held3 (fun w' => w'.cell? ⟨w.heap.size + 1, 0, none⟩ = some (.int .i64 p1a) ∧ w'.cell? ⟨w.heap.size + 1, 1, none⟩ = some (p1v) ∧ w'.cell? ⟨w5.heap.size, 0, none⟩ = some (.int .i64 p1a) ∧ w'.cell? ⟨w5.heap.size, 1, none⟩ = some ((.slice Atp1v xp1v.length ctp1v))) (first | exact ⟨hbT.cell1 hzX18 rX18o0, hbT.cell1 hzX18 rX18o1, hbT.cell1 hzZ18 rZ18o0, hbT.cell1 hzZ18 rZ18o1⟩ | exact ⟨hbE.cell1 (Nat.lt_of_lt_of_le hzX18 hbT.size) (hbT.cell1 hzX18 rX18o0), hbE.cell1 (Nat.lt_of_lt_of_le hzX18 hbT.size) (hbT.cell1 hzX18 rX18o1), hbE.cell1 (Nat.lt_of_lt_of_le hzZ18 hbT.size) (hbT.cell1 hzZ18 rZ18o0), hbE.cell1 (Nat.lt_of_lt_of_le hzZ18 hbT.size) (hbT.cell1 hzZ18 rZ18o1)⟩ | go_keep) (first | (go_at_call 40; ((with_reducible refine (toGen p1a p1v xp1v _ (by exact hp1v.keep Yd) np1v).mono ?_); rintro e wT ⟨qp1v, rfl, Op1vq, hbT⟩)) | (go_at_call 41; ((with_reducible refine (eqGen_same p1a _ xp1v _ _ (by exact (M1t_8.out.reads).keep (((Bel.refl _).drew).trans hbT)) (by exact Op1vq.reads)).mono ?_); rintro e wE ⟨rfl, hbE⟩)))
  have hbR := (((Bel.refl w8).drew).trans hbT).trans hbE
  clear rX18o0 rX18o1 rZ18o0 rZ18o1 Yd
  obtain ⟨w9, hw9⟩ : ∃ x, x = wE := ⟨_, rfl⟩
  subst hw9
  have X0_9 := hbR.keep X0_8
  have X1_9 := hbR.keep X1_8
  have Z0_9 := hbR.keep Z0_8
  have Z1_9 := hbR.keep Z1_8
  have Y9 : Bel w w9 := Y8.trans hbR
  have Ns_9 := Ns_8.keep hbR
  have M0t_9 := M0t_8.keep hbR
  have M1t_9 := M1t_8.keep hbR
  have Ng_9 := Ng_8.keep hbR
  have s9 : Hid (w8.heap.size + 0 ≤ w9.heap.size) := Lib.hid hbR.sz0
  clear hbR hbT hbE
  obtain ⟨ccZ0, _, _⟩ := Z0_9.facts
  go_wp2_with fail
  refine (mkHkey  _ _ x0 _ _ _ M0t_9 (by omega) (by omega)).mono ?_
  rintro e w10 ⟨rfl, _, m10⟩
  clear ccZ0
  have X0_10 := X0_9.mid m10 (by have as1 := s1.out; have as2 := s2.out; have au3 := u3.out; have av3 := v3.out; have as3 := s3.out; have as4 := s4.out; have as5 := s5.out; have as6 := s6.out; have as7 := s7.out; have as8 := s8.out; have as9 := s9.out; (try simp only [World.size_alloc]); omega)
  have X1_10 := X1_9.mid m10 (by have as1 := s1.out; have as2 := s2.out; have au3 := u3.out; have av3 := v3.out; have as3 := s3.out; have as4 := s4.out; have as5 := s5.out; have as6 := s6.out; have as7 := s7.out; have as8 := s8.out; have as9 := s9.out; (try simp only [World.size_alloc]); omega)
  have Z0_10 := Z0_9.mid m10 (by have as1 := s1.out; have as2 := s2.out; have au3 := u3.out; have av3 := v3.out; have as3 := s3.out; have as4 := s4.out; have as5 := s5.out; have as6 := s6.out; have as7 := s7.out; have as8 := s8.out; have as9 := s9.out; (try simp only [World.size_alloc]); omega)
  have Z1_10 := Z1_9.mid m10 (by have as1 := s1.out; have as2 := s2.out; have au3 := u3.out; have av3 := v3.out; have as3 := s3.out; have as4 := s4.out; have as5 := s5.out; have as6 := s6.out; have as7 := s7.out; have as8 := s8.out; have as9 := s9.out; (try simp only [World.size_alloc]); omega)
  have Y10 : Bel w w10 := Y9.mid m10 (by have as1 := s1.out; have as2 := s2.out; have au3 := u3.out; have av3 := v3.out; have as3 := s3.out; have as4 := s4.out; have as5 := s5.out; have as6 := s6.out; have as7 := s7.out; have as8 := s8.out; have as9 := s9.out; (try simp only [World.size_alloc]); omega)
  have Ns_10 := Ns_9.mid m10 (by have as1 := s1.out; have as2 := s2.out; have au3 := u3.out; have av3 := v3.out; have as3 := s3.out; have as4 := s4.out; have as5 := s5.out; have as6 := s6.out; have as7 := s7.out; have as8 := s8.out; have as9 := s9.out; (try simp only [World.size_alloc]); omega)
  have M1t_10 := M1t_9.mid m10 (by have as1 := s1.out; have as2 := s2.out; have au3 := u3.out; have av3 := v3.out; have as3 := s3.out; have as4 := s4.out; have as5 := s5.out; have as6 := s6.out; have as7 := s7.out; have as8 := s8.out; have as9 := s9.out; (try simp only [World.size_alloc]); omega)
  have Ng_10 := Ng_9.mid m10 (by have as1 := s1.out; have as2 := s2.out; have au3 := u3.out; have av3 := v3.out; have as3 := s3.out; have as4 := s4.out; have as5 := s5.out; have as6 := s6.out; have as7 := s7.out; have as8 := s8.out; have as9 := s9.out; (try simp only [World.size_alloc]); omega)
  have s10 : Hid (w9.heap.size + 0 ≤ w10.heap.size) := Lib.hid m10.sz0
  obtain ⟨ccZ1, _, _⟩ := Z1_10.facts
  go_wp2_with fail
  refine (mkGen _ _ _ xp1v _ _ _ M1t_10 (by omega) (by omega)).mono ?_
  rintro e w11 ⟨rfl, _, m11⟩
  clear ccZ1
  have X0_11 := X0_10.mid m11 (by have as1 := s1.out; have as2 := s2.out; have au3 := u3.out; have av3 := v3.out; have as3 := s3.out; have as4 := s4.out; have as5 := s5.out; have as6 := s6.out; have as7 := s7.out; have as8 := s8.out; have as9 := s9.out; have as10 := s10.out; (try simp only [World.size_alloc]); omega)
  have X1_11 := X1_10.mid m11 (by have as1 := s1.out; have as2 := s2.out; have au3 := u3.out; have av3 := v3.out; have as3 := s3.out; have as4 := s4.out; have as5 := s5.out; have as6 := s6.out; have as7 := s7.out; have as8 := s8.out; have as9 := s9.out; have as10 := s10.out; (try simp only [World.size_alloc]); omega)
  have Z0_11 := Z0_10.mid m11 (by have as1 := s1.out; have as2 := s2.out; have au3 := u3.out; have av3 := v3.out; have as3 := s3.out; have as4 := s4.out; have as5 := s5.out; have as6 := s6.out; have as7 := s7.out; have as8 := s8.out; have as9 := s9.out; have as10 := s10.out; (try simp only [World.size_alloc]); omega)
  have Z1_11 := Z1_10.mid m11 (by have as1 := s1.out; have as2 := s2.out; have au3 := u3.out; have av3 := v3.out; have as3 := s3.out; have as4 := s4.out; have as5 := s5.out; have as6 := s6.out; have as7 := s7.out; have as8 := s8.out; have as9 := s9.out; have as10 := s10.out; (try simp only [World.size_alloc]); omega)
  have Y11 : Bel w w11 := Y10.mid m11 (by have as1 := s1.out; have as2 := s2.out; have au3 := u3.out; have av3 := v3.out; have as3 := s3.out; have as4 := s4.out; have as5 := s5.out; have as6 := s6.out; have as7 := s7.out; have as8 := s8.out; have as9 := s9.out; have as10 := s10.out; (try simp only [World.size_alloc]); omega)
  have Ns_11 := Ns_10.mid m11 (by have as1 := s1.out; have as2 := s2.out; have au3 := u3.out; have av3 := v3.out; have as3 := s3.out; have as4 := s4.out; have as5 := s5.out; have as6 := s6.out; have as7 := s7.out; have as8 := s8.out; have as9 := s9.out; have as10 := s10.out; (try simp only [World.size_alloc]); omega)
  have Ng_11 := Ng_10.mid m11 (by have as1 := s1.out; have as2 := s2.out; have au3 := u3.out; have av3 := v3.out; have as3 := s3.out; have as4 := s4.out; have as5 := s5.out; have as6 := s6.out; have as7 := s7.out; have as8 := s8.out; have as9 := s9.out; have as10 := s10.out; (try simp only [World.size_alloc]); omega)
  have s11 : Hid (w10.heap.size + 0 ≤ w11.heap.size) := Lib.hid m11.sz0
  have qk : decide (((1 + (x0.length : Int)) + ((flN xp1v : Nat) : Int)) < 0) = false := decide_eq_false (by omega)
  go_wp2_with fail
  refine (eqInts_same  _ _ (D) _ (Ng_11.out.reads) (Ns_11.out.reads)).mono ?_
  rintro e w12 ⟨rfl, hb12⟩
  have X0_12 := hb12.keep X0_11
  have X1_12 := hb12.keep X1_11
  have Z0_12 := hb12.keep Z0_11
  have Z1_12 := hb12.keep Z1_11
  have Y12 : Bel w w12 := Y11.trans hb12
  have Ns_12 := Ns_11.keep hb12
  have Ng_12 := Ng_11.keep hb12
  have s12 : Hid (w11.heap.size + 0 ≤ w12.heap.size) := Lib.hid hb12.sz0
  go_wp2_with fail
  refine (mkIn _ 1 (D) _ _ _ Ng_12.out Ng_12.1 Ng_12.2.1 (by omega) (by omega)).mono ?_
  rintro e w13 ⟨rfl, Lm, m13⟩
  have X0_13 := X0_12.mid m13 (by have as1 := s1.out; have as2 := s2.out; have au3 := u3.out; have av3 := v3.out; have as3 := s3.out; have as4 := s4.out; have as5 := s5.out; have as6 := s6.out; have as7 := s7.out; have as8 := s8.out; have as9 := s9.out; have as10 := s10.out; have as11 := s11.out; have as12 := s12.out; (try simp only [World.size_alloc]); omega)
  have X1_13 := X1_12.mid m13 (by have as1 := s1.out; have as2 := s2.out; have au3 := u3.out; have av3 := v3.out; have as3 := s3.out; have as4 := s4.out; have as5 := s5.out; have as6 := s6.out; have as7 := s7.out; have as8 := s8.out; have as9 := s9.out; have as10 := s10.out; have as11 := s11.out; have as12 := s12.out; (try simp only [World.size_alloc]); omega)
  have Z0_13 := Z0_12.mid m13 (by have as1 := s1.out; have as2 := s2.out; have au3 := u3.out; have av3 := v3.out; have as3 := s3.out; have as4 := s4.out; have as5 := s5.out; have as6 := s6.out; have as7 := s7.out; have as8 := s8.out; have as9 := s9.out; have as10 := s10.out; have as11 := s11.out; have as12 := s12.out; (try simp only [World.size_alloc]); omega)
  have Z1_13 := Z1_12.mid m13 (by have as1 := s1.out; have as2 := s2.out; have au3 := u3.out; have av3 := v3.out; have as3 := s3.out; have as4 := s4.out; have as5 := s5.out; have as6 := s6.out; have as7 := s7.out; have as8 := s8.out; have as9 := s9.out; have as10 := s10.out; have as11 := s11.out; have as12 := s12.out; (try simp only [World.size_alloc]); omega)
  have Y13 : Bel w w13 := Y12.mid m13 (by have as1 := s1.out; have as2 := s2.out; have au3 := u3.out; have av3 := v3.out; have as3 := s3.out; have as4 := s4.out; have as5 := s5.out; have as6 := s6.out; have as7 := s7.out; have as8 := s8.out; have as9 := s9.out; have as10 := s10.out; have as11 := s11.out; have as12 := s12.out; (try simp only [World.size_alloc]); omega)
  have Ns_13 := Ns_12.mid m13 (by have as1 := s1.out; have as2 := s2.out; have au3 := u3.out; have av3 := v3.out; have as3 := s3.out; have as4 := s4.out; have as5 := s5.out; have as6 := s6.out; have as7 := s7.out; have as8 := s8.out; have as9 := s9.out; have as10 := s10.out; have as11 := s11.out; have as12 := s12.out; (try simp only [World.size_alloc]); omega)
  have s13 : Hid (w12.heap.size + 0 ≤ w13.heap.size) := Lib.hid m13.sz0
  have qm : decide (1 + (((D).length : Nat) : Int) < 0) = false := decide_eq_false (by omega)
  go_wp2_with fail
  refine (heldInts _ 1 (D).length _ (Lm.out.reads) (by omega) (by omega)).mono ?_
  rintro e wh ⟨rfl, rfl⟩
  obtain ⟨hcX013, _, hzX013⟩ := X0_13.facts
  have rX013o0 : w13.cell? ⟨w.heap.size, 0, none⟩ = some (p0v) := hcX013 0
  clear hcX013
  obtain ⟨hcX113, _, hzX113⟩ := X1_13.facts
  have rX113o0 : w13.cell? ⟨w.heap.size + 1, 0, none⟩ = some (.int .i64 p1a) := hcX113 0
  have rX113o1 : w13.cell? ⟨w.heap.size + 1, 1, none⟩ = some (p1v) := hcX113 1
  clear hcX113
  have Yd := Y13.drew
  go_wp2_with fail
  go_region_held3 (fun w' => w'.cell? ⟨w.heap.size, 0, none⟩ = some (p0v) ∧ w'.cell? ⟨w.heap.size + 1, 0, none⟩ = some (.int .i64 p1a) ∧ w'.cell? ⟨w.heap.size + 1, 1, none⟩ = some (p1v)) (first | exact ⟨hbT0h.cell1 (hzX013) (rX013o0), hbT0h.cell1 (hzX113) (rX113o0), hbT0h.cell1 (hzX113) (rX113o1)⟩ | exact ⟨hbT1h.cell1 (Nat.lt_of_lt_of_le (hzX013) hbT0h.size) (hbT0h.cell1 (hzX013) (rX013o0)), hbT1h.cell1 (Nat.lt_of_lt_of_le (hzX113) hbT0h.size) (hbT0h.cell1 (hzX113) (rX113o0)), hbT1h.cell1 (Nat.lt_of_lt_of_le (hzX113) hbT0h.size) (hbT0h.cell1 (hzX113) (rX113o1))⟩ | exact ⟨hbSh.cell1 (Nat.lt_of_lt_of_le (Nat.lt_of_lt_of_le (hzX013) hbT0h.size) hbT1h.size) (hbT1h.cell1 (Nat.lt_of_lt_of_le (hzX013) hbT0h.size) (hbT0h.cell1 (hzX013) (rX013o0))), hbSh.cell1 (Nat.lt_of_lt_of_le (Nat.lt_of_lt_of_le (hzX113) hbT0h.size) hbT1h.size) (hbT1h.cell1 (Nat.lt_of_lt_of_le (hzX113) hbT0h.size) (hbT0h.cell1 (hzX113) (rX113o0))), hbSh.cell1 (Nat.lt_of_lt_of_le (Nat.lt_of_lt_of_le (hzX113) hbT0h.size) hbT1h.size) (hbT1h.cell1 (Nat.lt_of_lt_of_le (hzX113) hbT0h.size) (hbT0h.cell1 (hzX113) (rX113o1)))⟩ | go_keep) (first | (go_at_call 17; ((with_reducible refine (toHkey p0v x0 _ (by exact hp0v.keep (Yd)) np0v).mono ?_); rintro e wT0h ⟨hp0v, rfl, Op0vh, hbT0h⟩)) | (go_at_call 40; ((with_reducible refine (toGen p1a p1v xp1v _ (by exact hp1v.keep ((Yd).trans hbT0h)) np1v).mono ?_); rintro e wT1h ⟨hp1v, rfl, Op1vh, hbT1h⟩)) | (go_at_call 30; ((with_reducible refine (hsyI p1a _ _ xp1v x0 _ (by exact (Op0vh.reads).keep hbT1h) (by exact Op1vh.reads)).mono ?_); rintro e wSh ⟨rh, rfl, Oh, hbSh⟩)))
  have u14 : Hid (w13.heap.size ≤ wT1h.heap.size) := Lib.hid ((((Bel.refl w13).drew).trans hbT0h).trans hbT1h).size
  have hbR := ((((Bel.refl w13).drew).trans hbT0h).trans hbT1h).trans hbSh
  clear rX013o0 rX113o0 rX113o1 Yd
  obtain ⟨w14, hw14⟩ : ∃ x, x = wSh := ⟨_, rfl⟩
  subst hw14
  have hb14 := hbSh
  have v14 : Hid (wT1h.heap.size ≤ w14.heap.size) := Lib.hid hbSh.size
  have X0_14 := hbR.keep X0_13
  have X1_14 := hbR.keep X1_13
  have Z0_14 := hbR.keep Z0_13
  have Z1_14 := hbR.keep Z1_13
  have Y14 : Bel w w14 := Y13.trans hbR
  have Ns_14 := Ns_13.keep hbR
  have Lm_14 := Lm.keep hbR
  have s14 : Hid (w13.heap.size + 0 ≤ w14.heap.size) := Lib.hid hbR.sz0
  rw [HD.out] at Oh
  have Nh := Oh.loc (hb14.size)
  obtain ⟨Arh, crh, erh, _, _, _⟩ := Oh.reads
  subst erh
  go_wp2_with fail
  refine (eqInts_same  _ _ (D) _ (Nh.out.reads) (Ns_14.out.reads)).mono ?_
  rintro e w15 ⟨rfl, hb15⟩
  have X0_15 := hb15.keep X0_14
  have X1_15 := hb15.keep X1_14
  have Z0_15 := hb15.keep Z0_14
  have Z1_15 := hb15.keep Z1_14
  have Y15 : Bel w w15 := Y14.trans hb15
  have Ns_15 := Ns_14.keep hb15
  have Lm_15 := Lm_14.keep hb15
  have Nh_15 := Nh.keep hb15
  have s15 : Hid (w14.heap.size + 0 ≤ w15.heap.size) := Lib.hid hb15.sz0
  go_wp2_with fail
  refine (heldInts _ 1 (D).length _ (Lm_15.out.reads) (by omega) (by omega)).mono ?_
  rintro e wh ⟨rfl, rfl⟩
  go_wp2
  go_ret
  exact ⟨rfl, Y15⟩

set_option maxRecDepth 100000 in
theorem lifted (os : Os) (started : os.Started) (H : Type) (enc : TypeId × Value → H) :
    ReturnsInHanded {} Try.checked os 7 .any (Rows.fnExactHashSymbolsSpec.pre6 enc Try.prog Try.f7 Rows.fnExactHashSymbolsRow.domain false) (Rows.fnExactHashSymbolsSpec.post enc Try.prog Try.f7 false true false false) := by
  refine returnsInHanded_of_change (C := Try.checked) own started (by kernel_rfl) Try.func7
    (ChangeSpec.witness6 (enc := enc) (C := Try.checked) false ⟨#[], #[.agg #[.slice none 0 0], .agg #[.int .i64 0, .slice none 0 0]], []⟩ 8 (by kernel_rfl) (by kernel_rfl) (by kernel_rfl) (by kernel_rfl)) ?_
  intro W base args ds gs before hval0 hW hcnd _
  have hval : ∀ (j : Nat) t v, Try.f7.params[j]? = some t → args[j]? = some v → Value.okWide Try.prog W .any base t v := hval0
  have hW' := hW
  obtain ⟨p, q, hA0, hV, rfl, hfz, hnd⟩ := hW
  have hA : DataW.TrodAll enc Try.prog W 0 (fun _ => true) true Try.f7.params.toList args.toList ds p := hA0
  rw [Try.params7] at hA hval
  obtain ⟨v0, vs0, d0, ds0, p0, q0, hargs, rfl, rfl, h0, r0⟩ := trodAll_cons hA
  obtain ⟨v1, vs1, d1, ds1, p1, q1, rfl, rfl, rfl, h1, r1⟩ := trodAll_cons r0
  obtain ⟨rfl, rfl, rfl⟩ := trodAll_nil r1
  obtain rfl : args = #[v0, v1] := by cases args; simp_all
  obtain ⟨rfl, rfl⟩ := trodVars_none hV
  have k0 := h0
  have lt0 : ∀ x ∈ p0, x.block < W.heap.size := by obtain ⟨m, hm⟩ := k0; exact DataW.trod_lt m _ _ _ hm
  obtain ⟨x0, f0⟩ := openHkey (hval 0 29 v0 rfl rfl) h0
  have k1 := h1
  have lt1 : ∀ x ∈ p1, x.block < W.heap.size := by obtain ⟨m, hm⟩ := k1; exact DataW.trod_lt m _ _ _ hm
  obtain ⟨x1, f1⟩ := openGen (hval 1 60 v1 rfl rfl) h1
  clear hA0 hval0
  refine (walk W v0 x0 f0 v1 x1 f1).mono fun e W' ⟨he, bel⟩ => ?_
  subst he
  exact ⟨_, rfl, _, _, _, [], _, [], hW', trodAll_mk1 (shut_bool Try.underlying4 _), (trodAll_cons_mk (Below.trod laidOut (by kernel_rfl) (of_decide_eq_true (by kernel_rfl)) k0 bel lt0) (trodAll_cons_mk (Below.trod laidOut (by kernel_rfl) (of_decide_eq_true (by kernel_rfl)) k1 bel lt1) trodAll_mk0)), rfl, bel.frame _, fun h => by cases h⟩

theorem over : Rows.fnExactHashSymbolsRow.holds Try.pinned (OpenSpec.ofChange Rows.fnExactHashSymbolsSpec) :=
  OpenClaim.holds_of_wide 7 Try.f7 rfl rfl rfl rfl rfl rfl rfl ⟨rfl, rfl, rfl, rfl, rfl⟩ rfl rfl rfl rfl rfl (by kernel_rfl) Try.func7 (by kernel_rfl)
    (of_decide_eq_true (by kernel_rfl)) (by unfold Func.isWrapper; first | (rw [if_pos (by decide +kernel)]; kernel_rfl) | (rw [if_neg (by decide +kernel)]; exact ⟨rfl, rfl⟩))
    (fun os started H enc _ => lifted os started H enc)

theorem proved : Rows.FnExactHashSymbolsSaid := over
#print axioms proved
end Go.Proofs.Ytjlcnbicehjjjaa.fnExactHashSymbols
