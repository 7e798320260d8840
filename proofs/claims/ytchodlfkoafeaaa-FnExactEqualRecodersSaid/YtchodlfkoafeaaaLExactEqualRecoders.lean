/-
  FnExactEqualRecoders: for every two recoders the program's EqualRecoders returns what the reference's returns, and leaves its arguments alone. No condition.
-/
import Derived.Test.YtchodlfkoafeaaaOpenR
import Derived.Test.YtchodlfkoafeaaaKRec
import Derived.Test.YtchodlfkoafeaaaEqR
import Derived.Deep.RegionHeld3
namespace Go.Proofs.Ytchodlfkoafeaaa.fnExactEqualRecoders
open Go.ChangeShapes Go.WideShapes Go.ChangeAt Go.RowKit
set_option linter.unusedVariables false
set_option maxRecDepth 100000

set_option maxHeartbeats 4000000 in
theorem walk (w : World) (v0 : Value) (x0 : Int × Int × Int × Int × List Pk) (f0 : IsRec w v0 x0) (v1 : Value) (x1 : Int × Int × Int × Int × List Pk) (f1 : IsRec w v1 x1) :
    Calls Try.prog 3 #[v0, v1] w fun e w' => e = .returned (.bool true) ∧ Below w.heap.size w w' := by
  obtain ⟨p0a, p0b, p0c, p0m, xp0v⟩ := x0
  obtain ⟨p0v, rfl, hp0v, kp0v, b0⟩ := f0
  dsimp only at *
  obtain ⟨p1a, p1b, p1c, p1m, xp1v⟩ := x1
  obtain ⟨p1v, rfl, hp1v, kp1v, b1⟩ := f1
  dsimp only at *
  rcases Or.symm (Decidable.em ((szP xp0v : Int) ≤ 1048576)) with z0 | z0
  · go_enter Try.func3, Try.ntmps3
    go_wp2_with fail
    refine (szRec_no p0a p0b p0c p0m p0v xp0v (1048576) _ (hp0v.keep (((Bel.refl _).alloc _).alloc _)) (by omega) (by omega) (by omega)).mono ?_
    rintro e wz ⟨rfl, hbz⟩
    go_wp2
    go_ret
    exact ⟨rfl, (((Bel.refl _).alloc _).alloc _).trans hbz⟩
  have dz0 : decide (1048576 - ((szP xp0v : Int)) < 0) = false := by simp; omega
  rcases Or.symm (Decidable.em ((szP xp1v : Int) ≤ 1048576 - ((szP xp0v : Int)))) with z1 | z1
  · go_enter Try.func3, Try.ntmps3
    go_wp2_with fail
    refine (szRec_ok p0a p0b p0c p0m p0v xp0v (1048576) _ (hp0v.keep (((Bel.refl _).alloc _).alloc _)) (by omega) (by omega)).mono ?_
    rintro e w1 ⟨rfl, hb1⟩
    have X0_1 := hb1.keep ((Blk.new w _ _).alloc _)
    have X1_1 := hb1.keep (Blk.new2 w _ _ _)
    have Y1 : Bel w w1 := (((Bel.refl _).alloc _).alloc _).trans hb1
    clear hb1
    obtain ⟨cc0, _, _⟩ := X0_1.facts
    obtain ⟨cc1, _, _⟩ := X1_1.facts
    go_wp2_with fail
    refine (szRec_no p1a p1b p1c p1m p1v xp1v (1048576 - ((szP xp0v : Int))) _ (hp1v.keep Y1) (by omega) (by omega) (by omega)).mono ?_
    rintro e wz ⟨rfl, hbz⟩
    go_wp2
    go_ret
    exact ⟨rfl, Y1.trans hbz⟩
  have dz1 : decide (1048576 - ((szP xp0v : Int)) - ((szP xp1v : Int)) < 0) = false := by simp; omega
  have np0v : szP xp0v ≤ 1048576 := by omega
  have np1v : szP xp1v ≤ 1048576 := by omega
  go_enter Try.func3, Try.ntmps3
  go_wp2_with fail
  refine (szRec_ok p0a p0b p0c p0m p0v xp0v (1048576) _ (hp0v.keep (((Bel.refl _).alloc _).alloc _)) (by omega) (by omega)).mono ?_
  rintro e w1 ⟨rfl, hb1⟩
  have X0_1 := hb1.keep ((Blk.new w _ _).alloc _)
  have X1_1 := hb1.keep (Blk.new2 w _ _ _)
  have Y1 : Bel w w1 := (((Bel.refl _).alloc _).alloc _).trans hb1
  clear hb1
  obtain ⟨cc0, _, _⟩ := X0_1.facts
  obtain ⟨cc1, _, _⟩ := X1_1.facts
  go_wp2_with fail
  refine (szRec_ok p1a p1b p1c p1m p1v xp1v (1048576 - ((szP xp0v : Int))) _ (hp1v.keep Y1) (by omega) (by omega)).mono ?_
  rintro e w2 ⟨rfl, hb2⟩
  have X0_2 := hb2.keep X0_1
  have X1_2 := hb2.keep X1_1
  have Y2 : Bel w w2 := Y1.trans hb2
  clear hb2
  clear cc0 cc1
  obtain ⟨cc0, _, _⟩ := X0_2.facts
  obtain ⟨cc1, _, _⟩ := X1_2.facts
  obtain ⟨hcX02, _, hzX02⟩ := X0_2.facts
  have rX02o0 : w2.cell? ⟨w.heap.size, 0, none⟩ = some (.int .i64 p0a) := hcX02 0
  have rX02o1 : w2.cell? ⟨w.heap.size, 1, none⟩ = some (.int .i64 p0b) := hcX02 1
  have rX02o2 : w2.cell? ⟨w.heap.size, 2, none⟩ = some (.int .i64 p0c) := hcX02 2
  have rX02o3 : w2.cell? ⟨w.heap.size, 3, none⟩ = some (p0v) := hcX02 3
  have rX02o4 : w2.cell? ⟨w.heap.size, 4, none⟩ = some (.int .i64 p0m) := hcX02 4
  clear hcX02
  obtain ⟨hcX12, _, hzX12⟩ := X1_2.facts
  have rX12o0 : w2.cell? ⟨w.heap.size + 1, 0, none⟩ = some (.int .i64 p1a) := hcX12 0
  have rX12o1 : w2.cell? ⟨w.heap.size + 1, 1, none⟩ = some (.int .i64 p1b) := hcX12 1
  have rX12o2 : w2.cell? ⟨w.heap.size + 1, 2, none⟩ = some (.int .i64 p1c) := hcX12 2
  have rX12o3 : w2.cell? ⟨w.heap.size + 1, 3, none⟩ = some (p1v) := hcX12 3
  have rX12o4 : w2.cell? ⟨w.heap.size + 1, 4, none⟩ = some (.int .i64 p1m) := hcX12 4
  clear hcX12
  have Yd := Y2.drew
  go_wp2_with fail
  go_region_held3 (fun w' => w'.cell? ⟨w.heap.size, 0, none⟩ = some (.int .i64 p0a) ∧ w'.cell? ⟨w.heap.size, 1, none⟩ = some (.int .i64 p0b) ∧ w'.cell? ⟨w.heap.size, 2, none⟩ = some (.int .i64 p0c) ∧ w'.cell? ⟨w.heap.size, 3, none⟩ = some (p0v) ∧ w'.cell? ⟨w.heap.size, 4, none⟩ = some (.int .i64 p0m) ∧ w'.cell? ⟨w.heap.size + 1, 0, none⟩ = some (.int .i64 p1a) ∧ w'.cell? ⟨w.heap.size + 1, 1, none⟩ = some (.int .i64 p1b) ∧ w'.cell? ⟨w.heap.size + 1, 2, none⟩ = some (.int .i64 p1c) ∧ w'.cell? ⟨w.heap.size + 1, 3, none⟩ = some (p1v) ∧ w'.cell? ⟨w.heap.size + 1, 4, none⟩ = some (.int .i64 p1m)) (first | exact ⟨hbT0.cell1 (hzX02) (rX02o0), hbT0.cell1 (hzX02) (rX02o1), hbT0.cell1 (hzX02) (rX02o2), hbT0.cell1 (hzX02) (rX02o3), hbT0.cell1 (hzX02) (rX02o4), hbT0.cell1 (hzX12) (rX12o0), hbT0.cell1 (hzX12) (rX12o1), hbT0.cell1 (hzX12) (rX12o2), hbT0.cell1 (hzX12) (rX12o3), hbT0.cell1 (hzX12) (rX12o4)⟩ | exact ⟨hbT1.cell1 (Nat.lt_of_lt_of_le (hzX02) hbT0.size) (hbT0.cell1 (hzX02) (rX02o0)), hbT1.cell1 (Nat.lt_of_lt_of_le (hzX02) hbT0.size) (hbT0.cell1 (hzX02) (rX02o1)), hbT1.cell1 (Nat.lt_of_lt_of_le (hzX02) hbT0.size) (hbT0.cell1 (hzX02) (rX02o2)), hbT1.cell1 (Nat.lt_of_lt_of_le (hzX02) hbT0.size) (hbT0.cell1 (hzX02) (rX02o3)), hbT1.cell1 (Nat.lt_of_lt_of_le (hzX02) hbT0.size) (hbT0.cell1 (hzX02) (rX02o4)), hbT1.cell1 (Nat.lt_of_lt_of_le (hzX12) hbT0.size) (hbT0.cell1 (hzX12) (rX12o0)), hbT1.cell1 (Nat.lt_of_lt_of_le (hzX12) hbT0.size) (hbT0.cell1 (hzX12) (rX12o1)), hbT1.cell1 (Nat.lt_of_lt_of_le (hzX12) hbT0.size) (hbT0.cell1 (hzX12) (rX12o2)), hbT1.cell1 (Nat.lt_of_lt_of_le (hzX12) hbT0.size) (hbT0.cell1 (hzX12) (rX12o3)), hbT1.cell1 (Nat.lt_of_lt_of_le (hzX12) hbT0.size) (hbT0.cell1 (hzX12) (rX12o4))⟩ | exact ⟨hbS.cell1 (Nat.lt_of_lt_of_le (Nat.lt_of_lt_of_le (hzX02) hbT0.size) hbT1.size) (hbT1.cell1 (Nat.lt_of_lt_of_le (hzX02) hbT0.size) (hbT0.cell1 (hzX02) (rX02o0))), hbS.cell1 (Nat.lt_of_lt_of_le (Nat.lt_of_lt_of_le (hzX02) hbT0.size) hbT1.size) (hbT1.cell1 (Nat.lt_of_lt_of_le (hzX02) hbT0.size) (hbT0.cell1 (hzX02) (rX02o1))), hbS.cell1 (Nat.lt_of_lt_of_le (Nat.lt_of_lt_of_le (hzX02) hbT0.size) hbT1.size) (hbT1.cell1 (Nat.lt_of_lt_of_le (hzX02) hbT0.size) (hbT0.cell1 (hzX02) (rX02o2))), hbS.cell1 (Nat.lt_of_lt_of_le (Nat.lt_of_lt_of_le (hzX02) hbT0.size) hbT1.size) (hbT1.cell1 (Nat.lt_of_lt_of_le (hzX02) hbT0.size) (hbT0.cell1 (hzX02) (rX02o3))), hbS.cell1 (Nat.lt_of_lt_of_le (Nat.lt_of_lt_of_le (hzX02) hbT0.size) hbT1.size) (hbT1.cell1 (Nat.lt_of_lt_of_le (hzX02) hbT0.size) (hbT0.cell1 (hzX02) (rX02o4))), hbS.cell1 (Nat.lt_of_lt_of_le (Nat.lt_of_lt_of_le (hzX12) hbT0.size) hbT1.size) (hbT1.cell1 (Nat.lt_of_lt_of_le (hzX12) hbT0.size) (hbT0.cell1 (hzX12) (rX12o0))), hbS.cell1 (Nat.lt_of_lt_of_le (Nat.lt_of_lt_of_le (hzX12) hbT0.size) hbT1.size) (hbT1.cell1 (Nat.lt_of_lt_of_le (hzX12) hbT0.size) (hbT0.cell1 (hzX12) (rX12o1))), hbS.cell1 (Nat.lt_of_lt_of_le (Nat.lt_of_lt_of_le (hzX12) hbT0.size) hbT1.size) (hbT1.cell1 (Nat.lt_of_lt_of_le (hzX12) hbT0.size) (hbT0.cell1 (hzX12) (rX12o2))), hbS.cell1 (Nat.lt_of_lt_of_le (Nat.lt_of_lt_of_le (hzX12) hbT0.size) hbT1.size) (hbT1.cell1 (Nat.lt_of_lt_of_le (hzX12) hbT0.size) (hbT0.cell1 (hzX12) (rX12o3))), hbS.cell1 (Nat.lt_of_lt_of_le (Nat.lt_of_lt_of_le (hzX12) hbT0.size) hbT1.size) (hbT1.cell1 (Nat.lt_of_lt_of_le (hzX12) hbT0.size) (hbT0.cell1 (hzX12) (rX12o4)))⟩ | go_keep) (first | (go_at_call 9; ((with_reducible refine (toRec p0a p0b p0c p0m p0v xp0v _ (by exact hp0v.keep (Yd)) np0v).mono ?_); rintro e wT0 ⟨sp0v, rfl, Op0vs, hbT0⟩)) | (go_at_call 9; ((with_reducible refine (toRec p1a p1b p1c p1m p1v xp1v _ (by exact hp1v.keep ((Yd).trans hbT0)) np1v).mono ?_); rintro e wT1 ⟨sp1v, rfl, Op1vs, hbT1⟩)) | (go_at_call 8; ((with_reducible refine (eqRecS p0a p0b p0c p0m p1a p1b p1c p1m _ _ xp0v xp1v _ (by exact (Op0vs.reads).keep hbT1) (by exact Op1vs.reads)).mono ?_); rintro e wS ⟨rfl, hbS⟩)))
  have hbR := ((((Bel.refl w2).drew).trans hbT0).trans hbT1).trans hbS
  clear rX02o0 rX02o1 rX02o2 rX02o3 rX02o4 rX12o0 rX12o1 rX12o2 rX12o3 rX12o4
  have X0_R := hbR.keep X0_2
  have X1_R := hbR.keep X1_2
  have YR : Bel w wS := Y2.trans hbR
  clear Yd
  try clear cc0 cc1
  obtain ⟨cc0, _, _⟩ := X0_R.facts
  go_wp2_with fail
  refine (toRec p0a p0b p0c p0m p0v xp0v _ (hp0v.keep YR) np0v).mono ?_
  rintro e w3 ⟨tp0v, rfl, Op0vt, hb3⟩
  have X0_3 := hb3.keep X0_R
  have X1_3 := hb3.keep X1_R
  have Y3 : Bel w w3 := YR.trans hb3
  clear cc0
  obtain ⟨Atp0v, ctp0v, etp0v, _, _, _⟩ := Op0vt.reads
  subst etp0v
  have X0_3a := X0_3.alloc (.cells #[.int .i64 p0a, .int .i64 p0b, .int .i64 p0c, (.slice Atp0v xp0v.length ctp0v), .int .i64 p0m] 29)
  have X1_3a := X1_3.alloc (.cells #[.int .i64 p0a, .int .i64 p0b, .int .i64 p0c, (.slice Atp0v xp0v.length ctp0v), .int .i64 p0m] 29)
  have Z0_3a := Blk.new w3 29 #[.int .i64 p0a, .int .i64 p0b, .int .i64 p0c, (.slice Atp0v xp0v.length ctp0v), .int .i64 p0m]
  have Y3a := Y3.alloc (.cells #[.int .i64 p0a, .int .i64 p0b, .int .i64 p0c, (.slice Atp0v xp0v.length ctp0v), .int .i64 p0m] 29)
  have Pp0v_3a := Op0vt.reads.keep ((Bel.refl _).alloc (.cells #[.int .i64 p0a, .int .i64 p0b, .int .i64 p0c, (.slice Atp0v xp0v.length ctp0v), .int .i64 p0m] 29))
  obtain ⟨g0, hg0⟩ : ∃ g, w3.heap.size = g := ⟨_, rfl⟩
  rw [hg0] at Z0_3a
  have HG0 := Lib.hid hg0
  clear hg0
  try clear cc0 cc1
  obtain ⟨cc1, _, _⟩ := X1_3a.facts
  go_wp2_with fail
  refine (toRec p1a p1b p1c p1m p1v xp1v _ (hp1v.keep Y3a) np1v).mono ?_
  rintro e w4 ⟨tp1v, rfl, Op1vt, hb4⟩
  have X0_4 := hb4.keep X0_3a
  have X1_4 := hb4.keep X1_3a
  have Z0_4 := hb4.keep Z0_3a
  have Y4 : Bel w w4 := Y3a.trans hb4
  have Pp0v_4 := (Pp0v_3a).keep hb4
  clear cc1
  obtain ⟨Atp1v, ctp1v, etp1v, _, _, _⟩ := Op1vt.reads
  subst etp1v
  have X0_4a := X0_4.alloc (.cells #[.int .i64 p1a, .int .i64 p1b, .int .i64 p1c, (.slice Atp1v xp1v.length ctp1v), .int .i64 p1m] 29)
  have X1_4a := X1_4.alloc (.cells #[.int .i64 p1a, .int .i64 p1b, .int .i64 p1c, (.slice Atp1v xp1v.length ctp1v), .int .i64 p1m] 29)
  have Z0_4a := Z0_4.alloc (.cells #[.int .i64 p1a, .int .i64 p1b, .int .i64 p1c, (.slice Atp1v xp1v.length ctp1v), .int .i64 p1m] 29)
  have Z1_4a := Blk.new w4 29 #[.int .i64 p1a, .int .i64 p1b, .int .i64 p1c, (.slice Atp1v xp1v.length ctp1v), .int .i64 p1m]
  have Y4a := Y4.alloc (.cells #[.int .i64 p1a, .int .i64 p1b, .int .i64 p1c, (.slice Atp1v xp1v.length ctp1v), .int .i64 p1m] 29)
  have Pp0v_4a := (Pp0v_4).keep ((Bel.refl _).alloc (.cells #[.int .i64 p1a, .int .i64 p1b, .int .i64 p1c, (.slice Atp1v xp1v.length ctp1v), .int .i64 p1m] 29))
  have Pp1v_4a := Op1vt.reads.keep ((Bel.refl _).alloc (.cells #[.int .i64 p1a, .int .i64 p1b, .int .i64 p1c, (.slice Atp1v xp1v.length ctp1v), .int .i64 p1m] 29))
  obtain ⟨g1, hg1⟩ : ∃ g, w4.heap.size = g := ⟨_, rfl⟩
  rw [hg1] at Z1_4a
  have HG1 := Lib.hid hg1
  clear hg1
  have Z0_p := Z0_4a
  rw [← HG0.out] at Z0_p
  have Z1_p := Z1_4a
  rw [← HG1.out] at Z1_p
  try clear cc0 cc1
  obtain ⟨ccz0, _, _⟩ := Z0_p.facts
  obtain ⟨ccz1, _, _⟩ := Z1_p.facts
  go_wp2_with fail
  refine (eqRecI p0a p0b p0c p0m p1a p1b p1c p1m _ _ xp0v xp1v _ (Pp0v_4a) (Pp1v_4a)).mono ?_
  rintro e w5 ⟨rfl, hb5⟩
  have X0_5 := hb5.keep X0_4a
  have X1_5 := hb5.keep X1_4a
  have Z0_5 := hb5.keep Z0_p
  have Z1_5 := hb5.keep Z1_p
  have Y5 : Bel w w5 := Y4a.trans hb5
  have Pp0v_5 := (Pp0v_4a).keep hb5
  have Pp1v_5 := (Pp1v_4a).keep hb5
  clear ccz0
  clear ccz1
  obtain ⟨hcX05, _, hzX05⟩ := X0_5.facts
  have rX05o0 : w5.cell? ⟨w.heap.size, 0, none⟩ = some (.int .i64 p0a) := hcX05 0
  have rX05o1 : w5.cell? ⟨w.heap.size, 1, none⟩ = some (.int .i64 p0b) := hcX05 1
  have rX05o2 : w5.cell? ⟨w.heap.size, 2, none⟩ = some (.int .i64 p0c) := hcX05 2
  have rX05o3 : w5.cell? ⟨w.heap.size, 3, none⟩ = some (p0v) := hcX05 3
  have rX05o4 : w5.cell? ⟨w.heap.size, 4, none⟩ = some (.int .i64 p0m) := hcX05 4
  clear hcX05
  obtain ⟨hcZ05, _, hzZ05⟩ := Z0_5.facts
  have rZ05o0 : w5.cell? ⟨w3.heap.size, 0, none⟩ = some (.int .i64 p0a) := hcZ05 0
  have rZ05o1 : w5.cell? ⟨w3.heap.size, 1, none⟩ = some (.int .i64 p0b) := hcZ05 1
  have rZ05o2 : w5.cell? ⟨w3.heap.size, 2, none⟩ = some (.int .i64 p0c) := hcZ05 2
  have rZ05o3 : w5.cell? ⟨w3.heap.size, 3, none⟩ = some ((.slice Atp0v xp0v.length ctp0v)) := hcZ05 3
  have rZ05o4 : w5.cell? ⟨w3.heap.size, 4, none⟩ = some (.int .i64 p0m) := hcZ05 4
  clear hcZ05
  have Yd := Y5.drew
  go_wp2_with fail
  go_region_held3 (fun w' => w'.cell? ⟨w.heap.size, 0, none⟩ = some (.int .i64 p0a) ∧ w'.cell? ⟨w.heap.size, 1, none⟩ = some (.int .i64 p0b) ∧ w'.cell? ⟨w.heap.size, 2, none⟩ = some (.int .i64 p0c) ∧ w'.cell? ⟨w.heap.size, 3, none⟩ = some (p0v) ∧ w'.cell? ⟨w.heap.size, 4, none⟩ = some (.int .i64 p0m) ∧ w'.cell? ⟨w3.heap.size, 0, none⟩ = some (.int .i64 p0a) ∧ w'.cell? ⟨w3.heap.size, 1, none⟩ = some (.int .i64 p0b) ∧ w'.cell? ⟨w3.heap.size, 2, none⟩ = some (.int .i64 p0c) ∧ w'.cell? ⟨w3.heap.size, 3, none⟩ = some ((.slice Atp0v xp0v.length ctp0v)) ∧ w'.cell? ⟨w3.heap.size, 4, none⟩ = some (.int .i64 p0m)) (first | exact ⟨hbT.cell1 hzX05 rX05o0, hbT.cell1 hzX05 rX05o1, hbT.cell1 hzX05 rX05o2, hbT.cell1 hzX05 rX05o3, hbT.cell1 hzX05 rX05o4, hbT.cell1 hzZ05 rZ05o0, hbT.cell1 hzZ05 rZ05o1, hbT.cell1 hzZ05 rZ05o2, hbT.cell1 hzZ05 rZ05o3, hbT.cell1 hzZ05 rZ05o4⟩ | exact ⟨hbE.cell1 (Nat.lt_of_lt_of_le hzX05 hbT.size) (hbT.cell1 hzX05 rX05o0), hbE.cell1 (Nat.lt_of_lt_of_le hzX05 hbT.size) (hbT.cell1 hzX05 rX05o1), hbE.cell1 (Nat.lt_of_lt_of_le hzX05 hbT.size) (hbT.cell1 hzX05 rX05o2), hbE.cell1 (Nat.lt_of_lt_of_le hzX05 hbT.size) (hbT.cell1 hzX05 rX05o3), hbE.cell1 (Nat.lt_of_lt_of_le hzX05 hbT.size) (hbT.cell1 hzX05 rX05o4), hbE.cell1 (Nat.lt_of_lt_of_le hzZ05 hbT.size) (hbT.cell1 hzZ05 rZ05o0), hbE.cell1 (Nat.lt_of_lt_of_le hzZ05 hbT.size) (hbT.cell1 hzZ05 rZ05o1), hbE.cell1 (Nat.lt_of_lt_of_le hzZ05 hbT.size) (hbT.cell1 hzZ05 rZ05o2), hbE.cell1 (Nat.lt_of_lt_of_le hzZ05 hbT.size) (hbT.cell1 hzZ05 rZ05o3), hbE.cell1 (Nat.lt_of_lt_of_le hzZ05 hbT.size) (hbT.cell1 hzZ05 rZ05o4)⟩ | go_keep) (first | (go_at_call 9; ((with_reducible refine (toRec p0a p0b p0c p0m p0v xp0v _ (by exact hp0v.keep Yd) np0v).mono ?_); rintro e wT ⟨qp0v, rfl, Op0vq, hbT⟩)) | (go_at_call 11; ((with_reducible refine (eqRec_same p0a p0b p0c p0m _ xp0v _ _ (by exact (Pp0v_5).keep (((Bel.refl _).drew).trans hbT)) (by exact Op0vq.reads)).mono ?_); rintro e wE ⟨rfl, hbE⟩)))
  have hbR := (((Bel.refl w5).drew).trans hbT).trans hbE
  clear rX05o0 rX05o1 rX05o2 rX05o3 rX05o4 rZ05o0 rZ05o1 rZ05o2 rZ05o3 rZ05o4 Yd
  obtain ⟨w6, hw6⟩ : ∃ x, x = wE := ⟨_, rfl⟩
  subst hw6
  have X0_6 := hbR.keep X0_5
  have X1_6 := hbR.keep X1_5
  have Z0_6 := hbR.keep Z0_5
  have Z1_6 := hbR.keep Z1_5
  have Y6 := Y5.trans hbR
  have Pp0v_6 := (Pp0v_5).keep hbR
  have Pp1v_6 := (Pp1v_5).keep hbR
  clear hbR hbT hbE
  obtain ⟨hcX16, _, hzX16⟩ := X1_6.facts
  have rX16o0 : w6.cell? ⟨w.heap.size + 1, 0, none⟩ = some (.int .i64 p1a) := hcX16 0
  have rX16o1 : w6.cell? ⟨w.heap.size + 1, 1, none⟩ = some (.int .i64 p1b) := hcX16 1
  have rX16o2 : w6.cell? ⟨w.heap.size + 1, 2, none⟩ = some (.int .i64 p1c) := hcX16 2
  have rX16o3 : w6.cell? ⟨w.heap.size + 1, 3, none⟩ = some (p1v) := hcX16 3
  have rX16o4 : w6.cell? ⟨w.heap.size + 1, 4, none⟩ = some (.int .i64 p1m) := hcX16 4
  clear hcX16
  obtain ⟨hcZ16, _, hzZ16⟩ := Z1_6.facts
  have rZ16o0 : w6.cell? ⟨w4.heap.size, 0, none⟩ = some (.int .i64 p1a) := hcZ16 0
  have rZ16o1 : w6.cell? ⟨w4.heap.size, 1, none⟩ = some (.int .i64 p1b) := hcZ16 1
  have rZ16o2 : w6.cell? ⟨w4.heap.size, 2, none⟩ = some (.int .i64 p1c) := hcZ16 2
  have rZ16o3 : w6.cell? ⟨w4.heap.size, 3, none⟩ = some ((.slice Atp1v xp1v.length ctp1v)) := hcZ16 3
  have rZ16o4 : w6.cell? ⟨w4.heap.size, 4, none⟩ = some (.int .i64 p1m) := hcZ16 4
  clear hcZ16
  have Yd := Y6.drew
  go_wp2_with fail
  go_region_held3 (fun w' => w'.cell? ⟨w.heap.size + 1, 0, none⟩ = some (.int .i64 p1a) ∧ w'.cell? ⟨w.heap.size + 1, 1, none⟩ = some (.int .i64 p1b) ∧ w'.cell? ⟨w.heap.size + 1, 2, none⟩ = some (.int .i64 p1c) ∧ w'.cell? ⟨w.heap.size + 1, 3, none⟩ = some (p1v) ∧ w'.cell? ⟨w.heap.size + 1, 4, none⟩ = some (.int .i64 p1m) ∧ w'.cell? ⟨w4.heap.size, 0, none⟩ = some (.int .i64 p1a) ∧ w'.cell? ⟨w4.heap.size, 1, none⟩ = some (.int .i64 p1b) ∧ w'.cell? ⟨w4.heap.size, 2, none⟩ = some (.int .i64 p1c) ∧ w'.cell? ⟨w4.heap.size, 3, none⟩ = some ((.slice Atp1v xp1v.length ctp1v)) ∧ w'.cell? ⟨w4.heap.size, 4, none⟩ = some (.int .i64 p1m)) (first | exact ⟨hbT.cell1 hzX16 rX16o0, hbT.cell1 hzX16 rX16o1, hbT.cell1 hzX16 rX16o2, hbT.cell1 hzX16 rX16o3, hbT.cell1 hzX16 rX16o4, hbT.cell1 hzZ16 rZ16o0, hbT.cell1 hzZ16 rZ16o1, hbT.cell1 hzZ16 rZ16o2, hbT.cell1 hzZ16 rZ16o3, hbT.cell1 hzZ16 rZ16o4⟩ | exact ⟨hbE.cell1 (Nat.lt_of_lt_of_le hzX16 hbT.size) (hbT.cell1 hzX16 rX16o0), hbE.cell1 (Nat.lt_of_lt_of_le hzX16 hbT.size) (hbT.cell1 hzX16 rX16o1), hbE.cell1 (Nat.lt_of_lt_of_le hzX16 hbT.size) (hbT.cell1 hzX16 rX16o2), hbE.cell1 (Nat.lt_of_lt_of_le hzX16 hbT.size) (hbT.cell1 hzX16 rX16o3), hbE.cell1 (Nat.lt_of_lt_of_le hzX16 hbT.size) (hbT.cell1 hzX16 rX16o4), hbE.cell1 (Nat.lt_of_lt_of_le hzZ16 hbT.size) (hbT.cell1 hzZ16 rZ16o0), hbE.cell1 (Nat.lt_of_lt_of_le hzZ16 hbT.size) (hbT.cell1 hzZ16 rZ16o1), hbE.cell1 (Nat.lt_of_lt_of_le hzZ16 hbT.size) (hbT.cell1 hzZ16 rZ16o2), hbE.cell1 (Nat.lt_of_lt_of_le hzZ16 hbT.size) (hbT.cell1 hzZ16 rZ16o3), hbE.cell1 (Nat.lt_of_lt_of_le hzZ16 hbT.size) (hbT.cell1 hzZ16 rZ16o4)⟩ | go_keep) (first | (go_at_call 9; ((with_reducible refine (toRec p1a p1b p1c p1m p1v xp1v _ (by exact hp1v.keep Yd) np1v).mono ?_); rintro e wT ⟨qp1v, rfl, Op1vq, hbT⟩)) | (go_at_call 11; ((with_reducible refine (eqRec_same p1a p1b p1c p1m _ xp1v _ _ (by exact (Pp1v_6).keep (((Bel.refl _).drew).trans hbT)) (by exact Op1vq.reads)).mono ?_); rintro e wE ⟨rfl, hbE⟩)))
  have hbR := (((Bel.refl w6).drew).trans hbT).trans hbE
  clear rX16o0 rX16o1 rX16o2 rX16o3 rX16o4 rZ16o0 rZ16o1 rZ16o2 rZ16o3 rZ16o4 Yd
  obtain ⟨w7, hw7⟩ : ∃ x, x = wE := ⟨_, rfl⟩
  subst hw7
  have X0_7 := hbR.keep X0_6
  have X1_7 := hbR.keep X1_6
  have Z0_7 := hbR.keep Z0_6
  have Z1_7 := hbR.keep Z1_6
  have Y7 := Y6.trans hbR
  have Pp0v_7 := (Pp0v_6).keep hbR
  have Pp1v_7 := (Pp1v_6).keep hbR
  clear hbR hbT hbE
  go_wp2
  go_ret
  exact ⟨rfl, Y7⟩

set_option maxRecDepth 100000 in
theorem lifted (os : Os) (started : os.Started) (H : Type) (enc : TypeId × Value → H) :
    ReturnsInHanded {} Try.checked os 3 .any (Rows.fnExactEqualRecodersSpec.pre6 enc Try.prog Try.f3 Rows.fnExactEqualRecodersRow.domain false) (Rows.fnExactEqualRecodersSpec.post enc Try.prog Try.f3 false true false false) := by
  refine returnsInHanded_of_change (C := Try.checked) own started (by kernel_rfl) Try.func3
    (ChangeSpec.witness6 (enc := enc) (C := Try.checked) false ⟨#[], #[.agg #[.int .i64 0, .int .i64 0, .int .i64 0, .slice none 0 0, .int .i64 0], .agg #[.int .i64 0, .int .i64 0, .int .i64 0, .slice none 0 0, .int .i64 0]], []⟩ 8 (by kernel_rfl) (by kernel_rfl) (by kernel_rfl) (by kernel_rfl)) ?_
  intro W base args ds gs before hval0 hW hcnd _
  have hval : ∀ (j : Nat) t v, Try.f3.params[j]? = some t → args[j]? = some v → Value.okWide Try.prog W .any base t v := hval0
  have hW' := hW
  obtain ⟨p, q, hA0, hV, rfl, hfz, hnd⟩ := hW
  have hA : DataW.TrodAll enc Try.prog W 0 (fun _ => true) true Try.f3.params.toList args.toList ds p := hA0
  rw [Try.params3] at hA hval
  obtain ⟨v0, vs0, d0, ds0, p0, q0, hargs, rfl, rfl, h0, r0⟩ := trodAll_cons hA
  obtain ⟨v1, vs1, d1, ds1, p1, q1, rfl, rfl, rfl, h1, r1⟩ := trodAll_cons r0
  obtain ⟨rfl, rfl, rfl⟩ := trodAll_nil r1
  obtain rfl : args = #[v0, v1] := by cases args; simp_all
  obtain ⟨rfl, rfl⟩ := trodVars_none hV
  have k0 := h0
  have lt0 : ∀ x ∈ p0, x.block < W.heap.size := by obtain ⟨m, hm⟩ := k0; exact DataW.trod_lt m _ _ _ hm
  obtain ⟨x0, f0⟩ := openRec (hval 0 24 v0 rfl rfl) h0
  have k1 := h1
  have lt1 : ∀ x ∈ p1, x.block < W.heap.size := by obtain ⟨m, hm⟩ := k1; exact DataW.trod_lt m _ _ _ hm
  obtain ⟨x1, f1⟩ := openRec (hval 1 24 v1 rfl rfl) h1
  clear hA0 hval0
  refine (walk W v0 x0 f0 v1 x1 f1).mono fun e W' ⟨he, bel⟩ => ?_
  subst he
  exact ⟨_, rfl, _, _, _, [], _, [], hW', trodAll_mk1 (shut_bool Try.underlying4 _), (trodAll_cons_mk (Below.trod laidOut (by kernel_rfl) (of_decide_eq_true (by kernel_rfl)) k0 bel lt0) (trodAll_cons_mk (Below.trod laidOut (by kernel_rfl) (of_decide_eq_true (by kernel_rfl)) k1 bel lt1) trodAll_mk0)), rfl, bel.frame _, fun h => by cases h⟩

theorem over : Rows.fnExactEqualRecodersRow.holds Try.pinned (OpenSpec.ofChange Rows.fnExactEqualRecodersSpec) :=
  OpenClaim.holds_of_wide 3 Try.f3 rfl rfl rfl rfl rfl rfl rfl ⟨rfl, rfl, rfl, rfl, rfl⟩ rfl rfl rfl rfl rfl (by kernel_rfl) Try.func3 (by kernel_rfl)
    (of_decide_eq_true (by kernel_rfl)) (by unfold Func.isWrapper; first | (rw [if_pos (by decide +kernel)]; kernel_rfl) | (rw [if_neg (by decide +kernel)]; exact ⟨rfl, rfl⟩))
    (fun os started H enc _ => lifted os started H enc)

theorem proved : Rows.FnExactEqualRecodersSaid := over
#print axioms proved
end Go.Proofs.Ytchodlfkoafeaaa.fnExactEqualRecoders
