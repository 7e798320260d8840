/-
  FnExactCheckPacket: for every hash key, manifest and packet the program's CheckPacket returns what the reference's returns, and leaves its arguments alone. No condition.
-/
import Derived.Test.YtdhglociegpmaaaOpenP
import Derived.Test.YtdhglociegpmaaaKHkey
import Derived.Test.YtdhglociegpmaaaKMani
import Derived.Test.YtdhglociegpmaaaKPkt
import Derived.Test.YtdhglociegpmaaaChk
import Derived.Deep.RegionHeld3
namespace Go.Proofs.Ytdhglociegpmaaa.fnExactCheckPacket
open Go.ChangeShapes Go.WideShapes Go.ChangeAt Go.RowKit
set_option linter.unusedVariables false
set_option maxRecDepth 100000

set_option maxHeartbeats 4000000 in
theorem walk (w : World) (v0 : Value) (x0 : List Int) (f0 : IsHkey w v0 x0) (v1 : Value) (x1 : Int × Int × Int × Int × Int × List Int) (f1 : IsMani w v1 x1) (v2 : Value) (x2 : Int × List Int × List Int) (f2 : IsPkt w v2 x2) :
    Calls Try.prog 11 #[v0, v1, v2] w fun e w' => e = .returned (.bool true) ∧ Below w.heap.size w w' := by
  obtain ⟨p0v, rfl, hp0v, kp0v⟩ := f0
  obtain ⟨p1a, p1b, p1c, p1d, p1m, xp1v⟩ := x1
  obtain ⟨p1v, rfl, hp1v, kp1v, b1⟩ := f1
  dsimp only at *
  obtain ⟨p2a, xp2v, xp2u⟩ := x2
  obtain ⟨p2v, p2u, rfl, hp2v, kp2v, hp2u, kp2u, b2⟩ := f2
  dsimp only at *
  rcases Or.symm (Decidable.em ((x0.length : Int) ≤ 1048576)) with z0 | z0
  · go_enter Try.func11, Try.ntmps11
    go_wp2_with fail
    refine (szHkey_no p0v x0 (1048576) _ (hp0v.keep ((((Bel.refl _).alloc _).alloc _).alloc _)) (by omega) (by omega) (by omega)).mono ?_
    rintro e wz ⟨rfl, hbz⟩
    go_wp2
    go_ret
    exact ⟨rfl, ((((Bel.refl _).alloc _).alloc _).alloc _).trans hbz⟩
  have dz0 : decide (1048576 - ((x0.length : Int)) < 0) = false := by simp; omega
  rcases Or.symm (Decidable.em ((xp1v.length : Int) ≤ 1048576 - ((x0.length : Int)))) with z1 | z1
  · go_enter Try.func11, Try.ntmps11
    go_wp2_with fail
    refine (szHkey_ok p0v x0 (1048576) _ (hp0v.keep ((((Bel.refl _).alloc _).alloc _).alloc _)) (by omega) (by omega)).mono ?_
    rintro e w1 ⟨rfl, hb1⟩
    have X0_1 := hb1.keep (((Blk.new w _ _).alloc _).alloc _)
    have X1_1 := hb1.keep ((Blk.new2 w _ _ _).alloc _)
    have X2_1 := hb1.keep (Blk.new3 w _ _ _ _)
    have Y1 : Bel w w1 := ((((Bel.refl _).alloc _).alloc _).alloc _).trans hb1
    clear hb1
    obtain ⟨cc0, _, _⟩ := X0_1.facts
    obtain ⟨cc1, _, _⟩ := X1_1.facts
    obtain ⟨cc2, _, _⟩ := X2_1.facts
    go_wp2_with fail
    refine (szMani_no p1a p1b p1c p1d p1m p1v xp1v (1048576 - ((x0.length : Int))) _ (hp1v.keep Y1) (by omega) (by omega) (by omega)).mono ?_
    rintro e wz ⟨rfl, hbz⟩
    go_wp2
    go_ret
    exact ⟨rfl, Y1.trans hbz⟩
  have dz1 : decide (1048576 - ((x0.length : Int)) - ((xp1v.length : Int)) < 0) = false := by simp; omega
  rcases Or.symm (Decidable.em ((xp2v.length : Int) + (xp2u.length : Int) ≤ 1048576 - ((x0.length : Int)) - ((xp1v.length : Int)))) with z2 | z2
  · go_enter Try.func11, Try.ntmps11
    go_wp2_with fail
    refine (szHkey_ok p0v x0 (1048576) _ (hp0v.keep ((((Bel.refl _).alloc _).alloc _).alloc _)) (by omega) (by omega)).mono ?_
    rintro e w1 ⟨rfl, hb1⟩
    have X0_1 := hb1.keep (((Blk.new w _ _).alloc _).alloc _)
    have X1_1 := hb1.keep ((Blk.new2 w _ _ _).alloc _)
    have X2_1 := hb1.keep (Blk.new3 w _ _ _ _)
    have Y1 : Bel w w1 := ((((Bel.refl _).alloc _).alloc _).alloc _).trans hb1
    clear hb1
    obtain ⟨cc0, _, _⟩ := X0_1.facts
    obtain ⟨cc1, _, _⟩ := X1_1.facts
    obtain ⟨cc2, _, _⟩ := X2_1.facts
    go_wp2_with fail
    refine (szMani_ok p1a p1b p1c p1d p1m p1v xp1v (1048576 - ((x0.length : Int))) _ (hp1v.keep Y1) (by omega) (by omega)).mono ?_
    rintro e w2 ⟨rfl, hb2⟩
    have X0_2 := hb2.keep X0_1
    have X1_2 := hb2.keep X1_1
    have X2_2 := hb2.keep X2_1
    have Y2 : Bel w w2 := Y1.trans hb2
    clear hb2
    clear cc0 cc1 cc2
    obtain ⟨cc0, _, _⟩ := X0_2.facts
    obtain ⟨cc1, _, _⟩ := X1_2.facts
    obtain ⟨cc2, _, _⟩ := X2_2.facts
    go_wp2_with fail
    refine (szPkt_no p2a p2v p2u xp2v xp2u (1048576 - ((x0.length : Int)) - ((xp1v.length : Int))) _ (hp2v.keep Y2) (hp2u.keep Y2) (by omega) (by omega) (by omega)).mono ?_
    rintro e wz ⟨rfl, hbz⟩
    go_wp2
    go_ret
    exact ⟨rfl, Y2.trans hbz⟩
  have dz2 : decide (1048576 - ((x0.length : Int)) - ((xp1v.length : Int)) - ((xp2v.length : Int) + (xp2u.length : Int)) < 0) = false := by simp; omega
  have np0v : x0.length ≤ 1048576 := by omega
  have np1v : xp1v.length ≤ 1048576 := by omega
  have np2v : xp2v.length ≤ 1048576 := by omega
  have np2u : xp2u.length ≤ 1048576 := by omega
  go_enter Try.func11, Try.ntmps11
  go_wp2_with fail
  refine (szHkey_ok p0v x0 (1048576) _ (hp0v.keep ((((Bel.refl _).alloc _).alloc _).alloc _)) (by omega) (by omega)).mono ?_
  rintro e w1 ⟨rfl, hb1⟩
  have X0_1 := hb1.keep (((Blk.new w _ _).alloc _).alloc _)
  have X1_1 := hb1.keep ((Blk.new2 w _ _ _).alloc _)
  have X2_1 := hb1.keep (Blk.new3 w _ _ _ _)
  have Y1 : Bel w w1 := ((((Bel.refl _).alloc _).alloc _).alloc _).trans hb1
  clear hb1
  obtain ⟨cc0, _, _⟩ := X0_1.facts
  obtain ⟨cc1, _, _⟩ := X1_1.facts
  obtain ⟨cc2, _, _⟩ := X2_1.facts
  go_wp2_with fail
  refine (szMani_ok p1a p1b p1c p1d p1m p1v xp1v (1048576 - ((x0.length : Int))) _ (hp1v.keep Y1) (by omega) (by omega)).mono ?_
  rintro e w2 ⟨rfl, hb2⟩
  have X0_2 := hb2.keep X0_1
  have X1_2 := hb2.keep X1_1
  have X2_2 := hb2.keep X2_1
  have Y2 : Bel w w2 := Y1.trans hb2
  clear hb2
  clear cc0 cc1 cc2
  obtain ⟨cc0, _, _⟩ := X0_2.facts
  obtain ⟨cc1, _, _⟩ := X1_2.facts
  obtain ⟨cc2, _, _⟩ := X2_2.facts
  go_wp2_with fail
  refine (szPkt_ok p2a p2v p2u xp2v xp2u (1048576 - ((x0.length : Int)) - ((xp1v.length : Int))) _ (hp2v.keep Y2) (hp2u.keep Y2) (by omega) (by omega)).mono ?_
  rintro e w3 ⟨rfl, hb3⟩
  have X0_3 := hb3.keep X0_2
  have X1_3 := hb3.keep X1_2
  have X2_3 := hb3.keep X2_2
  have Y3 : Bel w w3 := Y2.trans hb3
  clear hb3
  clear cc0 cc1 cc2
  obtain ⟨cc0, _, _⟩ := X0_3.facts
  obtain ⟨cc1, _, _⟩ := X1_3.facts
  obtain ⟨cc2, _, _⟩ := X2_3.facts
  obtain ⟨hcX03, _, hzX03⟩ := X0_3.facts
  have rX03o0 : w3.cell? ⟨w.heap.size, 0, none⟩ = some (p0v) := hcX03 0
  clear hcX03
  obtain ⟨hcX13, _, hzX13⟩ := X1_3.facts
  have rX13o0 : w3.cell? ⟨w.heap.size + 1, 0, none⟩ = some (.int .i64 p1a) := hcX13 0
  have rX13o1 : w3.cell? ⟨w.heap.size + 1, 1, none⟩ = some (.int .i64 p1b) := hcX13 1
  have rX13o2 : w3.cell? ⟨w.heap.size + 1, 2, none⟩ = some (.int .i64 p1c) := hcX13 2
  have rX13o3 : w3.cell? ⟨w.heap.size + 1, 3, none⟩ = some (.int .i64 p1d) := hcX13 3
  have rX13o4 : w3.cell? ⟨w.heap.size + 1, 4, none⟩ = some (p1v) := hcX13 4
  have rX13o5 : w3.cell? ⟨w.heap.size + 1, 5, none⟩ = some (.int .i64 p1m) := hcX13 5
  clear hcX13
  obtain ⟨hcX23, _, hzX23⟩ := X2_3.facts
  have rX23o0 : w3.cell? ⟨w.heap.size + 2, 0, none⟩ = some (.int .i64 p2a) := hcX23 0
  have rX23o1 : w3.cell? ⟨w.heap.size + 2, 1, none⟩ = some (p2v) := hcX23 1
  have rX23o2 : w3.cell? ⟨w.heap.size + 2, 2, none⟩ = some (p2u) := hcX23 2
  clear hcX23
  have Yd := Y3.drew
  go_wp2_with fail
  go_region_held3 (fun w' => w'.cell? ⟨w.heap.size, 0, none⟩ = some (p0v) ∧ w'.cell? ⟨w.heap.size + 1, 0, none⟩ = some (.int .i64 p1a) ∧ w'.cell? ⟨w.heap.size + 1, 1, none⟩ = some (.int .i64 p1b) ∧ w'.cell? ⟨w.heap.size + 1, 2, none⟩ = some (.int .i64 p1c) ∧ w'.cell? ⟨w.heap.size + 1, 3, none⟩ = some (.int .i64 p1d) ∧ w'.cell? ⟨w.heap.size + 1, 4, none⟩ = some (p1v) ∧ w'.cell? ⟨w.heap.size + 1, 5, none⟩ = some (.int .i64 p1m) ∧ w'.cell? ⟨w.heap.size + 2, 0, none⟩ = some (.int .i64 p2a) ∧ w'.cell? ⟨w.heap.size + 2, 1, none⟩ = some (p2v) ∧ w'.cell? ⟨w.heap.size + 2, 2, none⟩ = some (p2u)) (first | exact ⟨hbT0.cell1 (hzX03) (rX03o0), hbT0.cell1 (hzX13) (rX13o0), hbT0.cell1 (hzX13) (rX13o1), hbT0.cell1 (hzX13) (rX13o2), hbT0.cell1 (hzX13) (rX13o3), hbT0.cell1 (hzX13) (rX13o4), hbT0.cell1 (hzX13) (rX13o5), hbT0.cell1 (hzX23) (rX23o0), hbT0.cell1 (hzX23) (rX23o1), hbT0.cell1 (hzX23) (rX23o2)⟩ | exact ⟨hbT1.cell1 (Nat.lt_of_lt_of_le (hzX03) hbT0.size) (hbT0.cell1 (hzX03) (rX03o0)), hbT1.cell1 (Nat.lt_of_lt_of_le (hzX13) hbT0.size) (hbT0.cell1 (hzX13) (rX13o0)), hbT1.cell1 (Nat.lt_of_lt_of_le (hzX13) hbT0.size) (hbT0.cell1 (hzX13) (rX13o1)), hbT1.cell1 (Nat.lt_of_lt_of_le (hzX13) hbT0.size) (hbT0.cell1 (hzX13) (rX13o2)), hbT1.cell1 (Nat.lt_of_lt_of_le (hzX13) hbT0.size) (hbT0.cell1 (hzX13) (rX13o3)), hbT1.cell1 (Nat.lt_of_lt_of_le (hzX13) hbT0.size) (hbT0.cell1 (hzX13) (rX13o4)), hbT1.cell1 (Nat.lt_of_lt_of_le (hzX13) hbT0.size) (hbT0.cell1 (hzX13) (rX13o5)), hbT1.cell1 (Nat.lt_of_lt_of_le (hzX23) hbT0.size) (hbT0.cell1 (hzX23) (rX23o0)), hbT1.cell1 (Nat.lt_of_lt_of_le (hzX23) hbT0.size) (hbT0.cell1 (hzX23) (rX23o1)), hbT1.cell1 (Nat.lt_of_lt_of_le (hzX23) hbT0.size) (hbT0.cell1 (hzX23) (rX23o2))⟩ | exact ⟨hbT2.cell1 (Nat.lt_of_lt_of_le (Nat.lt_of_lt_of_le (hzX03) hbT0.size) hbT1.size) (hbT1.cell1 (Nat.lt_of_lt_of_le (hzX03) hbT0.size) (hbT0.cell1 (hzX03) (rX03o0))), hbT2.cell1 (Nat.lt_of_lt_of_le (Nat.lt_of_lt_of_le (hzX13) hbT0.size) hbT1.size) (hbT1.cell1 (Nat.lt_of_lt_of_le (hzX13) hbT0.size) (hbT0.cell1 (hzX13) (rX13o0))), hbT2.cell1 (Nat.lt_of_lt_of_le (Nat.lt_of_lt_of_le (hzX13) hbT0.size) hbT1.size) (hbT1.cell1 (Nat.lt_of_lt_of_le (hzX13) hbT0.size) (hbT0.cell1 (hzX13) (rX13o1))), hbT2.cell1 (Nat.lt_of_lt_of_le (Nat.lt_of_lt_of_le (hzX13) hbT0.size) hbT1.size) (hbT1.cell1 (Nat.lt_of_lt_of_le (hzX13) hbT0.size) (hbT0.cell1 (hzX13) (rX13o2))), hbT2.cell1 (Nat.lt_of_lt_of_le (Nat.lt_of_lt_of_le (hzX13) hbT0.size) hbT1.size) (hbT1.cell1 (Nat.lt_of_lt_of_le (hzX13) hbT0.size) (hbT0.cell1 (hzX13) (rX13o3))), hbT2.cell1 (Nat.lt_of_lt_of_le (Nat.lt_of_lt_of_le (hzX13) hbT0.size) hbT1.size) (hbT1.cell1 (Nat.lt_of_lt_of_le (hzX13) hbT0.size) (hbT0.cell1 (hzX13) (rX13o4))), hbT2.cell1 (Nat.lt_of_lt_of_le (Nat.lt_of_lt_of_le (hzX13) hbT0.size) hbT1.size) (hbT1.cell1 (Nat.lt_of_lt_of_le (hzX13) hbT0.size) (hbT0.cell1 (hzX13) (rX13o5))), hbT2.cell1 (Nat.lt_of_lt_of_le (Nat.lt_of_lt_of_le (hzX23) hbT0.size) hbT1.size) (hbT1.cell1 (Nat.lt_of_lt_of_le (hzX23) hbT0.size) (hbT0.cell1 (hzX23) (rX23o0))), hbT2.cell1 (Nat.lt_of_lt_of_le (Nat.lt_of_lt_of_le (hzX23) hbT0.size) hbT1.size) (hbT1.cell1 (Nat.lt_of_lt_of_le (hzX23) hbT0.size) (hbT0.cell1 (hzX23) (rX23o1))), hbT2.cell1 (Nat.lt_of_lt_of_le (Nat.lt_of_lt_of_le (hzX23) hbT0.size) hbT1.size) (hbT1.cell1 (Nat.lt_of_lt_of_le (hzX23) hbT0.size) (hbT0.cell1 (hzX23) (rX23o2)))⟩ | exact ⟨hbS.cell1 (Nat.lt_of_lt_of_le (Nat.lt_of_lt_of_le (Nat.lt_of_lt_of_le (hzX03) hbT0.size) hbT1.size) hbT2.size) (hbT2.cell1 (Nat.lt_of_lt_of_le (Nat.lt_of_lt_of_le (hzX03) hbT0.size) hbT1.size) (hbT1.cell1 (Nat.lt_of_lt_of_le (hzX03) hbT0.size) (hbT0.cell1 (hzX03) (rX03o0)))), hbS.cell1 (Nat.lt_of_lt_of_le (Nat.lt_of_lt_of_le (Nat.lt_of_lt_of_le (hzX13) hbT0.size) hbT1.size) hbT2.size) (hbT2.cell1 (Nat.lt_of_lt_of_le (Nat.lt_of_lt_of_le (hzX13) hbT0.size) hbT1.size) (hbT1.cell1 (Nat.lt_of_lt_of_le (hzX13) hbT0.size) (hbT0.cell1 (hzX13) (rX13o0)))), hbS.cell1 (Nat.lt_of_lt_of_le (Nat.lt_of_lt_of_le (Nat.lt_of_lt_of_le (hzX13) hbT0.size) hbT1.size) hbT2.size) (hbT2.cell1 (Nat.lt_of_lt_of_le (Nat.lt_of_lt_of_le (hzX13) hbT0.size) hbT1.size) (hbT1.cell1 (Nat.lt_of_lt_of_le (hzX13) hbT0.size) (hbT0.cell1 (hzX13) (rX13o1)))), hbS.cell1 (Nat.lt_of_lt_of_le (Nat.lt_of_lt_of_le (Nat.lt_of_lt_of_le (hzX13) hbT0.size) hbT1.size) hbT2.size) (hbT2.cell1 (Nat.lt_of_lt_of_le (Nat.lt_of_lt_of_le (hzX13) hbT0.size) hbT1.size) (hbT1.cell1 (Nat.lt_of_lt_of_le (hzX13) hbT0.size) (hbT0.cell1 (hzX13) (rX13o2)))), hbS.cell1 (Nat.lt_of_lt_of_le (Nat.lt_of_lt_of_le (Nat.lt_of_lt_of_le (hzX13) hbT0.size) hbT1.size) hbT2.size) (hbT2.cell1 (Nat.lt_of_lt_of_le (Nat.lt_of_lt_of_le (hzX13) hbT0.size) hbT1.size) (hbT1.cell1 (Nat.lt_of_lt_of_le (hzX13) hbT0.size) (hbT0.cell1 (hzX13) (rX13o3)))), hbS.cell1 (Nat.lt_of_lt_of_le (Nat.lt_of_lt_of_le (Nat.lt_of_lt_of_le (hzX13) hbT0.size) hbT1.size) hbT2.size) (hbT2.cell1 (Nat.lt_of_lt_of_le (Nat.lt_of_lt_of_le (hzX13) hbT0.size) hbT1.size) (hbT1.cell1 (Nat.lt_of_lt_of_le (hzX13) hbT0.size) (hbT0.cell1 (hzX13) (rX13o4)))), hbS.cell1 (Nat.lt_of_lt_of_le (Nat.lt_of_lt_of_le (Nat.lt_of_lt_of_le (hzX13) hbT0.size) hbT1.size) hbT2.size) (hbT2.cell1 (Nat.lt_of_lt_of_le (Nat.lt_of_lt_of_le (hzX13) hbT0.size) hbT1.size) (hbT1.cell1 (Nat.lt_of_lt_of_le (hzX13) hbT0.size) (hbT0.cell1 (hzX13) (rX13o5)))), hbS.cell1 (Nat.lt_of_lt_of_le (Nat.lt_of_lt_of_le (Nat.lt_of_lt_of_le (hzX23) hbT0.size) hbT1.size) hbT2.size) (hbT2.cell1 (Nat.lt_of_lt_of_le (Nat.lt_of_lt_of_le (hzX23) hbT0.size) hbT1.size) (hbT1.cell1 (Nat.lt_of_lt_of_le (hzX23) hbT0.size) (hbT0.cell1 (hzX23) (rX23o0)))), hbS.cell1 (Nat.lt_of_lt_of_le (Nat.lt_of_lt_of_le (Nat.lt_of_lt_of_le (hzX23) hbT0.size) hbT1.size) hbT2.size) (hbT2.cell1 (Nat.lt_of_lt_of_le (Nat.lt_of_lt_of_le (hzX23) hbT0.size) hbT1.size) (hbT1.cell1 (Nat.lt_of_lt_of_le (hzX23) hbT0.size) (hbT0.cell1 (hzX23) (rX23o1)))), hbS.cell1 (Nat.lt_of_lt_of_le (Nat.lt_of_lt_of_le (Nat.lt_of_lt_of_le (hzX23) hbT0.size) hbT1.size) hbT2.size) (hbT2.cell1 (Nat.lt_of_lt_of_le (Nat.lt_of_lt_of_le (hzX23) hbT0.size) hbT1.size) (hbT1.cell1 (Nat.lt_of_lt_of_le (hzX23) hbT0.size) (hbT0.cell1 (hzX23) (rX23o2))))⟩ | go_keep) (first | (go_at_call 21; ((with_reducible refine (toHkey p0v x0 _ (by exact hp0v.keep (Yd)) np0v).mono ?_); rintro e wT0 ⟨sp0v, rfl, Op0vs, hbT0⟩)) | (go_at_call 29; ((with_reducible refine (toMani p1a p1b p1c p1d p1m p1v xp1v _ (by exact hp1v.keep ((Yd).trans hbT0)) np1v).mono ?_); rintro e wT1 ⟨sp1v, rfl, Op1vs, hbT1⟩)) | (go_at_call 34; ((with_reducible refine (toPkt p2a p2v p2u xp2v xp2u _ (by exact hp2v.keep (((Yd).trans hbT0).trans hbT1)) (by exact hp2u.keep (((Yd).trans hbT0).trans hbT1)) np2v np2u).mono ?_); rintro e wT2 ⟨sp2v, sp2u, rfl, Op2vs, Op2us, _, hbT2⟩)) | (go_at_call 61; ((with_reducible refine (chkS p1a p1b p1c p1d p1m p2a _ _ _ _ x0 xp1v xp2v xp2u _ (by exact ((Op0vs.reads).keep hbT1).keep hbT2) (by exact (Op1vs.reads).keep hbT2) (by exact Op2vs.reads) (by exact Op2us.reads)).mono ?_); rintro e wS ⟨rfl, hbS⟩)))
  have hbR := (((((Bel.refl w3).drew).trans hbT0).trans hbT1).trans hbT2).trans hbS
  clear rX03o0 rX13o0 rX13o1 rX13o2 rX13o3 rX13o4 rX13o5 rX23o0 rX23o1 rX23o2
  have X0_R := hbR.keep X0_3
  have X1_R := hbR.keep X1_3
  have X2_R := hbR.keep X2_3
  have YR : Bel w wS := Y3.trans hbR
  clear Yd
  try clear cc0 cc1 cc2
  obtain ⟨cc0, _, _⟩ := X0_R.facts
  go_wp2_with fail
  refine (toHkey p0v x0 _ (hp0v.keep YR) np0v).mono ?_
  rintro e w4 ⟨tp0v, rfl, Op0vt, hb4⟩
  have X0_4 := hb4.keep X0_R
  have X1_4 := hb4.keep X1_R
  have X2_4 := hb4.keep X2_R
  have Y4 : Bel w w4 := YR.trans hb4
  clear cc0
  obtain ⟨Atp0v, ctp0v, etp0v, _, _, _⟩ := Op0vt.reads
  subst etp0v
  have X0_4a := X0_4.alloc (.cells #[(.slice Atp0v x0.length ctp0v)] 24)
  have X1_4a := X1_4.alloc (.cells #[(.slice Atp0v x0.length ctp0v)] 24)
  have X2_4a := X2_4.alloc (.cells #[(.slice Atp0v x0.length ctp0v)] 24)
  have Z0_4a := Blk.new w4 24 #[(.slice Atp0v x0.length ctp0v)]
  have Y4a := Y4.alloc (.cells #[(.slice Atp0v x0.length ctp0v)] 24)
  have Pp0v_4a := Op0vt.reads.keep ((Bel.refl _).alloc (.cells #[(.slice Atp0v x0.length ctp0v)] 24))
  obtain ⟨g0, hg0⟩ : ∃ g, w4.heap.size = g := ⟨_, rfl⟩
  rw [hg0] at Z0_4a
  have HG0 := Lib.hid hg0
  clear hg0
  try clear cc0 cc1 cc2
  obtain ⟨cc1, _, _⟩ := X1_4a.facts
  go_wp2_with fail
  refine (toMani p1a p1b p1c p1d p1m p1v xp1v _ (hp1v.keep Y4a) np1v).mono ?_
  rintro e w5 ⟨tp1v, rfl, Op1vt, hb5⟩
  have X0_5 := hb5.keep X0_4a
  have X1_5 := hb5.keep X1_4a
  have X2_5 := hb5.keep X2_4a
  have Z0_5 := hb5.keep Z0_4a
  have Y5 : Bel w w5 := Y4a.trans hb5
  have Pp0v_5 := (Pp0v_4a).keep hb5
  clear cc1
  obtain ⟨Atp1v, ctp1v, etp1v, _, _, _⟩ := Op1vt.reads
  subst etp1v
  have X0_5a := X0_5.alloc (.cells #[.int .i64 p1a, .int .i64 p1b, .int .i64 p1c, .int .i64 p1d, (.slice Atp1v xp1v.length ctp1v), .int .i64 p1m] 42)
  have X1_5a := X1_5.alloc (.cells #[.int .i64 p1a, .int .i64 p1b, .int .i64 p1c, .int .i64 p1d, (.slice Atp1v xp1v.length ctp1v), .int .i64 p1m] 42)
  have X2_5a := X2_5.alloc (.cells #[.int .i64 p1a, .int .i64 p1b, .int .i64 p1c, .int .i64 p1d, (.slice Atp1v xp1v.length ctp1v), .int .i64 p1m] 42)
  have Z0_5a := Z0_5.alloc (.cells #[.int .i64 p1a, .int .i64 p1b, .int .i64 p1c, .int .i64 p1d, (.slice Atp1v xp1v.length ctp1v), .int .i64 p1m] 42)
  have Z1_5a := Blk.new w5 42 #[.int .i64 p1a, .int .i64 p1b, .int .i64 p1c, .int .i64 p1d, (.slice Atp1v xp1v.length ctp1v), .int .i64 p1m]
  have Y5a := Y5.alloc (.cells #[.int .i64 p1a, .int .i64 p1b, .int .i64 p1c, .int .i64 p1d, (.slice Atp1v xp1v.length ctp1v), .int .i64 p1m] 42)
  have Pp0v_5a := (Pp0v_5).keep ((Bel.refl _).alloc (.cells #[.int .i64 p1a, .int .i64 p1b, .int .i64 p1c, .int .i64 p1d, (.slice Atp1v xp1v.length ctp1v), .int .i64 p1m] 42))
  have Pp1v_5a := Op1vt.reads.keep ((Bel.refl _).alloc (.cells #[.int .i64 p1a, .int .i64 p1b, .int .i64 p1c, .int .i64 p1d, (.slice Atp1v xp1v.length ctp1v), .int .i64 p1m] 42))
  obtain ⟨g1, hg1⟩ : ∃ g, w5.heap.size = g := ⟨_, rfl⟩
  rw [hg1] at Z1_5a
  have HG1 := Lib.hid hg1
  clear hg1
  try clear cc0 cc1 cc2
  obtain ⟨cc2, _, _⟩ := X2_5a.facts
  go_wp2_with fail
  refine (toPkt p2a p2v p2u xp2v xp2u _ (hp2v.keep Y5a) (hp2u.keep Y5a) np2v np2u).mono ?_
  rintro e w6 ⟨tp2v, tp2u, rfl, Op2vt, Op2ut, _, hb6⟩
  have X0_6 := hb6.keep X0_5a
  have X1_6 := hb6.keep X1_5a
  have X2_6 := hb6.keep X2_5a
  have Z0_6 := hb6.keep Z0_5a
  have Z1_6 := hb6.keep Z1_5a
  have Y6 : Bel w w6 := Y5a.trans hb6
  have Pp0v_6 := (Pp0v_5a).keep hb6
  have Pp1v_6 := (Pp1v_5a).keep hb6
  clear cc2
  obtain ⟨Atp2v, ctp2v, etp2v, _, _, _⟩ := Op2vt.reads
  subst etp2v
  obtain ⟨Atp2u, ctp2u, etp2u, _, _, _⟩ := Op2ut.reads
  subst etp2u
  have X0_6a := X0_6.alloc (.cells #[.int .i64 p2a, (.slice Atp2v xp2v.length ctp2v), (.slice Atp2u xp2u.length ctp2u)] 50)
  have X1_6a := X1_6.alloc (.cells #[.int .i64 p2a, (.slice Atp2v xp2v.length ctp2v), (.slice Atp2u xp2u.length ctp2u)] 50)
  have X2_6a := X2_6.alloc (.cells #[.int .i64 p2a, (.slice Atp2v xp2v.length ctp2v), (.slice Atp2u xp2u.length ctp2u)] 50)
  have Z0_6a := Z0_6.alloc (.cells #[.int .i64 p2a, (.slice Atp2v xp2v.length ctp2v), (.slice Atp2u xp2u.length ctp2u)] 50)
  have Z1_6a := Z1_6.alloc (.cells #[.int .i64 p2a, (.slice Atp2v xp2v.length ctp2v), (.slice Atp2u xp2u.length ctp2u)] 50)
  have Z2_6a := Blk.new w6 50 #[.int .i64 p2a, (.slice Atp2v xp2v.length ctp2v), (.slice Atp2u xp2u.length ctp2u)]
  have Y6a := Y6.alloc (.cells #[.int .i64 p2a, (.slice Atp2v xp2v.length ctp2v), (.slice Atp2u xp2u.length ctp2u)] 50)
  have Pp0v_6a := (Pp0v_6).keep ((Bel.refl _).alloc (.cells #[.int .i64 p2a, (.slice Atp2v xp2v.length ctp2v), (.slice Atp2u xp2u.length ctp2u)] 50))
  have Pp1v_6a := (Pp1v_6).keep ((Bel.refl _).alloc (.cells #[.int .i64 p2a, (.slice Atp2v xp2v.length ctp2v), (.slice Atp2u xp2u.length ctp2u)] 50))
  have Pp2v_6a := Op2vt.reads.keep ((Bel.refl _).alloc (.cells #[.int .i64 p2a, (.slice Atp2v xp2v.length ctp2v), (.slice Atp2u xp2u.length ctp2u)] 50))
  have Pp2u_6a := Op2ut.reads.keep ((Bel.refl _).alloc (.cells #[.int .i64 p2a, (.slice Atp2v xp2v.length ctp2v), (.slice Atp2u xp2u.length ctp2u)] 50))
  obtain ⟨g2, hg2⟩ : ∃ g, w6.heap.size = g := ⟨_, rfl⟩
  rw [hg2] at Z2_6a
  have HG2 := Lib.hid hg2
  clear hg2
  have Z0_p := Z0_6a
  rw [← HG0.out] at Z0_p
  have Z1_p := Z1_6a
  rw [← HG1.out] at Z1_p
  have Z2_p := Z2_6a
  rw [← HG2.out] at Z2_p
  try clear cc0 cc1 cc2
  obtain ⟨ccz0, _, _⟩ := Z0_p.facts
  obtain ⟨ccz1, _, _⟩ := Z1_p.facts
  obtain ⟨ccz2, _, _⟩ := Z2_p.facts
  go_wp2_with fail
  refine (chkI p1a p1b p1c p1d p1m p2a _ _ _ _ x0 xp1v xp2v xp2u _ (Pp0v_6a) (Pp1v_6a) (Pp2v_6a) (Pp2u_6a)).mono ?_
  rintro e w7 ⟨rfl, hb7⟩
  have X0_7 := hb7.keep X0_6a
  have X1_7 := hb7.keep X1_6a
  have X2_7 := hb7.keep X2_6a
  have Z0_7 := hb7.keep Z0_p
  have Z1_7 := hb7.keep Z1_p
  have Z2_7 := hb7.keep Z2_p
  have Y7 : Bel w w7 := Y6a.trans hb7
  have Pp0v_7 := (Pp0v_6a).keep hb7
  have Pp1v_7 := (Pp1v_6a).keep hb7
  have Pp2v_7 := (Pp2v_6a).keep hb7
  have Pp2u_7 := (Pp2u_6a).keep hb7
  clear ccz0
  clear ccz1
  clear ccz2
  obtain ⟨hcX07, _, hzX07⟩ := X0_7.facts
  have rX07o0 : w7.cell? ⟨w.heap.size, 0, none⟩ = some (p0v) := hcX07 0
  clear hcX07
  obtain ⟨hcZ07, _, hzZ07⟩ := Z0_7.facts
  have rZ07o0 : w7.cell? ⟨w4.heap.size, 0, none⟩ = some ((.slice Atp0v x0.length ctp0v)) := hcZ07 0
  clear hcZ07
  have Yd := Y7.drew
  go_wp2_with fail
  go_region_held3 (fun w' => w'.cell? ⟨w.heap.size, 0, none⟩ = some (p0v) ∧ w'.cell? ⟨w4.heap.size, 0, none⟩ = some ((.slice Atp0v x0.length ctp0v))) (first | exact ⟨hbT.cell1 hzX07 rX07o0, hbT.cell1 hzZ07 rZ07o0⟩ | exact ⟨hbE.cell1 (Nat.lt_of_lt_of_le hzX07 hbT.size) (hbT.cell1 hzX07 rX07o0), hbE.cell1 (Nat.lt_of_lt_of_le hzZ07 hbT.size) (hbT.cell1 hzZ07 rZ07o0)⟩ | go_keep) (first | (go_at_call 21; ((with_reducible refine (toHkey p0v x0 _ (by exact hp0v.keep Yd) np0v).mono ?_); rintro e wT ⟨qp0v, rfl, Op0vq, hbT⟩)) | (go_at_call 16; ((with_reducible refine (eqHkey_same  _ x0 _ _ (by exact (Pp0v_7).keep (((Bel.refl _).drew).trans hbT)) (by exact Op0vq.reads)).mono ?_); rintro e wE ⟨rfl, hbE⟩)))
  have hbR := (((Bel.refl w7).drew).trans hbT).trans hbE
  clear rX07o0 rZ07o0 Yd
  obtain ⟨w8, hw8⟩ : ∃ x, x = wE := ⟨_, rfl⟩
  subst hw8
  have X0_8 := hbR.keep X0_7
  have X1_8 := hbR.keep X1_7
  have X2_8 := hbR.keep X2_7
  have Z0_8 := hbR.keep Z0_7
  have Z1_8 := hbR.keep Z1_7
  have Z2_8 := hbR.keep Z2_7
  have Y8 := Y7.trans hbR
  have Pp0v_8 := (Pp0v_7).keep hbR
  have Pp1v_8 := (Pp1v_7).keep hbR
  have Pp2v_8 := (Pp2v_7).keep hbR
  have Pp2u_8 := (Pp2u_7).keep hbR
  clear hbR hbT hbE
  obtain ⟨hcX18, _, hzX18⟩ := X1_8.facts
  have rX18o0 : w8.cell? ⟨w.heap.size + 1, 0, none⟩ = some (.int .i64 p1a) := hcX18 0
  have rX18o1 : w8.cell? ⟨w.heap.size + 1, 1, none⟩ = some (.int .i64 p1b) := hcX18 1
  have rX18o2 : w8.cell? ⟨w.heap.size + 1, 2, none⟩ = some (.int .i64 p1c) := hcX18 2
  have rX18o3 : w8.cell? ⟨w.heap.size + 1, 3, none⟩ = some (.int .i64 p1d) := hcX18 3
  have rX18o4 : w8.cell? ⟨w.heap.size + 1, 4, none⟩ = some (p1v) := hcX18 4
  have rX18o5 : w8.cell? ⟨w.heap.size + 1, 5, none⟩ = some (.int .i64 p1m) := hcX18 5
  clear hcX18
  obtain ⟨hcZ18, _, hzZ18⟩ := Z1_8.facts
  have rZ18o0 : w8.cell? ⟨w5.heap.size, 0, none⟩ = some (.int .i64 p1a) := hcZ18 0
  have rZ18o1 : w8.cell? ⟨w5.heap.size, 1, none⟩ = some (.int .i64 p1b) := hcZ18 1
  have rZ18o2 : w8.cell? ⟨w5.heap.size, 2, none⟩ = some (.int .i64 p1c) := hcZ18 2
  have rZ18o3 : w8.cell? ⟨w5.heap.size, 3, none⟩ = some (.int .i64 p1d) := hcZ18 3
  have rZ18o4 : w8.cell? ⟨w5.heap.size, 4, none⟩ = some ((.slice Atp1v xp1v.length ctp1v)) := hcZ18 4
  have rZ18o5 : w8.cell? ⟨w5.heap.size, 5, none⟩ = some (.int .i64 p1m) := hcZ18 5
  clear hcZ18
  have Yd := Y8.drew
  go_wp2_with fail
  go_region_held3 (fun w' => w'.cell? ⟨w.heap.size + 1, 0, none⟩ = some (.int .i64 p1a) ∧ w'.cell? ⟨w.heap.size + 1, 1, none⟩ = some (.int .i64 p1b) ∧ w'.cell? ⟨w.heap.size + 1, 2, none⟩ = some (.int .i64 p1c) ∧ w'.cell? ⟨w.heap.size + 1, 3, none⟩ = some (.int .i64 p1d) ∧ w'.cell? ⟨w.heap.size + 1, 4, none⟩ = some (p1v) ∧ w'.cell? ⟨w.heap.size + 1, 5, none⟩ = some (.int .i64 p1m) ∧ w'.cell? ⟨w5.heap.size, 0, none⟩ = some (.int .i64 p1a) ∧ w'.cell? ⟨w5.heap.size, 1, none⟩ = some (.int .i64 p1b) ∧ w'.cell? ⟨w5.heap.size, 2, none⟩ = some (.int .i64 p1c) ∧ w'.cell? ⟨w5.heap.size, 3, none⟩ = some (.int .i64 p1d) ∧ w'.cell? ⟨w5.heap.size, 4, none⟩ = some ((.slice Atp1v xp1v.length ctp1v)) ∧ w'.cell? ⟨w5.heap.size, 5, none⟩ = some (.int .i64 p1m)) (first | exact ⟨hbT.cell1 hzX18 rX18o0, hbT.cell1 hzX18 rX18o1, hbT.cell1 hzX18 rX18o2, hbT.cell1 hzX18 rX18o3, hbT.cell1 hzX18 rX18o4, hbT.cell1 hzX18 rX18o5, hbT.cell1 hzZ18 rZ18o0, hbT.cell1 hzZ18 rZ18o1, hbT.cell1 hzZ18 rZ18o2, hbT.cell1 hzZ18 rZ18o3, hbT.cell1 hzZ18 rZ18o4, hbT.cell1 hzZ18 rZ18o5⟩ | exact ⟨hbE.cell1 (Nat.lt_of_lt_of_le hzX18 hbT.size) (hbT.cell1 hzX18 rX18o0), hbE.cell1 (Nat.lt_of_lt_of_le hzX18 hbT.size) (hbT.cell1 hzX18 rX18o1), hbE.cell1 (Nat.lt_of_lt_of_le hzX18 hbT.size) (hbT.cell1 hzX18 rX18o2), hbE.cell1 (Nat.lt_of_lt_of_le hzX18 hbT.size) (hbT.cell1 hzX18 rX18o3), hbE.cell1 (Nat.lt_of_lt_of_le hzX18 hbT.size) (hbT.cell1 hzX18 rX18o4), hbE.cell1 (Nat.lt_of_lt_of_le hzX18 hbT.size) (hbT.cell1 hzX18 rX18o5), hbE.cell1 (Nat.lt_of_lt_of_le hzZ18 hbT.size) (hbT.cell1 hzZ18 rZ18o0), hbE.cell1 (Nat.lt_of_lt_of_le hzZ18 hbT.size) (hbT.cell1 hzZ18 rZ18o1), hbE.cell1 (Nat.lt_of_lt_of_le hzZ18 hbT.size) (hbT.cell1 hzZ18 rZ18o2), hbE.cell1 (Nat.lt_of_lt_of_le hzZ18 hbT.size) (hbT.cell1 hzZ18 rZ18o3), hbE.cell1 (Nat.lt_of_lt_of_le hzZ18 hbT.size) (hbT.cell1 hzZ18 rZ18o4), hbE.cell1 (Nat.lt_of_lt_of_le hzZ18 hbT.size) (hbT.cell1 hzZ18 rZ18o5)⟩ | go_keep) (first | (go_at_call 29; ((with_reducible refine (toMani p1a p1b p1c p1d p1m p1v xp1v _ (by exact hp1v.keep Yd) np1v).mono ?_); rintro e wT ⟨qp1v, rfl, Op1vq, hbT⟩)) | (go_at_call 31; ((with_reducible refine (eqMani_same p1a p1b p1c p1d p1m _ xp1v _ _ (by exact (Pp1v_8).keep (((Bel.refl _).drew).trans hbT)) (by exact Op1vq.reads)).mono ?_); rintro e wE ⟨rfl, hbE⟩)))
  have hbR := (((Bel.refl w8).drew).trans hbT).trans hbE
  clear rX18o0 rX18o1 rX18o2 rX18o3 rX18o4 rX18o5 rZ18o0 rZ18o1 rZ18o2 rZ18o3 rZ18o4 rZ18o5 Yd
  obtain ⟨w9, hw9⟩ : ∃ x, x = wE := ⟨_, rfl⟩
  subst hw9
  have X0_9 := hbR.keep X0_8
  have X1_9 := hbR.keep X1_8
  have X2_9 := hbR.keep X2_8
  have Z0_9 := hbR.keep Z0_8
  have Z1_9 := hbR.keep Z1_8
  have Z2_9 := hbR.keep Z2_8
  have Y9 := Y8.trans hbR
  have Pp0v_9 := (Pp0v_8).keep hbR
  have Pp1v_9 := (Pp1v_8).keep hbR
  have Pp2v_9 := (Pp2v_8).keep hbR
  have Pp2u_9 := (Pp2u_8).keep hbR
  clear hbR hbT hbE
  obtain ⟨hcX29, _, hzX29⟩ := X2_9.facts
  have rX29o0 : w9.cell? ⟨w.heap.size + 2, 0, none⟩ = some (.int .i64 p2a) := hcX29 0
  have rX29o1 : w9.cell? ⟨w.heap.size + 2, 1, none⟩ = some (p2v) := hcX29 1
  have rX29o2 : w9.cell? ⟨w.heap.size + 2, 2, none⟩ = some (p2u) := hcX29 2
  clear hcX29
  obtain ⟨hcZ29, _, hzZ29⟩ := Z2_9.facts
  have rZ29o0 : w9.cell? ⟨w6.heap.size, 0, none⟩ = some (.int .i64 p2a) := hcZ29 0
  have rZ29o1 : w9.cell? ⟨w6.heap.size, 1, none⟩ = some ((.slice Atp2v xp2v.length ctp2v)) := hcZ29 1
  have rZ29o2 : w9.cell? ⟨w6.heap.size, 2, none⟩ = some ((.slice Atp2u xp2u.length ctp2u)) := hcZ29 2
  clear hcZ29
  have Yd := Y9.drew
  go_wp2_with fail
  go_region_held3 (fun w' => w'.cell? ⟨w.heap.size + 2, 0, none⟩ = some (.int .i64 p2a) ∧ w'.cell? ⟨w.heap.size + 2, 1, none⟩ = some (p2v) ∧ w'.cell? ⟨w.heap.size + 2, 2, none⟩ = some (p2u) ∧ w'.cell? ⟨w6.heap.size, 0, none⟩ = some (.int .i64 p2a) ∧ w'.cell? ⟨w6.heap.size, 1, none⟩ = some ((.slice Atp2v xp2v.length ctp2v)) ∧ w'.cell? ⟨w6.heap.size, 2, none⟩ = some ((.slice Atp2u xp2u.length ctp2u))) (first | exact ⟨hbT.cell1 hzX29 rX29o0, hbT.cell1 hzX29 rX29o1, hbT.cell1 hzX29 rX29o2, hbT.cell1 hzZ29 rZ29o0, hbT.cell1 hzZ29 rZ29o1, hbT.cell1 hzZ29 rZ29o2⟩ | exact ⟨hbE.cell1 (Nat.lt_of_lt_of_le hzX29 hbT.size) (hbT.cell1 hzX29 rX29o0), hbE.cell1 (Nat.lt_of_lt_of_le hzX29 hbT.size) (hbT.cell1 hzX29 rX29o1), hbE.cell1 (Nat.lt_of_lt_of_le hzX29 hbT.size) (hbT.cell1 hzX29 rX29o2), hbE.cell1 (Nat.lt_of_lt_of_le hzZ29 hbT.size) (hbT.cell1 hzZ29 rZ29o0), hbE.cell1 (Nat.lt_of_lt_of_le hzZ29 hbT.size) (hbT.cell1 hzZ29 rZ29o1), hbE.cell1 (Nat.lt_of_lt_of_le hzZ29 hbT.size) (hbT.cell1 hzZ29 rZ29o2)⟩ | go_keep) (first | (go_at_call 34; ((with_reducible refine (toPkt p2a p2v p2u xp2v xp2u _ (by exact hp2v.keep Yd) (by exact hp2u.keep Yd) np2v np2u).mono ?_); rintro e wT ⟨qp2v, qp2u, rfl, Op2vq, Op2uq, _, hbT⟩)) | (go_at_call 36; ((with_reducible refine (eqPkt_same p2a _ _ xp2v xp2u _ _ _ (by exact (Pp2v_9).keep (((Bel.refl _).drew).trans hbT)) (by exact (Pp2u_9).keep (((Bel.refl _).drew).trans hbT)) (by exact Op2vq.reads) (by exact Op2uq.reads)).mono ?_); rintro e wE ⟨rfl, hbE⟩)))
  have hbR := (((Bel.refl w9).drew).trans hbT).trans hbE
  clear rX29o0 rX29o1 rX29o2 rZ29o0 rZ29o1 rZ29o2 Yd
  obtain ⟨w10, hw10⟩ : ∃ x, x = wE := ⟨_, rfl⟩
  subst hw10
  have X0_10 := hbR.keep X0_9
  have X1_10 := hbR.keep X1_9
  have X2_10 := hbR.keep X2_9
  have Z0_10 := hbR.keep Z0_9
  have Z1_10 := hbR.keep Z1_9
  have Z2_10 := hbR.keep Z2_9
  have Y10 := Y9.trans hbR
  have Pp0v_10 := (Pp0v_9).keep hbR
  have Pp1v_10 := (Pp1v_9).keep hbR
  have Pp2v_10 := (Pp2v_9).keep hbR
  have Pp2u_10 := (Pp2u_9).keep hbR
  clear hbR hbT hbE
  go_wp2
  go_ret
  exact ⟨rfl, Y10⟩

set_option maxRecDepth 100000 in
theorem lifted (os : Os) (started : os.Started) (H : Type) (enc : TypeId × Value → H) :
    ReturnsInHanded {} Try.checked os 11 .any (Rows.fnExactCheckPacketSpec.pre6 enc Try.prog Try.f11 Rows.fnExactCheckPacketRow.domain false) (Rows.fnExactCheckPacketSpec.post enc Try.prog Try.f11 false true false false) := by
  refine returnsInHanded_of_change (C := Try.checked) own started (by kernel_rfl) Try.func11
    (ChangeSpec.witness6 (enc := enc) (C := Try.checked) false ⟨#[], #[.agg #[.slice none 0 0], .agg #[.int .i64 0, .int .i64 0, .int .i64 0, .int .i64 0, .slice none 0 0, .int .i64 0], .agg #[.int .i64 0, .slice none 0 0, .slice none 0 0]], []⟩ 8 (by kernel_rfl) (by kernel_rfl) (by kernel_rfl) (by kernel_rfl)) ?_
  intro W base args ds gs before hval0 hW hcnd _
  have hval : ∀ (j : Nat) t v, Try.f11.params[j]? = some t → args[j]? = some v → Value.okWide Try.prog W .any base t v := hval0
  have hW' := hW
  obtain ⟨p, q, hA0, hV, rfl, hfz, hnd⟩ := hW
  have hA : DataW.TrodAll enc Try.prog W 0 (fun _ => true) true Try.f11.params.toList args.toList ds p := hA0
  rw [Try.params11] at hA hval
  obtain ⟨v0, vs0, d0, ds0, p0, q0, hargs, rfl, rfl, h0, r0⟩ := trodAll_cons hA
  obtain ⟨v1, vs1, d1, ds1, p1, q1, rfl, rfl, rfl, h1, r1⟩ := trodAll_cons r0
  obtain ⟨v2, vs2, d2, ds2, p2, q2, rfl, rfl, rfl, h2, r2⟩ := trodAll_cons r1
  obtain ⟨rfl, rfl, rfl⟩ := trodAll_nil r2
  obtain rfl : args = #[v0, v1, v2] := by cases args; simp_all
  obtain ⟨rfl, rfl⟩ := trodVars_none hV
  have k0 := h0
  have lt0 : ∀ x ∈ p0, x.block < W.heap.size := by obtain ⟨m, hm⟩ := k0; exact DataW.trod_lt m _ _ _ hm
  obtain ⟨x0, f0⟩ := openHkey (hval 0 29 v0 rfl rfl) h0
  have k1 := h1
  have lt1 : ∀ x ∈ p1, x.block < W.heap.size := by obtain ⟨m, hm⟩ := k1; exact DataW.trod_lt m _ _ _ hm
  obtain ⟨x1, f1⟩ := openMani (hval 1 39 v1 rfl rfl) h1
  have k2 := h2
  have lt2 : ∀ x ∈ p2, x.block < W.heap.size := by obtain ⟨m, hm⟩ := k2; exact DataW.trod_lt m _ _ _ hm
  obtain ⟨x2, f2⟩ := openPkt (hval 2 47 v2 rfl rfl) h2
  clear hA0 hval0
  refine (walk W v0 x0 f0 v1 x1 f1 v2 x2 f2).mono fun e W' ⟨he, bel⟩ => ?_
  subst he
  exact ⟨_, rfl, _, _, _, [], _, [], hW', trodAll_mk1 (shut_bool Try.underlying4 _), (trodAll_cons_mk (Below.trod laidOut (by kernel_rfl) (of_decide_eq_true (by kernel_rfl)) k0 bel lt0) (trodAll_cons_mk (Below.trod laidOut (by kernel_rfl) (of_decide_eq_true (by kernel_rfl)) k1 bel lt1) (trodAll_cons_mk (Below.trod laidOut (by kernel_rfl) (of_decide_eq_true (by kernel_rfl)) k2 bel lt2) trodAll_mk0))), rfl, bel.frame _, fun h => by cases h⟩

theorem over : Rows.fnExactCheckPacketRow.holds Try.pinned (OpenSpec.ofChange Rows.fnExactCheckPacketSpec) :=
  OpenClaim.holds_of_wide 11 Try.f11 rfl rfl rfl rfl rfl rfl rfl ⟨rfl, rfl, rfl, rfl, rfl⟩ rfl rfl rfl rfl rfl (by kernel_rfl) Try.func11 (by kernel_rfl)
    (of_decide_eq_true (by kernel_rfl)) (by unfold Func.isWrapper; first | (rw [if_pos (by decide +kernel)]; kernel_rfl) | (rw [if_neg (by decide +kernel)]; exact ⟨rfl, rfl⟩))
    (fun os started H enc _ => lifted os started H enc)

theorem proved : Rows.FnExactCheckPacketSaid := over
#print axioms proved
end Go.Proofs.Ytdhglociegpmaaa.fnExactCheckPacket
