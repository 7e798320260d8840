/-
  Vectors of the reference that lie in new memory: contracts of ScaleVector, AddScaled, InverseField, l6Copy. Conditions: valid vectors and elements.
-/
import Derived.Test.YtjlcnbicehjjjaaMx2
import Derived.Test.YtjlcnbicehjjjaaMl
import Derived.Test.YtjlcnbicehjjjaaDot
import Derived.Deep.RegionLaw
namespace Go.Proofs.Ytjlcnbicehjjjaa
open Go.ChangeShapes Go.WideShapes Go.ChangeAt Go.RowKit
set_option linter.unusedVariables false
set_option maxRecDepth 100000

theorem scaleZ_at {xs : List Int} {k : Nat} {x q : Int} (hx : xs[k]? = some x) : (scaleZ xs q)[k]? = some (x * q % 1019) := by simp [scaleZ, hx]
theorem addsZ_at {xs ys : List Int} {k : Nat} {x y q : Int} (hx : xs[k]? = some x) (hy : ys[k]? = some y) : (addsZ xs ys q)[k]? = some ((x + y * q) % 1019) := by simp [addsZ, List.getElem?_zipWith, hx, hy]

set_option maxHeartbeats 1000000 in
theorem addsS (v u : Value) (q : Int) (xs ys : List Int) (w : World) (hv : RI w v xs) (hu : RI w u ys) (hp : pairB xs ys = true) (hq : elB q = true) :
    Calls Try.prog 78 #[v, u, .int .i64 q] w fun e w' => ∃ r, e = .returned r ∧ OI w' w.heap.size r (addsZ xs ys q) ∧ Bel w w' := by
  obtain ⟨p1, p2, p3⟩ := pairB_facts hp
  have HG := Lib.hid (vecB_facts p1).1
  have HE := Lib.hid (vecB_facts p2).1
  have hn := (vecB_facts p1).2
  have HP := Lib.hid hp
  have HQ := Lib.hid hq
  have HL := Lib.hid p3
  have p4 : xs.length ≤ ys.length := by omega
  obtain ⟨A, c, rfl, h2, h3, hA⟩ := id hv
  obtain ⟨B, d, rfl, h4, h5, hB⟩ := id hu
  have Y0 : Bel w (w.alloc (.cells #[] 3)) := (Bel.refl _).alloc _
  clear hp p1 p2 p3 hq
  go_enter Try.func78, Try.ntmps78
  go_wp2_with fail
  refine (pairS _ _ xs ys _ (hv.keep Y0) (hu.keep Y0)).mono ?_
  rintro e w1 ⟨rfl, rfl⟩
  rw [HP.out]
  go_wp2_with fail
  refine (elS q _).mono ?_
  rintro e w1 ⟨rfl, rfl⟩
  rw [HQ.out]
  go_wp2
  go_loopg [7, 8] xs.length (fun f o i wr => ∃ k : Nat, k + f = xs.length ∧ i = .int .i64 k ∧ OI wr w.heap.size o ((addsZ xs ys q).take k) ∧ Bel w wr)
  case atStart => exact ⟨0, by omega, rfl, OI.empty w, Y0⟩
  case round =>
    obtain ⟨k, hk, rfl, O, Y⟩ := hrel
    have hk2 : k ≤ xs.length := by omega
    have HK := Lib.hid hk
    clear hk Y0
    by_cases hlt : k < xs.length
    · obtain ⟨b1, o1, rfl, hb1, hc1⟩ := hA (by omega)
      obtain ⟨b2, o2, rfl, hb2, hc2⟩ := hB (by omega)
      have hx : xs[k]? = some (xs[k]'hlt) := List.getElem?_eq_getElem hlt
      have hy : ys[k]? = some (ys[k]'(by omega)) := List.getElem?_eq_getElem (by omega)
      have g1 := Y.cell1 hb1 (hc1 k _ hx)
      have g2 := Y.cell1 hb2 (hc2 k _ hy)
      obtain ⟨u3, u4⟩ := mul_bd (HE.out _ (List.getElem_mem (show k < ys.length by omega))) (elB_facts HQ.out)
      obtain ⟨u5, u6⟩ := HG.out _ (List.getElem_mem hlt)
      have HS := Lib.hid (take_snoc (addsZ_at (q := q) hx hy))
      have hlen : ((addsZ xs ys q).take k).length ≤ 40 := by rw [List.length_take, addsZ_len _ _ _ HL.out]; omega
      clear hc1 hc2 hA hB hx hy
      generalize xs[k]'hlt = x at *
      generalize ys[k]'(by omega) = y at *
      have i0 : (0 : Int) ≤ (k : Int) := by omega
      have i1 : (k : Int) < (xs.length : Int) := by omega
      have i2 : (k : Int) < (ys.length : Int) := by omega
      have y2 := Y.size
      have m1 : IntKind.i64.wrap (y * q) = y * q := IntWalk.i64_in _ (by omega)
      have m2 : IntKind.i64.wrap (x + y * q) = x + y * q := IntWalk.i64_in _ (by omega)
      have m3 : (x + y * q).tmod 1019 = (x + y * q) % 1019 := Int.tmod_eq_emod_of_nonneg (by omega)
      go_wp2
      go_region_law (refine step_appI _ (by rfl) _ _ (by rfl) w.heap.size _ _ ((addsZ xs ys q).take k) [(x + y * q) % 1019] (by rfl) (by rfl) (by exact O.keep ((Bel.refl _).drew.alloc _)) (by exact RI.lit1 _ _ _) (by simp only [List.length_cons, List.length_nil]; omega) (by simp; omega) ?_; intro v2 w2 O2 hG)
      all_goals (
        have Y2 : Bel w w2 := (Y.drew.alloc _).grown hG (fun p hp => (O.block p hp).1)
        rw [← HS.out] at O2
        clear hG
        go_wp2
        go_roundg (xs.length - (k + 1))
        case measure => have := HK.out; omega
        case rel => exact ⟨k + 1, by omega, by go_num, O2, Y2⟩)
    · obtain rfl : k = xs.length := by omega
      have i1 : ¬ (xs.length : Int) < (xs.length : Int) := by omega
      have HE : Hid ((addsZ xs ys q).take xs.length = addsZ xs ys q) := Lib.hid (List.take_of_length_le (by rw [addsZ_len _ _ _ HL.out]; exact Nat.le_refl _))
      rw [HE.out] at O
      go_wp2
      go_ret
      exact ⟨_, rfl, O, Y⟩
end Go.Proofs.Ytjlcnbicehjjjaa
