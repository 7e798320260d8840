/-
  Vectors of the reference that lie in new memory: contracts of ScaleVector, AddScaled, InverseField, l6Copy. Conditions: valid vectors and elements.
-/
import Derived.Test.YtjaagabbbnokdaaMx2
import Derived.Test.YtjaagabbbnokdaaMl
import Derived.Test.YtjaagabbbnokdaaDot
import Derived.Deep.RegionLaw
namespace Go.Proofs.Ytjaagabbbnokdaa
open Go.ChangeShapes Go.WideShapes Go.ChangeAt Go.RowKit
set_option linter.unusedVariables false
set_option maxRecDepth 100000

theorem scaleZ_at {xs : List Int} {k : Nat} {x q : Int} (hx : xs[k]? = some x) : (scaleZ xs q)[k]? = some (x * q % 1019) := by simp [scaleZ, hx]
theorem addsZ_at {xs ys : List Int} {k : Nat} {x y q : Int} (hx : xs[k]? = some x) (hy : ys[k]? = some y) : (addsZ xs ys q)[k]? = some ((x + y * q) % 1019) := by simp [addsZ, List.getElem?_zipWith, hx, hy]

set_option maxHeartbeats 1000000 in
theorem scaleS (v : Value) (q : Int) (xs : List Int) (w : World) (hv : RI w v xs) (hx : vecB xs = true) (hq : elB q = true) :
    Calls Try.prog 163 #[v, .int .i64 q] w fun e w' => ∃ r, e = .returned r ∧ OI w' w.heap.size r (scaleZ xs q) ∧ Bel w w' := by
  obtain ⟨A, c, rfl, h2, h3, hA⟩ := id hv
  have HG := Lib.hid (vecB_facts hx).1
  have hn := (vecB_facts hx).2
  have HX := Lib.hid hx
  have HQ := Lib.hid hq
  have Y0 : Bel w (w.alloc (.cells #[] 3)) := (Bel.refl _).alloc _
  clear hx hq
  go_enter Try.func163, Try.ntmps163
  go_wp2_with fail
  refine (vecS _ xs _ (hv.keep Y0)).mono ?_
  rintro e w1 ⟨rfl, rfl⟩
  rw [HX.out]
  go_wp2_with fail
  refine (elS q _).mono ?_
  rintro e w1 ⟨rfl, rfl⟩
  rw [HQ.out]
  go_wp2
  go_loopg [5, 6] xs.length (fun f o i wr => ∃ k : Nat, k + f = xs.length ∧ i = .int .i64 k ∧ OI wr w.heap.size o ((scaleZ xs q).take k) ∧ Bel w wr)
  case atStart => exact ⟨0, by omega, rfl, OI.empty w, Y0⟩
  case round =>
    obtain ⟨k, hk, rfl, O, Y⟩ := hrel
    have hk2 : k ≤ xs.length := by omega
    have HK := Lib.hid hk
    clear hk Y0
    by_cases hlt : k < xs.length
    · obtain ⟨b1, o1, rfl, hb1, hc1⟩ := hA (by omega)
      have hx : xs[k]? = some (xs[k]'hlt) := List.getElem?_eq_getElem hlt
      have g1 := Y.cell1 hb1 (hc1 k _ hx)
      obtain ⟨u3, u4⟩ := mul_bd (HG.out _ (List.getElem_mem hlt)) (elB_facts HQ.out)
      have HS := Lib.hid (take_snoc (scaleZ_at (q := q) hx))
      have hlen : ((scaleZ xs q).take k).length ≤ 40 := by rw [List.length_take, scaleZ_len]; omega
      clear hc1 hA hx
      generalize xs[k]'hlt = x at *
      have i0 : (0 : Int) ≤ (k : Int) := by omega
      have i1 : (k : Int) < (xs.length : Int) := by omega
      have y2 := Y.size
      go_wp2_with (at_builtin; refine wpList_appI _ rfl _ _ rfl w.heap.size _ _ _ [x * q % 1019] rfl rfl (O.keep ((Bel.refl _).alloc _)) (RI.lit1 _ _ _) (by simp only [List.length_cons, List.length_nil]; omega) (by simp only [World.size_alloc]; omega) ?_)
      intro v2 w2 O2 hG
      have Y2 : Bel w w2 := (Y.alloc _).grown hG (fun p hp => (O.block p hp).1)
      rw [← HS.out] at O2
      clear hG
      go_wp2
      go_roundg (xs.length - (k + 1))
      case measure => have := HK.out; omega
      case rel => exact ⟨k + 1, by omega, by go_num, O2, Y2⟩
    · obtain rfl : k = xs.length := by omega
      have i1 : ¬ (xs.length : Int) < (xs.length : Int) := by omega
      have HE : Hid ((scaleZ xs q).take xs.length = scaleZ xs q) := Lib.hid (List.take_of_length_le (by rw [scaleZ_len]; exact Nat.le_refl _))
      rw [HE.out] at O
      go_wp2
      go_ret
      exact ⟨_, rfl, O, Y⟩
set_option maxHeartbeats 1000000 in
theorem addsS (v u : Value) (q : Int) (xs ys : List Int) (w : World) (hv : RI w v xs) (hu : RI w u ys) (hp : pairB xs ys = true) (hq : elB q = true) :
    Calls Try.prog 129 #[v, u, .int .i64 q] w fun e w' => ∃ r, e = .returned r ∧ OI w' w.heap.size r (addsZ xs ys q) ∧ Bel w w' := by
  obtain ⟨p1, p2, p3⟩ := pairB_facts hp
  have HG := Lib.hid (vecB_facts p1).1
  have HE := Lib.hid (vecB_facts p2).1
  have hn := (vecB_facts p1).2
  have HP := Lib.hid hp
  have HQ := Lib.hid hq
  have HL := Lib.hid p3
  have p4 : xs.length ≤ ys.length := by omega
  obtain ⟨A, c, rfl, h2, h3, hA⟩ := id hv
  obtain ⟨B, d, rfl, h4, h5, hB⟩ := id hu
  have Y0 : Bel w (w.alloc (.cells #[] 3)) := (Bel.refl _).alloc _
  clear hp p1 p2 p3 hq
  go_enter Try.func129, Try.ntmps129
  go_wp2_with fail
  refine (pairS _ _ xs ys _ (hv.keep Y0) (hu.keep Y0)).mono ?_
  rintro e w1 ⟨rfl, rfl⟩
  rw [HP.out]
  go_wp2_with fail
  refine (elS q _).mono ?_
  rintro e w1 ⟨rfl, rfl⟩
  rw [HQ.out]
  go_wp2
  go_loopg [7, 8] xs.length (fun f o i wr => ∃ k : Nat, k + f = xs.length ∧ i = .int .i64 k ∧ OI wr w.heap.size o ((addsZ xs ys q).take k) ∧ Bel w wr)
  case atStart => exact ⟨0, by omega, rfl, OI.empty w, Y0⟩
  case round =>
    obtain ⟨k, hk, rfl, O, Y⟩ := hrel
    have hk2 : k ≤ xs.length := by omega
    have HK := Lib.hid hk
    clear hk Y0
    by_cases hlt : k < xs.length
    · obtain ⟨b1, o1, rfl, hb1, hc1⟩ := hA (by omega)
      obtain ⟨b2, o2, rfl, hb2, hc2⟩ := hB (by omega)
      have hx : xs[k]? = some (xs[k]'hlt) := List.getElem?_eq_getElem hlt
      have hy : ys[k]? = some (ys[k]'(by omega)) := List.getElem?_eq_getElem (by omega)
      have g1 := Y.cell1 hb1 (hc1 k _ hx)
      have g2 := Y.cell1 hb2 (hc2 k _ hy)
      obtain ⟨u3, u4⟩ := mul_bd (HE.out _ (List.getElem_mem (show k < ys.length by omega))) (elB_facts HQ.out)
      obtain ⟨u5, u6⟩ := HG.out _ (List.getElem_mem hlt)
      have HS := Lib.hid (take_snoc (addsZ_at (q := q) hx hy))
      have hlen : ((addsZ xs ys q).take k).length ≤ 40 := by rw [List.length_take, addsZ_len _ _ _ HL.out]; omega
      clear hc1 hc2 hA hB hx hy
      generalize xs[k]'hlt = x at *
      generalize ys[k]'(by omega) = y at *
      have i0 : (0 : Int) ≤ (k : Int) := by omega
      have i1 : (k : Int) < (xs.length : Int) := by omega
      have i2 : (k : Int) < (ys.length : Int) := by omega
      have y2 := Y.size
      have m1 : IntKind.i64.wrap (y * q) = y * q := IntWalk.i64_in _ (by omega)
      have m2 : IntKind.i64.wrap (x + y * q) = x + y * q := IntWalk.i64_in _ (by omega)
      have m3 : (x + y * q).tmod 1019 = (x + y * q) % 1019 := Int.tmod_eq_emod_of_nonneg (by omega)
      go_wp2
      go_region_law (refine step_appI _ (by rfl) _ _ (by rfl) w.heap.size _ _ ((addsZ xs ys q).take k) [(x + y * q) % 1019] (by rfl) (by rfl) (by exact O.keep ((Bel.refl _).drew.alloc _)) (by exact RI.lit1 _ _ _) (by simp only [List.length_cons, List.length_nil]; omega) (by simp; omega) ?_; intro v2 w2 O2 hG)
      all_goals (
        have Y2 : Bel w w2 := (Y.drew.alloc _).grown hG (fun p hp => (O.block p hp).1)
        rw [← HS.out] at O2
        clear hG
        go_wp2
        go_roundg (xs.length - (k + 1))
        case measure => have := HK.out; omega
        case rel => exact ⟨k + 1, by omega, by go_num, O2, Y2⟩)
    · obtain rfl : k = xs.length := by omega
      have i1 : ¬ (xs.length : Int) < (xs.length : Int) := by omega
      have HE : Hid ((addsZ xs ys q).take xs.length = addsZ xs ys q) := Lib.hid (List.take_of_length_le (by rw [addsZ_len _ _ _ HL.out]; exact Nat.le_refl _))
      rw [HE.out] at O
      go_wp2
      go_ret
      exact ⟨_, rfl, O, Y⟩
theorem invS (a : Int) (w : World) (h : elB a = true) (h0 : a ≠ 0) : Calls Try.prog 164 #[.int .i64 a] w fun e w' => e = .returned (.int .i64 (invZ a)) ∧ w = w' := by
  have hz : (a == 0) = false := beq_eq_false_iff_ne.2 h0
  obtain ⟨b1, b2⟩ := elB_facts h
  have HE : Hid (invZ a = a ^ (1017 : Int).toNat % 1019) := Lib.hid rfl
  generalize invZ a = z at *
  have HH := Lib.hid h
  clear h h0
  go_enter Try.func164, Try.ntmps164
  go_wp2_with fail
  refine (elS a _).mono ?_
  rintro e w1 ⟨rfl, rfl⟩
  rw [HH.out]
  go_wp2_with fail
  refine (powS a 1017 1019 _ b1 (by omega) (by omega) (by omega) (by omega)).mono ?_
  rintro e w1 ⟨rfl, rfl⟩
  rw [← HE.out]
  go_wp2
  go_ret
  exact ⟨rfl, rfl⟩
set_option maxHeartbeats 1000000 in
theorem copyS (v : Value) (xss : List (List Int)) (w : World) (hv : RII w v xss) (hn : xss.length ≤ 1048576) (hr : ∀ xs ∈ xss, xs.length ≤ 1048576) :
    Calls Try.prog 149 #[v] w fun e w' => ∃ r, e = .returned r ∧ ML w' w.heap.size r xss ∧ Bel w w' := by
  obtain ⟨A, c, rfl, h2, h3, hA⟩ := id hv
  have HN := Lib.hid hr
  clear hr
  have Y0 : Bel w (w.alloc (.cells #[] 59)) := (Bel.refl _).alloc _
  go_enter Try.func149, Try.ntmps149
  go_wp2
  go_loopg [3, 4] xss.length (fun f o i wr => ∃ k : Nat, k + f = xss.length ∧ i = .int .i64 k ∧ ML wr w.heap.size o (xss.take k) ∧ Bel w wr)
  case atStart => exact ⟨0, by omega, rfl, ML.empty w, Y0⟩
  case round =>
    obtain ⟨k, hk, rfl, O, Y⟩ := hrel
    have hk2 : k ≤ xss.length := by omega
    have HK := Lib.hid hk
    clear hk Y0
    by_cases hlt : k < xss.length
    · obtain ⟨b1, o1, rfl, z1, hc1⟩ := hA (by omega)
      have hx : xss[k]? = some (xss[k]'hlt) := List.getElem?_eq_getElem hlt
      obtain ⟨u, g1, ru⟩ := hc1 k _ hx
      have HS := Lib.hid (take_snoc hx)
      have hlen : (xss.take k).length ≤ 1048576 := by rw [List.length_take]; omega
      have hln := HN.out _ (List.mem_of_getElem? hx)
      clear hc1 hA hx
      generalize xss[k]'hlt = xs at *
      replace g1 := (Y.alloc (.cells #[] 3)).cell1 z1 g1
      have ru1 := (ru.keep Y).keep ((Bel.refl wr).alloc (.cells #[] 3))
      have i0 : (0 : Int) ≤ (k : Int) := by omega
      have i1 : (k : Int) < (xss.length : Int) := by omega
      have y2 := Y.size
      go_wp2_with (at_builtin; refine wpList_appI _ rfl _ _ rfl wr.heap.size _ _ [] xs rfl rfl (OI.empty wr) ru1 (by simp only [List.length_nil]; omega) (by simp only [World.size_alloc]; omega) ?_)
      intro v2 w2 O2 hG
      have hbs : Bel wr w2 := ((Bel.refl wr).alloc _).grown hG (fun p hp => ((OI.empty wr).block p hp).1)
      have y3 := hbs.size
      have O3 := (O.keep hbs).keep ((Bel.refl w2).alloc (.cells #[v2] 59))
      have rx : RIx (w2.alloc (.cells #[v2] 59)) w.heap.size u3.ownBlock v2 xs := ((O2.low y2).keep ((Bel.refl w2).alloc _)).rx (fun p hp e => by have := (O2.block p hp).1; have := (O.block p e).2; omega)
      obtain ⟨A2, c2, e2, _, _, _⟩ := O2.reads
      subst e2
      clear g1 hG
      go_wp2_with (at_builtin; refine wpList_appR _ rfl _ _ rfl w.heap.size _ _ _ (xss.take k) xs rfl rfl O3 ((Blk.new w2 59 _).facts.1 0) rfl rx (by omega) (by simp only [World.size_alloc]; omega) ?_)
      intro v4 w4 O4 hG4 ho4
      have Y4 : Bel w w4 := ((Y.trans hbs).alloc _).grown hG4 (fun p hp => (O.block p hp).1)
      rw [← HS.out] at O4
      clear hG4 ho4
      go_wp2
      go_roundg (xss.length - (k + 1))
      case measure => have := HK.out; omega
      case rel => exact ⟨k + 1, by omega, by go_num, O4, Y4⟩
    · obtain rfl : k = xss.length := by omega
      have i1 : ¬ (xss.length : Int) < (xss.length : Int) := by omega
      rw [List.take_length] at O
      go_wp2
      go_ret
      exact ⟨_, rfl, O, Y⟩
end Go.Proofs.Ytjaagabbbnokdaa
