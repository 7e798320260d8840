/-
  IsValidGeneration, of the program and of the reference: contracts. No condition.
-/
import Derived.Test.YtjlcnbicehjjjaaMx1
import Derived.Test.YtjlcnbicehjjjaaMani2
namespace Go.Proofs.Ytjlcnbicehjjjaa
open Go.ChangeShapes Go.WideShapes Go.ChangeAt Go.RowKit
set_option linter.unusedVariables false
set_option maxRecDepth 100000

def gnrB (a : Int) (m : List (List Int)) : Bool := inB a 0 1000000000000 && inB (m.length : Int) 1 8 && m.all (mrowB (colN m)) && inB (colN m : Int) 1 16
theorem gnrB_facts {a : Int} {m : List (List Int)} (h : gnrB a m = true) : (0 ≤ a ∧ a ≤ 1000000000000) ∧ (1 ≤ m.length ∧ m.length ≤ 8) ∧ (1 ≤ colN m ∧ colN m ≤ 16) ∧ Mtx (colN m) m ∧ m.all (mrowB (colN m)) = true := by
  unfold gnrB at h
  rw [Bool.and_eq_true, Bool.and_eq_true, Bool.and_eq_true] at h
  obtain ⟨⟨⟨h1, h2⟩, h3⟩, h4⟩ := h
  have h5 := inB_facts h1
  have h6 := inB_facts h2
  have h7 := inB_facts h4
  refine ⟨h5, by omega, by omega, fun r hr => ?_, h3⟩
  have h8 := List.all_eq_true.1 h3 r hr
  unfold mrowB at h8
  rw [Bool.and_eq_true] at h8
  exact ⟨by have := h8.2; simp at this; omega, (vecB_facts h8.1).1⟩
theorem gnrB_no {a : Int} {m : List (List Int)} (h : m.all (mrowB (colN m)) = false) : gnrB a m = false := by unfold gnrB; rw [h]; simp
theorem gnrB_mtx (a : Int) (m : List (List Int)) : gnrB a m = (inB a 0 1000000000000 && inB (m.length : Int) 1 8 && mtxB m && inB (colN m : Int) 1 16) := by
  unfold gnrB mtxB
  cases h : inB (m.length : Int) 1 8
  · simp
  · have := inB_facts h
    rw [show decide (m.length ≤ 40) = true from decide_eq_true (by omega)]
    simp
set_option maxHeartbeats 400000 in
theorem symwI (a : Int) (v : Value) (m : List (List Int)) (w : World) (hv : RII w v m) :
    Calls Try.prog 74 #[.agg #[.int .i64 a, v]] w fun e w' => e = .returned (.int .i64 (colN m : Int)) ∧ Bel w w' := by
  have Y : Bel w (w.alloc (.cells #[.int .i64 a, v] 47)) := (Bel.refl _).alloc _
  go_enter Try.func74, Try.ntmps74
  go_wp2_with fail
  refine (colI _ m _ (hv.keep Y)).mono ?_
  rintro e w1 ⟨rfl, rfl⟩
  go_wp2
  go_ret
  exact ⟨rfl, Y⟩
set_option maxHeartbeats 1000000 in
theorem gnrI (a : Int) (v : Value) (m : List (List Int)) (w : World) (hv : RII w v m) :
    Calls Try.prog 73 #[.agg #[.int .i64 a, v]] w fun e w' => e = .returned (.bool (gnrB a m)) ∧ Bel w w' := by
  have HM : Hid (gnrB a m = (inB a 0 1000000000000 && inB (m.length : Int) 1 8 && m.all (mrowB (colN m)) && inB (colN m : Int) 1 16)) := rfl
  obtain ⟨A, c, rfl, h2, h3, hA⟩ := id hv
  have X := Blk.new w 47 #[.int .i64 a, .slice A m.length c]
  have Y : Bel w (w.alloc (.cells #[.int .i64 a, .slice A m.length c] 47)) := (Bel.refl _).alloc _
  obtain ⟨cc, _, zx⟩ := X.facts
  go_enter Try.func73, Try.ntmps73
  go_wp2_with fail
  refine (inRB a 0 1000000000000 _).mono ?_
  rintro e w1 ⟨rfl, rfl⟩
  cases q1 : inB a 0 1000000000000
  · go_wp2
    go_ret
    exact ⟨by rw [HM.out, q1]; rfl, Y⟩
  go_wp2_with fail
  refine (inRB (m.length : Int) 1 8 _).mono ?_
  rintro e w1 ⟨rfl, rfl⟩
  cases q2 : inB (m.length : Int) 1 8
  · go_wp2
    go_ret
    exact ⟨by rw [HM.out, q1, q2]; rfl, Y⟩
  have HM2 : Hid (gnrB a m = (m.all (mrowB (colN m)) && inB (colN m : Int) 1 16)) := Lib.hid (by rw [HM.out, q1, q2]; simp)
  clear q1 q2 HM
  go_wp2
  clear cc
  go_loopg [19] m.length (fun f i wr => ∃ k : Nat, k + f = m.length ∧ i = .int .i64 k ∧ Blk wr w.heap.size 47 #[.int .i64 a, .slice A m.length c] ∧ Bel w wr ∧ Hid ((m.take k).all (mrowB (colN m)) = true))
  case atStart => exact ⟨0, by omega, rfl, X, Y, by show _ = _; simp⟩
  case round =>
    clear X Y
    obtain ⟨k, hk, rfl, X, Y, HB⟩ := hrel
    have hk2 : k ≤ m.length := by omega
    have HK := Lib.hid hk
    clear hk
    obtain ⟨cc, _, zx⟩ := X.facts
    by_cases hlt : k < m.length
    · obtain ⟨b1, o1, rfl, z1, hc1⟩ := hA (by omega)
      have hx : Hid (m[k]? = some (m[k]'hlt)) := List.getElem?_eq_getElem hlt
      have h0 : 0 < m.length := by omega
      obtain ⟨u, g1, ru⟩ := hc1 k _ hx.out
      obtain ⟨u0, g0, r0⟩ := hc1 0 _ (List.getElem?_eq_getElem h0)
      have e0 := colN_at (List.getElem?_eq_getElem h0)
      rw [Nat.add_zero] at g0
      obtain ⟨A0, c0, rfl, _, _, _⟩ := r0
      rw [e0] at g0
      replace g1 := Y.cell1 z1 g1
      replace g0 := Y.cell1 z1 g0
      replace ru := ru.keep Y
      clear e0 hc1 hA
      generalize m[k]'hlt = xs at *
      obtain ⟨Au, cu, rfl, _, _, _⟩ := id ru
      have i0 : (0 : Int) ≤ (k : Int) := by omega
      have i1 : (k : Int) < (m.length : Int) := by omega
      have i2 : (0 : Int) < (m.length : Int) := by omega
      go_wp2_with fail
      refine (vecI _ xs _ ru).mono ?_
      rintro e w1 ⟨rfl, rfl⟩
      cases q1 : vecB xs
      · have HF := Lib.hid (gnrB_no (a := a) (all_fail (p := mrowB (colN m)) hx.out (by unfold mrowB; rw [q1]; rfl)))
        clear q1
        go_wp2
        go_ret
        exact ⟨by rw [HF.out]; rfl, Y⟩
      · cases q2 : ((xs.length : Int) == (colN m : Int))
        · have HF := Lib.hid (gnrB_no (a := a) (all_fail (p := mrowB (colN m)) hx.out (by unfold mrowB; rw [q1, q2]; rfl)))
          have q3 : ((xs.length : Int) != (colN m : Int)) = true := by simp only [bne, q2]; rfl
          clear q1 q2
          go_wp2
          go_ret
          exact ⟨by rw [HF.out]; rfl, Y⟩
        · have HF := Lib.hid (all_step (p := mrowB (colN m)) hx.out HB.out (by unfold mrowB; rw [q1, q2]; rfl))
          have q3 : ((xs.length : Int) != (colN m : Int)) = false := by simp only [bne, q2]; rfl
          clear q1 q2
          go_wp2
          go_roundg (m.length - (k + 1))
          case measure => have := HK.out; omega
          case rel => exact ⟨k + 1, by omega, by go_num, X, Y, HF⟩
    · obtain rfl : k = m.length := by omega
      have i1 : ¬ (m.length : Int) < (m.length : Int) := by omega
      have HF : Hid (gnrB a m = inB (colN m : Int) 1 16) := Lib.hid (by rw [HM2.out, all_end HB.out]; simp)
      go_wp2_with fail
      refine (symwI a _ m _ (hv.keep Y)).mono ?_
      rintro e w1 ⟨rfl, hb1⟩
      go_wp2_with fail
      refine (inRB (colN m : Int) 1 16 _).mono ?_
      rintro e w2 ⟨rfl, rfl⟩
      go_wp2
      go_ret
      exact ⟨by rw [HF.out]; rfl, Y.trans hb1⟩
set_option maxHeartbeats 1000000 in
theorem gnrS (a : Int) (v : Value) (m : List (List Int)) (w : World) (hv : RII w v m) :
    Calls Try.prog 76 #[.agg #[.int .i64 a, v]] w fun e w' => e = .returned (.bool (gnrB a m)) ∧ Bel w w' := by
  have HM := Lib.hid (gnrB_mtx a m)
  obtain ⟨A, c, rfl, h2, h3, hA⟩ := id hv
  have X := Blk.new w 47 #[.int .i64 a, .slice A m.length c]
  have Y : Bel w (w.alloc (.cells #[.int .i64 a, .slice A m.length c] 47)) := (Bel.refl _).alloc _
  obtain ⟨cc, _, zx⟩ := X.facts
  go_enter Try.func76, Try.ntmps76
  go_wp2_with fail
  refine (l1InB a 0 1000000000000 _).mono ?_
  rintro e w1 ⟨rfl, rfl⟩
  cases q1 : inB a 0 1000000000000
  · go_wp2
    go_ret
    exact ⟨by rw [HM.out, q1]; rfl, Y⟩
  go_wp2_with fail
  refine (l1InB (m.length : Int) 1 8 _).mono ?_
  rintro e w1 ⟨rfl, rfl⟩
  cases q2 : inB (m.length : Int) 1 8
  · go_wp2
    go_ret
    exact ⟨by rw [HM.out, q1, q2]; rfl, Y⟩
  go_wp2_with fail
  refine (mtxS _ m _ (hv.keep Y)).mono ?_
  rintro e w1 ⟨rfl, hb1⟩
  have X1 := hb1.keep X
  have Y1 := Y.trans hb1
  clear cc
  obtain ⟨cc, _, zx1⟩ := X1.facts
  cases q3 : mtxB m
  · go_wp2
    go_ret
    exact ⟨by rw [HM.out, q1, q2, q3]; rfl, Y1⟩
  go_wp2_with fail
  refine (colS _ m _ (hv.keep Y1)).mono ?_
  rintro e w2 ⟨rfl, rfl⟩
  go_wp2_with fail
  refine (l1InB (colN m : Int) 1 16 _).mono ?_
  rintro e w2 ⟨rfl, rfl⟩
  go_wp2
  go_ret
  exact ⟨by rw [HM.out, q1, q2, q3]; rfl, Y1⟩
end Go.Proofs.Ytjlcnbicehjjjaa
