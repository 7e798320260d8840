/-
  Reading matrices: contracts of IsValidMatrix, ColumnsOf, LeadingIndex of the program and of the reference. No condition.
-/
import Derived.Test.YtjaagabbbnokdaaMat3
import Derived.Test.YtjaagabbbnokdaaVec
import Derived.Test.YtjaagabbbnokdaaLin3
namespace Go.Proofs.Ytjaagabbbnokdaa
open Go.ChangeShapes Go.WideShapes Go.ChangeAt Go.RowKit
set_option linter.unusedVariables false
set_option maxRecDepth 100000

def colN (m : List (List Int)) : Nat := (rw_ m 0).length
def mrowB (c : Nat) (r : List Int) : Bool := vecB r && ((r.length : Int) == (c : Int))
def mtxB (m : List (List Int)) : Bool := m.all (mrowB (colN m)) && decide (m.length ≤ 40)
theorem mtxB_no {m : List (List Int)} (h : m.all (mrowB (colN m)) = false) : mtxB m = false := by unfold mtxB; rw [h]; rfl
theorem mtxB_all {m : List (List Int)} (h : m.all (mrowB (colN m)) = true) : mtxB m = decide (m.length ≤ 40) := by unfold mtxB; rw [h]; rfl
theorem colN_at {m : List (List Int)} {r : List Int} (h : m[0]? = some r) : r.length = colN m := by unfold colN; rw [rw_in h]
theorem vecB_row {r : List Int} (h : vecB r = true) : Row r.length r := ⟨rfl, (vecB_facts h).1⟩
theorem row_vecB {c : Nat} {r : List Int} (h : Row c r) (hc : c ≤ 40) : vecB r = true := by
  unfold vecB
  rw [Bool.and_eq_true, decide_eq_true_eq, List.all_eq_true]
  exact ⟨fun x hx => elB_yes (h.2 x hx), by rw [h.1]; exact hc⟩
theorem mtxB_facts {m : List (List Int)} (h : mtxB m = true) : Mtx (colN m) m ∧ m.length ≤ 40 ∧ colN m ≤ 40 := by
  unfold mtxB at h
  rw [Bool.and_eq_true, decide_eq_true_eq, List.all_eq_true] at h
  have hr : ∀ r ∈ m, vecB r = true ∧ r.length = colN m := by
    intro r hr
    have := h.1 r hr
    unfold mrowB at this
    rw [Bool.and_eq_true, beq_iff_eq] at this
    exact ⟨this.1, by omega⟩
  refine ⟨fun r hm => ?_, h.2, ?_⟩
  · have := vecB_row (hr r hm).1
    rwa [(hr r hm).2] at this
  · cases m with
    | nil => exact Nat.zero_le _
    | cons r m =>
      have := (vecB_facts (hr r List.mem_cons_self).1).2
      have := (hr r List.mem_cons_self).2
      omega
theorem mtxB_yes {c : Nat} {m : List (List Int)} (h : Mtx c m) (h1 : m.length ≤ 40) (hc : c ≤ 40) : mtxB m = true := by
  unfold mtxB
  rw [Bool.and_eq_true, decide_eq_true_eq, List.all_eq_true]
  refine ⟨fun r hr => ?_, h1⟩
  unfold mrowB
  rw [Bool.and_eq_true, beq_iff_eq]
  refine ⟨row_vecB (h r hr) hc, ?_⟩
  cases m with
  | nil => cases hr
  | cons q m =>
    have e1 := (h r hr).1
    have e2 := (h q List.mem_cons_self).1
    have e3 : colN (q :: m) = q.length := rfl
    omega
def leadV (r : List Int) : Int := if lead r < r.length then (lead r : Int) else -1
theorem leadV_hit {xs : List Int} {k : Nat} {x : Int} (hx : xs[k]? = some x) (hne : (x != 0) = true) (hb : ∀ j, j < k → ent xs j = 0) : leadV xs = (k : Int) := by
  have h1 : ent xs k ≠ 0 := by rw [ent_in hx]; simpa using hne
  have h2 := lead_eq h1 hb
  have h3 := (List.getElem?_eq_some_iff.1 hx).1
  unfold leadV
  rw [h2, if_pos h3]
theorem leadV_none {xs : List Int} (hb : ∀ j, j < xs.length → ent xs j = 0) : leadV xs = -1 := by
  unfold leadV
  split
  · rename_i h; exact absurd (hb _ h) (lead_hit h)
  · rfl
theorem leadV_yes {xs : List Int} (h : lead xs < xs.length) : leadV xs = (lead xs : Int) := by unfold leadV; rw [if_pos h]
theorem leadV_no {xs : List Int} (h : ¬ lead xs < xs.length) : leadV xs = -1 := by unfold leadV; rw [if_neg h]

set_option maxHeartbeats 1000000 in
theorem mtxI (v : Value) (xss : List (List Int)) (w : World) (hv : RII w v xss) :
    Calls Try.prog 169 #[v] w fun e w' => e = .returned (.bool (mtxB xss)) ∧ w = w' := by
  obtain ⟨A, c, rfl, h2, h3, hA⟩ := hv
  go_enter Try.func169, Try.ntmps169
  go_wp2
  go_loopg [7] xss.length (fun f i wr => ∃ k : Nat, k + f = xss.length ∧ i = .int .i64 k ∧ w = wr ∧ Hid ((xss.take k).all (mrowB (colN xss)) = true))
  case atStart => exact ⟨0, by omega, rfl, rfl, by show _ = _; simp⟩
  case round =>
    obtain ⟨k, hk, rfl, rfl, HK⟩ := hrel
    have hk2 : k ≤ xss.length := by omega
    have HG := Lib.hid hk
    clear hk
    by_cases hlt : k < xss.length
    · obtain ⟨b1, o1, rfl, z1, hc1⟩ := hA (by omega)
      have hx : Hid (xss[k]? = some (xss[k]'hlt)) := List.getElem?_eq_getElem hlt
      have h0 : 0 < xss.length := by omega
      obtain ⟨u, g1, ru⟩ := hc1 k _ hx.out
      obtain ⟨u0, g0, r0⟩ := hc1 0 _ (List.getElem?_eq_getElem h0)
      have e0 := colN_at (List.getElem?_eq_getElem h0)
      rw [Nat.add_zero] at g0
      obtain ⟨A0, c0, rfl, _, _, _⟩ := r0
      rw [e0] at g0
      clear e0 hc1 hA
      generalize xss[k]'hlt = xs at *
      obtain ⟨Au, cu, rfl, _, _, _⟩ := id ru
      have i0 : (0 : Int) ≤ (k : Int) := by omega
      have i1 : (k : Int) < (xss.length : Int) := by omega
      have i2 : (0 : Int) < (xss.length : Int) := by omega
      go_wp2_with fail
      refine (vecI _ xs _ ru).mono ?_
      rintro e w1 ⟨rfl, rfl⟩
      cases q1 : vecB xs
      · have HF := Lib.hid (mtxB_no (all_fail (p := mrowB (colN xss)) hx.out (by unfold mrowB; rw [q1]; rfl)))
        clear q1
        go_wp2
        go_ret
        exact ⟨by rw [HF.out]; rfl, rfl⟩
      · cases q2 : ((xs.length : Int) == (colN xss : Int))
        · have HF := Lib.hid (mtxB_no (all_fail (p := mrowB (colN xss)) hx.out (by unfold mrowB; rw [q1, q2]; rfl)))
          have q3 : ((xs.length : Int) != (colN xss : Int)) = true := by simp only [bne, q2]; rfl
          clear q1 q2
          go_wp2
          go_ret
          exact ⟨by rw [HF.out]; rfl, rfl⟩
        · have HF := Lib.hid (all_step (p := mrowB (colN xss)) hx.out HK.out (by unfold mrowB; rw [q1, q2]; rfl))
          have q3 : ((xs.length : Int) != (colN xss : Int)) = false := by simp only [bne, q2]; rfl
          clear q1 q2
          go_wp2
          go_roundg (xss.length - (k + 1))
          case measure => have := HG.out; omega
          case rel => exact ⟨k + 1, by omega, by go_num, rfl, HF⟩
    · obtain rfl : k = xss.length := by omega
      have i1 : ¬ (xss.length : Int) < (xss.length : Int) := by omega
      have HF := Lib.hid (mtxB_all (all_end HK.out))
      go_wp2
      go_ret
      exact ⟨by rw [HF.out]; simp; omega, rfl⟩
set_option maxHeartbeats 1000000 in
theorem mtxS (v : Value) (xss : List (List Int)) (w : World) (hv : RII w v xss) :
    Calls Try.prog 109 #[v] w fun e w' => e = .returned (.bool (mtxB xss)) ∧ Bel w w' := by
  obtain ⟨A, c, rfl, h2, h3, hA⟩ := hv
  go_enter Try.func109, Try.ntmps109
  go_wp2
  go_loopg [3] xss.length (fun f i wr => ∃ k : Nat, k + f = xss.length ∧ i = .int .i64 k ∧ Bel w wr ∧ Hid ((xss.take k).all (mrowB (colN xss)) = true))
  case atStart => exact ⟨0, by omega, rfl, Bel.refl _, by show _ = _; simp⟩
  case round =>
    obtain ⟨k, hk, rfl, Y, HK⟩ := hrel
    have hk2 : k ≤ xss.length := by omega
    have HG := Lib.hid hk
    clear hk
    by_cases hlt : k < xss.length
    · obtain ⟨b1, o1, rfl, z1, hc1⟩ := hA (by omega)
      have hx : Hid (xss[k]? = some (xss[k]'hlt)) := List.getElem?_eq_getElem hlt
      have h0 : 0 < xss.length := by omega
      obtain ⟨u, g1, ru⟩ := hc1 k _ hx.out
      obtain ⟨u0, g0, r0⟩ := hc1 0 _ (List.getElem?_eq_getElem h0)
      have e0 := colN_at (List.getElem?_eq_getElem h0)
      rw [Nat.add_zero] at g0
      obtain ⟨A0, c0, rfl, _, _, _⟩ := r0
      rw [e0] at g0
      clear e0 hc1 hA
      generalize xss[k]'hlt = xs at *
      obtain ⟨Au, cu, rfl, _, _, _⟩ := id ru
      have i0 : (0 : Int) ≤ (k : Int) := by omega
      have i1 : (k : Int) < (xss.length : Int) := by omega
      have i2 : (0 : Int) < (xss.length : Int) := by omega
      replace g1 := Y.cell1 z1 g1
      replace g0 := Y.cell1 z1 g0
      have zz := Nat.lt_of_lt_of_le z1 Y.size
      have qq1 := Bw.cell g1 zz
      have qq2 := Bw.cell g0 zz
      have VC := Lib.hid (fun (W : World) (h : Bel wr W) => vecS _ xs W ((ru.keep Y).keep h))
      cases q1 : vecB xs
      · have HF := Lib.hid (mtxB_no (all_fail (p := mrowB (colN xss)) hx.out (by unfold mrowB; rw [q1]; rfl)))
        rw [q1] at VC
        clear q1
        go_wp2
        refine wp_region_bel (by kernel_rfl) (by kernel_rfl) ?_
        repeat (first | go_big_quiet_step (first | (go_at_call 97; exact belQ_same (VC.out _ (Bw.bel _)))) | quiet_step (first | (go_at_call 97; exact belQ_same (VC.out _ (Bw.bel _)))))
        refine wpQuiet_nil ?_
        rintro _ ⟨⟨w3, hb3⟩, rfl⟩
        clear qq1 qq2
        go_wp2
        go_ret
        exact ⟨by rw [HF.out]; rfl, Y.trans hb3⟩
      · rw [q1] at VC
        cases q2 : ((xs.length : Int) == (colN xss : Int))
        · have HF := Lib.hid (mtxB_no (all_fail (p := mrowB (colN xss)) hx.out (by unfold mrowB; rw [q1, q2]; rfl)))
          have q3 : ((xs.length : Int) != (colN xss : Int)) = true := by simp only [bne, q2]; rfl
          clear q1 q2
          go_wp2
          refine wp_region_bel (by kernel_rfl) (by kernel_rfl) ?_
          repeat (first | go_big_quiet_step (first | (go_at_call 97; exact belQ_same (VC.out _ (Bw.bel _)))) | quiet_step (first | (go_at_call 97; exact belQ_same (VC.out _ (Bw.bel _)))))
          refine wpQuiet_nil ?_
          rintro _ ⟨⟨w3, hb3⟩, rfl⟩
          clear qq1 qq2
          go_wp2
          go_ret
          exact ⟨by rw [HF.out]; rfl, Y.trans hb3⟩
        · have HF := Lib.hid (all_step (p := mrowB (colN xss)) hx.out HK.out (by unfold mrowB; rw [q1, q2]; rfl))
          have q3 : ((xs.length : Int) != (colN xss : Int)) = false := by simp only [bne, q2]; rfl
          clear q1 q2
          go_wp2
          refine wp_region_bel (by kernel_rfl) (by kernel_rfl) ?_
          repeat (first | go_big_quiet_step (first | (go_at_call 97; exact belQ_same (VC.out _ (Bw.bel _)))) | quiet_step (first | (go_at_call 97; exact belQ_same (VC.out _ (Bw.bel _)))))
          refine wpQuiet_nil ?_
          rintro _ ⟨⟨w3, hb3⟩, rfl⟩
          clear qq1 qq2
          go_wp2
          go_roundg (xss.length - (k + 1))
          case measure => have := HG.out; omega
          case rel => exact ⟨k + 1, by omega, by go_num, Y.trans hb3, HF⟩
    · obtain rfl : k = xss.length := by omega
      have i1 : ¬ (xss.length : Int) < (xss.length : Int) := by omega
      have HF := Lib.hid (mtxB_all (all_end HK.out))
      go_wp2
      go_ret
      exact ⟨by rw [HF.out]; simp; omega, Y⟩
theorem colN_nil : colN [] = 0 := rfl
theorem colI (v : Value) (xss : List (List Int)) (w : World) (hv : RII w v xss) :
    Calls Try.prog 113 #[v] w fun e w' => e = .returned (.int .i64 (colN xss)) ∧ w = w' := by
  obtain ⟨A, c, rfl, h2, h3, hA⟩ := hv
  by_cases h0 : 0 < xss.length
  · obtain ⟨b1, o1, rfl, z1, hc1⟩ := hA h0
    obtain ⟨u0, g0, r0⟩ := hc1 0 _ (List.getElem?_eq_getElem h0)
    have e0 := colN_at (List.getElem?_eq_getElem h0)
    rw [Nat.add_zero] at g0
    obtain ⟨A0, c0, rfl, _, _, _⟩ := r0
    rw [e0] at g0
    clear e0 hc1 hA
    have i2 : (0 : Int) < (xss.length : Int) := by omega
    have i3 : ((xss.length : Int) == 0) = false := beq_eq_false_iff_ne.2 (by omega)
    go_enter Try.func113, Try.ntmps113
    go_wp2
    go_ret
    exact ⟨rfl, rfl⟩
  · have e : xss = [] := List.eq_nil_of_length_eq_zero (by omega)
    subst e
    clear hA
    go_enter Try.func113, Try.ntmps113
    go_wp2
    go_ret
    exact ⟨rfl, rfl⟩
theorem colS (v : Value) (xss : List (List Int)) (w : World) (hv : RII w v xss) :
    Calls Try.prog 63 #[v] w fun e w' => e = .returned (.int .i64 (colN xss)) ∧ w = w' := by
  obtain ⟨A, c, rfl, h2, h3, hA⟩ := hv
  by_cases h0 : 0 < xss.length
  · obtain ⟨b1, o1, rfl, z1, hc1⟩ := hA h0
    obtain ⟨u0, g0, r0⟩ := hc1 0 _ (List.getElem?_eq_getElem h0)
    have e0 := colN_at (List.getElem?_eq_getElem h0)
    rw [Nat.add_zero] at g0
    obtain ⟨A0, c0, rfl, _, _, _⟩ := r0
    rw [e0] at g0
    clear e0 hc1 hA
    have i2 : (0 : Int) < (xss.length : Int) := by omega
    have i3 : ((xss.length : Int) == 0) = false := beq_eq_false_iff_ne.2 (by omega)
    go_enter Try.func63, Try.ntmps63
    go_wp2
    go_ret
    exact ⟨rfl, rfl⟩
  · have e : xss = [] := List.eq_nil_of_length_eq_zero (by omega)
    subst e
    clear hA
    go_enter Try.func63, Try.ntmps63
    go_wp2
    go_ret
    exact ⟨rfl, rfl⟩
theorem zero_step {xs : List Int} {k : Nat} {x : Int} (hx : xs[k]? = some x) (h : ∀ j, j < k → ent xs j = 0) (hz : (x != 0) = false) : ∀ j, j < k + 1 → ent xs j = 0 := by
  intro j hj
  rcases Nat.lt_or_eq_of_le (Nat.le_of_lt_succ hj) with h1 | h1
  · exact h j h1
  · rw [h1, ent_in hx]; simpa using hz
set_option maxHeartbeats 400000 in
theorem leadS (v : Value) (xs : List Int) (w : World) (hv : RI w v xs) : Calls Try.prog 136 #[v] w fun e w' => e = .returned (.int .i64 (leadV xs)) ∧ w = w' := by
  obtain ⟨A, c, rfl, h2, h3, hA⟩ := hv
  go_enter Try.func136, Try.ntmps136
  go_wp2
  go_loopg [3] xs.length (fun f i wr => ∃ k : Nat, k + f = xs.length ∧ i = .int .i64 k ∧ wr = w ∧ Hid (∀ j, j < k → ent xs j = 0))
  case atStart => exact ⟨0, by omega, rfl, rfl, Lib.hid (fun j hj => by omega)⟩
  case round =>
    obtain ⟨k, hk, rfl, rfl, HK⟩ := hrel
    have hk2 : k ≤ xs.length := by omega
    have HG := Lib.hid hk
    clear hk
    by_cases hlt : k < xs.length
    · obtain ⟨b1, o1, rfl, hb1, hc1⟩ := hA (by omega)
      have g1 := hc1 k (xs[k]'hlt) (List.getElem?_eq_getElem hlt)
      clear hc1 hA
      have hx : Hid (xs[k]? = some (xs[k]'hlt)) := List.getElem?_eq_getElem hlt
      generalize xs[k]'hlt = x at *
      have i0 : (0 : Int) ≤ (k : Int) := by omega
      have i1 : (k : Int) < (xs.length : Int) := by omega
      cases he : (x != 0)
      · have HF := Lib.hid (zero_step hx.out HK.out he)
        go_wp2
        go_roundg (xs.length - (k + 1))
        case measure => have := HG.out; omega
        case rel => exact ⟨k + 1, by omega, by go_num, rfl, HF⟩
      · have HF := Lib.hid (leadV_hit hx.out he HK.out)
        go_wp2
        go_ret
        exact ⟨by rw [HF.out]; rfl, rfl⟩
    · obtain rfl : k = xs.length := by omega
      have i1 : ¬ (xs.length : Int) < (xs.length : Int) := by omega
      have HF := Lib.hid (leadV_none HK.out)
      go_wp2
      go_ret
      exact ⟨by rw [HF.out]; rfl, rfl⟩
theorem leadC (x : Int) (w : World) : Calls Try.prog 142 #[.int .i64 x] w fun e w' => e = .returned (.bool (x != 0)) ∧ w = w' := by
  go_enter Try.func142, Try.ntmps142
  go_wp2
  go_ret
  exact ⟨rfl, rfl⟩
set_option maxHeartbeats 400000 in
theorem leadF (v : Value) (xs : List Int) (w : World) (hv : RI w v xs) : Calls Try.prog 141 #[v, .func (.func 142) #[] #[]] w fun e w' => e = .returned (.int .i64 (leadV xs)) ∧ w = w' := by
  obtain ⟨A, c, rfl, h2, h3, hA⟩ := hv
  go_enter Try.func141, Try.ntmps141
  go_wp2
  go_loopg [8] xs.length (fun f i wr => ∃ k : Nat, k + f = xs.length ∧ i = .int .i64 k ∧ wr = w ∧ Hid (∀ j, j < k → ent xs j = 0))
  case atStart => exact ⟨0, by omega, rfl, rfl, Lib.hid (fun j hj => by omega)⟩
  case round =>
    obtain ⟨k, hk, rfl, rfl, HK⟩ := hrel
    have hk2 : k ≤ xs.length := by omega
    have HG := Lib.hid hk
    clear hk
    by_cases hlt : k < xs.length
    · obtain ⟨b1, o1, rfl, hb1, hc1⟩ := hA (by omega)
      have g1 := hc1 k (xs[k]'hlt) (List.getElem?_eq_getElem hlt)
      clear hc1 hA
      have hx : Hid (xs[k]? = some (xs[k]'hlt)) := List.getElem?_eq_getElem hlt
      generalize xs[k]'hlt = x at *
      have i0 : (0 : Int) ≤ (k : Int) := by omega
      have i1 : (k : Int) < (xs.length : Int) := by omega
      go_wp2_with fail
      refine (leadC x _).mono ?_
      rintro e w1 ⟨rfl, rfl⟩
      cases he : (x != 0)
      · have HF := Lib.hid (zero_step hx.out HK.out he)
        go_wp2
        go_roundg (xs.length - (k + 1))
        case measure => have := HG.out; omega
        case rel => exact ⟨k + 1, by omega, by go_num, rfl, HF⟩
      · have HF := Lib.hid (leadV_hit hx.out he HK.out)
        go_wp2
        go_ret
        exact ⟨by rw [HF.out]; rfl, rfl⟩
    · obtain rfl : k = xs.length := by omega
      have i1 : ¬ (xs.length : Int) < (xs.length : Int) := by omega
      have HF := Lib.hid (leadV_none HK.out)
      go_wp2
      go_ret
      exact ⟨by rw [HF.out]; rfl, rfl⟩
theorem leadI (v : Value) (xs : List Int) (w : World) (hv : RI w v xs) : Calls Try.prog 102 #[v] w fun e w' => e = .returned (.int .i64 (leadV xs)) ∧ w = w' := by
  go_enter Try.func102, Try.ntmps102
  go_wp2_with fail
  refine (leadF v xs _ hv).mono ?_
  rintro e w1 ⟨rfl, rfl⟩
  go_wp2
  go_ret
  exact ⟨rfl, rfl⟩
end Go.Proofs.Ytjaagabbbnokdaa
