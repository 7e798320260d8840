/-
  Marking slices of slices of ints (markIntSS, heldIntSS) and the structs that hold one. Condition: numbers below 2^62.
-/
import Derived.Test.YtjlcnbicehjjjaaMl
namespace Go.Proofs.Ytjlcnbicehjjjaa
open Go.ChangeShapes Go.WideShapes Go.ChangeAt Go.RowKit
set_option linter.unusedVariables false
set_option maxRecDepth 100000

/-- How many numbers a matrix holds. -/
def flN (xss : List (List Int)) : Nat := xss.flatten.length
/-- One row of an owned matrix may turn, in its own block. -/
theorem OII.upd {w : World} {lo hi : Nat} {v : Value} {xss : List (List Int)} (h : OII w lo hi v xss) {j : Nat} (hj : j < xss.length) :
    ∃ u g cap, v = .slice (some ⟨g, 0, none⟩) xss.length cap ∧ xss.length ≤ cap ∧ cap ≤ 9223372036854775807 ∧ g < w.heap.size ∧ w.cell? ⟨g, j, none⟩ = some u ∧ OIn w lo hi u (rw_ xss j) ∧ u.ownBlock ≠ some g ∧
      ∀ w1 ys, w.grownBy w1 u.ownBlock → OI w1 lo u ys → OII w1 lo hi v (xss.set j ys) := by
  obtain ⟨us, hl, ⟨hl2, ⟨rfl, h9⟩ | ⟨g, cap, cur, rfl, hb, hh, h1, h2, h3, h4⟩⟩, hq, hr, hd, hv⟩ := h
  · omega
  · have hju : j < us.length := by omega
    have hu : us[j]? = some (us[j]'hju) := List.getElem?_eq_getElem hju
    refine ⟨us[j]'hju, g, cap, rfl, h1, by unfold maxLen at h2; omega, Blk.lt hh, ?_, hr j _ _ hu (rw_get hj), fun e => hv j _ hu g e rfl, fun w1 ys hg ho => ?_⟩
    · rw [(Blk.facts hh).1 j, ← Array.getElem?_toList]
      have h5 : (cur.toList.take (xss.length * 1))[j]? = some (us[j]'hju) := by rw [h4]; exact hu
      rw [List.getElem?_take] at h5
      rwa [if_pos (by omega)] at h5
    · refine ⟨us, by simp [hl], ?_, hq, fun i y zs q1 q2 => ?_, hd, hv⟩
      · rw [List.length_set]
        exact ⟨hl2, .inr ⟨g, cap, cur, rfl, hb, (hg.block g (Blk.lt hh) (fun e => hv j _ hu g e.symm rfl)).trans hh, h1, h2, h3, h4⟩⟩
      · by_cases e : i = j
        · subst e
          rw [List.getElem?_set_self hj] at q2
          injection q2 with q2
          subst q2
          rw [hu] at q1
          injection q1 with q1
          subst q1
          exact ⟨ho, (hr i _ _ hu (rw_get hj)).2⟩
        · rw [List.getElem?_set_ne (Ne.symm e)] at q2
          have h7 := hr i y zs q1 q2
          refine ⟨h7.1.far hg ?_, h7.2⟩
          cases hy : y.ownBlock with
          | none => exact .inl rfl
          | some q => exact .inr (fun e2 => hd i j y _ e q1 hu q hy e2.symm)

def MLr (w : World) (v : Value) (xss : List (List Int)) : Prop := RII w v xss
theorem MLr.reads {w : World} {v : Value} {xss : List (List Int)} (h : MLr w v xss) : RII w v xss := h
theorem ML.locr {w : World} {lo : Nat} {v : Value} {xss : List (List Int)} (h : ML w lo v xss) (hl : lo ≤ w.heap.size) : Loc lo w.heap.size (fun u => MLr u v xss) w := h.loc hl

/-- The marks in the first j rows. -/
def mkTo (k : Int) (xss : List (List Int)) (j : Nat) : List (List Int) := xss.mapIdx fun i r => if i < j then marks (k + (sumL xss i : Int)) r.length else r
def marksM (k : Int) (xss : List (List Int)) : List (List Int) := mkTo k xss xss.length
theorem mkTo_len (k : Int) (xss : List (List Int)) (j : Nat) : (mkTo k xss j).length = xss.length := by simp [mkTo]
theorem mkTo_row {k : Int} {xss : List (List Int)} {j i : Nat} (h : i < xss.length) : rw_ (mkTo k xss j) i = if i < j then marks (k + (sumL xss i : Int)) (rw_ xss i).length else rw_ xss i := by
  apply rw_in; simp [mkTo, List.getElem?_mapIdx, rw_get h]
theorem mkTo_zero (k : Int) (xss : List (List Int)) : mkTo k xss 0 = xss := by
  apply mat_ext (mkTo_len _ _ _)
  intro i hi
  rw [mkTo_len] at hi
  rw [mkTo_row hi, if_neg (by omega)]
theorem mkTo_step {k : Int} {xss : List (List Int)} {j : Nat} (hj : j < xss.length) : mkTo k xss (j + 1) = (mkTo k xss j).set j (marks (k + (sumL xss j : Int)) (rw_ xss j).length) := by
  apply mat_ext (by rw [List.length_set, mkTo_len, mkTo_len])
  intro i hi
  rw [mkTo_len] at hi
  rw [mkTo_row hi]
  by_cases e : i = j
  · subst e
    rw [if_pos (by omega)]
    symm
    apply rw_in; rw [List.getElem?_set_self (by rw [mkTo_len]; exact hi)]
  · have : rw_ ((mkTo k xss j).set j (marks (k + (sumL xss j : Int)) (rw_ xss j).length)) i = rw_ (mkTo k xss j) i := by
      unfold rw_ List.getD; rw [List.getElem?_set_ne (Ne.symm e)]
    rw [this, mkTo_row hi]
    rcases Nat.lt_trichotomy i j with h1 | h1 | h1
    · rw [if_pos (by omega), if_pos h1]
    · omega
    · rw [if_neg (by omega), if_neg (by omega)]
theorem Mid.sizeLe {lo hi : Nat} {a b : World} (m : Mid lo hi a b) : a.heap.size ≤ b.heap.size := m.size

set_option maxHeartbeats 1000000 in
theorem markII (v : Value) (k : Int) (xss : List (List Int)) (lo hi : Nat) (w : World) (h : Loc lo hi (fun u => OII u lo hi v xss) w) (h0 : 0 ≤ k) (hk : k + flN xss ≤ 4611686018427387904) :
    Calls Try.prog 83 #[v, .int .i64 k] w fun e w' => e = .returned (.int .i64 (k + (flN xss : Nat))) ∧ Loc lo hi (fun u => OII u lo hi v (marksM k xss)) w' ∧ Mid lo hi w w' := by
  have hlo := h.1
  have hhi := h.2.1
  have HO := h.out
  obtain ⟨A, cp, ev, _, _, _⟩ := HO.reads
  subst ev
  have HS : Hid (sumL xss xss.length = flN xss) := Lib.hid (sumL_all xss)
  have HMM : Hid (marksM k xss = mkTo k xss xss.length) := rfl
  have O0 : OII w lo hi (.slice A xss.length cp) (mkTo k xss 0) := by rw [mkTo_zero]; exact HO
  clear HO h
  go_enter Try.func83, Try.ntmps83
  go_wp2
  go_loopg [1, 5] xss.length (fun f m i wr => ∃ j : Nat, j + f = xss.length ∧ i = .int .i64 j ∧ m = .int .i64 (k + (sumL xss j : Int)) ∧ OII wr lo hi (.slice A xss.length cp) (mkTo k xss j) ∧ Mid lo hi w wr)
  case atStart => exact ⟨0, by omega, rfl, by simp [sumL], O0, Mid.refl _ _ _⟩
  case round =>
    clear O0
    obtain ⟨j, hj, rfl, rfl, O, M⟩ := hrel
    have hj2 : j ≤ xss.length := by omega
    have HJ := Lib.hid hj
    clear hj
    by_cases hlt : j < xss.length
    · obtain ⟨u, g, cap, ev, k1, k2, zg, cu, Ou, hne, hup⟩ := O.upd (j := j) (by rw [mkTo_len]; exact hlt)
      injection ev with e1 e2 e3
      subst e1 e3
      clear e2
      rw [mkTo_row hlt, if_neg (by omega)] at Ou
      have HST := Lib.hid (mkTo_step (k := k) hlt)
      have hs1 := sumL_step (rw_get hlt)
      have hs2 : sumL xss (j + 1) ≤ flN xss := sumL_le xss (j + 1)
      have HS1 := Lib.hid hs1
      have hb1 : k + (sumL xss j : Int) + (rw_ xss j).length ≤ 4611686018427387904 := by omega
      have HUP := Lib.hid hup
      have hms := M.size
      clear hs1 hs2 hup k1
      have i0 : (0 : Int) ≤ (j : Int) := by omega
      have i1 : (j : Int) < (xss.length : Int) := by omega
      go_wp2_with fail
      refine (markInts u (k + (sumL xss j : Int)) (rw_ xss j) lo _ Ou.1 (by omega) hb1).mono ?_
      rintro e w1 ⟨rfl, O1, G1⟩
      have O2 := HUP.out w1 _ G1 O1
      rw [← HST.out] at O2
      have M2 := M.trans (Mid.ofGrown (lo := lo) (hi := hi) G1 (fun q hq => ⟨(Ou.1.block q hq).1, Ou.2 q hq⟩))
      clear G1 O1 cu
      go_wp2
      go_roundg (xss.length - (j + 1))
      case measure => have := HJ.out; omega
      case rel => exact ⟨j + 1, by omega, by go_num, by rw [HS1.out]; congr 1; omega, O2, M2⟩
    · obtain rfl : j = xss.length := by omega
      have i1 : ¬ (xss.length : Int) < (xss.length : Int) := by omega
      have hms := M.size
      rw [← HMM.out] at O
      go_wp2
      go_ret
      exact ⟨by rw [HS.out]; rfl, O.loc hlo (Nat.le_trans hhi hms), M⟩
set_option maxHeartbeats 1000000 in
theorem mkGen (a : Int) (v : Value) (k : Int) (xs : List (List Int)) (lo hi : Nat) (w : World) (h : Loc lo hi (fun u => OII u lo hi v xs) w) (h0 : 0 ≤ k) (hk : k + flN xs ≤ 4611686018427387904) :
    Calls Try.prog 42 #[.agg #[.int .i64 a, v], .int .i64 k] w fun e w' => e = .returned (.int .i64 (k + (flN xs : Nat))) ∧ Loc lo hi (fun u => OII u lo hi v (marksM k xs)) w' ∧ Mid lo hi w w' := by
  have Y : Bel w (w.alloc (.cells #[.int .i64 a, v] 47)) := (Bel.refl _).alloc _
  have H1 := Lib.hid (h.keep Y)
  obtain ⟨A, c, rfl, _, _, _⟩ := h.out.reads
  clear h
  go_enter Try.func42, Try.ntmps42
  go_wp2_with fail
  refine (markII _ k xs lo hi _ H1.out h0 hk).mono ?_
  rintro e w1 ⟨rfl, L1, M1⟩
  go_wp2
  go_ret
  exact ⟨rfl, L1, (Mid.ofBel Y).trans M1⟩
end Go.Proofs.Ytjlcnbicehjjjaa
