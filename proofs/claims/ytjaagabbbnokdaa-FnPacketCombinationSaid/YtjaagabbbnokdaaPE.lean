/-
  IsValidGeneration, of the program and of the reference: contracts. No condition.
  Draws of generations: l10Gen: a weak contract (a valid generation that can be read). Condition: a cursor that can be read.
  l11Copy of the reference: a contract.
-/
import Derived.Test.YtjaagabbbnokdaaMx1
import Derived.Test.YtjaagabbbnokdaaMani2
import Derived.Test.YtjaagabbbnokdaaPD
import Derived.Test.YtjaagabbbnokdaaMl
import Derived.Test.YtjaagabbbnokdaaPks1
import Derived.Deep.DeepCutAuto
import Derived.Deep.CutRange
namespace Go.Proofs.Ytjaagabbbnokdaa
open Go.ChangeShapes Go.WideShapes Go.ChangeAt Go.RowKit
set_option linter.unusedVariables false
set_option maxRecDepth 100000

def gnrB (a : Int) (m : List (List Int)) : Bool := inB a 0 1000000000000 && inB (m.length : Int) 1 8 && m.all (mrowB (colN m)) && inB (colN m : Int) 1 16
theorem gnrB_facts {a : Int} {m : List (List Int)} (h : gnrB a m = true) : (0 ≤ a ∧ a ≤ 1000000000000) ∧ (1 ≤ m.length ∧ m.length ≤ 8) ∧ (1 ≤ colN m ∧ colN m ≤ 16) ∧ Mtx (colN m) m ∧ m.all (mrowB (colN m)) = true := by
  unfold gnrB at h
  rw [Bool.and_eq_true, Bool.and_eq_true, Bool.and_eq_true] at h
  obtain ⟨⟨⟨h1, h2⟩, h3⟩, h4⟩ := h
  have h5 := inB_facts h1
  have h6 := inB_facts h2
  have h7 := inB_facts h4
  refine ⟨h5, by omega, by omega, fun r hr => ?_, h3⟩
  have h8 := List.all_eq_true.1 h3 r hr
  unfold mrowB at h8
  rw [Bool.and_eq_true] at h8
  exact ⟨by have := h8.2; simp at this; omega, (vecB_facts h8.1).1⟩
theorem gnrB_no {a : Int} {m : List (List Int)} (h : m.all (mrowB (colN m)) = false) : gnrB a m = false := by unfold gnrB; rw [h]; simp
theorem gnrB_mtx (a : Int) (m : List (List Int)) : gnrB a m = (inB a 0 1000000000000 && inB (m.length : Int) 1 8 && mtxB m && inB (colN m : Int) 1 16) := by
  unfold gnrB mtxB
  cases h : inB (m.length : Int) 1 8
  · simp
  · have := inB_facts h
    rw [show decide (m.length ≤ 40) = true from decide_eq_true (by omega)]
    simp
set_option maxHeartbeats 400000 in
theorem symwI (a : Int) (v : Value) (m : List (List Int)) (w : World) (hv : RII w v m) :
    Calls Try.prog 66 #[.agg #[.int .i64 a, v]] w fun e w' => e = .returned (.int .i64 (colN m : Int)) ∧ Bel w w' := by
  have Y : Bel w (w.alloc (.cells #[.int .i64 a, v] 41)) := (Bel.refl _).alloc _
  go_enter Try.func66, Try.ntmps66
  go_wp2_with fail
  refine (colI _ m _ (hv.keep Y)).mono ?_
  rintro e w1 ⟨rfl, rfl⟩
  go_wp2
  go_ret
  exact ⟨rfl, Y⟩
set_option maxHeartbeats 1000000 in
theorem gnrI (a : Int) (v : Value) (m : List (List Int)) (w : World) (hv : RII w v m) :
    Calls Try.prog 65 #[.agg #[.int .i64 a, v]] w fun e w' => e = .returned (.bool (gnrB a m)) ∧ Bel w w' := by
  have HM : Hid (gnrB a m = (inB a 0 1000000000000 && inB (m.length : Int) 1 8 && m.all (mrowB (colN m)) && inB (colN m : Int) 1 16)) := rfl
  obtain ⟨A, c, rfl, h2, h3, hA⟩ := id hv
  have X := Blk.new w 41 #[.int .i64 a, .slice A m.length c]
  have Y : Bel w (w.alloc (.cells #[.int .i64 a, .slice A m.length c] 41)) := (Bel.refl _).alloc _
  obtain ⟨cc, _, zx⟩ := X.facts
  go_enter Try.func65, Try.ntmps65
  go_wp2_with fail
  refine (inRB a 0 1000000000000 _).mono ?_
  rintro e w1 ⟨rfl, rfl⟩
  cases q1 : inB a 0 1000000000000
  · go_wp2
    go_ret
    exact ⟨by rw [HM.out, q1]; rfl, Y⟩
  go_wp2_with fail
  refine (inRB (m.length : Int) 1 8 _).mono ?_
  rintro e w1 ⟨rfl, rfl⟩
  cases q2 : inB (m.length : Int) 1 8
  · go_wp2
    go_ret
    exact ⟨by rw [HM.out, q1, q2]; rfl, Y⟩
  have HM2 : Hid (gnrB a m = (m.all (mrowB (colN m)) && inB (colN m : Int) 1 16)) := Lib.hid (by rw [HM.out, q1, q2]; simp)
  clear q1 q2 HM
  go_wp2
  clear cc
  go_loopg [19] m.length (fun f i wr => ∃ k : Nat, k + f = m.length ∧ i = .int .i64 k ∧ Blk wr w.heap.size 41 #[.int .i64 a, .slice A m.length c] ∧ Bel w wr ∧ Hid ((m.take k).all (mrowB (colN m)) = true))
  case atStart => exact ⟨0, by omega, rfl, X, Y, by show _ = _; simp⟩
  case round =>
    clear X Y
    obtain ⟨k, hk, rfl, X, Y, HB⟩ := hrel
    have hk2 : k ≤ m.length := by omega
    have HK := Lib.hid hk
    clear hk
    obtain ⟨cc, _, zx⟩ := X.facts
    by_cases hlt : k < m.length
    · obtain ⟨b1, o1, rfl, z1, hc1⟩ := hA (by omega)
      have hx : Hid (m[k]? = some (m[k]'hlt)) := List.getElem?_eq_getElem hlt
      have h0 : 0 < m.length := by omega
      obtain ⟨u, g1, ru⟩ := hc1 k _ hx.out
      obtain ⟨u0, g0, r0⟩ := hc1 0 _ (List.getElem?_eq_getElem h0)
      have e0 := colN_at (List.getElem?_eq_getElem h0)
      rw [Nat.add_zero] at g0
      obtain ⟨A0, c0, rfl, _, _, _⟩ := r0
      rw [e0] at g0
      replace g1 := Y.cell1 z1 g1
      replace g0 := Y.cell1 z1 g0
      replace ru := ru.keep Y
      clear e0 hc1 hA
      generalize m[k]'hlt = xs at *
      obtain ⟨Au, cu, rfl, _, _, _⟩ := id ru
      have i0 : (0 : Int) ≤ (k : Int) := by omega
      have i1 : (k : Int) < (m.length : Int) := by omega
      have i2 : (0 : Int) < (m.length : Int) := by omega
      go_wp2_with fail
      refine (vecI _ xs _ ru).mono ?_
      rintro e w1 ⟨rfl, rfl⟩
      cases q1 : vecB xs
      · have HF := Lib.hid (gnrB_no (a := a) (all_fail (p := mrowB (colN m)) hx.out (by unfold mrowB; rw [q1]; rfl)))
        clear q1
        go_wp2
        go_ret
        exact ⟨by rw [HF.out]; rfl, Y⟩
      · cases q2 : ((xs.length : Int) == (colN m : Int))
        · have HF := Lib.hid (gnrB_no (a := a) (all_fail (p := mrowB (colN m)) hx.out (by unfold mrowB; rw [q1, q2]; rfl)))
          have q3 : ((xs.length : Int) != (colN m : Int)) = true := by simp only [bne, q2]; rfl
          clear q1 q2
          go_wp2
          go_ret
          exact ⟨by rw [HF.out]; rfl, Y⟩
        · have HF := Lib.hid (all_step (p := mrowB (colN m)) hx.out HB.out (by unfold mrowB; rw [q1, q2]; rfl))
          have q3 : ((xs.length : Int) != (colN m : Int)) = false := by simp only [bne, q2]; rfl
          clear q1 q2
          go_wp2
          go_roundg (m.length - (k + 1))
          case measure => have := HK.out; omega
          case rel => exact ⟨k + 1, by omega, by go_num, X, Y, HF⟩
    · obtain rfl : k = m.length := by omega
      have i1 : ¬ (m.length : Int) < (m.length : Int) := by omega
      have HF : Hid (gnrB a m = inB (colN m : Int) 1 16) := Lib.hid (by rw [HM2.out, all_end HB.out]; simp)
      go_wp2_with fail
      refine (symwI a _ m _ (hv.keep Y)).mono ?_
      rintro e w1 ⟨rfl, hb1⟩
      go_wp2_with fail
      refine (inRB (colN m : Int) 1 16 _).mono ?_
      rintro e w2 ⟨rfl, rfl⟩
      go_wp2
      go_ret
      exact ⟨by rw [HF.out]; rfl, Y.trans hb1⟩
set_option maxHeartbeats 1000000 in
theorem gnrS (a : Int) (v : Value) (m : List (List Int)) (w : World) (hv : RII w v m) :
    Calls Try.prog 58 #[.agg #[.int .i64 a, v]] w fun e w' => e = .returned (.bool (gnrB a m)) ∧ Bel w w' := by
  have HM := Lib.hid (gnrB_mtx a m)
  obtain ⟨A, c, rfl, h2, h3, hA⟩ := id hv
  have X := Blk.new w 41 #[.int .i64 a, .slice A m.length c]
  have Y : Bel w (w.alloc (.cells #[.int .i64 a, .slice A m.length c] 41)) := (Bel.refl _).alloc _
  obtain ⟨cc, _, zx⟩ := X.facts
  go_enter Try.func58, Try.ntmps58
  go_wp2_with fail
  refine (l1InB a 0 1000000000000 _).mono ?_
  rintro e w1 ⟨rfl, rfl⟩
  cases q1 : inB a 0 1000000000000
  · go_wp2
    go_ret
    exact ⟨by rw [HM.out, q1]; rfl, Y⟩
  go_wp2_with fail
  refine (l1InB (m.length : Int) 1 8 _).mono ?_
  rintro e w1 ⟨rfl, rfl⟩
  cases q2 : inB (m.length : Int) 1 8
  · go_wp2
    go_ret
    exact ⟨by rw [HM.out, q1, q2]; rfl, Y⟩
  go_wp2_with fail
  refine (mtxS _ m _ (hv.keep Y)).mono ?_
  rintro e w1 ⟨rfl, hb1⟩
  have X1 := hb1.keep X
  have Y1 := Y.trans hb1
  clear cc
  obtain ⟨cc, _, zx1⟩ := X1.facts
  cases q3 : mtxB m
  · go_wp2
    go_ret
    exact ⟨by rw [HM.out, q1, q2, q3]; rfl, Y1⟩
  go_wp2_with fail
  refine (colS _ m _ (hv.keep Y1)).mono ?_
  rintro e w2 ⟨rfl, rfl⟩
  go_wp2_with fail
  refine (l1InB (colN m : Int) 1 16 _).mono ?_
  rintro e w2 ⟨rfl, rfl⟩
  go_wp2
  go_ret
  exact ⟨by rw [HM.out, q1, q2, q3]; rfl, Y1⟩
end Go.Proofs.Ytjaagabbbnokdaa

namespace Go.Proofs.Ytjaagabbbnokdaa
open Go.ChangeShapes Go.WideShapes Go.ChangeAt Go.RowKit Go.Joins Go.Deep
set_option linter.unusedVariables false
set_option maxRecDepth 100000

theorem RIx.mid {w w' : World} {a b lo : Nat} {ob : Option Nat} {v : Value} {xs : List Int} (h : RIx w lo ob v xs) (m : Mid a b w w') (hl : b ≤ lo) : RIx w' lo ob v xs := by
  obtain ⟨A, c, hv, h1, h2, h3⟩ := h
  refine ⟨A, c, hv, h1, h2, fun h0 => ?_⟩
  obtain ⟨b', off, hA, hl2, hb, hne, hc⟩ := h3 h0
  exact ⟨b', off, hA, hl2, Nat.lt_of_lt_of_le hb m.size, hne, fun j x hx => m.cell hb (.inr (by omega)) (hc j x hx)⟩
theorem ML.mid {w w' : World} {a b lo : Nat} {v : Value} {xss : List (List Int)} (h : ML w lo v xss) (m : Mid a b w w') (hl : b ≤ lo) : ML w' lo v xss := by
  obtain ⟨us, h1, ho, hr⟩ := h
  refine ⟨us, h1, ?_, fun j u xs e1 e2 => (hr j u xs e1 e2).mid m hl⟩
  obtain ⟨hl2, h0 | ⟨g, cap, cur, rfl, hb, hh, h1, h2, h3, h4⟩⟩ := ho
  · exact ⟨hl2, .inl h0⟩
  · exact ⟨hl2, .inr ⟨g, cap, cur, rfl, hb, (m.block g (Blk.lt hh) (.inr (by omega))).trans hh, h1, h2, h3, h4⟩⟩
def Byt (xs : List Int) : Prop := ∀ x ∈ xs, 0 ≤ x ∧ x < 256
theorem Byt.snoc {xs : List Int} {x : Int} (h : Byt xs) (hx : 0 ≤ x ∧ x < 256) : Byt (xs ++ [x]) := fun y hy => by
  rcases List.mem_append.1 hy with h1 | h1
  · exact h y h1
  · rw [List.mem_singleton.1 h1]; exact hx
def Gro (n : Nat) (m : List (List Int)) : Prop := ∀ r ∈ m, r.length = n ∧ Byt r
theorem Gro.snoc {n : Nat} {m : List (List Int)} {r : List Int} (h : Gro n m) (h1 : r.length = n) (h2 : Byt r) : Gro n (m ++ [r]) := fun y hy => by
  rcases List.mem_append.1 hy with h3 | h3
  · exact h y h3
  · rw [List.mem_singleton.1 h3]; exact ⟨h1, h2⟩
theorem inB_yes {x a b : Int} (h1 : a ≤ x) (h2 : x ≤ b) : inB x a b = true := by unfold inB; simp; omega
theorem gro_gnr {a : Int} {n : Nat} {m : List (List Int)} (h : Gro n m) (ha : 0 ≤ a ∧ a ≤ 1000000000000) (hn : 1 ≤ n ∧ n ≤ 16) (hm : 1 ≤ m.length ∧ m.length ≤ 8) : gnrB a m = true := by
  have h0 : m[0]? = some (m[0]'(by omega)) := List.getElem?_eq_getElem (by omega)
  have hc : colN m = n := by rw [← colN_at h0]; exact (h _ (List.getElem_mem _)).1
  unfold gnrB
  rw [hc, inB_yes ha.1 ha.2, inB_yes (show (1 : Int) ≤ (m.length : Int) by omega) (by omega), inB_yes (show (1 : Int) ≤ (n : Int) by omega) (by omega)]
  simp only [Bool.true_and, Bool.and_true]
  refine List.all_eq_true.2 fun r hr => ?_
  obtain ⟨h1, h2⟩ := h r hr
  unfold mrowB vecB
  rw [h1, List.all_eq_true.2 (fun x hx => elB_yes (by have := h2 x hx; omega)), decide_eq_true (by omega)]
  simp
set_option maxHeartbeats 4000000 in
theorem l10GenS (cb : Nat) (w : World) (hc : Cur w cb) :
    Calls Try.prog 78 #[.pointer (some ⟨cb, 0, none⟩)] w fun e w' => ∃ a r m, e = .returned (.agg #[.int .i64 a, r]) ∧ ML w' w.heap.size r m ∧ gnrB a m = true ∧ Trn cb w w' := by
  have hlt0 := hc.lt
  have R0 := Blk.new w 41 #[.int .i64 0, .slice none 0 0]
  have T0 : Trn cb w (w.alloc (.cells #[.int .i64 0, .slice none 0 0] 41)) := Trn.of hc ((Bel.refl _).alloc _)
  go_enter Try.func78, Try.ntmps78
  go_wp2_with fail
  refine (l1BelowS cb 5 _ T0.1 (by omega) (by omega)).mono ?_
  rintro e w1 ⟨id, rfl, hid, t1⟩
  have R1 := R0.trn t1 hlt0
  have T1 := T0.trans t1
  have z1 : w.heap.size + 1 ≤ w1.heap.size := by have := t1.2.size; rw [World.size_alloc] at this; exact this
  have K2 : Blk (w1.alloc (.cells #[.int .i64 id, .slice none 0 0] 41)) w1.heap.size 41 #[.int .i64 id, .slice none 0 0] := Blk.new w1 _ _
  have R2 := R1.alloc (.cells #[.int .i64 id, .slice none 0 0] 41)
  have T2 := T1.then ((Bel.refl w1).alloc (.cells #[.int .i64 id, .slice none 0 0] 41))
  have z2 : w1.heap.size + 1 ≤ (w1.alloc (.cells #[.int .i64 id, .slice none 0 0] 41)).heap.size := by simp
  go_wp2_with fail
  refine (l1BelowS cb 3 _ T2.1 (by omega) (by omega)).mono ?_
  rintro e w3 ⟨n', rfl, ⟨n0, n1⟩, t3⟩
  obtain ⟨n', rfl⟩ := Int.eq_ofNat_of_zero_le n0
  have K3 := K2.trn t3 (by omega)
  have R3 := R2.trn t3 hlt0
  have T3 := T2.trans t3
  have z3 := Nat.le_trans z2 t3.2.size
  go_wp2_with fail
  refine (l1BelowS cb 4 _ T3.1 (by omega) (by omega)).mono ?_
  rintro e w4 ⟨m', rfl, ⟨m0, m1⟩, t4⟩
  obtain ⟨m', rfl⟩ := Int.eq_ofNat_of_zero_le m0
  have K4 := K3.trn t4 (by omega)
  have R4 := R3.trn t4 hlt0
  have T4 := T3.trans t4
  have z4 := Nat.le_trans z3 t4.2.size
  clear K2 K3 R0 R1 R2 R3 T0 T1 T2 T3 t1 t3 t4 z2 z3
  generalize w1.heap.size = gB at *
  have hn3 : n' < 3 := by omega
  have hm4 : m' < 4 := by omega
  clear n0 n1 m0 m1
  go_wp2
  go_loopg [5] (1 + m') (fun f i wr => ∃ (j : Nat) (rows : List (List Int)) (sv : Value), j = f ∧ i = .int .i64 j ∧ Blk wr gB 41 #[.int .i64 id, sv] ∧ Blk wr w.heap.size 41 #[.int .i64 0, .slice none 0 0] ∧ ML wr (gB + 1) sv rows ∧ Gro (1 + n') rows ∧ rows.length + j = 1 + m' ∧ Trn cb w wr ∧ gB + 1 ≤ wr.heap.size)
  case atStart => exact ⟨1 + m', [], _, rfl, by go_num, K4, R4, ML.nil _ _, fun r hr => (by cases hr), by simp, T4, z4⟩
  case round =>
    clear K4 R4 T4 z4
    obtain ⟨j, rows, sv, hj, rfl, K, R, M, G, hl, T, hz⟩ := hrel
    have HJ := Lib.hid hj
    have HG := Lib.hid G
    have HL := Lib.hid hl
    have hrl : rows.length ≤ 4 := by omega
    clear hj G hl
    cases j with
    | zero =>
      obtain ⟨A, c, esv, _, _⟩ := M.shape
      subst esv
      obtain ⟨cr, fr, zr⟩ := R.facts
      obtain ⟨ck, fk, zk⟩ := K.facts
      have HV := Lib.hid (gro_gnr (a := id) HG.out (by omega) (by omega) (by have := HL.out; omega))
      have R9 := (R.set 0 (.int .i64 id)).set 1 (.slice A rows.length c)
      have i1 : ¬ (0 : Int) < ((0 : Nat) : Int) := by omega
      have M9 := (M.mid (Mid.set (lo := w.heap.size) (hi := w.heap.size + 1) wr (p := ⟨w.heap.size, 0, none⟩) (.int .i64 id) (Nat.le_refl _) (by simp)) (by omega)).mid (Mid.set (lo := w.heap.size) (hi := w.heap.size + 1) _ (p := ⟨w.heap.size, 1, none⟩) (.slice A rows.length c) (Nat.le_refl _) (by simp)) (by omega)
      have T9 := (T.set (p := ⟨w.heap.size, 0, none⟩) (.int .i64 id) (Nat.le_refl _) hlt0).set (p := ⟨w.heap.size, 1, none⟩) (.slice A rows.length c) (Nat.le_refl _) hlt0
      go_wp2
      have cr9 := R9.facts.1
      clear cr fr ck fk
      refine bodyPost_ret (v := .agg #[.int .i64 id, .slice A rows.length c]) (by simp [results, Try.results78, go_sem, cr9]) rfl ?_
      first | exact ⟨_, _, _, rfl, M9.low (by omega), HV.out, T9⟩ | exact ⟨_, _, rfl, _, M9.low (by omega), HV.out, T9⟩
    | succ j =>
      have i0 : (0 : Int) < ((j + 1 : Nat) : Int) := by omega
      obtain ⟨wi, hwi⟩ : ∃ x, x = wr := ⟨_, rfl⟩
      subst hwi
      have O0 := OI.empty wi
      have T0 : Trn cb wi (wi.alloc (.cells #[] 3)) := Trn.of T.1 ((Bel.refl _).alloc _)
      go_wp2
      go_loopg [6, 7] (1 + n') (fun f o i wr => ∃ (k : Nat) (xs : List Int), k + f = 1 + n' ∧ i = .int .i64 k ∧ OI wr wi.heap.size o xs ∧ (xs.length = k ∧ Byt xs) ∧ Trn cb wi wr)
      case atStart => exact ⟨0, [], by omega, rfl, O0, ⟨rfl, fun x hx => by cases hx⟩, T0⟩
      case round =>
        clear O0 T0
        obtain ⟨k, xs, hk, rfl, O, ⟨hl, hb⟩, T2⟩ := hrel
        have hk2 : k ≤ 1 + n' := by omega
        have hxl : xs.length ≤ 3 := by omega
        have HK := Lib.hid hk
        have HL2 := Lib.hid hl
        have HB := Lib.hid hb
        have hcr := T.1.lt
        clear hk hl hb
        by_cases hlt : k < 1 + n'
        · have i1 : (k : Int) < 1 + (n' : Int) := by omega
          go_wp2_with fail
          refine (l1BelowS cb 256 _ T2.1 (by omega) (by omega)).mono ?_
          rintro e w2 ⟨y, rfl, hy, t2⟩
          have O2 := O.trn t2 hcr
          have T3 := T2.trans t2
          have HZ2 : Hid (wi.heap.size ≤ w2.heap.size) := Lib.hid T3.2.size
          go_wp2_with (at_builtin; refine wpList_appI _ rfl _ _ rfl wi.heap.size _ _ xs [y] rfl rfl (O2.keep ((Bel.refl _).alloc _)) (RI.lit1 _ _ _) (by simp only [List.length_cons, List.length_nil]; omega) (by have := HZ2.out; simp; omega) ?_)
          intro v3 w3 O3 hG
          have T4 : Trn cb wi w3 := T3.grown O2 hG (Nat.le_refl _) hcr
          go_wp2
          go_roundg (1 + n' - (k + 1))
          case measure => have := HK.out; omega
          case rel => exact ⟨k + 1, xs ++ [y], by omega, by go_num, O3, ⟨by rw [List.length_append, HL2.out]; rfl, HB.out.snoc hy⟩, T4⟩
        · have hke : k = 1 + n' := by omega
          have i1 : ¬ (k : Int) < 1 + (n' : Int) := by omega
          have hj4 : j ≤ 4 := by have := HL.out; omega
          obtain ⟨A, c, esv, _, _⟩ := M.shape
          subst esv
          have K2 := K.trn T2 (by omega)
          have R2 := R.trn T2 hlt0
          have M2 := M.mid T2.2 (by omega)
          have T3 := T.trans T2
          have hzq : wi.heap.size ≤ wr.heap.size := T2.2.size
          have rx := (O.rx (ob := (Value.slice A rows.length c).ownBlock) (fun q hq e => by have h1 := (O.block q hq).1; have h2 := (M.block q e).2; omega)).low hz
          have HLX : Hid (xs.length = 1 + n') := Lib.hid (by rw [HL2.out, hke])
          have eLT : (rows ++ [xs]).length = rows.length + 1 := by simp
          have hMb := Lib.hid (fun q hq => (M2.block q hq).1)
          obtain ⟨Ax, cx, ex, _, _, _⟩ := O.reads
          subst ex
          obtain ⟨ck, fk, zk⟩ := K2.facts
          clear hke
          go_wp2_with (at_builtin; go_loud (refine wpList_appR _ rfl _ _ rfl (gB + 1) _ _ _ rows xs rfl rfl (M2.keep ((Bel.refl _).alloc _)) ((Blk.new wr 59 _).facts.1 0) rfl (rx.keep ((Bel.refl _).alloc _)) (by omega) (by simp; omega) ?_))
          intro v2 w2 M3 hG _
          have K3 := (K2.alloc _).grown hG (fun e => by have := hMb.out _ e; omega)
          have R3 := (R2.alloc _).grown hG (fun e => by have := hMb.out _ e; omega)
          have T4 : Trn cb w w2 := (T3.then ((Bel.refl _).alloc _)).row hG (fun q hq => hMb.out q hq) (by omega) (by omega)
          have hz2 : gB + 1 ≤ w2.heap.size := by have := hG.size; rw [World.size_alloc] at this; omega
          obtain ⟨A3, c3, e3, _, _⟩ := M3.shape
          rw [eLT] at e3
          subst e3
          have K4 : Blk (w2.setCell ⟨gB, 1, none⟩ (.slice A3 (rows.length + 1) c3)) gB 41 #[.int .i64 id, .slice A3 (rows.length + 1) c3] := K3.set 1 _
          have R4 := R3.far (p := ⟨gB, 1, none⟩) (by dsimp only; omega) (.slice A3 (rows.length + 1) c3)
          have M4 := M3.mid (Mid.set (lo := gB) (hi := gB + 1) w2 (p := ⟨gB, 1, none⟩) (.slice A3 (rows.length + 1) c3) (Nat.le_refl _) (by simp)) (Nat.le_refl _)
          have T5 := T4.set (p := ⟨gB, 1, none⟩) (.slice A3 (rows.length + 1) c3) (by dsimp only; omega) (by dsimp only; omega)
          have hz5 : gB + 1 ≤ (w2.setCell ⟨gB, 1, none⟩ (.slice A3 (rows.length + 1) c3)).heap.size := by simp [World.setCell]; omega
          obtain ⟨ck3, fk3, zk3⟩ := K3.facts
          clear ck fk zk
          go_wp2
          go_roundg j
          case measure => have := HJ.out; omega
          case rel => exact ⟨j, rows ++ [xs], _, rfl, by go_num, K4, R4, M4, HG.out.snoc HLX.out HB.out, by rw [eLT]; have := HL.out; omega, T5, hz5⟩
end Go.Proofs.Ytjaagabbbnokdaa

namespace Go.Proofs.Ytjaagabbbnokdaa
open Go.ChangeShapes Go.WideShapes Go.ChangeAt Go.RowKit Go.Joins Go.Deep
set_option linter.unusedVariables false
set_option linter.unusedSimpArgs false
set_option maxRecDepth 100000

set_option maxHeartbeats 8000000 in
theorem l11cS (a : Int) (v u : Value) (xs ys : List Int) (w : World) (hv : RI w v xs) (hu : RI w u ys) (hn1 : xs.length ≤ 1048576) (hn2 : ys.length ≤ 1048576) :
    Calls Try.prog 160 #[.agg #[.int .i64 a, v, u]] w fun e w' => ∃ r1 r2, e = .returned (.agg #[.int .i64 a, r1, r2]) ∧ OI w' w.heap.size r1 xs ∧ OI w' w.heap.size r2 ys ∧ Bel w w' := by
  obtain ⟨A1, c1, rfl, _, _, _⟩ := id hv
  obtain ⟨A2, c2, rfl, _, _, _⟩ := id hu
  have Y0 := ((Bel.refl w).alloc (.cells #[.int .i64 a, .slice A1 xs.length c1, .slice A2 ys.length c2] 63)).alloc (.cells #[.int .i64 0, .slice none 0 0, .slice none 0 0] 63)
  have X0 := (Blk.new w 63 #[.int .i64 a, .slice A1 xs.length c1, .slice A2 ys.length c2]).alloc (.cells #[.int .i64 0, .slice none 0 0, .slice none 0 0] 63)
  have R0 := Blk.new2 w (.cells #[.int .i64 a, .slice A1 xs.length c1, .slice A2 ys.length c2] 63) 63 #[.int .i64 0, .slice none 0 0, .slice none 0 0]
  have hv0 := hv.keep Y0
  have hu0 := hu.keep Y0
  clear hv hu
  go_enter Try.func160, Try.ntmps160
  go_upto_region 1 with fail
  generalize (w.alloc (.cells #[.int .i64 a, .slice A1 xs.length c1, .slice A2 ys.length c2] 63)).alloc (.cells #[.int .i64 0, .slice none 0 0, .slice none 0 0] 63) = w1 at *
  have h1 : w.heap.size + 2 ≤ w1.heap.size := R0.lt
  have HSW : ∀ W, Bel w1 W → W.cell? ⟨w.heap.size, 0, none⟩ = some (.int .i64 a) ∧ W.cell? ⟨w.heap.size, 1, none⟩ = some (.slice A1 xs.length c1) ∧ W.cell? ⟨w.heap.size, 2, none⟩ = some (.slice A2 ys.length c2) := fun W b => ⟨(b.keep X0).facts.1 0, (b.keep X0).facts.1 1, (b.keep X0).facts.1 2⟩
  have BE := ((Bel.refl w1).alloc (.cells #[] 3)).drew
  have BEE := (((Bel.refl w1).alloc (.cells #[] 3)).alloc (.cells #[] 3)).drew
  have OE : OI (w1.alloc (.cells #[] 3)).drew w1.heap.size (.slice (some ⟨w1.heap.size, 0, none⟩) 0 0) [] := (OI.lit (xs := []) (Blk.new w1 _ _) (Nat.le_refl _) (by simp)).keep (Bel.refl (w1.alloc (.cells #[] 3))).drew
  have OEE1 : OI ((w1.alloc (.cells #[] 3)).alloc (.cells #[] 3)).drew w1.heap.size (.slice (some ⟨w1.heap.size, 0, none⟩) 0 0) [] := (OI.lit (xs := []) (Blk.new w1 _ _) (Nat.le_refl _) (by simp)).keep ((Bel.refl (w1.alloc (.cells #[] 3))).alloc _).drew
  have OEE2 : OI ((w1.alloc (.cells #[] 3)).alloc (.cells #[] 3)).drew w1.heap.size (.slice (some ⟨w1.heap.size + 1, 0, none⟩) 0 0) [] := (OI.lit (xs := []) (Blk.new2 w1 (.cells #[] 3) _ _) (Nat.le_succ _) (by simp)).keep (Bel.refl ((w1.alloc (.cells #[] 3)).alloc (.cells #[] 3))).drew
  refine wp_region_noPanic ?_
  refine wp_region_last 11 (fun W => W.cell? ⟨w.heap.size, 0, none⟩ = some (.int .i64 a) ∧ W.cell? ⟨w.heap.size, 1, none⟩ = some (.slice A1 xs.length c1) ∧ W.cell? ⟨w.heap.size, 2, none⟩ = some (.slice A2 ys.length c2)) (by kernel_rfl) (by kernel_rfl) (HSW _ (Bel.refl _).drew) (fun hHeld => ?_)
  refine' wpAnyH_take (i := 0) (oi := _) (v := _) ?hi1 (by kernel_rfl) (by kernel_rfl) (by kernel_rfl) (fun _ _ _ h => h) (Or.inl ⟨?hw1, ?hy1⟩) (by assumption) ?rest1
  case hi1 => simp only [List.getElem?_toArray, List.getElem?_cons_zero]; rfl
  case hw1 => rfl
  case hy1 =>
    intro W hSW
    try dsimp only at hSW
    go_simp
    try with_reducible rfl
  simp only [Act.put, List.setIfInBounds_toArray, List.set_cons_zero, List.set_cons_succ]
  refine' wpAnyH_take (i := 1) (oi := _) (v := _) ?hi2 (by kernel_rfl) (by kernel_rfl) (by kernel_rfl) (fun _ _ _ h => h) (Or.inl ⟨?hw2, ?hy2⟩) (by assumption) ?rest2
  case hi2 => simp only [List.getElem?_toArray, List.getElem?_cons_succ, List.getElem?_cons_zero]; rfl
  case hw2 => rfl
  case hy2 =>
    intro W hSW
    try dsimp only at hSW
    go_simp
    try with_reducible rfl
  simp only [Act.put, List.setIfInBounds_toArray, List.set_cons_zero, List.set_cons_succ]
  refine' wpAnyH_take (i := 3) (oi := _) (v := _) ?hi3 (by kernel_rfl) (by kernel_rfl) (by kernel_rfl) (fun _ _ _ h => h) (Or.inl ⟨?hw3, ?hy3⟩) (by assumption) ?rest3
  case hi3 => simp only [List.getElem?_toArray, List.getElem?_cons_succ, List.getElem?_cons_zero]; rfl
  case hw3 => rfl
  case hy3 =>
    intro W hSW
    try dsimp only at hSW
    go_simp
    try with_reducible rfl
  simp only [Act.put, List.setIfInBounds_toArray, List.set_cons_zero, List.set_cons_succ]
  refine' wpAnyH_take (i := 4) (oi := _) (v := _) ?hi4 (by kernel_rfl) (by kernel_rfl) (by kernel_rfl) (fun _ _ _ h => h) (Or.inl ⟨?hw4, ?hy4⟩) (by assumption) ?rest4
  case hi4 => simp only [List.getElem?_toArray, List.getElem?_cons_succ, List.getElem?_cons_zero]; rfl
  case hw4 => rfl
  case hy4 =>
    intro W hSW
    try dsimp only at hSW
    go_simp
    try with_reducible rfl
  simp only [Act.put, List.setIfInBounds_toArray, List.set_cons_zero, List.set_cons_succ]
  refine' wpAnyH_take (i := 7) (oi := _) (v := _) ?hi5 (by kernel_rfl) (by kernel_rfl) (by kernel_rfl) (fun _ _ _ h => h) (Or.inl ⟨?hw5, ?hy5⟩) (by assumption) ?rest5
  case hi5 => simp only [List.getElem?_toArray, List.getElem?_cons_succ, List.getElem?_cons_zero]; rfl
  case hw5 => rfl
  case hy5 =>
    intro W hSW
    try dsimp only at hSW
    go_simp
    try with_reducible rfl
  simp only [Act.put, List.setIfInBounds_toArray, List.set_cons_zero, List.set_cons_succ]
  refine' wpAnyH_take (i := 8) (oi := _) (v := _) ?hi6 (by kernel_rfl) (by kernel_rfl) (by kernel_rfl) (fun _ _ _ h => h) (Or.inl ⟨?hw6, ?hy6⟩) (by assumption) ?rest6
  case hi6 => simp only [List.getElem?_toArray, List.getElem?_cons_succ, List.getElem?_cons_zero]; rfl
  case hw6 => rfl
  case hy6 =>
    intro W hSW
    try dsimp only at hSW
    go_simp
    try with_reducible rfl
  simp only [Act.put, List.setIfInBounds_toArray, List.set_cons_zero, List.set_cons_succ]
  refine wpAnyH_ready (rs := [2, 6]) (by kernel_rfl) (by simp) ?_
  refine' AllReadyH.cons (o := _) ?ho7 (fun Kq hKq => ?step7) ?more7
  case ho7 => simp only [List.getElem?_toArray, List.getElem?_cons_succ, List.getElem?_cons_zero]; rfl
  case step7 =>
    go_simp
    refine hKq.out _ _ ?hS7 (fun hHeld => ?_)
    case hS7 => exact HSW _ BE
    clear hKq Kq
    try simp only [Act.put, List.setIfInBounds_toArray, List.set_cons_zero, List.set_cons_succ]
    refine wpAnyH_ready (rs := [5, 6]) (by kernel_rfl) (by simp) ?_
    refine' AllReadyH.cons (o := _) ?ho8 (fun Kq hKq => ?step8) ?more8
    case ho8 => simp only [List.getElem?_toArray, List.getElem?_cons_succ, List.getElem?_cons_zero]; rfl
    case step8 =>
      (refine step_cpI _ (by rfl) _ _ (by rfl) w1.heap.size _ _ xs (by rfl) (by rfl) (by exact OE) (by exact hv0.keep BE) (by omega) (by exact BE.size) ?_; intro va wa Oa ba; have Ba : Bel w1 wa := BE.trans ba)
      refine hKq.out _ _ ?hS8 (fun hHeld => ?_)
      case hS8 => exact HSW _ Ba
      clear hKq Kq
      try simp only [Act.put, List.setIfInBounds_toArray, List.set_cons_zero, List.set_cons_succ]
      refine wpAnyH_ready (rs := [6]) (by kernel_rfl) (by simp) ?_
      refine' AllReadyH.cons (o := _) ?ho9 (fun Kq hKq => ?step9) ?more9
      case ho9 => simp only [List.getElem?_toArray, List.getElem?_cons_succ, List.getElem?_cons_zero]; rfl
      case step9 =>
        go_simp
        have BaE : Bel w1 (wa.alloc (.cells #[] 3)) := Ba.alloc _
        refine hKq.out _ _ ?hS9 (fun hHeld => ?_)
        case hS9 => exact HSW _ BaE
        clear hKq Kq
        try simp only [Act.put, List.setIfInBounds_toArray, List.set_cons_zero, List.set_cons_succ]
        refine wpAnyH_ready (rs := [9]) (by kernel_rfl) (by simp) ?_
        refine' AllReadyH.cons (o := _) ?ho10 (fun Kq hKq => ?step10) ?more10
        case ho10 => simp only [List.getElem?_toArray, List.getElem?_cons_succ, List.getElem?_cons_zero]; rfl
        case step10 =>
          have OaE : OI (wa.alloc (.cells #[] 3)) w1.heap.size (.slice (some ⟨wa.heap.size, 0, none⟩) 0 0) [] := OI.lit (xs := []) (Blk.new wa _ _) Ba.size (by simp)
          (refine step_cpI _ (by rfl) _ _ (by rfl) w1.heap.size _ _ ys (by rfl) (by rfl) (by exact OaE) (by exact hu0.keep BaE) (by omega) (by exact BaE.size) ?_; intro vb wb Ob bb; have Bb : Bel w1 wb := BaE.trans bb)
          refine hKq.out _ _ ?hS10 (fun hHeld => ?_)
          case hS10 => exact HSW _ Bb
          clear hKq Kq
          try simp only [Act.put, List.setIfInBounds_toArray, List.set_cons_zero, List.set_cons_succ]
          have F1 := (Oa.keep ((Bel.refl wa).alloc _)).keep bb
          have F2 := Ob
          have BF := Bb
          obtain ⟨A3, c3, e3, _, _, _⟩ := F1.reads
          obtain ⟨A4, c4, e4, _, _, _⟩ := F2.reads
          subst e3 e4
          refine' wpAnyH_take (i := 10) (oi := _) (v := _) ?hi11 (by kernel_rfl) (by kernel_rfl) (by kernel_rfl) (fun _ _ _ h => h) (Or.inl ⟨?hw11, ?hy11⟩) (by assumption) ?rest11
          case hi11 => simp only [List.getElem?_toArray, List.getElem?_cons_succ, List.getElem?_cons_zero]; rfl
          case hw11 => rfl
          case hy11 =>
            intro W hSW
            try dsimp only at hSW
            go_simp
            try with_reducible rfl
          simp only [Act.put, List.setIfInBounds_toArray, List.set_cons_zero, List.set_cons_succ]
          refine wpAnyH_done (by kernel_rfl) ?_ _
          simp only [headPost, List.drop_succ_cons, List.drop_zero]
          have R9 := (((BF.keep R0).set 0 (.int .i64 a)).set 1 (.slice A3 xs.length c3)).set 2 (.slice A4 ys.length c4)
          have P1 := ((F1.setFar (p := ⟨w.heap.size + 1, 0, none⟩) (by dsimp only; omega) (.int .i64 a)).setFar (p := ⟨w.heap.size + 1, 1, none⟩) (by dsimp only; omega) (.slice A3 xs.length c3)).setFar (p := ⟨w.heap.size + 1, 2, none⟩) (by dsimp only; omega) (.slice A4 ys.length c4)
          have P2 := ((F2.setFar (p := ⟨w.heap.size + 1, 0, none⟩) (by dsimp only; omega) (.int .i64 a)).setFar (p := ⟨w.heap.size + 1, 1, none⟩) (by dsimp only; omega) (.slice A3 xs.length c3)).setFar (p := ⟨w.heap.size + 1, 2, none⟩) (by dsimp only; omega) (.slice A4 ys.length c4)
          have Y9 := (((Y0.trans BF).setCell (p := ⟨w.heap.size + 1, 0, none⟩) (by dsimp only; omega) (.int .i64 a)).setCell (p := ⟨w.heap.size + 1, 1, none⟩) (by dsimp only; omega) (.slice A3 xs.length c3)).setCell (p := ⟨w.heap.size + 1, 2, none⟩) (by dsimp only; omega) (.slice A4 ys.length c4)
          obtain ⟨cr, fr, zr⟩ := (BF.keep R0).facts
          go_wp2_with fail
          refine NoPanic.normal ?_
          try go_wp2_with fail
          have cr9 := R9.facts.1
          clear cr fr
          refine bodyPost_ret (v := .agg #[.int .i64 a, .slice A3 xs.length c3, .slice A4 ys.length c4]) (by simp [results, Try.results160, go_sem, cr9]) rfl ?_
          exact ⟨_, _, rfl, P1.low (by omega), P2.low (by omega), Y9⟩
        exact AllReadyH.nil
      exact AllReadyH.nil
    refine' AllReadyH.cons (o := _) ?ho12 (fun Kq hKq => ?step12) ?more12
    case ho12 => simp only [List.getElem?_toArray, List.getElem?_cons_succ, List.getElem?_cons_zero]; rfl
    case step12 =>
      go_simp
      refine hKq.out _ _ ?hS12 (fun hHeld => ?_)
      case hS12 => exact HSW _ BEE
      clear hKq Kq
      try simp only [Act.put, List.setIfInBounds_toArray, List.set_cons_zero, List.set_cons_succ]
      refine wpAnyH_ready (rs := [5]) (by kernel_rfl) (by simp) ?_
      refine' AllReadyH.cons (o := _) ?ho13 (fun Kq hKq => ?step13) ?more13
      case ho13 => simp only [List.getElem?_toArray, List.getElem?_cons_succ, List.getElem?_cons_zero]; rfl
      case step13 =>
        (refine step_cpI _ (by rfl) _ _ (by rfl) w1.heap.size _ _ xs (by rfl) (by rfl) (by exact OEE1) (by exact hv0.keep BEE) (by omega) (by exact BEE.size) ?_; intro va wa Oa ba; have Ba : Bel w1 wa := BEE.trans ba)
        refine hKq.out _ _ ?hS13 (fun hHeld => ?_)
        case hS13 => exact HSW _ Ba
        clear hKq Kq
        try simp only [Act.put, List.setIfInBounds_toArray, List.set_cons_zero, List.set_cons_succ]
        refine wpAnyH_ready (rs := [9]) (by kernel_rfl) (by simp) ?_
        refine' AllReadyH.cons (o := _) ?ho14 (fun Kq hKq => ?step14) ?more14
        case ho14 => simp only [List.getElem?_toArray, List.getElem?_cons_succ, List.getElem?_cons_zero]; rfl
        case step14 =>
          (refine step_cpI _ (by rfl) _ _ (by rfl) w1.heap.size _ _ ys (by rfl) (by rfl) (by exact OEE2.keep ba) (by exact hu0.keep Ba) (by omega) (by exact Ba.size) ?_; intro vb wb Ob bb; have Bb : Bel w1 wb := Ba.trans bb)
          refine hKq.out _ _ ?hS14 (fun hHeld => ?_)
          case hS14 => exact HSW _ Bb
          clear hKq Kq
          try simp only [Act.put, List.setIfInBounds_toArray, List.set_cons_zero, List.set_cons_succ]
          have F1 := Oa.keep bb
          have F2 := Ob
          have BF := Bb
          obtain ⟨A3, c3, e3, _, _, _⟩ := F1.reads
          obtain ⟨A4, c4, e4, _, _, _⟩ := F2.reads
          subst e3 e4
          refine' wpAnyH_take (i := 10) (oi := _) (v := _) ?hi15 (by kernel_rfl) (by kernel_rfl) (by kernel_rfl) (fun _ _ _ h => h) (Or.inl ⟨?hw15, ?hy15⟩) (by assumption) ?rest15
          case hi15 => simp only [List.getElem?_toArray, List.getElem?_cons_succ, List.getElem?_cons_zero]; rfl
          case hw15 => rfl
          case hy15 =>
            intro W hSW
            try dsimp only at hSW
            go_simp
            try with_reducible rfl
          simp only [Act.put, List.setIfInBounds_toArray, List.set_cons_zero, List.set_cons_succ]
          refine wpAnyH_done (by kernel_rfl) ?_ _
          simp only [headPost, List.drop_succ_cons, List.drop_zero]
          have R9 := (((BF.keep R0).set 0 (.int .i64 a)).set 1 (.slice A3 xs.length c3)).set 2 (.slice A4 ys.length c4)
          have P1 := ((F1.setFar (p := ⟨w.heap.size + 1, 0, none⟩) (by dsimp only; omega) (.int .i64 a)).setFar (p := ⟨w.heap.size + 1, 1, none⟩) (by dsimp only; omega) (.slice A3 xs.length c3)).setFar (p := ⟨w.heap.size + 1, 2, none⟩) (by dsimp only; omega) (.slice A4 ys.length c4)
          have P2 := ((F2.setFar (p := ⟨w.heap.size + 1, 0, none⟩) (by dsimp only; omega) (.int .i64 a)).setFar (p := ⟨w.heap.size + 1, 1, none⟩) (by dsimp only; omega) (.slice A3 xs.length c3)).setFar (p := ⟨w.heap.size + 1, 2, none⟩) (by dsimp only; omega) (.slice A4 ys.length c4)
          have Y9 := (((Y0.trans BF).setCell (p := ⟨w.heap.size + 1, 0, none⟩) (by dsimp only; omega) (.int .i64 a)).setCell (p := ⟨w.heap.size + 1, 1, none⟩) (by dsimp only; omega) (.slice A3 xs.length c3)).setCell (p := ⟨w.heap.size + 1, 2, none⟩) (by dsimp only; omega) (.slice A4 ys.length c4)
          obtain ⟨cr, fr, zr⟩ := (BF.keep R0).facts
          go_wp2_with fail
          refine NoPanic.normal ?_
          try go_wp2_with fail
          have cr9 := R9.facts.1
          clear cr fr
          refine bodyPost_ret (v := .agg #[.int .i64 a, .slice A3 xs.length c3, .slice A4 ys.length c4]) (by simp [results, Try.results160, go_sem, cr9]) rfl ?_
          exact ⟨_, _, rfl, P1.low (by omega), P2.low (by omega), Y9⟩
        exact AllReadyH.nil
      exact AllReadyH.nil
    exact AllReadyH.nil
  refine' AllReadyH.cons (o := _) ?ho16 (fun Kq hKq => ?step16) ?more16
  case ho16 => simp only [List.getElem?_toArray, List.getElem?_cons_succ, List.getElem?_cons_zero]; rfl
  case step16 =>
    go_simp
    refine hKq.out _ _ ?hS16 (fun hHeld => ?_)
    case hS16 => exact HSW _ BE
    clear hKq Kq
    try simp only [Act.put, List.setIfInBounds_toArray, List.set_cons_zero, List.set_cons_succ]
    refine wpAnyH_ready (rs := [2]) (by kernel_rfl) (by simp) ?_
    refine' AllReadyH.cons (o := _) ?ho17 (fun Kq hKq => ?step17) ?more17
    case ho17 => simp only [List.getElem?_toArray, List.getElem?_cons_succ, List.getElem?_cons_zero]; rfl
    case step17 =>
      go_simp
      refine hKq.out _ _ ?hS17 (fun hHeld => ?_)
      case hS17 => exact HSW _ BEE
      clear hKq Kq
      try simp only [Act.put, List.setIfInBounds_toArray, List.set_cons_zero, List.set_cons_succ]
      refine wpAnyH_ready (rs := [5]) (by kernel_rfl) (by simp) ?_
      refine' AllReadyH.cons (o := _) ?ho18 (fun Kq hKq => ?step18) ?more18
      case ho18 => simp only [List.getElem?_toArray, List.getElem?_cons_succ, List.getElem?_cons_zero]; rfl
      case step18 =>
        (refine step_cpI _ (by rfl) _ _ (by rfl) w1.heap.size _ _ xs (by rfl) (by rfl) (by exact OEE2) (by exact hv0.keep BEE) (by omega) (by exact BEE.size) ?_; intro va wa Oa ba; have Ba : Bel w1 wa := BEE.trans ba)
        refine hKq.out _ _ ?hS18 (fun hHeld => ?_)
        case hS18 => exact HSW _ Ba
        clear hKq Kq
        try simp only [Act.put, List.setIfInBounds_toArray, List.set_cons_zero, List.set_cons_succ]
        refine wpAnyH_ready (rs := [9]) (by kernel_rfl) (by simp) ?_
        refine' AllReadyH.cons (o := _) ?ho19 (fun Kq hKq => ?step19) ?more19
        case ho19 => simp only [List.getElem?_toArray, List.getElem?_cons_succ, List.getElem?_cons_zero]; rfl
        case step19 =>
          (refine step_cpI _ (by rfl) _ _ (by rfl) w1.heap.size _ _ ys (by rfl) (by rfl) (by exact OEE1.keep ba) (by exact hu0.keep Ba) (by omega) (by exact Ba.size) ?_; intro vb wb Ob bb; have Bb : Bel w1 wb := Ba.trans bb)
          refine hKq.out _ _ ?hS19 (fun hHeld => ?_)
          case hS19 => exact HSW _ Bb
          clear hKq Kq
          try simp only [Act.put, List.setIfInBounds_toArray, List.set_cons_zero, List.set_cons_succ]
          have F1 := Oa.keep bb
          have F2 := Ob
          have BF := Bb
          obtain ⟨A3, c3, e3, _, _, _⟩ := F1.reads
          obtain ⟨A4, c4, e4, _, _, _⟩ := F2.reads
          subst e3 e4
          refine' wpAnyH_take (i := 10) (oi := _) (v := _) ?hi20 (by kernel_rfl) (by kernel_rfl) (by kernel_rfl) (fun _ _ _ h => h) (Or.inl ⟨?hw20, ?hy20⟩) (by assumption) ?rest20
          case hi20 => simp only [List.getElem?_toArray, List.getElem?_cons_succ, List.getElem?_cons_zero]; rfl
          case hw20 => rfl
          case hy20 =>
            intro W hSW
            try dsimp only at hSW
            go_simp
            try with_reducible rfl
          simp only [Act.put, List.setIfInBounds_toArray, List.set_cons_zero, List.set_cons_succ]
          refine wpAnyH_done (by kernel_rfl) ?_ _
          simp only [headPost, List.drop_succ_cons, List.drop_zero]
          have R9 := (((BF.keep R0).set 0 (.int .i64 a)).set 1 (.slice A3 xs.length c3)).set 2 (.slice A4 ys.length c4)
          have P1 := ((F1.setFar (p := ⟨w.heap.size + 1, 0, none⟩) (by dsimp only; omega) (.int .i64 a)).setFar (p := ⟨w.heap.size + 1, 1, none⟩) (by dsimp only; omega) (.slice A3 xs.length c3)).setFar (p := ⟨w.heap.size + 1, 2, none⟩) (by dsimp only; omega) (.slice A4 ys.length c4)
          have P2 := ((F2.setFar (p := ⟨w.heap.size + 1, 0, none⟩) (by dsimp only; omega) (.int .i64 a)).setFar (p := ⟨w.heap.size + 1, 1, none⟩) (by dsimp only; omega) (.slice A3 xs.length c3)).setFar (p := ⟨w.heap.size + 1, 2, none⟩) (by dsimp only; omega) (.slice A4 ys.length c4)
          have Y9 := (((Y0.trans BF).setCell (p := ⟨w.heap.size + 1, 0, none⟩) (by dsimp only; omega) (.int .i64 a)).setCell (p := ⟨w.heap.size + 1, 1, none⟩) (by dsimp only; omega) (.slice A3 xs.length c3)).setCell (p := ⟨w.heap.size + 1, 2, none⟩) (by dsimp only; omega) (.slice A4 ys.length c4)
          obtain ⟨cr, fr, zr⟩ := (BF.keep R0).facts
          go_wp2_with fail
          refine NoPanic.normal ?_
          try go_wp2_with fail
          have cr9 := R9.facts.1
          clear cr fr
          refine bodyPost_ret (v := .agg #[.int .i64 a, .slice A3 xs.length c3, .slice A4 ys.length c4]) (by simp [results, Try.results160, go_sem, cr9]) rfl ?_
          exact ⟨_, _, rfl, P1.low (by omega), P2.low (by omega), Y9⟩
        exact AllReadyH.nil
      exact AllReadyH.nil
    exact AllReadyH.nil
  exact AllReadyH.nil
end Go.Proofs.Ytjaagabbbnokdaa
