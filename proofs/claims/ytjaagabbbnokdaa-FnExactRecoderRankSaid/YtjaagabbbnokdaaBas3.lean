/-
  NewBasis and SpanOf of the program: contracts. Conditions: a width of at most 40.
-/
import Derived.Test.YtjaagabbbnokdaaBas2
import Derived.Test.YtjaagabbbnokdaaLin4
namespace Go.Proofs.Ytjaagabbbnokdaa
open Go.ChangeShapes Go.WideShapes Go.ChangeAt Go.RowKit
set_option linter.unusedVariables false
set_option maxRecDepth 100000

set_option maxHeartbeats 400000 in
theorem newBI (c : Nat) (w : World) (hc : c ≤ 40) : Calls Try.prog 53 #[.int .i64 (c : Int)] w fun e w' => e = .returned (.agg #[.int .i64 (c : Int), .slice none 0 0]) ∧ Bel w w' := by
  go_enter Try.func53, Try.ntmps53
  go_wp2_with fail
  refine (inR_yes (c : Int) 0 40 _ (by omega) (by omega)).mono ?_
  rintro e w1 ⟨rfl, rfl⟩
  go_wp2
  refine bodyPost_ret (v := .agg #[.int .i64 (c : Int), .slice none 0 0]) (by simp [results, Try.results53, go_sem]) rfl ⟨rfl, ?_⟩
  repeat (first | exact Bel.refl _ | apply Bel.alloc)
set_option maxHeartbeats 400000 in
theorem newBS (c : Nat) (w : World) (hc : c ≤ 40) : Calls Try.prog 59 #[.int .i64 (c : Int)] w fun e w' => e = .returned (.agg #[.int .i64 (c : Int), .slice none 0 0]) ∧ Bel w w' := by
  go_enter Try.func59, Try.ntmps59
  go_wp2_with fail
  refine (l1In_yes (c : Int) 0 40 _ (by omega) (by omega)).mono ?_
  rintro e w1 ⟨rfl, rfl⟩
  go_wp2
  refine bodyPost_ret (v := .agg #[.int .i64 (c : Int), .slice none 0 0]) (by simp [results, Try.results59, go_sem]) rfl ⟨rfl, ?_⟩
  repeat (first | exact Bel.refl _ | apply Bel.alloc)
set_option maxHeartbeats 2000000 in
theorem spanI (v : Value) (vs : List (List Int)) (c : Nat) (w : World) (hv : RII w v vs) (hc : c ≤ 40) :
    Calls Try.prog 76 #[v, .int .i64 (c : Int)] w fun e w' => ∃ r, e = .returned (.agg #[.int .i64 (c : Int), r]) ∧ OM w' w.heap.size r (spanZ c vs) ∧ Bel w w' := by
  obtain ⟨A, cp, rfl, h2, h3, hA⟩ := id hv
  have R0 := Blk.new w 39 #[.int .i64 0, .slice none 0 0]
  have Y0 : Bel w (w.alloc (.cells #[.int .i64 0, .slice none 0 0] 39)) := (Bel.refl _).alloc _
  go_enter Try.func76, Try.ntmps76
  go_wp2_with fail
  refine (inR_yes (c : Int) 0 40 _ (by omega) (by omega)).mono ?_
  rintro e w1 ⟨rfl, rfl⟩
  go_wp2_with fail
  refine (newBI c _ hc).mono ?_
  rintro e w1 ⟨rfl, hb1⟩
  have R1 := (hb1.keep R0).alloc (.cells #[.int .i64 (c : Int), .slice none 0 0] 39)
  have B1 := Blk.new w1 39 #[.int .i64 (c : Int), .slice none 0 0]
  have Y1 := (Y0.trans hb1).alloc (.cells #[.int .i64 (c : Int), .slice none 0 0] 39)
  have sz1 := (hb1.keep R0).lt
  obtain ⟨pb, hpb⟩ : ∃ pb, pb = w1.heap.size := ⟨_, rfl⟩
  rw [← hpb] at B1 sz1
  have HPB := Lib.hid hpb
  go_wp2
  rw [← hpb]
  clear hpb
  go_loopg [16] vs.length (fun f i wr => ∃ (k : Nat) (o : Value), k + f = vs.length ∧ i = .int .i64 k ∧ Blk wr w.heap.size 39 #[.int .i64 0, .slice none 0 0] ∧ Blk wr pb 39 #[.int .i64 (c : Int), o] ∧ OM wr (pb + 1) o (spanZ c (vs.take k)) ∧ Bel w wr)
  case atStart => exact ⟨0, _, by omega, rfl, R1, B1, OM.nil _ _, Y1⟩
  case round =>
    clear R0 R1 B1 Y0 Y1
    obtain ⟨k, o, hk, rfl, R, B, O, Y⟩ := hrel
    have hk2 : k ≤ vs.length := by omega
    have HK := Lib.hid hk
    clear hk
    by_cases hlt : k < vs.length
    · obtain ⟨b1, o1, rfl, z1, hc1⟩ := hA (by omega)
      have hx : Hid (vs[k]? = some (vs[k]'hlt)) := List.getElem?_eq_getElem hlt
      obtain ⟨u, g1, ru⟩ := hc1 k _ hx.out
      replace g1 := Y.cell1 z1 g1
      replace ru := ru.keep Y
      generalize vs[k]'hlt = xs at *
      clear hc1 hA
      obtain ⟨Au, cu, rfl, _, _, _⟩ := id ru
      have i0 : (0 : Int) ≤ (k : Int) := by omega
      have i1 : (k : Int) < (vs.length : Int) := by omega
      have HM : Hid (mrowB c xs = (vecB xs && ((xs.length : Int) == (c : Int)))) := rfl
      go_wp2_with fail
      refine (vecI _ xs _ ru).mono ?_
      rintro e w2 ⟨rfl, rfl⟩
      cases q1 : vecB xs
      · have HN := Lib.hid (span_no hx.out (by rw [HM.out, q1]; rfl))
        rw [← HN.out] at O
        clear q1
        go_wp2
        go_roundg (vs.length - (k + 1))
        case measure => have := HK.out; omega
        case rel => exact ⟨k + 1, _, by omega, by go_num, R, B, O, Y⟩
      cases q2 : ((xs.length : Int) == (c : Int))
      · have HN := Lib.hid (span_no hx.out (by rw [HM.out, q1, q2]; rfl))
        rw [← HN.out] at O
        clear q1
        go_wp2
        go_roundg (vs.length - (k + 1))
        case measure => have := HK.out; omega
        case rel => exact ⟨k + 1, _, by omega, by go_num, R, B, O, Y⟩
      · have HY : Hid (mrowB c xs = true) := Lib.hid (by rw [HM.out, q1, q2]; rfl)
        have HN := Lib.hid (span_yes hx.out HY.out)
        obtain ⟨P, hP⟩ := span_red c (vs.take k)
        have HP := Lib.hid hP
        have hlen := hP.len_le
        clear q1 hP
        generalize spanZ c (vs.take k) = m at *
        have zb := B.lt
        go_wp2_with fail
        refine (insertI (c : Int) o _ m xs c pb (pb + 1) _ P _ B O (by omega) (Nat.le_refl _) (by omega) ru HP.out (mrowB_row HY.out).1 hc (by omega)).mono ?_
        rintro e w3 ⟨o2, rfl, B2, O2, M2⟩
        have R2 := R.mid M2 (.inl (by omega))
        have Y2 := Y.mid M2 (by omega)
        rw [← HN.out] at O2
        clear R B O Y M2
        go_wp2
        go_roundg (vs.length - (k + 1))
        case measure => have := HK.out; omega
        case rel => exact ⟨k + 1, _, by omega, by go_num, R2, B2, O2, Y2⟩
    · obtain rfl : k = vs.length := by omega
      have i1 : ¬ (vs.length : Int) < (vs.length : Int) := by omega
      rw [span_all] at O
      obtain ⟨Ao, co, eo, _, _, _⟩ := O.reads
      subst eo
      obtain ⟨cb, fb, zb⟩ := B.facts
      obtain ⟨cr, fr, zr⟩ := R.facts
      have Y3 : Bel w ((wr.setCell ⟨w.heap.size, 0, none⟩ (.int .i64 (c : Int))).setCell ⟨w.heap.size, 1, none⟩ (.slice Ao (spanZ c vs).length co)) := (Y.setCell (p := ⟨w.heap.size, 0, none⟩) (Nat.le_refl _) _).setCell (p := ⟨w.heap.size, 1, none⟩) (Nat.le_refl _) _
      have O3 := OM.setFar (OM.setFar O (p := ⟨w.heap.size, 0, none⟩) (by dsimp only; omega) (.int .i64 (c : Int))) (p := ⟨w.heap.size, 1, none⟩) (by dsimp only; omega) (.slice Ao (spanZ c vs).length co)
      go_wp2
      refine bodyPost_ret (v := .agg #[.int .i64 (c : Int), .slice Ao (spanZ c vs).length co]) (by simp [results, Try.results76, go_sem, cr]) rfl ⟨_, rfl, OM.low O3 (by omega), Y3⟩
end Go.Proofs.Ytjaagabbbnokdaa
