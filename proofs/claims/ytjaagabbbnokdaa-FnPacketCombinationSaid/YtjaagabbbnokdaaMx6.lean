/-
  IsValidDecoder, MissingDegrees, IsComplete: contracts of the program's functions and of the reference's. No condition.
-/
import Derived.Test.YtjaagabbbnokdaaMx5
namespace Go.Proofs.Ytjaagabbbnokdaa
open Go.ChangeShapes Go.WideShapes Go.ChangeAt Go.RowKit
set_option linter.unusedVariables false
set_option maxRecDepth 100000

def ldB (b : Int) (r : List Int) : Bool := !(decide (b ≤ leadV r))
/-- A valid decoder. -/
def decB (a b c d : Int) (m : List (List Int)) : Bool := fmtB a b c && basB d m && !(d != b + c) && m.all (ldB b)
theorem decB_facts {a b c d : Int} {m : List (List Int)} (h : decB a b c d m = true) : fmtB a b c = true ∧ basB d m = true ∧ d = b + c ∧ m.all (ldB b) = true := by
  unfold decB at h
  rw [Bool.and_eq_true, Bool.and_eq_true, Bool.and_eq_true] at h
  exact ⟨h.1.1.1, h.1.1.2, by have := h.1.2; simpa using this, h.2⟩
def missZ (a b c d : Int) (m : List (List Int)) : Int := if decB a b c d m = true then b - (m.length : Int) else 0
def compB (a b c d : Int) (m : List (List Int)) : Bool := decB a b c d m && ((m.length : Int) == b)

set_option maxHeartbeats 2000000 in
theorem decI (a b c d : Int) (v : Value) (m : List (List Int)) (w : World) (hv : RII w v m) :
    Calls Try.prog 94 #[.agg #[.int .i64 a, .int .i64 b, .int .i64 c, .int .i64 d, v]] w fun e w' => e = .returned (.bool (decB a b c d m)) ∧ Bel w w' := by
  have HM : Hid (decB a b c d m = (fmtB a b c && basB d m && !(d != b + c) && m.all (ldB b))) := rfl
  obtain ⟨A, cp, rfl, h2, h3, hA⟩ := id hv
  have X := Blk.new w 73 #[.int .i64 a, .int .i64 b, .int .i64 c, .int .i64 d, .slice A m.length cp]
  have Y : Bel w (w.alloc (.cells #[.int .i64 a, .int .i64 b, .int .i64 c, .int .i64 d, .slice A m.length cp] 73)) := (Bel.refl _).alloc _
  obtain ⟨cc, _, zx⟩ := X.facts
  go_enter Try.func94, Try.ntmps94
  go_wp2_with fail
  refine (fmtI _ _ _ _).mono ?_
  rintro e w1 ⟨rfl, rfl⟩
  cases q1 : fmtB a b c
  · go_wp2
    go_ret
    exact ⟨by rw [HM.out, q1]; rfl, Y⟩
  obtain ⟨f1, f2, f3⟩ := fmtB_facts q1
  go_wp2_with fail
  refine (basI d _ m _ (hv.keep Y)).mono ?_
  rintro e w2 ⟨rfl, hb2⟩
  have X2 := hb2.keep X
  have Y2 := Y.trans hb2
  clear cc zx
  obtain ⟨cc, _, zx⟩ := X2.facts
  cases q2 : basB d m
  · go_wp2
    go_ret
    exact ⟨by rw [HM.out, q1, q2]; rfl, Y2⟩
  cases q3 : (d != b + c)
  case true =>
    go_wp2
    go_ret
    exact ⟨by rw [HM.out, q1, q2, q3]; rfl, Y2⟩
  go_wp2
  clear cc zx
  go_loopg [34] m.length (fun f i wr => ∃ k : Nat, k + f = m.length ∧ i = .int .i64 k ∧ Blk wr w.heap.size 73 #[.int .i64 a, .int .i64 b, .int .i64 c, .int .i64 d, .slice A m.length cp] ∧ Bel w wr ∧ Hid ((m.take k).all (ldB b) = true))
  case atStart => exact ⟨0, by omega, rfl, X2, Y2, by show _ = _; simp⟩
  case round =>
    clear X Y X2 Y2
    obtain ⟨k, hk, rfl, X, Y, HB⟩ := hrel
    have hk2 : k ≤ m.length := by omega
    have HK := Lib.hid hk
    clear hk
    obtain ⟨cc, _, zx⟩ := X.facts
    have r1 : wr.cell? ⟨w.heap.size, 1, none⟩ = some (.int .i64 b) := cc 1
    have r4 : wr.cell? ⟨w.heap.size, 4, none⟩ = some (.slice A m.length cp) := cc 4
    clear cc
    by_cases hlt : k < m.length
    · obtain ⟨b1, o1, rfl, z1, hc1⟩ := hA (by omega)
      have hx : Hid (m[k]? = some (m[k]'hlt)) := List.getElem?_eq_getElem hlt
      obtain ⟨u, g1, ru⟩ := hc1 k _ hx.out
      replace g1 := Y.cell1 z1 g1
      have zz := Nat.lt_of_lt_of_le z1 Y.size
      generalize m[k]'hlt = xs at *
      clear hc1 hA
      have i0 : (0 : Int) ≤ (k : Int) := by omega
      have i1 : (k : Int) < (m.length : Int) := by omega
      have qq1 := Bw.cell r1 zx
      have qq4 := Bw.cell r4 zx
      have qq2 := Bw.cell g1 zz
      have LC := Lib.hid (fun (W : World) (h : Bel wr W) => leadI _ xs W ((ru.keep Y).keep h))
      have HL : Hid (ldB b xs = !(decide (b ≤ leadV xs))) := rfl
      generalize leadV xs = p at *
      cases q : decide (b ≤ p)
      · have HF := Lib.hid (all_step (p := ldB b) hx.out HB.out (by rw [HL.out, q]; rfl))
        go_wp2
        refine wp_region_bel (by kernel_rfl) (by kernel_rfl) ?_
        repeat (first | go_big_quiet_step (first | (go_at_call 102; exact belQ_same (LC.out _ (Bw.bel _)))) | quiet_step (first | (go_at_call 102; exact belQ_same (LC.out _ (Bw.bel _)))))
        refine wpQuiet_nil ?_
        rintro _ ⟨⟨w3, hb3⟩, rfl⟩
        clear qq1 qq2 qq4
        go_wp2
        go_roundg (m.length - (k + 1))
        case measure => have := HK.out; omega
        case rel => exact ⟨k + 1, by omega, by go_num, hb3.keep X, Y.trans hb3, HF⟩
      · have HF := Lib.hid (all_fail (p := ldB b) hx.out (by rw [HL.out, q]; rfl))
        go_wp2
        refine wp_region_bel (by kernel_rfl) (by kernel_rfl) ?_
        repeat (first | go_big_quiet_step (first | (go_at_call 102; exact belQ_same (LC.out _ (Bw.bel _)))) | quiet_step (first | (go_at_call 102; exact belQ_same (LC.out _ (Bw.bel _)))))
        refine wpQuiet_nil ?_
        rintro _ ⟨⟨w3, hb3⟩, rfl⟩
        clear qq1 qq2 qq4
        go_wp2
        go_ret
        exact ⟨by rw [HM.out, HF.out]; simp, Y.trans hb3⟩
    · obtain rfl : k = m.length := by omega
      have i1 : ¬ (m.length : Int) < (m.length : Int) := by omega
      have HF := Lib.hid (all_end HB.out)
      go_wp2
      go_ret
      exact ⟨by rw [HM.out, q1, q2, q3, HF.out]; rfl, Y⟩
set_option maxHeartbeats 1000000 in
theorem missI (a b c d : Int) (v : Value) (m : List (List Int)) (w : World) (hv : RII w v m) :
    Calls Try.prog 93 #[.agg #[.int .i64 a, .int .i64 b, .int .i64 c, .int .i64 d, v]] w fun e w' => e = .returned (.int .i64 (missZ a b c d m)) ∧ Bel w w' := by
  have HM : Hid (missZ a b c d m = if decB a b c d m = true then b - (m.length : Int) else 0) := rfl
  obtain ⟨A, cp, rfl, h2, h3, hA⟩ := id hv
  have X := Blk.new w 73 #[.int .i64 a, .int .i64 b, .int .i64 c, .int .i64 d, .slice A m.length cp]
  have Y : Bel w (w.alloc (.cells #[.int .i64 a, .int .i64 b, .int .i64 c, .int .i64 d, .slice A m.length cp] 73)) := (Bel.refl _).alloc _
  go_enter Try.func93, Try.ntmps93
  go_wp2_with fail
  refine (decI a b c d _ m _ (hv.keep Y)).mono ?_
  rintro e w2 ⟨rfl, hb2⟩
  have X2 := hb2.keep X
  have Y2 := Y.trans hb2
  obtain ⟨cc, _, zx⟩ := X2.facts
  cases q1 : decB a b c d m
  · go_wp2
    go_ret
    exact ⟨by rw [HM.out, q1]; rfl, Y2⟩
  obtain ⟨f1, f2, _, _⟩ := decB_facts q1
  obtain ⟨_, f4, _⟩ := fmtB_facts f1
  obtain ⟨_, _, _, f5, _⟩ := basB_facts f2
  clear f1 f2
  go_wp2
  go_ret
  exact ⟨by rw [HM.out, q1]; rfl, Y2⟩
set_option maxHeartbeats 2000000 in
theorem decS (a b c d : Int) (v : Value) (m : List (List Int)) (w : World) (hv : RII w v m) :
    Calls Try.prog 95 #[.agg #[.int .i64 a, .int .i64 b, .int .i64 c, .int .i64 d, v]] w fun e w' => e = .returned (.bool (decB a b c d m)) ∧ Bel w w' := by
  have HM : Hid (decB a b c d m = (fmtB a b c && basB d m && !(d != b + c) && m.all (ldB b))) := rfl
  obtain ⟨A, cp, rfl, h2, h3, hA⟩ := id hv
  have X := Blk.new w 73 #[.int .i64 a, .int .i64 b, .int .i64 c, .int .i64 d, .slice A m.length cp]
  have Y : Bel w (w.alloc (.cells #[.int .i64 a, .int .i64 b, .int .i64 c, .int .i64 d, .slice A m.length cp] 73)) := (Bel.refl _).alloc _
  obtain ⟨cc, _, zx⟩ := X.facts
  go_enter Try.func95, Try.ntmps95
  go_wp2_with fail
  refine (fmtS _ _ _ _).mono ?_
  rintro e w1 ⟨rfl, rfl⟩
  cases q1 : fmtB a b c
  · go_wp2
    go_ret
    exact ⟨by rw [HM.out, q1]; rfl, Y⟩
  obtain ⟨f1, f2, f3⟩ := fmtB_facts q1
  go_wp2_with fail
  refine (basS d _ m _ (hv.keep Y)).mono ?_
  rintro e w2 ⟨rfl, hb2⟩
  have X2 := hb2.keep X
  have Y2 := Y.trans hb2
  clear cc zx
  obtain ⟨cc, _, zx⟩ := X2.facts
  cases q2 : basB d m
  · go_wp2
    go_ret
    exact ⟨by rw [HM.out, q1, q2]; rfl, Y2⟩
  cases q3 : (d != b + c)
  case true =>
    go_wp2
    go_ret
    exact ⟨by rw [HM.out, q1, q2, q3]; rfl, Y2⟩
  go_wp2
  clear cc zx
  go_loopg [3] m.length (fun f i wr => ∃ k : Nat, k + f = m.length ∧ i = .int .i64 k ∧ Blk wr w.heap.size 73 #[.int .i64 a, .int .i64 b, .int .i64 c, .int .i64 d, .slice A m.length cp] ∧ Bel w wr ∧ Hid ((m.take k).all (ldB b) = true))
  case atStart => exact ⟨0, by omega, rfl, X2, Y2, by show _ = _; simp⟩
  case round =>
    clear X Y X2 Y2
    obtain ⟨k, hk, rfl, X, Y, HB⟩ := hrel
    have hk2 : k ≤ m.length := by omega
    have HK := Lib.hid hk
    clear hk
    obtain ⟨cc, _, zx⟩ := X.facts
    have r1 : wr.cell? ⟨w.heap.size, 1, none⟩ = some (.int .i64 b) := cc 1
    have r4 : wr.cell? ⟨w.heap.size, 4, none⟩ = some (.slice A m.length cp) := cc 4
    clear cc
    by_cases hlt : k < m.length
    · obtain ⟨b1, o1, rfl, z1, hc1⟩ := hA (by omega)
      have hx : Hid (m[k]? = some (m[k]'hlt)) := List.getElem?_eq_getElem hlt
      obtain ⟨u, g1, ru⟩ := hc1 k _ hx.out
      replace g1 := Y.cell1 z1 g1
      have zz := Nat.lt_of_lt_of_le z1 Y.size
      generalize m[k]'hlt = xs at *
      clear hc1 hA
      have i0 : (0 : Int) ≤ (k : Int) := by omega
      have i1 : (k : Int) < (m.length : Int) := by omega
      have qq1 := Bw.cell r1 zx
      have qq4 := Bw.cell r4 zx
      have qq2 := Bw.cell g1 zz
      have LC := Lib.hid (fun (W : World) (h : Bel wr W) => leadS _ xs W ((ru.keep Y).keep h))
      have HL : Hid (ldB b xs = !(decide (b ≤ leadV xs))) := rfl
      generalize leadV xs = p at *
      cases q : decide (b ≤ p)
      · have HF := Lib.hid (all_step (p := ldB b) hx.out HB.out (by rw [HL.out, q]; rfl))
        go_wp2
        refine wp_region_bel (by kernel_rfl) (by kernel_rfl) ?_
        repeat (first | go_big_quiet_step (first | (go_at_call 136; exact belQ_same (LC.out _ (Bw.bel _)))) | quiet_step (first | (go_at_call 136; exact belQ_same (LC.out _ (Bw.bel _)))))
        refine wpQuiet_nil ?_
        rintro _ ⟨⟨w3, hb3⟩, rfl⟩
        clear qq1 qq2 qq4
        go_wp2
        go_roundg (m.length - (k + 1))
        case measure => have := HK.out; omega
        case rel => exact ⟨k + 1, by omega, by go_num, hb3.keep X, Y.trans hb3, HF⟩
      · have HF := Lib.hid (all_fail (p := ldB b) hx.out (by rw [HL.out, q]; rfl))
        go_wp2
        refine wp_region_bel (by kernel_rfl) (by kernel_rfl) ?_
        repeat (first | go_big_quiet_step (first | (go_at_call 136; exact belQ_same (LC.out _ (Bw.bel _)))) | quiet_step (first | (go_at_call 136; exact belQ_same (LC.out _ (Bw.bel _)))))
        refine wpQuiet_nil ?_
        rintro _ ⟨⟨w3, hb3⟩, rfl⟩
        clear qq1 qq2 qq4
        go_wp2
        go_ret
        exact ⟨by rw [HM.out, HF.out]; simp, Y.trans hb3⟩
    · obtain rfl : k = m.length := by omega
      have i1 : ¬ (m.length : Int) < (m.length : Int) := by omega
      have HF := Lib.hid (all_end HB.out)
      go_wp2
      go_ret
      exact ⟨by rw [HM.out, q1, q2, q3, HF.out]; rfl, Y⟩
set_option maxHeartbeats 1000000 in
theorem missS (a b c d : Int) (v : Value) (m : List (List Int)) (w : World) (hv : RII w v m) :
    Calls Try.prog 43 #[.agg #[.int .i64 a, .int .i64 b, .int .i64 c, .int .i64 d, v]] w fun e w' => e = .returned (.int .i64 (missZ a b c d m)) ∧ Bel w w' := by
  have HM : Hid (missZ a b c d m = if decB a b c d m = true then b - (m.length : Int) else 0) := rfl
  obtain ⟨A, cp, rfl, h2, h3, hA⟩ := id hv
  have X := Blk.new w 73 #[.int .i64 a, .int .i64 b, .int .i64 c, .int .i64 d, .slice A m.length cp]
  have Y : Bel w (w.alloc (.cells #[.int .i64 a, .int .i64 b, .int .i64 c, .int .i64 d, .slice A m.length cp] 73)) := (Bel.refl _).alloc _
  go_enter Try.func43, Try.ntmps43
  go_wp2_with fail
  refine (decS a b c d _ m _ (hv.keep Y)).mono ?_
  rintro e w2 ⟨rfl, hb2⟩
  have X2 := hb2.keep X
  have Y2 := Y.trans hb2
  obtain ⟨cc, _, zx⟩ := X2.facts
  cases q1 : decB a b c d m
  · go_wp2
    go_ret
    exact ⟨by rw [HM.out, q1]; rfl, Y2⟩
  obtain ⟨f1, f2, _, _⟩ := decB_facts q1
  obtain ⟨_, f4, _⟩ := fmtB_facts f1
  obtain ⟨_, _, _, f5, _⟩ := basB_facts f2
  clear f1 f2
  go_wp2
  go_ret
  exact ⟨by rw [HM.out, q1]; rfl, Y2⟩

theorem miss_zero {a b c d : Int} {m : List (List Int)} (h : decB a b c d m = true) : (missZ a b c d m == 0) = ((m.length : Int) == b) := by
  unfold missZ
  rw [if_pos h, Bool.eq_iff_iff, beq_iff_eq, beq_iff_eq]
  omega

end Go.Proofs.Ytjaagabbbnokdaa
