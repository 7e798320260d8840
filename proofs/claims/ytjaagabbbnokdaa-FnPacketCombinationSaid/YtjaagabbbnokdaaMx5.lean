/-
  RowReduce, IsReduced, IsValidBasis, IsValidDecoder, MissingDegrees, IsComplete: contracts of the program's functions and of the reference's. No condition.
-/
import Derived.Test.YtjaagabbbnokdaaMx4
import Derived.Test.YtjaagabbbnokdaaMani2
namespace Go.Proofs.Ytjaagabbbnokdaa
open Go.ChangeShapes Go.WideShapes Go.ChangeAt Go.RowKit
set_option linter.unusedVariables false
set_option maxRecDepth 100000

set_option maxHeartbeats 1000000 in
theorem rowRedS (v : Value) (m : List (List Int)) (w : World) (hv : RII w v m) (hm : mtxB m = true) :
    Calls Try.prog 98 #[v] w fun e w' => ∃ r, e = .returned r ∧ ML w' w.heap.size r (redZ m (colN m)) ∧ Bel w w' := by
  have HM := Lib.hid hm
  obtain ⟨h1, h2, h3⟩ := mtxB_facts hm
  have H1 := Lib.hid h1
  clear hm h1
  go_enter Try.func98, Try.ntmps98
  go_wp2_with fail
  refine (mtxS v m _ hv).mono ?_
  rintro e w1 ⟨rfl, hb1⟩
  rw [HM.out]
  go_wp2_with fail
  refine (colS v m _ (hv.keep hb1)).mono ?_
  rintro e w2 ⟨rfl, rfl⟩
  go_wp2_with fail
  refine (elimS v m (colN m) _ (hv.keep hb1) H1.out h3 (by omega)).mono ?_
  rintro e w3 ⟨r, rfl, O, hb3⟩
  go_wp2
  go_ret
  exact ⟨_, rfl, O.low hb1.size, hb1.trans hb3⟩
theorem redB_test (m : List (List Int)) (h : mtxB m = true) : decide (redZ m (colN m) = m) = redB m := by
  unfold redB; rw [h, red_test (mtxB_facts h).1]; rfl
set_option maxHeartbeats 1000000 in
theorem isRedS (v : Value) (m : List (List Int)) (w : World) (hv : RII w v m) :
    Calls Try.prog 150 #[v] w fun e w' => e = .returned (.bool (redB m)) ∧ Bel w w' := by
  go_enter Try.func150, Try.ntmps150
  go_wp2_with fail
  refine (mtxS v m _ hv).mono ?_
  rintro e w1 ⟨rfl, hb1⟩
  cases hm : mtxB m
  · have HF := Lib.hid (redB_no hm)
    go_wp2
    go_ret
    exact ⟨by rw [HF.out]; rfl, hb1⟩
  have HT := Lib.hid (redB_test m hm)
  have HM := Lib.hid hm
  clear hm
  go_wp2_with fail
  refine (rowRedS v m _ (hv.keep hb1) HM.out).mono ?_
  rintro e w2 ⟨r, rfl, O, hb2⟩
  go_wp2_with fail
  refine (matEqS r v (redZ m (colN m)) m _ O.reads ((hv.keep hb1).keep hb2)).mono ?_
  rintro e w3 ⟨rfl, hb3⟩
  rw [HT.out]
  go_wp2
  go_ret
  exact ⟨rfl, (hb1.trans hb2).trans hb3⟩

/-- A valid basis of width d. -/
def basB (d : Int) (m : List (List Int)) : Bool := inB d 0 40 && redB m && (((m.length : Int) == 0) || ((colN m : Int) == d))
theorem basB_row {d : Int} {m : List (List Int)} {k : Nat} {r : List Int} (hx : m[k]? = some r) (h : ((r.length : Int) != d) = true) : basB d m = false := by
  unfold basB
  cases h1 : redB m
  · simp
  · have h2 : mtxB m = true := by unfold redB at h1; rw [Bool.and_eq_true] at h1; exact h1.1
    have h3 := ((mtxB_facts h2).1 r (List.mem_of_getElem? hx)).1
    have h4 : 0 < m.length := by have := (List.getElem?_eq_some_iff.1 hx).1; omega
    have h5 : ((m.length : Int) == 0) = false := beq_eq_false_iff_ne.2 (by omega)
    have h6 : ((colN m : Int) == d) = false := by rw [← h3]; simpa [bne] using h
    rw [h5, h6]; simp
theorem basB_all {d : Int} {m : List (List Int)} (h : m.all (fun r => !((r.length : Int) != d)) = true) : basB d m = (inB d 0 40 && redB m) := by
  unfold basB
  cases m with
  | nil => simp
  | cons r m =>
    have h1 := List.all_eq_true.1 h r List.mem_cons_self
    have h2 : ((colN (r :: m) : Int) == d) = true := by
      have : colN (r :: m) = r.length := rfl
      rw [this]; simpa [bne] using h1
    rw [h2]; simp
theorem basB_facts {d : Int} {m : List (List Int)} (h : basB d m = true) : ∃ c : Nat, d = (c : Int) ∧ c ≤ 40 ∧ m.length ≤ 40 ∧ Red c m (fun i => lead (rw_ m i)) := by
  unfold basB redB at h
  rw [Bool.and_eq_true, Bool.and_eq_true, Bool.and_eq_true] at h
  obtain ⟨⟨h1, h2, h3⟩, h4⟩ := h
  have h5 := inB_facts h1
  obtain ⟨m1, m2, m3⟩ := mtxB_facts h2
  obtain ⟨c, rfl⟩ := Int.eq_ofNat_of_zero_le h5.1
  refine ⟨c, rfl, by omega, m2, ?_⟩
  have hm : Mtx c m := by
    rw [Bool.or_eq_true] at h4
    rcases h4 with h4 | h4
    · have : m = [] := List.eq_nil_of_length_eq_zero (by simp at h4; simp [h4])
      subst this
      intro r hr; cases hr
    · have : colN m = c := by simp at h4; omega
      rw [← this]; exact m1
  exact (rdB_iff hm).1 h3

set_option maxHeartbeats 2000000 in
theorem basI (d : Int) (v : Value) (m : List (List Int)) (w : World) (hv : RII w v m) :
    Calls Try.prog 123 #[.agg #[.int .i64 d, v]] w fun e w' => e = .returned (.bool (basB d m)) ∧ Bel w w' := by
  have HM : Hid (basB d m = (inB d 0 40 && redB m && (((m.length : Int) == 0) || ((colN m : Int) == d)))) := rfl
  obtain ⟨A, c, rfl, h2, h3, hA⟩ := id hv
  have Y : Bel w (w.alloc (.cells #[.int .i64 d, .slice A m.length c] 39)) := (Bel.refl _).alloc _
  obtain ⟨cc, _, zx⟩ := (Blk.new w 39 #[.int .i64 d, .slice A m.length c]).facts
  have r0 : (w.alloc (.cells #[.int .i64 d, .slice A m.length c] 39)).cell? ⟨w.heap.size, 0, none⟩ = some (.int .i64 d) := cc 0
  have r1 : (w.alloc (.cells #[.int .i64 d, .slice A m.length c] 39)).cell? ⟨w.heap.size, 1, none⟩ = some (.slice A m.length c) := cc 1
  have qq0 := Bw.cell r0 zx
  have qq1 := Bw.cell r1 zx
  have C1 := Lib.hid (fun (W : World) => inRB d 0 40 W)
  have C2 := Lib.hid (fun (W : World) (h : Bel (w.alloc (.cells #[.int .i64 d, .slice A m.length c] 39)) W) => rdI _ m W ((hv.keep Y).keep h))
  clear cc r0 r1
  cases q1 : inB d 0 40
  · rw [q1] at C1
    go_enter Try.func123, Try.ntmps123
    go_wp2
    refine wp_region_bel (by kernel_rfl) (by kernel_rfl) ?_
    repeat (first | go_big_quiet_step (first | (go_at_call 52; exact belQ_same (C1.out _)) | (go_at_call 153; exact belQ_same (C2.out _ (Bw.bel _)))) | quiet_step (first | (go_at_call 52; exact belQ_same (C1.out _)) | (go_at_call 153; exact belQ_same (C2.out _ (Bw.bel _)))))
    refine wpQuiet_nil ?_
    rintro _ ⟨⟨w3, hb3⟩, rfl⟩
    clear qq0 qq1
    go_wp2
    go_ret
    exact ⟨by rw [HM.out, q1]; rfl, Y.trans hb3⟩
  rw [q1] at C1
  cases q2 : redB m
  · rw [q2] at C2
    go_enter Try.func123, Try.ntmps123
    go_wp2
    refine wp_region_bel (by kernel_rfl) (by kernel_rfl) ?_
    repeat (first | go_big_quiet_step (first | (go_at_call 52; exact belQ_same (C1.out _)) | (go_at_call 153; exact belQ_same (C2.out _ (Bw.bel _)))) | quiet_step (first | (go_at_call 52; exact belQ_same (C1.out _)) | (go_at_call 153; exact belQ_same (C2.out _ (Bw.bel _)))))
    refine wpQuiet_nil ?_
    rintro _ ⟨⟨w3, hb3⟩, rfl⟩
    clear qq0 qq1
    go_wp2
    go_ret
    exact ⟨by rw [HM.out, q1, q2]; rfl, Y.trans hb3⟩
  rw [q2] at C2
  by_cases h0 : 0 < m.length
  · have q3 : ((m.length : Int) == 0) = false := beq_eq_false_iff_ne.2 (by omega)
    obtain ⟨b1, o1, rfl, z1, hc1⟩ := hA h0
    obtain ⟨u0, g0, ru0⟩ := hc1 0 _ (List.getElem?_eq_getElem h0)
    have e0 := colN_at (List.getElem?_eq_getElem h0)
    rw [Nat.add_zero] at g0
    obtain ⟨A0, c0, rfl, _, _, _⟩ := ru0
    rw [e0] at g0
    have qq2 := Bw.cell (Y.cell1 z1 g0) (Nat.lt_of_lt_of_le z1 Y.size)
    have i2 : (0 : Int) < (m.length : Int) := by omega
    clear e0 hc1 hA g0
    go_enter Try.func123, Try.ntmps123
    go_wp2
    refine wp_region_bel (by kernel_rfl) (by kernel_rfl) ?_
    repeat (first | go_big_quiet_step (first | (go_at_call 52; exact belQ_same (C1.out _)) | (go_at_call 153; exact belQ_same (C2.out _ (Bw.bel _)))) | quiet_step (first | (go_at_call 52; exact belQ_same (C1.out _)) | (go_at_call 153; exact belQ_same (C2.out _ (Bw.bel _)))))
    refine wpQuiet_nil ?_
    rintro _ ⟨⟨w3, hb3⟩, rfl⟩
    clear qq0 qq1 qq2
    go_wp2
    go_ret
    exact ⟨by rw [HM.out, q1, q2, q3]; simp, Y.trans hb3⟩
  · have q3 : ((m.length : Int) == 0) = true := by simp; exact List.eq_nil_of_length_eq_zero (by omega)
    clear hA h0
    go_enter Try.func123, Try.ntmps123
    go_wp2
    refine wp_region_bel (by kernel_rfl) (by kernel_rfl) ?_
    repeat (first | go_big_quiet_step (first | (go_at_call 52; exact belQ_same (C1.out _)) | (go_at_call 153; exact belQ_same (C2.out _ (Bw.bel _)))) | quiet_step (first | (go_at_call 52; exact belQ_same (C1.out _)) | (go_at_call 153; exact belQ_same (C2.out _ (Bw.bel _)))))
    refine wpQuiet_nil ?_
    rintro _ ⟨⟨w3, hb3⟩, rfl⟩
    clear qq0 qq1
    go_wp2
    go_ret
    exact ⟨by rw [HM.out, q1, q2, q3]; rfl, Y.trans hb3⟩
set_option maxHeartbeats 2000000 in
theorem basS (d : Int) (v : Value) (m : List (List Int)) (w : World) (hv : RII w v m) :
    Calls Try.prog 118 #[.agg #[.int .i64 d, v]] w fun e w' => e = .returned (.bool (basB d m)) ∧ Bel w w' := by
  obtain ⟨A, c, rfl, h2, h3, hA⟩ := id hv
  have X := Blk.new w 39 #[.int .i64 d, .slice A m.length c]
  have Y : Bel w (w.alloc (.cells #[.int .i64 d, .slice A m.length c] 39)) := (Bel.refl _).alloc _
  go_enter Try.func118, Try.ntmps118
  go_wp2
  go_loopg [3] m.length (fun f i wr => ∃ k : Nat, k + f = m.length ∧ i = .int .i64 k ∧ Blk wr w.heap.size 39 #[.int .i64 d, .slice A m.length c] ∧ Bel w wr ∧ Hid ((m.take k).all (fun r => !((r.length : Int) != d)) = true))
  case atStart => exact ⟨0, by omega, rfl, X, Y, by show _ = _; simp⟩
  case round =>
    clear X Y
    obtain ⟨k, hk, rfl, X, Y, HB⟩ := hrel
    have hk2 : k ≤ m.length := by omega
    have HK := Lib.hid hk
    clear hk
    obtain ⟨cc, _, zx⟩ := X.facts
    have r0 : wr.cell? ⟨w.heap.size, 0, none⟩ = some (.int .i64 d) := cc 0
    have r1 : wr.cell? ⟨w.heap.size, 1, none⟩ = some (.slice A m.length c) := cc 1
    clear cc
    by_cases hlt : k < m.length
    · obtain ⟨b1, o1, rfl, z1, hc1⟩ := hA (by omega)
      have hx : Hid (m[k]? = some (m[k]'hlt)) := List.getElem?_eq_getElem hlt
      obtain ⟨u, g1, ru⟩ := hc1 k _ hx.out
      replace g1 := Y.cell1 z1 g1
      have zz := Nat.lt_of_lt_of_le z1 Y.size
      generalize m[k]'hlt = xs at *
      clear hc1 hA
      obtain ⟨Au, cu, rfl, _, _, _⟩ := id ru
      have i0 : (0 : Int) ≤ (k : Int) := by omega
      have i1 : (k : Int) < (m.length : Int) := by omega
      have qq0 := Bw.cell r0 zx
      have qq1 := Bw.cell r1 zx
      have qq2 := Bw.cell g1 zz
      cases q1 : ((xs.length : Int) != d)
      · have HF := Lib.hid (all_step (p := fun r => !((r.length : Int) != d)) hx.out HB.out (by simp only [q1]; rfl))
        go_wp2
        refine wp_region_bel (by kernel_rfl) (by kernel_rfl) ?_
        repeat (first | go_big_quiet_step (fail) | quiet_step (fail))
        refine wpQuiet_nil ?_
        rintro _ ⟨⟨w3, hb3⟩, rfl⟩
        clear qq0 qq1 qq2
        go_wp2
        go_roundg (m.length - (k + 1))
        case measure => have := HK.out; omega
        case rel => exact ⟨k + 1, by omega, by go_num, hb3.keep X, Y.trans hb3, HF⟩
      · have HF := Lib.hid (basB_row hx.out q1)
        go_wp2
        refine wp_region_bel (by kernel_rfl) (by kernel_rfl) ?_
        repeat (first | go_big_quiet_step (fail) | quiet_step (fail))
        refine wpQuiet_nil ?_
        rintro _ ⟨⟨w3, hb3⟩, rfl⟩
        clear qq0 qq1 qq2
        go_wp2
        go_ret
        exact ⟨by rw [HF.out]; rfl, Y.trans hb3⟩
    · obtain rfl : k = m.length := by omega
      have i1 : ¬ (m.length : Int) < (m.length : Int) := by omega
      have HF := Lib.hid (basB_all (all_end HB.out))
      go_wp2_with fail
      refine (l1InB d 0 40 _).mono ?_
      rintro e w1 ⟨rfl, rfl⟩
      cases q1 : inB d 0 40
      · go_wp2
        go_ret
        exact ⟨by rw [HF.out, q1]; rfl, Y⟩
      go_wp2_with fail
      refine (isRedS _ m _ (hv.keep Y)).mono ?_
      rintro e w2 ⟨rfl, hb2⟩
      go_wp2
      go_ret
      exact ⟨by rw [HF.out, q1]; rfl, Y.trans hb2⟩
end Go.Proofs.Ytjaagabbbnokdaa
