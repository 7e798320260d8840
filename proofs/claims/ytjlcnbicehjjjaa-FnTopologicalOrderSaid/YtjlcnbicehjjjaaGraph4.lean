/-
  The loop of the reference's IsValidGraph. No condition.
-/
import Derived.Test.YtjlcnbicehjjjaaGraph3
namespace Go.Proofs.Ytjlcnbicehjjjaa
open Go.ChangeShapes Go.WideShapes Go.ChangeAt Go.RowKit
set_option linter.unusedVariables false
set_option maxRecDepth 100000

set_option maxHeartbeats 4000000 in
theorem graphS_y (s hi : Int) (v : Value) (fs : List Tr) (w : World) (hv : RT w v fs) (hhi : IntKind.i64.wrap (s - 1) = hi) :
    Calls Try.prog 85 #[.agg #[.int .i64 s, v]] w fun e w' => e = .returned (.bool ((List.range fs.length).all (edP hi fs) && (inE s 1 8 && decide (fs.length ≤ 20)))) ∧ Bel w w' := by
  obtain ⟨A, c, rfl, h1, h2, hA⟩ := id hv
  go_enter Try.func85, Try.ntmps85
  go_wp2
  go_loopg [3] fs.length (fun f i wr => ∃ k : Nat, k + f = fs.length ∧ i = .int .i64 k ∧ Blk wr w.heap.size 73 #[.int .i64 s, .slice A fs.length c] ∧ Bel w wr ∧ Hid ((List.range k).all (edP (hi) fs) = true))
  case atStart => exact ⟨0, by omega, rfl, Blk.new w _ _, (Bel.refl _).alloc _, by show _ = _; simp⟩
  case round =>
    obtain ⟨k, hk, rfl, X, Y, HB⟩ := hrel
    have hk2 : k ≤ fs.length := by omega
    have HK := Lib.hid hk
    clear hk
    obtain ⟨cx0, _, zx0⟩ := X.facts
    have xs0 := cx0 0
    have xx0 := cx0 1
    simp at xs0 xx0
    clear cx0
    by_cases hlt : k < fs.length
    · obtain ⟨b1, o1, rfl, z1, hc1⟩ := hA (by omega)
      have hx : Hid (fs[k]? = some (fs[k]'hlt)) := List.getElem?_eq_getElem hlt
      obtain ⟨g1, g2, g3⟩ := hc1 k _ hx
      have HC := Lib.hid hc1
      generalize fs[k]'hlt = x at *
      obtain ⟨x, y, z⟩ := x
      dsimp only at *
      replace g1 := Y.cell1 z1 g1
      replace g2 := Y.cell1 z1 g2
      replace g3 := Y.cell1 z1 g3
      clear hc1 hA
      have i0 : (0 : Int) ≤ (k : Int) := by omega
      have i1 : (k : Int) < (fs.length : Int) := by omega
      go_wp2
      have F2 := Blk.new wr 80 #[.int .i64 x, .int .i64 y, .int .i64 z]
      have X2 := X.alloc (.cells #[.int .i64 x, .int .i64 y, .int .i64 z] 80)
      have Y2 := Y.alloc (.cells #[.int .i64 x, .int .i64 y, .int .i64 z] 80)
      clear g1 g2 g3 X Y xx0 xs0 zx0
      generalize wr.alloc (.cells #[.int .i64 x, .int .i64 y, .int .i64 z] 80) = w2 at *
      generalize wr.heap.size = G at *
      obtain ⟨cf, _, zf⟩ := F2.facts
      have f0 : w2.cell? ⟨G, 0, none⟩ = some (.int .i64 x) := cf 0
      have f1 : w2.cell? ⟨G, 1, none⟩ = some (.int .i64 y) := cf 1
      have f2 : w2.cell? ⟨G, 2, none⟩ = some (.int .i64 z) := cf 2
      clear cf F2
      obtain ⟨cx, _, zx⟩ := X2.facts
      have sx : w2.cell? ⟨w.heap.size, 0, none⟩ = some (.int .i64 s) := cx 0
      have xx : w2.cell? ⟨w.heap.size, 1, none⟩ = some (.slice (some ⟨b1, o1, none⟩) fs.length c) := cx 1
      clear cx
      have zz := Nat.lt_of_lt_of_le z1 Y2.size
      cases ha : inE x 0 (hi)
      · have HF := Lib.hid (rng_fail (p := edP (hi) fs) hlt (by simp [edP, hx.out, ha]))
        have HA := Lib.hid ha
        clear ha
        have qq0 := Bw.cell f0 zf
        have qq1 := Bw.cell f1 zf
        have qq2 := Bw.cell f2 zf
        have qq3 := Bw.cell sx zx
        have qq4 := Bw.cell xx zx
        refine wp_region_bel (by kernel_rfl) (by kernel_rfl) ?_
        repeat (first | go_big_quiet_step (first | (go_at_call 50; exact belQ_same (l1InE _ _ _ _ _ (by first | exact HA.out)))) | quiet_step (first | (go_at_call 50; exact belQ_same (l1InE _ _ _ _ _ (by first | exact HA.out)))))
        refine wpQuiet_nil ?_
        rintro _ ⟨⟨w3, hb3⟩, rfl⟩
        clear qq0 qq1 qq2 qq3 qq4
        go_wp2
        go_ret
        exact ⟨by rw [HF.out]; rfl, Y2.trans hb3⟩
      have HA := Lib.hid ha
      cases hb : inE y 0 (hi)
      · have HF := Lib.hid (rng_fail (p := edP (hi) fs) hlt (by simp [edP, hx.out, hb]))
        have HB2 := Lib.hid hb
        clear ha hb
        have qq0 := Bw.cell f0 zf
        have qq1 := Bw.cell f1 zf
        have qq2 := Bw.cell f2 zf
        have qq3 := Bw.cell sx zx
        have qq4 := Bw.cell xx zx
        refine wp_region_bel (by kernel_rfl) (by kernel_rfl) ?_
        repeat (first | go_big_quiet_step (first | (go_at_call 50; exact belQ_same (l1InE _ _ _ _ _ (by first | exact HA.out | exact HB2.out)))) | quiet_step (first | (go_at_call 50; exact belQ_same (l1InE _ _ _ _ _ (by first | exact HA.out | exact HB2.out)))))
        refine wpQuiet_nil ?_
        rintro _ ⟨⟨w3, hb3⟩, rfl⟩
        clear qq0 qq1 qq2 qq3 qq4
        go_wp2
        go_ret
        exact ⟨by rw [HF.out]; rfl, Y2.trans hb3⟩
      have HB2 := Lib.hid hb
      cases hc : (x == y)
      rotate_left
      · have hF0 : edP (hi) fs k = false := by simp only [edP, hx.out, hc]; simp
        have HF := Lib.hid (rng_fail (p := edP (hi) fs) hlt hF0)
        clear ha hb hF0
        have qq0 := Bw.cell f0 zf
        have qq1 := Bw.cell f1 zf
        have qq2 := Bw.cell f2 zf
        have qq3 := Bw.cell sx zx
        have qq4 := Bw.cell xx zx
        refine wp_region_bel (by kernel_rfl) (by kernel_rfl) ?_
        repeat (first | go_big_quiet_step (first | (go_at_call 50; exact belQ_same (l1InE _ _ _ _ _ (by first | exact HA.out | exact HB2.out)))) | quiet_step (first | (go_at_call 50; exact belQ_same (l1InE _ _ _ _ _ (by first | exact HA.out | exact HB2.out)))))
        refine wpQuiet_nil ?_
        rintro _ ⟨⟨w3, hb3⟩, rfl⟩
        clear qq0 qq1 qq2 qq3 qq4
        go_wp2
        go_ret
        exact ⟨by rw [HF.out]; rfl, Y2.trans hb3⟩
      cases hd : inE z 1 8
      · have HF := Lib.hid (rng_fail (p := edP (hi) fs) hlt (by simp [edP, hx.out, hd]))
        have HD := Lib.hid hd
        clear ha hb hd
        have qq0 := Bw.cell f0 zf
        have qq1 := Bw.cell f1 zf
        have qq2 := Bw.cell f2 zf
        have qq3 := Bw.cell sx zx
        have qq4 := Bw.cell xx zx
        refine wp_region_bel (by kernel_rfl) (by kernel_rfl) ?_
        repeat (first | go_big_quiet_step (first | (go_at_call 50; exact belQ_same (l1InE _ _ _ _ _ (by first | exact HA.out | exact HB2.out | exact HD.out)))) | quiet_step (first | (go_at_call 50; exact belQ_same (l1InE _ _ _ _ _ (by first | exact HA.out | exact HB2.out | exact HD.out)))))
        refine wpQuiet_nil ?_
        rintro _ ⟨⟨w3, hb3⟩, rfl⟩
        clear qq0 qq1 qq2 qq3 qq4
        go_wp2
        go_ret
        exact ⟨by rw [HF.out]; rfl, Y2.trans hb3⟩
      have HD := Lib.hid hd
      cases k with
      | zero =>
        have hF0 : edP (hi) fs 0 = true := by simp only [edP, hx.out, ha, hb, hc, hd]; rfl
        have HF := Lib.hid (rng_step (p := edP (hi) fs) HB.out hF0)
        clear ha hb hd hF0
        have d0 : decide ((0 : Int) < ((0 : Nat) : Int)) = false := rfl
        have qq0 := Bw.cell f0 zf
        have qq1 := Bw.cell f1 zf
        have qq2 := Bw.cell f2 zf
        have qq3 := Bw.cell sx zx
        have qq4 := Bw.cell xx zx
        refine wp_region_bel (by kernel_rfl) (by kernel_rfl) ?_
        repeat (first | go_big_quiet_step (first | (go_at_call 50; exact belQ_same (l1InE _ _ _ _ _ (by first | exact HA.out | exact HB2.out | exact HD.out)))) | quiet_step (first | (go_at_call 50; exact belQ_same (l1InE _ _ _ _ _ (by first | exact HA.out | exact HB2.out | exact HD.out)))))
        refine wpQuiet_nil ?_
        rintro _ ⟨⟨w3, hb3⟩, rfl⟩
        clear qq0 qq1 qq2 qq3 qq4
        go_wp2
        go_roundg (fs.length - (0 + 1))
        case measure => have := HK.out; omega
        case rel => exact ⟨0 + 1, by omega, by go_num, hb3.keep X2, Y2.trans hb3, HF⟩
      | succ j =>
        have hj : j < fs.length := by omega
        have hxj : Hid (fs[j]? = some (fs[j]'hj)) := List.getElem?_eq_getElem hj
        obtain ⟨p1, p2, p3⟩ := HC.out j _ hxj
        generalize fs[j]'hj = xj at *
        obtain ⟨x0, y0, z0⟩ := xj
        dsimp only at *
        replace p1 := Y2.cell1 z1 p1
        replace p2 := Y2.cell1 z1 p2
        replace p3 := Y2.cell1 z1 p3
        have d0 : decide ((0 : Int) < ((j + 1 : Nat) : Int)) = true := decide_eq_true (by omega)
        have d1 : IntKind.i64.wrap (((j + 1 : Nat) : Int) - 1) = (j : Int) := by rw [IntWalk.i64_in _ (by omega)]; omega
        have d2 : (0 : Int) ≤ (j : Int) := by omega
        have d3 : (j : Int) < (fs.length : Int) := by omega
        have HM := compEd_neg (x0, y0, z0) (x, y, z)
        cases hls : lessEd (x0, y0, z0) (x, y, z)
        · have hF0 : edP (hi) fs (j + 1) = false := by simp only [edP, hx.out, hxj.out, hls]; simp
          have HF := Lib.hid (rng_fail (p := edP (hi) fs) hlt hF0)
          have HLS := Lib.hid hls
          rw [hls] at HM
          have HM2 : decide (0 ≤ compEd (x0, y0, z0) (x, y, z)) = true := HM
          clear hls ha hb hd hF0 HM
          have qq0 := Bw.cell f0 zf
          have qq1 := Bw.cell f1 zf
          have qq2 := Bw.cell f2 zf
          have qq3 := Bw.cell sx zx
          have qq4 := Bw.cell xx zx
          have qq5 := Bw.cell p1 zz
          have qq6 := Bw.cell p2 zz
          have qq7 := Bw.cell p3 zz
          refine wp_region_bel (by kernel_rfl) (by kernel_rfl) ?_
          repeat (first | go_big_quiet_step (first | (go_at_call 50; exact belQ_same (l1InE _ _ _ _ _ (by first | exact HA.out | exact HB2.out | exact HD.out))) | (go_at_call 107; (with_reducible exact belQ (lessEdS x0 y0 z0 x y z false _ HLS.out)))) | quiet_step (first | (go_at_call 50; exact belQ_same (l1InE _ _ _ _ _ (by first | exact HA.out | exact HB2.out | exact HD.out))) | (go_at_call 107; (with_reducible exact belQ (lessEdS x0 y0 z0 x y z false _ HLS.out)))))
          refine wpQuiet_nil ?_
          rintro _ ⟨⟨w3, hb3⟩, rfl⟩
          clear qq0 qq1 qq2 qq3 qq4 qq5 qq6 qq7
          go_wp2
          go_ret
          exact ⟨by rw [HF.out]; rfl, Y2.trans hb3⟩
        · have hF0 : edP (hi) fs (j + 1) = true := by simp only [edP, hx.out, hxj.out, hls, ha, hb, hc, hd]; rfl
          have HF := Lib.hid (rng_step (p := edP (hi) fs) HB.out hF0)
          have HLS := Lib.hid hls
          rw [hls] at HM
          have HM2 : decide (0 ≤ compEd (x0, y0, z0) (x, y, z)) = false := HM
          clear hls ha hb hd hF0 HM
          have qq0 := Bw.cell f0 zf
          have qq1 := Bw.cell f1 zf
          have qq2 := Bw.cell f2 zf
          have qq3 := Bw.cell sx zx
          have qq4 := Bw.cell xx zx
          have qq5 := Bw.cell p1 zz
          have qq6 := Bw.cell p2 zz
          have qq7 := Bw.cell p3 zz
          refine wp_region_bel (by kernel_rfl) (by kernel_rfl) ?_
          repeat (first | go_big_quiet_step (first | (go_at_call 50; exact belQ_same (l1InE _ _ _ _ _ (by first | exact HA.out | exact HB2.out | exact HD.out))) | (go_at_call 107; (with_reducible exact belQ (lessEdS x0 y0 z0 x y z true _ HLS.out)))) | quiet_step (first | (go_at_call 50; exact belQ_same (l1InE _ _ _ _ _ (by first | exact HA.out | exact HB2.out | exact HD.out))) | (go_at_call 107; (with_reducible exact belQ (lessEdS x0 y0 z0 x y z true _ HLS.out)))))
          refine wpQuiet_nil ?_
          rintro _ ⟨⟨w3, hb3⟩, rfl⟩
          clear qq0 qq1 qq2 qq3 qq4 qq5 qq6 qq7
          go_wp2
          go_roundg (fs.length - (j + 1 + 1))
          case measure => have := HK.out; omega
          case rel => exact ⟨j + 1 + 1, by omega, by go_num, hb3.keep X2, Y2.trans hb3, HF⟩
    · obtain rfl : k = fs.length := by omega
      have i1 : ¬ (fs.length : Int) < (fs.length : Int) := by omega
      cases hq : inE s 1 8
      · have HQ := Lib.hid hq
        clear hq hhi
        go_wp2_with fail
        refine (l1InE s 1 8 false _ HQ.out).mono ?_
        rintro e w1 ⟨rfl, rfl⟩
        go_wp2
        go_ret
        exact ⟨by rw [HB.out, HQ.out]; rfl, Y⟩
      · have HQ := Lib.hid hq
        clear hq hhi
        go_wp2_with fail
        refine (l1InE s 1 8 true _ HQ.out).mono ?_
        rintro e w1 ⟨rfl, rfl⟩
        go_wp2
        go_ret
        exact ⟨by rw [HB.out, HQ.out]; simp; omega, Y⟩
theorem graphS (s : Int) (v : Value) (fs : List Tr) (w : World) (hv : RT w v fs) :
    Calls Try.prog 85 #[.agg #[.int .i64 s, v]] w fun e w' => e = .returned (.bool (graphB s fs)) ∧ Bel w w' := by
  refine (graphS_y s _ v fs w hv rfl).mono fun e w' ⟨he, hb⟩ => ⟨?_, hb⟩
  rw [he]
  congr 2
  unfold graphB
  cases hq : inE s 1 8
  · simp
  · have h := of_decide_eq_true hq
    rw [IntWalk.i64_in (s - 1) (by omega), Bool.true_and, Bool.and_comm]
set_option maxHeartbeats 400000 in
theorem graphI (s : Int) (v : Value) (fs : List Tr) (w : World) (hv : RT w v fs) :
    Calls Try.prog 91 #[.agg #[.int .i64 s, v]] w fun e w' => e = .returned (.bool (graphB s fs)) ∧ Bel w w' := by
  cases hq : inE s 1 8
  · have HG : Hid (graphB s fs = false) := by show _ = _; simp [graphB, hq]
    have HQ := Lib.hid hq
    clear hq
    go_enter Try.func91, Try.ntmps91
    go_wp2_with fail
    refine (inRE s 1 8 false _ HQ.out).mono ?_
    rintro e w1 ⟨rfl, rfl⟩
    go_wp2
    go_ret
    exact ⟨by rw [HG.out]; rfl, (Bel.refl _).alloc _⟩
  · have h := of_decide_eq_true hq
    by_cases hl : fs.length ≤ 20
    · have hg : graphB s fs = (List.range fs.length).all (edP (s - 1) fs) := by simp [graphB, hq, hl]
      rw [hg]
      exact graphI_y s v fs w hv h.1 h.2 hl
    · have HG : Hid (graphB s fs = false) := by show _ = _; simp [graphB, hl]
      have HQ := Lib.hid hq
      have dl : decide ((20 : Int) < (fs.length : Int)) = true := by simp; omega
      obtain ⟨A, c, rfl, _, _, _⟩ := hv
      clear hq hl h
      go_enter Try.func91, Try.ntmps91
      go_wp2_with fail
      refine (inRE s 1 8 true _ HQ.out).mono ?_
      rintro e w1 ⟨rfl, rfl⟩
      go_wp2
      go_ret
      exact ⟨by rw [HG.out]; rfl, (Bel.refl _).alloc _⟩
end Go.Proofs.Ytjlcnbicehjjjaa
