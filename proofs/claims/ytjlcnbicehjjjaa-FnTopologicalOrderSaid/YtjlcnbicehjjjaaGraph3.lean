/-
  Contracts of IsValidGraph, of the program and of the reference. No condition.
-/
import Derived.Test.YtjlcnbicehjjjaaGraph2
namespace Go.Proofs.Ytjlcnbicehjjjaa
open Go.ChangeShapes Go.WideShapes Go.ChangeAt Go.RowKit
set_option linter.unusedVariables false
set_option maxRecDepth 100000

theorem rng_step {p : Nat → Bool} {k : Nat} (h : (List.range k).all p = true) (hp : p k = true) : (List.range (k + 1)).all p = true := by
  rw [List.range_succ, List.all_append, h]; simp [hp]
theorem rng_fail {p : Nat → Bool} {k n : Nat} (h : k < n) (hp : p k = false) : (List.range n).all p = false := by
  rw [List.all_eq_false]; exact ⟨k, List.mem_range.2 h, by simp [hp]⟩
set_option maxHeartbeats 4000000 in
theorem graphI_y (s : Int) (v : Value) (fs : List Tr) (w : World) (hv : RT w v fs) (hs1 : 1 ≤ s) (hs2 : s ≤ 8) (hl : fs.length ≤ 20) :
    Calls Try.prog 91 #[.agg #[.int .i64 s, v]] w fun e w' => e = .returned (.bool ((List.range fs.length).all (edP (s - 1) fs))) ∧ Bel w w' := by
  obtain ⟨A, c, rfl, h1, h2, hA⟩ := id hv
  have dl : decide ((20 : Int) < (fs.length : Int)) = false := by simp; omega
  go_enter Try.func91, Try.ntmps91
  go_wp2_with fail
  refine (inRE s 1 8 true _ (decide_eq_true ⟨hs1, hs2⟩)).mono ?_
  rintro e w1 ⟨rfl, rfl⟩
  go_wp2
  go_loopg [18] fs.length (fun f i wr => ∃ k : Nat, k + f = fs.length ∧ i = .int .i64 k ∧ Blk wr w.heap.size 73 #[.int .i64 s, .slice A fs.length c] ∧ Bel w wr ∧ Hid ((List.range k).all (edP (s - 1) fs) = true))
  case atStart => exact ⟨0, by omega, rfl, Blk.new w _ _, (Bel.refl _).alloc _, by show _ = _; simp⟩
  case round =>
    obtain ⟨k, hk, rfl, X, Y, HB⟩ := hrel
    have hk2 : k ≤ fs.length := by omega
    have HK := Lib.hid hk
    clear hk
    obtain ⟨cx0, _, zx0⟩ := X.facts
    have xs0 := cx0 0
    have xx0 := cx0 1
    simp at xs0 xx0
    clear cx0
    by_cases hlt : k < fs.length
    · obtain ⟨b1, o1, rfl, z1, hc1⟩ := hA (by omega)
      have hx : Hid (fs[k]? = some (fs[k]'hlt)) := List.getElem?_eq_getElem hlt
      obtain ⟨g1, g2, g3⟩ := hc1 k _ hx
      have HC := Lib.hid hc1
      generalize fs[k]'hlt = x at *
      obtain ⟨x, y, z⟩ := x
      dsimp only at *
      replace g1 := Y.cell1 z1 g1
      replace g2 := Y.cell1 z1 g2
      replace g3 := Y.cell1 z1 g3
      clear hc1 hA
      have i0 : (0 : Int) ≤ (k : Int) := by omega
      have i1 : (k : Int) < (fs.length : Int) := by omega
      go_wp2
      have F2 := Blk.new wr 80 #[.int .i64 x, .int .i64 y, .int .i64 z]
      have X2 := X.alloc (.cells #[.int .i64 x, .int .i64 y, .int .i64 z] 80)
      have Y2 := Y.alloc (.cells #[.int .i64 x, .int .i64 y, .int .i64 z] 80)
      clear g1 g2 g3 X Y xx0 xs0 zx0
      generalize wr.alloc (.cells #[.int .i64 x, .int .i64 y, .int .i64 z] 80) = w2 at *
      generalize wr.heap.size = G at *
      obtain ⟨cf, _, zf⟩ := F2.facts
      have f0 : w2.cell? ⟨G, 0, none⟩ = some (.int .i64 x) := cf 0
      have f1 : w2.cell? ⟨G, 1, none⟩ = some (.int .i64 y) := cf 1
      have f2 : w2.cell? ⟨G, 2, none⟩ = some (.int .i64 z) := cf 2
      clear cf F2
      obtain ⟨cx, _, zx⟩ := X2.facts
      have sx : w2.cell? ⟨w.heap.size, 0, none⟩ = some (.int .i64 s) := cx 0
      have xx : w2.cell? ⟨w.heap.size, 1, none⟩ = some (.slice (some ⟨b1, o1, none⟩) fs.length c) := cx 1
      clear cx
      have zz := Nat.lt_of_lt_of_le z1 Y2.size
      cases ha : inE x 0 (s - 1)
      · have HF := Lib.hid (rng_fail (p := edP (s - 1) fs) hlt (by simp [edP, hx.out, ha]))
        have HA := Lib.hid ha
        clear ha
        have qq0 := Bw.cell f0 zf
        have qq1 := Bw.cell f1 zf
        have qq2 := Bw.cell f2 zf
        have qq3 := Bw.cell sx zx
        have qq4 := Bw.cell xx zx
        refine wp_region_bel (by kernel_rfl) (by kernel_rfl) ?_
        repeat (first | go_big_quiet_step (first | (go_at_call 111; exact belQ (hasNodeI s _ _ _ _ (by first | exact HA.out) hs1 hs2))) | quiet_step (first | (go_at_call 111; exact belQ (hasNodeI s _ _ _ _ (by first | exact HA.out) hs1 hs2))))
        refine wpQuiet_nil ?_
        rintro _ ⟨⟨w3, hb3⟩, rfl⟩
        clear qq0 qq1 qq2 qq3 qq4
        go_wp2
        go_ret
        exact ⟨by rw [HF.out]; rfl, Y2.trans hb3⟩
      have HA := Lib.hid ha
      cases hb : inE y 0 (s - 1)
      · have HF := Lib.hid (rng_fail (p := edP (s - 1) fs) hlt (by simp [edP, hx.out, hb]))
        have HB2 := Lib.hid hb
        clear ha hb
        have qq0 := Bw.cell f0 zf
        have qq1 := Bw.cell f1 zf
        have qq2 := Bw.cell f2 zf
        have qq3 := Bw.cell sx zx
        have qq4 := Bw.cell xx zx
        refine wp_region_bel (by kernel_rfl) (by kernel_rfl) ?_
        repeat (first | go_big_quiet_step (first | (go_at_call 111; exact belQ (hasNodeI s _ _ _ _ (by first | exact HA.out | exact HB2.out) hs1 hs2))) | quiet_step (first | (go_at_call 111; exact belQ (hasNodeI s _ _ _ _ (by first | exact HA.out | exact HB2.out) hs1 hs2))))
        refine wpQuiet_nil ?_
        rintro _ ⟨⟨w3, hb3⟩, rfl⟩
        clear qq0 qq1 qq2 qq3 qq4
        go_wp2
        go_ret
        exact ⟨by rw [HF.out]; rfl, Y2.trans hb3⟩
      have HB2 := Lib.hid hb
      cases hc : (x == y)
      rotate_left
      · have hF0 : edP (s - 1) fs k = false := by simp only [edP, hx.out, hc]; simp
        have HF := Lib.hid (rng_fail (p := edP (s - 1) fs) hlt hF0)
        clear ha hb hF0
        have qq0 := Bw.cell f0 zf
        have qq1 := Bw.cell f1 zf
        have qq2 := Bw.cell f2 zf
        have qq3 := Bw.cell sx zx
        have qq4 := Bw.cell xx zx
        refine wp_region_bel (by kernel_rfl) (by kernel_rfl) ?_
        repeat (first | go_big_quiet_step (first | (go_at_call 111; exact belQ (hasNodeI s _ _ _ _ (by first | exact HA.out | exact HB2.out) hs1 hs2))) | quiet_step (first | (go_at_call 111; exact belQ (hasNodeI s _ _ _ _ (by first | exact HA.out | exact HB2.out) hs1 hs2))))
        refine wpQuiet_nil ?_
        rintro _ ⟨⟨w3, hb3⟩, rfl⟩
        clear qq0 qq1 qq2 qq3 qq4
        go_wp2
        go_ret
        exact ⟨by rw [HF.out]; rfl, Y2.trans hb3⟩
      cases hd : inE z 1 8
      · have HF := Lib.hid (rng_fail (p := edP (s - 1) fs) hlt (by simp [edP, hx.out, hd]))
        have HD := Lib.hid hd
        clear ha hb hd
        have qq0 := Bw.cell f0 zf
        have qq1 := Bw.cell f1 zf
        have qq2 := Bw.cell f2 zf
        have qq3 := Bw.cell sx zx
        have qq4 := Bw.cell xx zx
        refine wp_region_bel (by kernel_rfl) (by kernel_rfl) ?_
        repeat (first | go_big_quiet_step (first | (go_at_call 111; exact belQ (hasNodeI s _ _ _ _ (by first | exact HA.out | exact HB2.out) hs1 hs2)) | (go_at_call 53; (with_reducible exact belQ_same (inRE z 1 8 false _ HD.out)))) | quiet_step (first | (go_at_call 111; exact belQ (hasNodeI s _ _ _ _ (by first | exact HA.out | exact HB2.out) hs1 hs2)) | (go_at_call 53; (with_reducible exact belQ_same (inRE z 1 8 false _ HD.out)))))
        refine wpQuiet_nil ?_
        rintro _ ⟨⟨w3, hb3⟩, rfl⟩
        clear qq0 qq1 qq2 qq3 qq4
        go_wp2
        go_ret
        exact ⟨by rw [HF.out]; rfl, Y2.trans hb3⟩
      have HD := Lib.hid hd
      cases k with
      | zero =>
        have hF0 : edP (s - 1) fs 0 = true := by simp only [edP, hx.out, ha, hb, hc, hd]; rfl
        have HF := Lib.hid (rng_step (p := edP (s - 1) fs) HB.out hF0)
        clear ha hb hd hF0
        have d0 : decide ((0 : Int) < ((0 : Nat) : Int)) = false := rfl
        have qq0 := Bw.cell f0 zf
        have qq1 := Bw.cell f1 zf
        have qq2 := Bw.cell f2 zf
        have qq3 := Bw.cell sx zx
        have qq4 := Bw.cell xx zx
        refine wp_region_bel (by kernel_rfl) (by kernel_rfl) ?_
        repeat (first | go_big_quiet_step (first | (go_at_call 111; exact belQ (hasNodeI s _ _ _ _ (by first | exact HA.out | exact HB2.out) hs1 hs2)) | (go_at_call 53; (with_reducible exact belQ_same (inRE z 1 8 true _ HD.out)))) | quiet_step (first | (go_at_call 111; exact belQ (hasNodeI s _ _ _ _ (by first | exact HA.out | exact HB2.out) hs1 hs2)) | (go_at_call 53; (with_reducible exact belQ_same (inRE z 1 8 true _ HD.out)))))
        refine wpQuiet_nil ?_
        rintro _ ⟨⟨w3, hb3⟩, rfl⟩
        clear qq0 qq1 qq2 qq3 qq4
        go_wp2
        go_roundg (fs.length - (0 + 1))
        case measure => have := HK.out; omega
        case rel => exact ⟨0 + 1, by omega, by go_num, hb3.keep X2, Y2.trans hb3, HF⟩
      | succ j =>
        have hj : j < fs.length := by omega
        have hxj : Hid (fs[j]? = some (fs[j]'hj)) := List.getElem?_eq_getElem hj
        obtain ⟨p1, p2, p3⟩ := HC.out j _ hxj
        generalize fs[j]'hj = xj at *
        obtain ⟨x0, y0, z0⟩ := xj
        dsimp only at *
        replace p1 := Y2.cell1 z1 p1
        replace p2 := Y2.cell1 z1 p2
        replace p3 := Y2.cell1 z1 p3
        have d0 : decide ((0 : Int) < ((j + 1 : Nat) : Int)) = true := decide_eq_true (by omega)
        have d1 : IntKind.i64.wrap (((j + 1 : Nat) : Int) - 1) = (j : Int) := by rw [IntWalk.i64_in _ (by omega)]; omega
        have d2 : (0 : Int) ≤ (j : Int) := by omega
        have d3 : (j : Int) < (fs.length : Int) := by omega
        have HM := compEd_neg (x0, y0, z0) (x, y, z)
        cases hls : lessEd (x0, y0, z0) (x, y, z)
        · have hF0 : edP (s - 1) fs (j + 1) = false := by simp only [edP, hx.out, hxj.out, hls]; simp
          have HF := Lib.hid (rng_fail (p := edP (s - 1) fs) hlt hF0)
          have HLS := Lib.hid hls
          rw [hls] at HM
          have HM2 : decide (0 ≤ compEd (x0, y0, z0) (x, y, z)) = true := HM
          clear hls ha hb hd hF0 HM
          have qq0 := Bw.cell f0 zf
          have qq1 := Bw.cell f1 zf
          have qq2 := Bw.cell f2 zf
          have qq3 := Bw.cell sx zx
          have qq4 := Bw.cell xx zx
          have qq5 := Bw.cell p1 zz
          have qq6 := Bw.cell p2 zz
          have qq7 := Bw.cell p3 zz
          refine wp_region_bel (by kernel_rfl) (by kernel_rfl) ?_
          repeat (first | go_big_quiet_step (first | (go_at_call 111; exact belQ (hasNodeI s _ _ _ _ (by first | exact HA.out | exact HB2.out) hs1 hs2)) | (go_at_call 53; (with_reducible exact belQ_same (inRE z 1 8 true _ HD.out))) | (go_at_call 112; (with_reducible exact belQ (compEd_lit x0 y0 z0 x y z _)))) | quiet_step (first | (go_at_call 111; exact belQ (hasNodeI s _ _ _ _ (by first | exact HA.out | exact HB2.out) hs1 hs2)) | (go_at_call 53; (with_reducible exact belQ_same (inRE z 1 8 true _ HD.out))) | (go_at_call 112; (with_reducible exact belQ (compEd_lit x0 y0 z0 x y z _)))))
          refine wpQuiet_nil ?_
          rintro _ ⟨⟨w3, hb3⟩, rfl⟩
          clear qq0 qq1 qq2 qq3 qq4 qq5 qq6 qq7
          go_wp2
          go_ret
          exact ⟨by rw [HF.out]; rfl, Y2.trans hb3⟩
        · have hF0 : edP (s - 1) fs (j + 1) = true := by simp only [edP, hx.out, hxj.out, hls, ha, hb, hc, hd]; rfl
          have HF := Lib.hid (rng_step (p := edP (s - 1) fs) HB.out hF0)
          have HLS := Lib.hid hls
          rw [hls] at HM
          have HM2 : decide (0 ≤ compEd (x0, y0, z0) (x, y, z)) = false := HM
          clear hls ha hb hd hF0 HM
          have qq0 := Bw.cell f0 zf
          have qq1 := Bw.cell f1 zf
          have qq2 := Bw.cell f2 zf
          have qq3 := Bw.cell sx zx
          have qq4 := Bw.cell xx zx
          have qq5 := Bw.cell p1 zz
          have qq6 := Bw.cell p2 zz
          have qq7 := Bw.cell p3 zz
          refine wp_region_bel (by kernel_rfl) (by kernel_rfl) ?_
          repeat (first | go_big_quiet_step (first | (go_at_call 111; exact belQ (hasNodeI s _ _ _ _ (by first | exact HA.out | exact HB2.out) hs1 hs2)) | (go_at_call 53; (with_reducible exact belQ_same (inRE z 1 8 true _ HD.out))) | (go_at_call 112; (with_reducible exact belQ (compEd_lit x0 y0 z0 x y z _)))) | quiet_step (first | (go_at_call 111; exact belQ (hasNodeI s _ _ _ _ (by first | exact HA.out | exact HB2.out) hs1 hs2)) | (go_at_call 53; (with_reducible exact belQ_same (inRE z 1 8 true _ HD.out))) | (go_at_call 112; (with_reducible exact belQ (compEd_lit x0 y0 z0 x y z _)))))
          refine wpQuiet_nil ?_
          rintro _ ⟨⟨w3, hb3⟩, rfl⟩
          clear qq0 qq1 qq2 qq3 qq4 qq5 qq6 qq7
          go_wp2
          go_roundg (fs.length - (j + 1 + 1))
          case measure => have := HK.out; omega
          case rel => exact ⟨j + 1 + 1, by omega, by go_num, hb3.keep X2, Y2.trans hb3, HF⟩
    · obtain rfl : k = fs.length := by omega
      have i1 : ¬ (fs.length : Int) < (fs.length : Int) := by omega
      go_wp2
      go_ret
      exact ⟨by rw [HB.out]; rfl, Y⟩
end Go.Proofs.Ytjlcnbicehjjjaa
