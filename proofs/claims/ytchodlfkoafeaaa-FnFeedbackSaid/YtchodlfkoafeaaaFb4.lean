/-
  Tables of reports: contracts of l17Less and IsValidFeedbackTable, of the program and of the reference. No condition.
-/
import Derived.Test.YtchodlfkoafeaaaCmp
import Derived.Test.YtchodlfkoafeaaaFbValid
import Derived.Test.YtchodlfkoafeaaaBq
namespace Go.Proofs.Ytchodlfkoafeaaa
open Go.ChangeShapes Go.WideShapes Go.ChangeAt Go.RowKit
set_option linter.unusedVariables false
set_option maxRecDepth 100000

def tabP (fs : List Tr) (k : Nat) : Bool := match fs[k]? with
  | none => false
  | some f => fbB f.1 f.2.1 f.2.2 && (match k with
    | 0 => true
    | j + 1 => match fs[j]? with
      | none => false
      | some g => lessFb g f)
def tabB (fs : List Tr) : Bool := (List.range fs.length).all (tabP fs)
theorem range_step {p : Nat → Bool} {k : Nat} (h : (List.range k).all p = true) (hp : p k = true) : (List.range (k + 1)).all p = true := by
  rw [List.range_succ, List.all_append, h]; simp [hp]
theorem range_fail {p : Nat → Bool} {k n : Nat} (h : k < n) (hp : p k = false) : (List.range n).all p = false := by
  rw [List.all_eq_false]; exact ⟨k, List.mem_range.2 h, by simp [hp]⟩
theorem fbI_lit (s g m : Int) (q : Bool) (w : World) (h : fbB s g m = q) : Calls Try.prog 51 #[.agg #[.int .i64 s, .int .i64 g, .int .i64 m]] w fun e w' => e = .returned (.bool q) ∧ Bel w w' := by
  subst h; exact fbI_any s g m w
theorem fbS_lit (s g m : Int) (q : Bool) (w : World) (h : fbB s g m = q) : Calls Try.prog 23 #[.agg #[.int .i64 s, .int .i64 g, .int .i64 m]] w fun e w' => e = .returned (.bool q) ∧ Bel w w' := by
  subst h; exact fbS_any s g m w
theorem compFb_lit (x0 y0 z0 x y z : Int) (w : World) : Calls Try.prog 62 #[.agg #[.int .i64 x0, .int .i64 y0, .int .i64 z0], .agg #[.int .i64 x, .int .i64 y, .int .i64 z]] w fun e w' => e = .returned (.int .i64 (compFb (x0, y0, z0) (x, y, z))) ∧ Bel w w' := compFbI (x0, y0, z0) (x, y, z) w
set_option maxHeartbeats 400000 in
theorem lessFbS (x1 y1 z1 x2 y2 z2 : Int) (q : Bool) (w : World) (h : lessFb (x1, y1, z1) (x2, y2, z2) = q) : Calls Try.prog 48 #[.agg #[.int .i64 x1, .int .i64 y1, .int .i64 z1], .agg #[.int .i64 x2, .int .i64 y2, .int .i64 z2]] w fun e w' => e = .returned (.bool q) ∧ Bel w w' := by
  subst h
  have HL : Hid (lessFb (x1, y1, z1) (x2, y2, z2) = decide (y1 < y2 ∨ y1 = y2 ∧ x1 < x2)) := rfl
  by_cases h1 : y1 < y2
  · go_enter Try.func48, Try.ntmps48
    go_wp2
    go_ret
    exact ⟨by rw [HL.out, decide_eq_true (.inl h1)]; rfl, ((Bel.refl _).alloc _).alloc _⟩
  · have h1' : decide (y1 < y2) = false := by simpa using h1
    cases h2 : (y1 == y2)
    · have h3 : ¬ (y1 < y2 ∨ y1 = y2 ∧ x1 < x2) := by
        have := beq_eq_false_iff_ne.1 h2
        omega
      have HN := Lib.hid h3
      clear h3 h1
      go_enter Try.func48, Try.ntmps48
      go_wp2
      go_ret
      exact ⟨by rw [HL.out, decide_eq_false HN.out]; rfl, ((Bel.refl _).alloc _).alloc _⟩
    · have h3 : decide (y1 < y2 ∨ y1 = y2 ∧ x1 < x2) = decide (x1 < x2) := by
        have := beq_iff_eq.1 h2
        by_cases h4 : x1 < x2 <;> simp [h4] <;> omega
      have HN := Lib.hid h3
      clear h3 h1
      go_enter Try.func48, Try.ntmps48
      go_wp2
      go_ret
      exact ⟨by rw [HL.out, HN.out]; rfl, ((Bel.refl _).alloc _).alloc _⟩

set_option maxHeartbeats 4000000 in
theorem tabI (v : Value) (fs : List Tr) (w : World) (hv : RT w v fs) :
    Calls Try.prog 26 #[.agg #[v]] w fun e w' => e = .returned (.bool (tabB fs)) ∧ Bel w w' := by
  obtain ⟨A, c, rfl, h1, h2, hA⟩ := id hv
  go_enter Try.func26, Try.ntmps26
  go_wp2
  go_loopg [8] fs.length (fun f i wr => ∃ k : Nat, k + f = fs.length ∧ i = .int .i64 k ∧ Blk wr w.heap.size 40 #[.slice A fs.length c] ∧ Bel w wr ∧ Hid ((List.range k).all (tabP fs) = true))
  case atStart => exact ⟨0, by omega, rfl, Blk.new w _ _, (Bel.refl _).alloc _, by show _ = _; simp⟩
  case round =>
    obtain ⟨k, hk, rfl, X, Y, HB⟩ := hrel
    have hk2 : k ≤ fs.length := by omega
    have HK := Lib.hid hk
    clear hk
    obtain ⟨cx0, _, zx0⟩ := X.facts
    have xx0 := cx0 0
    simp at xx0
    clear cx0
    by_cases hlt : k < fs.length
    · obtain ⟨b1, o1, rfl, z1, hc1⟩ := hA (by omega)
      have hx : Hid (fs[k]? = some (fs[k]'hlt)) := List.getElem?_eq_getElem hlt
      obtain ⟨g1, g2, g3⟩ := hc1 k _ hx
      have HC := Lib.hid hc1
      generalize fs[k]'hlt = x at *
      obtain ⟨x, y, z⟩ := x
      dsimp only at *
      replace g1 := Y.cell1 z1 g1
      replace g2 := Y.cell1 z1 g2
      replace g3 := Y.cell1 z1 g3
      have zz1 := Nat.lt_of_lt_of_le z1 Y.size
      clear hc1 hA
      have i0 : (0 : Int) ≤ (k : Int) := by omega
      have i1 : (k : Int) < (fs.length : Int) := by omega
      go_wp2
      have F2 := Blk.new wr 43 #[.int .i64 x, .int .i64 y, .int .i64 z]
      have X2 := X.alloc (.cells #[.int .i64 x, .int .i64 y, .int .i64 z] 43)
      have Y2 := Y.alloc (.cells #[.int .i64 x, .int .i64 y, .int .i64 z] 43)
      clear g1 g2 g3 X Y xx0 zx0 zz1
      generalize wr.alloc (.cells #[.int .i64 x, .int .i64 y, .int .i64 z] 43) = w2 at *
      generalize wr.heap.size = G at *
      obtain ⟨cf, _, zf⟩ := F2.facts
      have f0 : w2.cell? ⟨G, 0, none⟩ = some (.int .i64 x) := cf 0
      have f1 : w2.cell? ⟨G, 1, none⟩ = some (.int .i64 y) := cf 1
      have f2 : w2.cell? ⟨G, 2, none⟩ = some (.int .i64 z) := cf 2
      clear cf F2
      obtain ⟨cx, _, zx⟩ := X2.facts
      have xx : w2.cell? ⟨w.heap.size, 0, none⟩ = some (.slice (some ⟨b1, o1, none⟩) fs.length c) := cx 0
      clear cx
      have zz := Nat.lt_of_lt_of_le z1 Y2.size
      cases hv1 : fbB x y z
      · have HF := Lib.hid (range_fail (p := tabP fs) hlt (by simp [tabP, hx.out, hv1]))
        have HV := Lib.hid hv1
        clear hv1
        have qq0 := Bw.cell f0 zf
        have qq1 := Bw.cell f1 zf
        have qq2 := Bw.cell f2 zf
        refine wp_region_bel (by kernel_rfl) (by kernel_rfl) ?_
        repeat (first | go_big_quiet_step (first | (go_at_call 51; exact belQ (fbI_lit x y z false _ HV.out))) | quiet_step (first | (go_at_call 51; exact belQ (fbI_lit x y z false _ HV.out))))
        refine wpQuiet_nil ?_
        rintro _ ⟨⟨w3, hb3⟩, rfl⟩
        clear qq0 qq1 qq2
        go_wp2
        go_ret
        exact ⟨by rw [tabB, HF.out]; rfl, Y2.trans hb3⟩
      · have HV := Lib.hid hv1
        cases k with
        | zero =>
          have HF := Lib.hid (range_step (p := tabP fs) HB.out (by simp [tabP, hx.out, hv1]))
          clear hv1
          have d0 : decide ((0 : Int) < ((0 : Nat) : Int)) = false := rfl
          have qq0 := Bw.cell f0 zf
          have qq1 := Bw.cell f1 zf
          have qq2 := Bw.cell f2 zf
          refine wp_region_bel (by kernel_rfl) (by kernel_rfl) ?_
          repeat (first | go_big_quiet_step (first | (go_at_call 51; exact belQ (fbI_lit x y z true _ HV.out))) | quiet_step (first | (go_at_call 51; exact belQ (fbI_lit x y z true _ HV.out))))
          refine wpQuiet_nil ?_
          rintro _ ⟨⟨w3, hb3⟩, rfl⟩
          clear qq0 qq1 qq2
          go_wp2
          go_roundg (fs.length - (0 + 1))
          case measure => have := HK.out; omega
          case rel => exact ⟨0 + 1, by omega, by go_num, hb3.keep X2, Y2.trans hb3, HF⟩
        | succ j =>
          have hj : j < fs.length := by omega
          have hxj : Hid (fs[j]? = some (fs[j]'hj)) := List.getElem?_eq_getElem hj
          obtain ⟨p1, p2, p3⟩ := HC.out j _ hxj
          generalize fs[j]'hj = xj at *
          obtain ⟨x0, y0, z0⟩ := xj
          dsimp only at *
          replace p1 := Y2.cell1 z1 p1
          replace p2 := Y2.cell1 z1 p2
          replace p3 := Y2.cell1 z1 p3
          have d0 : decide ((0 : Int) < ((j + 1 : Nat) : Int)) = true := decide_eq_true (by omega)
          have d1 : IntKind.i64.wrap (((j + 1 : Nat) : Int) - 1) = (j : Int) := by rw [IntWalk.i64_in _ (by omega)]; omega
          have d2 : (0 : Int) ≤ (j : Int) := by omega
          have d3 : (j : Int) < (fs.length : Int) := by omega
          have HM := compFb_neg (x0, y0, z0) (x, y, z)
          cases hls : lessFb (x0, y0, z0) (x, y, z)
          · have HF := Lib.hid (range_fail (p := tabP fs) hlt (by simp [tabP, hx.out, hxj.out, hls]))
            have HLS := Lib.hid hls
            rw [hls] at HM
            have HM2 : decide (0 ≤ compFb (x0, y0, z0) (x, y, z)) = true := HM
            clear hls hv1 HM
            have qq0 := Bw.cell f0 zf
            have qq1 := Bw.cell f1 zf
            have qq2 := Bw.cell f2 zf
            have qq3 := Bw.cell xx zx
            have qq4 := Bw.cell p1 zz
            have qq5 := Bw.cell p2 zz
            have qq6 := Bw.cell p3 zz
            refine wp_region_bel (by kernel_rfl) (by kernel_rfl) ?_
            repeat (first | go_big_quiet_step (first | (go_at_call 51; exact belQ (fbI_lit x y z true _ HV.out)) | (go_at_call 62; exact belQ (compFb_lit x0 y0 z0 x y z _))) | quiet_step (first | (go_at_call 51; exact belQ (fbI_lit x y z true _ HV.out)) | (go_at_call 62; exact belQ (compFb_lit x0 y0 z0 x y z _))))
            refine wpQuiet_nil ?_
            rintro _ ⟨⟨w3, hb3⟩, rfl⟩
            clear qq0 qq1 qq2 qq3 qq4 qq5 qq6
            go_wp2
            go_ret
            exact ⟨by rw [tabB, HF.out]; rfl, Y2.trans hb3⟩
          · have HF := Lib.hid (range_step (p := tabP fs) HB.out (by simp [tabP, hx.out, hxj.out, hv1, hls]))
            have HLS := Lib.hid hls
            rw [hls] at HM
            have HM2 : decide (0 ≤ compFb (x0, y0, z0) (x, y, z)) = false := HM
            clear hls hv1 HM
            have qq0 := Bw.cell f0 zf
            have qq1 := Bw.cell f1 zf
            have qq2 := Bw.cell f2 zf
            have qq3 := Bw.cell xx zx
            have qq4 := Bw.cell p1 zz
            have qq5 := Bw.cell p2 zz
            have qq6 := Bw.cell p3 zz
            refine wp_region_bel (by kernel_rfl) (by kernel_rfl) ?_
            repeat (first | go_big_quiet_step (first | (go_at_call 51; exact belQ (fbI_lit x y z true _ HV.out)) | (go_at_call 62; exact belQ (compFb_lit x0 y0 z0 x y z _))) | quiet_step (first | (go_at_call 51; exact belQ (fbI_lit x y z true _ HV.out)) | (go_at_call 62; exact belQ (compFb_lit x0 y0 z0 x y z _))))
            refine wpQuiet_nil ?_
            rintro _ ⟨⟨w3, hb3⟩, rfl⟩
            clear qq0 qq1 qq2 qq3 qq4 qq5 qq6
            go_wp2
            go_roundg (fs.length - (j + 1 + 1))
            case measure => have := HK.out; omega
            case rel => exact ⟨j + 1 + 1, by omega, by go_num, hb3.keep X2, Y2.trans hb3, HF⟩
    · obtain rfl : k = fs.length := by omega
      have i1 : ¬ (fs.length : Int) < (fs.length : Int) := by omega
      go_wp2
      go_ret
      exact ⟨by rw [tabB, HB.out]; rfl, Y⟩
set_option maxHeartbeats 4000000 in
theorem tabS (v : Value) (fs : List Tr) (w : World) (hv : RT w v fs) :
    Calls Try.prog 22 #[.agg #[v]] w fun e w' => e = .returned (.bool (tabB fs)) ∧ Bel w w' := by
  obtain ⟨A, c, rfl, h1, h2, hA⟩ := id hv
  go_enter Try.func22, Try.ntmps22
  go_wp2
  go_loopg [3] fs.length (fun f i wr => ∃ k : Nat, k + f = fs.length ∧ i = .int .i64 k ∧ Blk wr w.heap.size 40 #[.slice A fs.length c] ∧ Bel w wr ∧ Hid ((List.range k).all (tabP fs) = true))
  case atStart => exact ⟨0, by omega, rfl, Blk.new w _ _, (Bel.refl _).alloc _, by show _ = _; simp⟩
  case round =>
    obtain ⟨k, hk, rfl, X, Y, HB⟩ := hrel
    have hk2 : k ≤ fs.length := by omega
    have HK := Lib.hid hk
    clear hk
    obtain ⟨cx0, _, zx0⟩ := X.facts
    have xx0 := cx0 0
    simp at xx0
    clear cx0
    by_cases hlt : k < fs.length
    · obtain ⟨b1, o1, rfl, z1, hc1⟩ := hA (by omega)
      have hx : Hid (fs[k]? = some (fs[k]'hlt)) := List.getElem?_eq_getElem hlt
      obtain ⟨g1, g2, g3⟩ := hc1 k _ hx
      have HC := Lib.hid hc1
      generalize fs[k]'hlt = x at *
      obtain ⟨x, y, z⟩ := x
      dsimp only at *
      replace g1 := Y.cell1 z1 g1
      replace g2 := Y.cell1 z1 g2
      replace g3 := Y.cell1 z1 g3
      have zz1 := Nat.lt_of_lt_of_le z1 Y.size
      clear hc1 hA
      have i0 : (0 : Int) ≤ (k : Int) := by omega
      have i1 : (k : Int) < (fs.length : Int) := by omega
      go_wp2
      obtain ⟨w2, hw2⟩ : ∃ w2, w2 = wr := ⟨_, rfl⟩
      subst hw2
      have X2 := X
      have Y2 := Y
      have xx := xx0
      have zx := zx0
      have zz := zz1
      clear X Y xx0 zx0 zz1
      cases hv1 : fbB x y z
      · have HF := Lib.hid (range_fail (p := tabP fs) hlt (by simp [tabP, hx.out, hv1]))
        have HV := Lib.hid hv1
        clear hv1
        have qq0 := Bw.cell g1 zz
        have qq1 := Bw.cell g2 zz
        have qq2 := Bw.cell g3 zz
        have qq3 := Bw.cell xx zx
        refine wp_region_bel (by kernel_rfl) (by kernel_rfl) ?_
        repeat (first | go_big_quiet_step (first | (go_at_call 23; exact belQ (fbS_lit x y z false _ HV.out))) | quiet_step (first | (go_at_call 23; exact belQ (fbS_lit x y z false _ HV.out))))
        refine wpQuiet_nil ?_
        rintro _ ⟨⟨w3, hb3⟩, rfl⟩
        clear qq0 qq1 qq2 qq3
        go_wp2
        go_ret
        exact ⟨by rw [tabB, HF.out]; rfl, Y2.trans hb3⟩
      · have HV := Lib.hid hv1
        cases k with
        | zero =>
          have HF := Lib.hid (range_step (p := tabP fs) HB.out (by simp [tabP, hx.out, hv1]))
          clear hv1
          have d0 : decide ((0 : Int) < ((0 : Nat) : Int)) = false := rfl
          simp only [Nat.zero_mul, Nat.add_zero] at g1 g2 g3
          have qq0 := Bw.cell g1 zz
          have qq1 := Bw.cell g2 zz
          have qq2 := Bw.cell g3 zz
          have qq3 := Bw.cell xx zx
          refine wp_region_bel (by kernel_rfl) (by kernel_rfl) ?_
          repeat (first | go_big_quiet_step (first | (go_at_call 23; exact belQ (fbS_lit x y z true _ HV.out))) | quiet_step (first | (go_at_call 23; exact belQ (fbS_lit x y z true _ HV.out))))
          refine wpQuiet_nil ?_
          rintro _ ⟨⟨w3, hb3⟩, rfl⟩
          clear qq0 qq1 qq2 qq3
          go_wp2
          go_roundg (fs.length - (0 + 1))
          case measure => have := HK.out; omega
          case rel => exact ⟨0 + 1, by omega, by go_num, hb3.keep X2, Y2.trans hb3, HF⟩
        | succ j =>
          have hj : j < fs.length := by omega
          have hxj : Hid (fs[j]? = some (fs[j]'hj)) := List.getElem?_eq_getElem hj
          obtain ⟨p1, p2, p3⟩ := HC.out j _ hxj
          generalize fs[j]'hj = xj at *
          obtain ⟨x0, y0, z0⟩ := xj
          dsimp only at *
          replace p1 := Y2.cell1 z1 p1
          replace p2 := Y2.cell1 z1 p2
          replace p3 := Y2.cell1 z1 p3
          have d0 : decide ((0 : Int) < ((j + 1 : Nat) : Int)) = true := decide_eq_true (by omega)
          have d1 : IntKind.i64.wrap (((j + 1 : Nat) : Int) - 1) = (j : Int) := by rw [IntWalk.i64_in _ (by omega)]; omega
          have d2 : (0 : Int) ≤ (j : Int) := by omega
          have d3 : (j : Int) < (fs.length : Int) := by omega
          have HM := compFb_neg (x0, y0, z0) (x, y, z)
          cases hls : lessFb (x0, y0, z0) (x, y, z)
          · have HF := Lib.hid (range_fail (p := tabP fs) hlt (by simp [tabP, hx.out, hxj.out, hls]))
            have HLS := Lib.hid hls
            rw [hls] at HM
            have HM2 : decide (0 ≤ compFb (x0, y0, z0) (x, y, z)) = true := HM
            clear hls hv1 HM
            have qq0 := Bw.cell g1 zz
            have qq1 := Bw.cell g2 zz
            have qq2 := Bw.cell g3 zz
            have qq3 := Bw.cell xx zx
            have qq4 := Bw.cell p1 zz
            have qq5 := Bw.cell p2 zz
            have qq6 := Bw.cell p3 zz
            refine wp_region_bel (by kernel_rfl) (by kernel_rfl) ?_
            repeat (first | go_big_quiet_step (first | (go_at_call 23; exact belQ (fbS_lit x y z true _ HV.out)) | (go_at_call 48; exact belQ (lessFbS x0 y0 z0 x y z false _ HLS.out))) | quiet_step (first | (go_at_call 23; exact belQ (fbS_lit x y z true _ HV.out)) | (go_at_call 48; exact belQ (lessFbS x0 y0 z0 x y z false _ HLS.out))))
            refine wpQuiet_nil ?_
            rintro _ ⟨⟨w3, hb3⟩, rfl⟩
            clear qq0 qq1 qq2 qq3 qq4 qq5 qq6
            go_wp2
            go_ret
            exact ⟨by rw [tabB, HF.out]; rfl, Y2.trans hb3⟩
          · have HF := Lib.hid (range_step (p := tabP fs) HB.out (by simp [tabP, hx.out, hxj.out, hv1, hls]))
            have HLS := Lib.hid hls
            rw [hls] at HM
            have HM2 : decide (0 ≤ compFb (x0, y0, z0) (x, y, z)) = false := HM
            clear hls hv1 HM
            have qq0 := Bw.cell g1 zz
            have qq1 := Bw.cell g2 zz
            have qq2 := Bw.cell g3 zz
            have qq3 := Bw.cell xx zx
            have qq4 := Bw.cell p1 zz
            have qq5 := Bw.cell p2 zz
            have qq6 := Bw.cell p3 zz
            refine wp_region_bel (by kernel_rfl) (by kernel_rfl) ?_
            repeat (first | go_big_quiet_step (first | (go_at_call 23; exact belQ (fbS_lit x y z true _ HV.out)) | (go_at_call 48; exact belQ (lessFbS x0 y0 z0 x y z true _ HLS.out))) | quiet_step (first | (go_at_call 23; exact belQ (fbS_lit x y z true _ HV.out)) | (go_at_call 48; exact belQ (lessFbS x0 y0 z0 x y z true _ HLS.out))))
            refine wpQuiet_nil ?_
            rintro _ ⟨⟨w3, hb3⟩, rfl⟩
            clear qq0 qq1 qq2 qq3 qq4 qq5 qq6
            go_wp2
            go_roundg (fs.length - (j + 1 + 1))
            case measure => have := HK.out; omega
            case rel => exact ⟨j + 1 + 1, by omega, by go_num, hb3.keep X2, Y2.trans hb3, HF⟩
    · obtain rfl : k = fs.length := by omega
      have i1 : ¬ (fs.length : Int) < (fs.length : Int) := by omega
      go_wp2
      go_ret
      exact ⟨by rw [tabB, HB.out]; rfl, Y⟩
end Go.Proofs.Ytchodlfkoafeaaa
