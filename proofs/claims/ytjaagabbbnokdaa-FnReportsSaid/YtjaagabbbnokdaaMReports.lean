/-
  FnReports: every sink reports once in every interval, if something has changed, and the report of a drawn decoder is valid. No condition.
-/
import Derived.Test.YtjaagabbbnokdaaTI
import Derived.Test.YtjaagabbbnokdaaTJ
import Derived.Test.YtjaagabbbnokdaaTB
import Derived.Deep.RegionHeld3
namespace Go.Proofs.Ytjaagabbbnokdaa.fnReports
open Go.ChangeShapes Go.WideShapes Go.ChangeAt Go.RowKit
set_option linter.unusedVariables false
set_option maxRecDepth 100000

set_option maxHeartbeats 4000000 in
theorem walk (w : World) (v0 : Value) (x0 : Nat) (f0 : IsBytes w v0 x0) :
    Calls Try.prog 8 #[v0] w fun e w' => e = .returned (.bool true) ∧ Below w.heap.size w w' := by
  have hv : RB w v0 x0 := f0
  by_cases hbig : (1048576 : Int) < (x0 : Int)
  · have HD : Hid (decide ((1048576 : Int) < (x0 : Int)) = true) := Lib.hid (decide_eq_true hbig)
    go_enter Try.func8, Try.ntmps8
    go_wp2_with fail
    refine (bigL _ x0 _ hv).mono ?_
    rintro e w1 ⟨rfl, rfl⟩
    rw [HD.out]
    go_wp2
    go_ret
    exact ⟨rfl, Bel.refl _⟩
  have hn : x0 ≤ 1048576 := by omega
  have HD : Hid (decide ((1048576 : Int) < (x0 : Int)) = false) := Lib.hid (decide_eq_false hbig)
  clear hbig
  go_enter Try.func8, Try.ntmps8
  go_wp2_with fail
  refine (bigL _ x0 _ hv).mono ?_
  rintro e w1 ⟨rfl, rfl⟩
  rw [HD.out]
  clear HD
  go_wp2_with fail
  refine (atL _ x0 0 _ hv hn (by omega)).mono ?_
  rintro e w1 ⟨xs, rfl, ⟨s0, s1⟩, rfl⟩
  have hsb := tmod_bd (a := xs) (n := 8) s0 (by omega)
  go_wp2_with fail
  refine (atL _ x0 1 _ hv hn (by omega)).mono ?_
  rintro e w1 ⟨g, rfl, ⟨g0, g1⟩, rfl⟩
  generalize xs % 8 = s at *
  go_wp2_with fail
  refine (atL _ x0 2 _ hv hn (by omega)).mono ?_
  rintro e w1 ⟨t, rfl, ⟨t0, t1⟩, rfl⟩
  clear s0 s1
  obtain ⟨s0, s1⟩ := hsb
  go_wp2
  go_loopg [6, 7] 3 (fun f nn i wr => ∃ k : Nat, k + f = 3 ∧ i = .int .i64 (k : Int) ∧ nn = .int .i64 (cntR (t + s + g) k) ∧ wr = w)
  case atStart => exact ⟨0, by omega, rfl, rfl, rfl⟩
  case round =>
    obtain ⟨k, hk, rfl, rfl, rfl⟩ := hrel
    have HK := Lib.hid hk
    have hk3 : k ≤ 3 := by omega
    clear hk
    by_cases hlt : k < 3
    · have i0 : (k : Int) < 3 := by omega
      have hw1 : IntKind.i64.wrap (t + (k : Int)) = t + (k : Int) := IntWalk.i64_in _ (by omega)
      have hwr : IntKind.i64.wrap ((k : Int) + 1) = ((k + 1 : Nat) : Int) := by rw [IntWalk.i64_in _ (by omega)]; omega
      have hcb := cntR_bd (t + s + g) k
      have hwc : IntKind.i64.wrap (cntR (t + s + g) k + 1) = cntR (t + s + g) k + 1 := IntWalk.i64_in _ (by omega)
      have HSR : Hid (∀ q W, Calls Try.prog 40 #[.int .i64 s, .int .i64 g, .int .i64 (t + (k : Int)), .bool q] W fun e w' => e = .returned (.bool (q && ((t + s + g + (k : Int)) % 3 == 0))) ∧ W = w') := Lib.hid (fun q W => by
        have h := shrI s g (t + (k : Int)) q W (by omega) (by omega) (by omega)
        rwa [show t + (k : Int) + s + g = t + s + g + (k : Int) by omega] at h)
      have HST : Hid (cntR (t + s + g) (k + 1) = if ((t + s + g + (k : Int)) % 3 == 0) = true then cntR (t + s + g) k + 1 else cntR (t + s + g) k) := rfl
      clear hcb
      go_wp2_with fail
      refine (HSR.out true _).mono ?_
      rintro e w1 ⟨rfl, rfl⟩
      rw [Bool.true_and]
      cases hc : ((t + s + g + (k : Int)) % 3 == 0) with
      | true =>
        have HC : Hid (cntR (t + s + g) (k + 1) = cntR (t + s + g) k + 1) := Lib.hid (by rw [HST.out, hc]; rfl)
        clear hc
        go_wp2_with fail
        refine (HSR.out false _).mono ?_
        rintro e w1 ⟨rfl, rfl⟩
        rw [Bool.false_and]
        go_wp2
        go_roundg (3 - (k + 1))
        case measure => have := HK.out; omega
        case rel => exact ⟨k + 1, by omega, by first | rfl | go_num | (congr 1; omega), by rw [HC.out], rfl⟩
      | false =>
        have HC : Hid (cntR (t + s + g) (k + 1) = cntR (t + s + g) k) := Lib.hid (by rw [HST.out, hc]; rfl)
        clear hc
        go_wp2_with fail
        refine (HSR.out false _).mono ?_
        rintro e w1 ⟨rfl, rfl⟩
        rw [Bool.false_and]
        go_wp2
        go_roundg (3 - (k + 1))
        case measure => have := HK.out; omega
        case rel => exact ⟨k + 1, by omega, by first | rfl | go_num | (congr 1; omega), by rw [HC.out], rfl⟩
    · obtain rfl : k = 3 := by omega
      rw [cntR_three]
      clear HK hk3 hlt
      go_wp2_with fail
      refine (drawCoS _ x0 _ hv hn).mono ?_
      rintro e w2 ⟨a, gv, m, r, nn, m1, rfl, RG, RD, hg, hd, Y2⟩
      obtain ⟨Ag, cg, eg, _, _, _⟩ := id RG
      subst eg
      obtain ⟨Ad, cd, ed, _, _, _⟩ := id RD
      subst ed
      obtain ⟨q1, q2⟩ := mf_ok (s := s) (by omega) hd
      have HMI : Hid (∀ W, Bel w2 W → Calls Try.prog 42 #[.int .i64 s, .agg #[.int .i64 a, .int .i64 (m.length : Int), .int .i64 (colN m : Int), .int .i64 (nn : Int), .slice Ad m1.length cd]] W fun e w' => e = .returned (.tuple #[.agg #[.int .i64 s, .int .i64 a, .int .i64 (missZ a (m.length : Int) (colN m : Int) (nn : Int) m1)], .bool true]) ∧ Bel W w') := Lib.hid (fun W b => by
        have h := mfI s a (m.length : Int) (colN m : Int) (nn : Int) _ m1 W (RD.keep b)
        rw [q2] at h
        unfold mfZ at h
        rw [if_pos q2, if_pos q2, if_pos q2] at h
        exact h)
      have HMS : Hid (∀ W, Bel w2 W → Calls Try.prog 43 #[.agg #[.int .i64 a, .int .i64 (m.length : Int), .int .i64 (colN m : Int), .int .i64 (nn : Int), .slice Ad m1.length cd]] W fun e w' => e = .returned (.int .i64 (missZ a (m.length : Int) (colN m : Int) (nn : Int) m1)) ∧ Bel W w') := Lib.hid (fun W b => missS a (m.length : Int) (colN m : Int) (nn : Int) _ m1 W (RD.keep b))
      have HFB : Hid (∀ W, Calls Try.prog 44 #[.agg #[.int .i64 s, .int .i64 a, .int .i64 (missZ a (m.length : Int) (colN m : Int) (nn : Int) m1)]] W fun e w' => e = .returned (.bool true) ∧ Bel W w') := Lib.hid (fun W => by
        have h := fbI_any s a (missZ a (m.length : Int) (colN m : Int) (nn : Int) m1) W
        rw [q1] at h
        exact h)
      clear q1 q2 hg hd
      generalize missZ a (m.length : Int) (colN m : Int) (nn : Int) m1 = z at *
      have B3 := ((Bel.refl w2).alloc (.cells #[.int .i64 a, .slice Ag m.length cg] 41)).alloc (.cells #[.int .i64 a, .int .i64 (m.length : Int), .int .i64 (colN m : Int), .int .i64 (nn : Int), .slice Ad m1.length cd] 73)
      have G3 := (Blk.new w2 41 #[.int .i64 a, .slice Ag m.length cg]).alloc (.cells #[.int .i64 a, .int .i64 (m.length : Int), .int .i64 (colN m : Int), .int .i64 (nn : Int), .slice Ad m1.length cd] 73)
      have D3 := Blk.new2 w2 (.cells #[.int .i64 a, .slice Ag m.length cg] 41) 73 #[.int .i64 a, .int .i64 (m.length : Int), .int .i64 (colN m : Int), .int .i64 (nn : Int), .slice Ad m1.length cd]
      obtain ⟨cd3, fd3, zd3⟩ := D3.facts
      go_wp2_with fail
      refine (HMI.out _ B3).mono ?_
      rintro e w4 ⟨rfl, b4⟩
      clear cd3 fd3 zd3
      have B5 := (Bel.refl w4).alloc (.cells #[.int .i64 s, .int .i64 a, .int .i64 z] 77)
      have F5 : Blk (w4.alloc (.cells #[.int .i64 s, .int .i64 a, .int .i64 z] 77)) w4.heap.size 77 #[.int .i64 s, .int .i64 a, .int .i64 z] := Blk.new w4 _ _
      have G5 := B5.keep (b4.keep G3)
      have D5 := B5.keep (b4.keep D3)
      have Y5 := ((Y2.trans B3).trans b4).trans B5
      have B25 := (B3.trans b4).trans B5
      clear G3 D3 B3 b4 B5 HMI
      go_upto_region 16 with fail
      generalize (w4.alloc (.cells #[.int .i64 s, .int .i64 a, .int .i64 z] 77)) = w5 at *
      have HSW : Hid (∀ W, Bel w5 W → W.cell? ⟨w4.heap.size, 0, none⟩ = some (.int .i64 s) ∧ W.cell? ⟨w4.heap.size, 1, none⟩ = some (.int .i64 a) ∧ W.cell? ⟨w4.heap.size, 2, none⟩ = some (.int .i64 z) ∧ W.cell? ⟨w2.heap.size, 0, none⟩ = some (.int .i64 a) ∧ W.cell? ⟨w2.heap.size + 1, 0, none⟩ = some (.int .i64 a) ∧ W.cell? ⟨w2.heap.size + 1, 1, none⟩ = some (.int .i64 (m.length : Int)) ∧ W.cell? ⟨w2.heap.size + 1, 2, none⟩ = some (.int .i64 (colN m : Int)) ∧ W.cell? ⟨w2.heap.size + 1, 3, none⟩ = some (.int .i64 (nn : Int)) ∧ W.cell? ⟨w2.heap.size + 1, 4, none⟩ = some (.slice Ad m1.length cd)) := Lib.hid (fun W b =>
        ⟨b.cell1 F5.lt (F5.facts.1 0), b.cell1 F5.lt (F5.facts.1 1), b.cell1 F5.lt (F5.facts.1 2), b.cell1 G5.lt (G5.facts.1 0), b.cell1 D5.lt (D5.facts.1 0), b.cell1 D5.lt (D5.facts.1 1), b.cell1 D5.lt (D5.facts.1 2), b.cell1 D5.lt (D5.facts.1 3), b.cell1 D5.lt (D5.facts.1 4)⟩)
      have B0 := (Bel.refl w5).drew
      have B20 := B25.trans B0
      go_region_held3 (fun W => W.cell? ⟨w4.heap.size, 0, none⟩ = some (.int .i64 s) ∧ W.cell? ⟨w4.heap.size, 1, none⟩ = some (.int .i64 a) ∧ W.cell? ⟨w4.heap.size, 2, none⟩ = some (.int .i64 z) ∧ W.cell? ⟨w2.heap.size, 0, none⟩ = some (.int .i64 a) ∧ W.cell? ⟨w2.heap.size + 1, 0, none⟩ = some (.int .i64 a) ∧ W.cell? ⟨w2.heap.size + 1, 1, none⟩ = some (.int .i64 (m.length : Int)) ∧ W.cell? ⟨w2.heap.size + 1, 2, none⟩ = some (.int .i64 (colN m : Int)) ∧ W.cell? ⟨w2.heap.size + 1, 3, none⟩ = some (.int .i64 (nn : Int)) ∧ W.cell? ⟨w2.heap.size + 1, 4, none⟩ = some (.slice Ad m1.length cd)) (first | assumption | with_reducible exact HSW.out _ B0 | with_reducible exact HSW.out _ Ba | with_reducible exact HSW.out _ Bb) (first
        | (go_at_call 43; (with_reducible refine (HMS.out _ B20).mono ?_); rintro e wa ⟨rfl, ba⟩; have Ba := B0.trans ba)
        | (go_at_call 44; (with_reducible refine (HFB.out _).mono ?_); rintro e wb ⟨rfl, bb⟩; have Bb := Ba.trans bb))
      go_wp2
      go_ret
      exact ⟨rfl, Y5.trans Bb⟩
set_option maxRecDepth 100000 in
theorem lifted (os : Os) (started : os.Started) (H : Type) (enc : TypeId × Value → H) :
    ReturnsInHanded {} Try.checked os 8 .any (Rows.fnReportsSpec.pre6 enc Try.prog Try.f8 Rows.fnReportsRow.domain false) (Rows.fnReportsSpec.post enc Try.prog Try.f8 false true false false) := by
  refine returnsInHanded_of_change (C := Try.checked) own started (by kernel_rfl) Try.func8
    (ChangeSpec.witness6 (enc := enc) (C := Try.checked) false ⟨#[], #[.slice none 0 0], []⟩ 8 (by kernel_rfl) (by kernel_rfl) (by kernel_rfl) (by kernel_rfl)) ?_
  intro W base args ds gs before hval0 hW hcnd _
  have hval : ∀ (j : Nat) t v, Try.f8.params[j]? = some t → args[j]? = some v → Value.okWide Try.prog W .any base t v := hval0
  have hW' := hW
  obtain ⟨p, q, hA0, hV, rfl, hfz, hnd⟩ := hW
  have hA : DataW.TrodAll enc Try.prog W 0 (fun _ => true) true Try.f8.params.toList args.toList ds p := hA0
  rw [Try.params8] at hA hval
  obtain ⟨v0, vs0, d0, ds0, p0, q0, hargs, rfl, rfl, h0, r0⟩ := trodAll_cons hA
  obtain ⟨rfl, rfl, rfl⟩ := trodAll_nil r0
  obtain rfl : args = #[v0] := by cases args; simp_all
  obtain ⟨rfl, rfl⟩ := trodVars_none hV
  have k0 := h0
  have lt0 : ∀ x ∈ p0, x.block < W.heap.size := by obtain ⟨m, hm⟩ := k0; exact DataW.trod_lt m _ _ _ hm
  obtain ⟨x0, f0⟩ := openBytes (hval 0 57 v0 rfl rfl) h0
  clear hA0 hval0
  refine (walk W v0 x0 f0).mono fun e W' ⟨he, bel⟩ => ?_
  subst he
  exact ⟨_, rfl, _, _, _, [], _, [], hW', trodAll_mk1 (shut_bool Try.underlying4 _), (trodAll_cons_mk (Below.trod laidOut (by kernel_rfl) (of_decide_eq_true (by kernel_rfl)) k0 bel lt0) trodAll_mk0), rfl, bel.frame _, fun h => by cases h⟩

theorem over : Rows.fnReportsRow.holds Try.pinned (OpenSpec.ofChange Rows.fnReportsSpec) :=
  OpenClaim.holds_of_wide 8 Try.f8 rfl rfl rfl rfl rfl rfl rfl ⟨rfl, rfl, rfl, rfl, rfl⟩ rfl rfl rfl rfl rfl (by kernel_rfl) Try.func8 (by kernel_rfl)
    (of_decide_eq_true (by kernel_rfl)) (by unfold Func.isWrapper; first | (rw [if_pos (by decide +kernel)]; kernel_rfl) | (rw [if_neg (by decide +kernel)]; exact ⟨rfl, rfl⟩))
    (fun os started H enc _ => lifted os started H enc)

theorem proved : Rows.FnReportsSaid := over
#print axioms proved
end Go.Proofs.Ytjaagabbbnokdaa.fnReports
