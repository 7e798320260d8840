/-
  slices.BinarySearchFunc at reports: a contract. Condition: a table in order, of at most 2^20 reports.
-/
import Derived.Test.YtchodlfkoafeaaaBsf
import Derived.Test.YtchodlfkoafeaaaBq
namespace Go.Proofs.Ytchodlfkoafeaaa
open Go.ChangeShapes Go.WideShapes Go.ChangeAt Go.RowKit
set_option linter.unusedVariables false
set_option maxRecDepth 100000

theorem compFb_l2 (x0 y0 z0 x y z q : Int) (w : World) (h : compFb (x0, y0, z0) (x, y, z) = q) : Calls Try.prog 62 #[.agg #[.int .i64 x0, .int .i64 y0, .int .i64 z0], .agg #[.int .i64 x, .int .i64 y, .int .i64 z]] w fun e w' => e = .returned (.int .i64 q) ∧ Bel w w' := by
  subst h; exact compFb_lit x0 y0 z0 x y z w
set_option maxHeartbeats 2000000 in
theorem bsI (v : Value) (fs : List Tr) (x y z : Int) (w : World) (hv : RT w v fs) (hs : Srt fs) (hn : fs.length ≤ 1048576) :
    Calls Try.prog 73 #[v, .agg #[.int .i64 x, .int .i64 y, .int .i64 z], .func (.func 62) #[] #[]] w fun e w' => e = .returned (.tuple #[.int .i64 (tw fs (x, y, z) : Int), .bool (bsB fs (x, y, z))]) ∧ Bel w w' := by
  obtain ⟨A, c, rfl, _, _, hA⟩ := id hv
  have HS := Lib.hid hs
  clear hs
  have X0 := Blk.new w 43 #[.int .i64 x, .int .i64 y, .int .i64 z]
  have Y0 : Bel w (w.alloc (.cells #[.int .i64 x, .int .i64 y, .int .i64 z] 43)) := (Bel.refl _).alloc _
  go_enter Try.func73, Try.ntmps73
  go_wp2
  go_loopg [9, 10] fs.length (fun f iv jv wr => ∃ i j : Nat, i + f = j ∧ j ≤ fs.length ∧ iv = .int .i64 i ∧ jv = .int .i64 j ∧ Blk wr w.heap.size 43 #[.int .i64 x, .int .i64 y, .int .i64 z] ∧ Bel w wr ∧ Hid (∀ (k : Nat) (g : Tr), k < i → fs[k]? = some g → lessFb g (x, y, z) = true) ∧ Hid (∀ (k : Nat) (g : Tr), j ≤ k → fs[k]? = some g → lessFb g (x, y, z) = false))
  case atStart => exact ⟨0, fs.length, by omega, Nat.le_refl _, rfl, rfl, X0, Y0, Lib.hid (fun k g hk => absurd hk (by omega)), Lib.hid (fun k g hk hg => by have := (List.getElem?_eq_some_iff.1 hg).1; omega)⟩
  case round =>
    clear X0 Y0
    obtain ⟨i, j, hij, hjn, rfl, rfl, X, Y, H1, H2⟩ := hrel
    have hij2 : i ≤ j := by omega
    have HIJ := Lib.hid hij
    clear hij
    obtain ⟨cx, _, zx⟩ := X.facts
    have r0 : wr.cell? ⟨w.heap.size, 0, none⟩ = some (.int .i64 x) := cx 0
    have r1 : wr.cell? ⟨w.heap.size, 1, none⟩ = some (.int .i64 y) := cx 1
    have r2 : wr.cell? ⟨w.heap.size, 2, none⟩ = some (.int .i64 z) := cx 2
    clear cx
    by_cases hlt : i < j
    · have i1 : (i : Int) < (j : Int) := by omega
      obtain ⟨h, hh⟩ : ∃ h, h = (i + j) / 2 := ⟨_, rfl⟩
      have eh : ((i : Int) + (j : Int)) / 2 = (h : Int) := by omega
      have hhj : h < j := by omega
      have hhi : i ≤ h := by omega
      clear hh
      obtain ⟨b1, o1, rfl, z1, hc1⟩ := hA (by omega)
      have hx : Hid (fs[h]? = some (fs[h]'(by omega))) := List.getElem?_eq_getElem (by omega)
      obtain ⟨g1, g2, g3⟩ := hc1 h _ hx.out
      generalize fs[h]'(by omega) = g at *
      obtain ⟨a, b, t⟩ := g
      dsimp only at *
      replace g1 := Y.cell1 z1 g1
      replace g2 := Y.cell1 z1 g2
      replace g3 := Y.cell1 z1 g3
      have zz : b1 < wr.heap.size := Nat.lt_of_lt_of_le z1 Y.size
      have i2 : (0 : Int) ≤ (h : Int) := by omega
      have i3 : (h : Int) < (fs.length : Int) := by omega
      obtain ⟨cz, HZ⟩ : ∃ cz, Hid (compFb (a, b, t) (x, y, z) = cz) := ⟨_, rfl⟩
      have HL := Lib.hid (comp_neg (a, b, t) (x, y, z))
      clear hc1 hA
      by_cases hz : cz < 0
      · have HD : Hid (lessFb (a, b, t) (x, y, z) = true) := by
          have q := HL.out
          rw [HZ.out, decide_eq_true hz] at q
          exact q.symm
        have H1' := Lib.hid (srt_down HS.out hx.out HD.out)
        go_wp2
        have qq0 := Bw.cell r0 zx
        have qq1 := Bw.cell r1 zx
        have qq2 := Bw.cell r2 zx
        have qq3 := Bw.cell g1 zz
        have qq4 := Bw.cell g2 zz
        have qq5 := Bw.cell g3 zz
        refine wp_region_bel (by kernel_rfl) (by kernel_rfl) ?_
        repeat (first | go_big_quiet_step (first | (go_at_call 62; exact belQ (compFb_l2 a b t x y z cz _ HZ.out))) | quiet_step (first | (go_at_call 62; exact belQ (compFb_l2 a b t x y z cz _ HZ.out))))
        refine wpQuiet_nil ?_
        rintro _ ⟨⟨w3, hb3⟩, rfl⟩
        clear qq0 qq1 qq2 qq3 qq4 qq5
        have i5 : IntKind.i64.wrap ((h : Int) + 1) = ((h + 1 : Nat) : Int) := by rw [IntWalk.i64_in _ (by omega)]; omega
        go_wp2
        go_roundg (j - (h + 1))
        case measure => have := HIJ.out; omega
        case rel => exact ⟨h + 1, j, by omega, by omega, by go_num, rfl, hb3.keep X, Y.trans hb3, H1', H2⟩
      · have HD : Hid (lessFb (a, b, t) (x, y, z) = false) := by
          have q := HL.out
          rw [HZ.out, decide_eq_false hz] at q
          exact q.symm
        have H2' := Lib.hid (srt_up HS.out hx.out HD.out)
        go_wp2
        have qq0 := Bw.cell r0 zx
        have qq1 := Bw.cell r1 zx
        have qq2 := Bw.cell r2 zx
        have qq3 := Bw.cell g1 zz
        have qq4 := Bw.cell g2 zz
        have qq5 := Bw.cell g3 zz
        refine wp_region_bel (by kernel_rfl) (by kernel_rfl) ?_
        repeat (first | go_big_quiet_step (first | (go_at_call 62; exact belQ (compFb_l2 a b t x y z cz _ HZ.out))) | quiet_step (first | (go_at_call 62; exact belQ (compFb_l2 a b t x y z cz _ HZ.out))))
        refine wpQuiet_nil ?_
        rintro _ ⟨⟨w3, hb3⟩, rfl⟩
        clear qq0 qq1 qq2 qq3 qq4 qq5
        go_wp2
        go_roundg (h - i)
        case measure => have := HIJ.out; omega
        case rel => exact ⟨i, h, by omega, by omega, rfl, rfl, hb3.keep X, Y.trans hb3, H1, H2'⟩
    · obtain rfl : i = j := by omega
      have i1 : ¬ (i : Int) < (i : Int) := by omega
      by_cases hn2 : i < fs.length
      · have i2 : (i : Int) < (fs.length : Int) := by omega
        have i3 : (0 : Int) ≤ (i : Int) := by omega
        obtain ⟨b1, o1, rfl, z1, hc1⟩ := hA (by omega)
        have hx : Hid (fs[i]? = some (fs[i]'(by omega))) := List.getElem?_eq_getElem (by omega)
        obtain ⟨g1, g2, g3⟩ := hc1 i _ hx.out
        generalize fs[i]'(by omega) = g at *
        obtain ⟨a, b, t⟩ := g
        dsimp only at *
        replace g1 := Y.cell1 z1 g1
        replace g2 := Y.cell1 z1 g2
        replace g3 := Y.cell1 z1 g3
        have zz : b1 < wr.heap.size := Nat.lt_of_lt_of_le z1 Y.size
        have HT := Lib.hid (tw_eq fs (x, y, z) i hjn H1.out (fun g hg => H2.out i g (Nat.le_refl _) hg))
        have HG := Lib.hid (H2.out i (a, b, t) (Nat.le_refl _) hx.out)
        obtain ⟨cz, HZ⟩ : ∃ cz, Hid (compFb (a, b, t) (x, y, z) = cz) := ⟨_, rfl⟩
        have HB : Hid (bsB fs (x, y, z) = (cz == 0)) := by
          have q := comp_zero (a, b, t) (x, y, z)
          rw [HZ.out, HG.out] at q
          show bsB fs (x, y, z) = _
          rw [q]
          unfold bsB
          rw [HT.out, hx.out]
          rfl
        clear hc1 hA
        go_wp2
        have qq0 := Bw.cell r0 zx
        have qq1 := Bw.cell r1 zx
        have qq2 := Bw.cell r2 zx
        have qq3 := Bw.cell g1 zz
        have qq4 := Bw.cell g2 zz
        have qq5 := Bw.cell g3 zz
        refine wp_region_bel (by kernel_rfl) (by kernel_rfl) ?_
        repeat (first | go_big_quiet_step (first | (go_at_call 62; exact belQ (compFb_l2 a b t x y z cz _ HZ.out))) | quiet_step (first | (go_at_call 62; exact belQ (compFb_l2 a b t x y z cz _ HZ.out))))
        refine wpQuiet_nil ?_
        rintro _ ⟨⟨w3, hb3⟩, rfl⟩
        clear qq0 qq1 qq2 qq3 qq4 qq5
        go_wp2
        go_ret2
        exact ⟨by rw [HT.out, HB.out]; rfl, Y.trans hb3⟩
      · have i2 : ¬ (i : Int) < (fs.length : Int) := by omega
        have HT := Lib.hid (tw_eq fs (x, y, z) i hjn H1.out (fun g hg => H2.out i g (Nat.le_refl _) hg))
        have HB : Hid (bsB fs (x, y, z) = false) := by
          show _ = _
          unfold bsB
          rw [HT.out, List.getElem?_eq_none (by omega)]
        clear hA
        go_wp2
        refine wp_region_bel (by kernel_rfl) (by kernel_rfl) ?_
        repeat (first | go_big_quiet_step (fail) | quiet_step (fail))
        refine wpQuiet_nil ?_
        rintro _ ⟨⟨w3, hb3⟩, rfl⟩
        go_wp2
        go_ret2
        exact ⟨by rw [HT.out, HB.out]; rfl, Y.trans hb3⟩
end Go.Proofs.Ytchodlfkoafeaaa
