/-
  The laws' helpers over slices of structs of three ints: contracts of szXS, toXS, eqXS, markXS, heldXS for X = Feedback, Edge. Conditions: at most 2^20 elements; numbers below 2^62.
-/
import Derived.Test.YtchodlfkoafeaaaTri
import Derived.Deep.RegionHeld3
namespace Go.Proofs.Ytchodlfkoafeaaa
open Go.ChangeShapes Go.WideShapes Go.ChangeAt Go.RowKit
set_option linter.unusedVariables false
set_option maxRecDepth 100000

theorem Fb_info : (Try.prog.info? 43).map (fun i => (i.zero, i.size, i.bytes)) = some (some (.agg #[.int .i64 0, .int .i64 0, .int .i64 0]), 3, 24) := by kernel_rfl
theorem mkFb (n : Nat) (hn : n ≤ 1099511627776) : ∀ w : World, (Instr.makeSlice 38 (.int .i64 (n : Int)) (.int .i64 (n : Int))).run Try.prog w =
    .ok (.slice (some ⟨w.heap.size, 0, none⟩) n n) (w.alloc (.cells (madeCells #[.int .i64 0, .int .i64 0, .int .i64 0] (n * 3)) 43)) := by
  intro w
  obtain ⟨i0, hi, hz0, hz1, hz2⟩ := info_parts Fb_info
  have hr := run_make (P := Try.prog) w 38 43 i0 (.agg #[.int .i64 0, .int .i64 0, .int .i64 0]) Try.underlying38 hi hz0 .i64 .i64 n n (by omega) (by omega) (by rw [hz2]; omega) (by omega)
  rw [hz1] at hr
  simp only [Int.toNat_natCast] at hr
  exact hr
theorem szFb_ok (v : Value) (xs : List Tr) (l : Int) (w : World) (hv : RT w v xs) (h0 : (xs.length : Int) ≤ l) (h1 : l ≤ 1048576) :
    Calls Try.prog 46 #[v, .int .i64 l] w fun e w' => e = .returned (.int .i64 (l - xs.length)) ∧ w = w' := by
  obtain ⟨A, c, rfl, h2, h3, hA⟩ := hv
  have hd : decide (l - (xs.length : Int) < 0) = false := by simp; omega
  go_enter Try.func46, Try.ntmps46
  go_wp2
  go_ret
  exact ⟨rfl, rfl⟩
theorem szFb_no (v : Value) (xs : List Tr) (l : Int) (w : World) (hv : RT w v xs) (h0 : l < (xs.length : Int)) (h1 : 0 ≤ l) (h2 : l ≤ 1048576) :
    Calls Try.prog 46 #[v, .int .i64 l] w fun e w' => e = .returned (.int .i64 (-1)) ∧ w = w' := by
  obtain ⟨A, c, rfl, h3, h4, hA⟩ := hv
  have hd : decide (l - (xs.length : Int) < 0) = true := by simp; omega
  go_enter Try.func46, Try.ntmps46
  go_wp2
  go_ret
  exact ⟨rfl, rfl⟩
set_option maxHeartbeats 400000 in
theorem toFb1 (a b c : Int) (w : World) : Calls Try.prog 15 #[.agg #[.int .i64 a, .int .i64 b, .int .i64 c]] w fun e w' => e = .returned (.agg #[.int .i64 a, .int .i64 b, .int .i64 c]) ∧ Bel w w' := by
  go_enter Try.func15, Try.ntmps15
  go_wp2
  refine bodyPost_ret (v := .agg #[.int .i64 a, .int .i64 b, .int .i64 c]) (by simp [results, Try.results15, go_sem]) rfl ⟨rfl, ?_⟩
  repeat (first | exact Bel.refl _ | apply Bel.alloc)
set_option maxHeartbeats 400000 in
theorem eqFb1 (a b c : Int) (w : World) : Calls Try.prog 75 #[.agg #[.int .i64 a, .int .i64 b, .int .i64 c], .agg #[.int .i64 a, .int .i64 b, .int .i64 c]] w fun e w' => e = .returned (.bool true) ∧ Bel w w' := by
  go_enter Try.func75, Try.ntmps75
  go_wp2
  go_ret
  exact ⟨rfl, ((Bel.refl _).alloc _).alloc _⟩
set_option maxHeartbeats 1000000 in
theorem toFbS (v : Value) (xs : List Tr) (w : World) (hv : RT w v xs) (hn : xs.length ≤ 1048576) :
    Calls Try.prog 49 #[v] w fun e w' => ∃ v', e = .returned v' ∧ OT 43 w' w.heap.size v' xs ∧ Bel w w' := by
  obtain ⟨A, c, rfl, h2, h3, hA⟩ := hv
  have hmk := mkFb xs.length (by omega)
  have hcs : (madeCells #[.int .i64 0, .int .i64 0, .int .i64 0] (xs.length * 3)).size = xs.length * 3 := size_madeCells _ _
  generalize madeCells #[.int .i64 0, .int .i64 0, .int .i64 0] (xs.length * 3) = C at *
  have HC := Lib.hid hcs
  have hcs2 : xs.length * 3 ≤ C.size := by omega
  clear hcs
  go_enter Try.func49, Try.ntmps49
  go_wp2
  clear hmk
  go_loopg [4] xs.length (fun f i wr => ∃ j : Nat, j + f = xs.length ∧ i = .int .i64 j ∧ Blk wr w.heap.size 43 (fillF C (fun i => (flat3 xs).getD i (.int .i64 0)) (j * 3)) ∧ Bel w wr)
  case atStart => exact ⟨0, by omega, rfl, Blk.new w _ _, (Bel.refl _).alloc _⟩
  case round =>
    obtain ⟨j, hj, rfl, hB, hb⟩ := hrel
    have hj2 : j ≤ xs.length := by omega
    have HJ := Lib.hid hj
    clear hj
    by_cases hlt : j < xs.length
    · obtain ⟨b1, o1, rfl, hb1, hc1⟩ := hA (by omega)
      have hx : xs[j]? = some (xs[j]'hlt) := List.getElem?_eq_getElem hlt
      obtain ⟨g1, g2, g3⟩ := hc1 j _ hx
      have HX := Lib.hid (flat3_getD hx)
      generalize xs[j]'hlt = x at *
      obtain ⟨x, y, z⟩ := x
      dsimp only at *
      replace g1 := hb.cell1 hb1 g1
      replace g2 := hb.cell1 hb1 g2
      replace g3 := hb.cell1 hb1 g3
      clear hc1 hA hx
      have i0 : (0 : Int) ≤ (j : Int) := by omega
      have i1 : (j : Int) < (xs.length : Int) := by omega
      go_wp2_with fail
      refine (toFb1 x y z _).mono ?_
      rintro e w1 ⟨rfl, hb2⟩
      replace hB := hb2.keep hB
      replace hb := hb.trans hb2
      clear g1 g2 g3 hb2
      obtain ⟨c1, f1, z1⟩ := hB.facts
      have sz : (fillF C (fun i => (flat3 xs).getD i (.int .i64 0)) (j * 3)).size = C.size := fillF_size _ _ _
      have r1 : ∃ u, w1.cell? ⟨w.heap.size, j * 3, none⟩ = some u := ⟨_, (c1 _).trans (Array.getElem?_eq_getElem (by omega))⟩
      have r2 : ∃ u, w1.cell? ⟨w.heap.size, j * 3 + 1, none⟩ = some u := ⟨_, (c1 _).trans (Array.getElem?_eq_getElem (by omega))⟩
      have r3 : ∃ u, w1.cell? ⟨w.heap.size, j * 3 + 2, none⟩ = some u := ⟨_, (c1 _).trans (Array.getElem?_eq_getElem (by omega))⟩
      obtain ⟨u1, r1⟩ := r1
      obtain ⟨u2, r2⟩ := r2
      obtain ⟨u3, r3⟩ := r3
      have f2 := f1 (j * 3)
      have f3 := f1 (j * 3 + 1)
      have f4 := f1 (j * 3 + 2)
      clear c1 f1 sz
      go_wp2
      go_roundg (xs.length - (j + 1))
      case measure => have := HJ.out; omega
      case rel =>
        refine ⟨j + 1, by omega, by go_num, ?_, ((hb.setCell (p := ⟨w.heap.size, j * 3, none⟩) (Nat.le_refl _) _).setCell (p := ⟨w.heap.size, j * 3 + 1, none⟩) (Nat.le_refl _) _).setCell (p := ⟨w.heap.size, j * 3 + 2, none⟩) (Nat.le_refl _) _⟩
        have hs := ((hB.set (j * 3) (.int .i64 x)).set (j * 3 + 1) (.int .i64 y)).set (j * 3 + 2) (.int .i64 z)
        have e3 : (j + 1) * 3 = j * 3 + 1 + 1 + 1 := by omega
        rw [e3]
        have e4 : fillF C (fun i => (flat3 xs).getD i (.int .i64 0)) (j * 3 + 1 + 1 + 1) = (((fillF C (fun i => (flat3 xs).getD i (.int .i64 0)) (j * 3)).setIfInBounds (j * 3) (.int .i64 x)).setIfInBounds (j * 3 + 1) (.int .i64 y)).setIfInBounds (j * 3 + 2) (.int .i64 z) := by
          have hx := HX.out
          show ((((fillF C _ (j * 3)).setIfInBounds (j * 3) ((flat3 xs).getD (j * 3) (.int .i64 0))).setIfInBounds (j * 3 + 1) ((flat3 xs).getD (j * 3 + 1) (.int .i64 0))).setIfInBounds (j * 3 + 1 + 1) ((flat3 xs).getD (j * 3 + 1 + 1) (.int .i64 0))) = _
          rw [hx.1, hx.2.1, show j * 3 + 1 + 1 = j * 3 + 2 from rfl, hx.2.2]
        rw [e4]
        exact hs
    · obtain rfl : j = xs.length := by omega
      have i1 : ¬ (xs.length : Int) < (xs.length : Int) := by omega
      go_wp2
      go_ret
      refine ⟨_, rfl, ?_, hb⟩
      exact ⟨flat3_length xs, .inr ⟨w.heap.size, xs.length, _, rfl, Nat.le_refl _, hB, Nat.le_refl _, by unfold maxLen; omega, by rw [fillF_size, HC.out], fill3_take C xs hcs2⟩⟩
set_option maxHeartbeats 1000000 in
theorem eqFbS_same (v u : Value) (xs : List Tr) (w : World) (hv : RT w v xs) (hu : RT w u xs) :
    Calls Try.prog 53 #[v, u] w fun e w' => e = .returned (.bool true) ∧ Bel w w' := by
  obtain ⟨A, c, rfl, h1, h2, hA⟩ := hv
  obtain ⟨B, d, rfl, h3, h4, hB⟩ := hu
  go_enter Try.func53, Try.ntmps53
  go_wp2
  go_loopg [5] xs.length (fun f i wr => ∃ k : Nat, k + f = xs.length ∧ i = .int .i64 k ∧ Bel w wr)
  case atStart => exact ⟨0, by omega, rfl, Bel.refl _⟩
  case round =>
    obtain ⟨k, hk, rfl, Y⟩ := hrel
    have hk2 : k ≤ xs.length := by omega
    have HK := Lib.hid hk
    clear hk
    by_cases hlt : k < xs.length
    · obtain ⟨b1, o1, rfl, z1, hc1⟩ := hA (by omega)
      obtain ⟨b2, o2, rfl, z2, hc2⟩ := hB (by omega)
      have hx : xs[k]? = some (xs[k]'hlt) := List.getElem?_eq_getElem hlt
      obtain ⟨g1, g2, g3⟩ := hc1 k _ hx
      obtain ⟨k1, k2, k3⟩ := hc2 k _ hx
      generalize xs[k]'hlt = x at *
      obtain ⟨x, y, z⟩ := x
      dsimp only at *
      replace g1 := Y.cell1 z1 g1
      replace g2 := Y.cell1 z1 g2
      replace g3 := Y.cell1 z1 g3
      replace k1 := Y.cell1 z2 k1
      replace k2 := Y.cell1 z2 k2
      replace k3 := Y.cell1 z2 k3
      clear hc1 hc2 hA hB hx
      have y1 := Nat.lt_of_lt_of_le z1 Y.size
      have y2 := Nat.lt_of_lt_of_le z2 Y.size
      have i0 : (0 : Int) ≤ (k : Int) := by omega
      have i1 : (k : Int) < (xs.length : Int) := by omega
      go_wp2
      go_region_held3 (fun w' => w'.cell? ⟨b1, o1 + k * 3, none⟩ = some (.int .i64 x) ∧ w'.cell? ⟨b1, o1 + k * 3 + 1, none⟩ = some (.int .i64 y) ∧ w'.cell? ⟨b1, o1 + k * 3 + 2, none⟩ = some (.int .i64 z) ∧ w'.cell? ⟨b2, o2 + k * 3, none⟩ = some (.int .i64 x) ∧ w'.cell? ⟨b2, o2 + k * 3 + 1, none⟩ = some (.int .i64 y) ∧ w'.cell? ⟨b2, o2 + k * 3 + 2, none⟩ = some (.int .i64 z))
        (first | exact ⟨hbE.cell1 y1 g1, hbE.cell1 y1 g2, hbE.cell1 y1 g3, hbE.cell1 y2 k1, hbE.cell1 y2 k2, hbE.cell1 y2 k3⟩ | go_keep)
        (first | (go_at_call 75; ((with_reducible refine (eqFb1 x y z _).mono ?_); rintro e wE ⟨rfl, hbE⟩)))
      have YE : Bel w wE := (Y.trans ((Bel.refl _).drew)).trans hbE
      go_wp2
      go_roundg (xs.length - (k + 1))
      case measure => have := HK.out; omega
      case rel => exact ⟨k + 1, by omega, by go_num, YE⟩
    · obtain rfl : k = xs.length := by omega
      have i1 : ¬ (xs.length : Int) < (xs.length : Int) := by omega
      go_wp2
      go_ret
      exact ⟨rfl, Y⟩
set_option maxHeartbeats 1000000 in
theorem heldFbS (v : Value) (k : Int) (n : Nat) (w : World) (hv : RT w v (marks3 k n)) (h0 : 0 ≤ k) (hk : k + n * 3 ≤ 4611686018427387904) :
    Calls Try.prog 55 #[v, .int .i64 k] w fun e w' => e = .returned (.int .i64 (k + ((n * 3 : Nat) : Int))) ∧ w = w' := by
  obtain ⟨A, c, rfl, h1, h2, hA⟩ := hv
  rw [marks3_length] at h1 hA ⊢
  go_enter Try.func55, Try.ntmps55
  go_wp2
  go_loopg [1, 5] n (fun f m i wr => ∃ j : Nat, j + f = n ∧ i = .int .i64 j ∧ m = .int .i64 (k + ((j * 3 : Nat) : Int)) ∧ wr = w)
  case atStart => exact ⟨0, by omega, rfl, by simp, rfl⟩
  case round =>
    obtain ⟨j, hj, rfl, rfl, rfl⟩ := hrel
    have hj2 : j ≤ n := by omega
    have HJ := Lib.hid hj
    clear hj
    by_cases hlt : j < n
    · obtain ⟨b1, o1, rfl, _, hc1⟩ := hA (by omega)
      obtain ⟨g1, g2, g3⟩ := hc1 j _ (marks3_at k n j hlt)
      clear hc1 hA
      have i0 : (0 : Int) ≤ (j : Int) := by omega
      have i1 : (j : Int) < (n : Int) := by omega
      have e1 : k + ((j * 3 + 1 : Nat) : Int) = k + ((j * 3 : Nat) : Int) + 1 := by omega
      have e2 : k + ((j * 3 + 2 : Nat) : Int) = k + ((j * 3 : Nat) : Int) + 1 + 1 := by omega
      rw [e1] at g2
      rw [e2] at g3
      clear e1 e2
      have m0 : 0 ≤ k + ((j * 3 : Nat) : Int) := by omega
      have m1 : k + ((j * 3 : Nat) : Int) ≤ 4611686018427387904 := by omega
      have HE : Hid (k + ((j * 3 : Nat) : Int) + 1 + 1 + 1 = k + (((j + 1) * 3 : Nat) : Int)) := by show _ = _; omega
      generalize k + ((j * 3 : Nat) : Int) = q at *
      go_wp2
      go_roundg (n - (j + 1))
      case measure => have := HJ.out; omega
      case rel => exact ⟨j + 1, by omega, by go_num, by rw [← HE.out], rfl⟩
    · obtain rfl : j = n := by omega
      have i1 : ¬ (j : Int) < (j : Int) := by omega
      go_wp2
      go_ret
      exact ⟨rfl, rfl⟩
set_option maxHeartbeats 1000000 in
theorem markFbS (v : Value) (k : Int) (xs : List Tr) (base : Nat) (w : World) (h : OT 43 w base v xs) (h0 : 0 ≤ k) (hk : k + xs.length * 3 ≤ 4611686018427387904) :
    Calls Try.prog 54 #[v, .int .i64 k] w fun e w' => e = .returned (.int .i64 (k + ((xs.length * 3 : Nat) : Int))) ∧ OT 43 w' base v (marks3 k xs.length) ∧ w.grownBy w' v.ownBlock := by
  obtain ⟨hl, ⟨rfl, hn⟩ | ⟨g, cap, cur, rfl, hb, hh, h1, h2, h3, h4⟩⟩ := h
  · have : xs = [] := List.eq_nil_of_length_eq_zero hn
    subst this
    go_enter Try.func54, Try.ntmps54
    go_wp2
    refine wp_loop_rounds 1 ?_
    rw [rounds_succ]
    go_wp2
    go_ret
    exact ⟨by simp, OT.nil _ _ _, World.grownBy.refl w _⟩
  · clear hl h4
    unfold maxLen at h2
    have HH : Hid (Blk w g 43 cur) := hh
    have hgl := Blk.lt hh
    have h3' : cap * 3 ≤ cur.size := by omega
    have H3 := Lib.hid h3
    clear hh h3
    generalize xs.length = n at *
    go_enter Try.func54, Try.ntmps54
    go_wp2
    go_loopg [1, 5] n (fun f q i wr => ∃ j : Nat, j + f = n ∧ i = .int .i64 j ∧ q = .int .i64 (k + ((j * 3 : Nat) : Int)) ∧ Blk wr g 43 (fillTo cur k (j * 3)) ∧ w.grownBy wr (some g))
    case atStart => exact ⟨0, by omega, rfl, by simp, HH.out, World.grownBy.refl w _⟩
    case round =>
      obtain ⟨j, hj, rfl, rfl, hB, hG⟩ := hrel
      have hj2 : j ≤ n := by omega
      have HJ := Lib.hid hj
      clear hj
      by_cases hlt : j < n
      · obtain ⟨c1, f1, z1⟩ := hB.facts
        have sz : (fillTo cur k (j * 3)).size = cur.size := fillTo_size _ _ _
        have r1 : ∃ u, wr.cell? ⟨g, j * 3, none⟩ = some u := ⟨_, (c1 _).trans (Array.getElem?_eq_getElem (by omega))⟩
        have r2 : ∃ u, wr.cell? ⟨g, j * 3 + 1, none⟩ = some u := ⟨_, (c1 _).trans (Array.getElem?_eq_getElem (by omega))⟩
        have r3 : ∃ u, wr.cell? ⟨g, j * 3 + 2, none⟩ = some u := ⟨_, (c1 _).trans (Array.getElem?_eq_getElem (by omega))⟩
        obtain ⟨u1, r1⟩ := r1
        obtain ⟨u2, r2⟩ := r2
        obtain ⟨u3, r3⟩ := r3
        have f2 := f1 (j * 3)
        have f3 := f1 (j * 3 + 1)
        have f4 := f1 (j * 3 + 2)
        clear c1 f1 sz
        have i0 : (0 : Int) ≤ (j : Int) := by omega
        have i1 : (j : Int) < (n : Int) := by omega
        have m0 : 0 ≤ k + ((j * 3 : Nat) : Int) := by omega
        have m1 : k + ((j * 3 : Nat) : Int) ≤ 4611686018427387904 := by omega
        have HE : Hid (k + ((j * 3 : Nat) : Int) + 1 + 1 + 1 = k + (((j + 1) * 3 : Nat) : Int)) := by show _ = _; omega
        have HF : Hid (fillTo cur k ((j + 1) * 3) = (((fillTo cur k (j * 3)).setIfInBounds (j * 3) (.int .i64 (k + ((j * 3 : Nat) : Int)))).setIfInBounds (j * 3 + 1) (.int .i64 (k + ((j * 3 : Nat) : Int) + 1))).setIfInBounds (j * 3 + 2) (.int .i64 (k + ((j * 3 : Nat) : Int) + 1 + 1))) := by
          show _ = _
          rw [show (j + 1) * 3 = j * 3 + 1 + 1 + 1 by omega]
          have e1 : k + ((j * 3 + 1 : Nat) : Int) = k + ((j * 3 : Nat) : Int) + 1 := by omega
          have e2 : k + ((j * 3 + 1 + 1 : Nat) : Int) = k + ((j * 3 : Nat) : Int) + 1 + 1 := by omega
          simp only [fillTo]
          rw [e1, e2]
        generalize hq : k + ((j * 3 : Nat) : Int) = q at *
        have HQ := Lib.hid hq
        clear hq
        go_wp2
        go_roundg (n - (j + 1))
        case measure => have := HJ.out; omega
        case rel =>
          refine ⟨j + 1, by omega, by go_num, by rw [← HE.out], by rw [HF.out]; exact ((hB.set (j * 3) _).set (j * 3 + 1) _).set (j * 3 + 2) _, ?_⟩
          refine ⟨hG.os, hG.tape, hG.output, by simpa [World.setCell] using hG.size, fun i hi hne => ?_⟩
          have hne2 : i ≠ g := fun e => hne (by rw [e])
          rw [Below.heap_setCell _ _ _ _ hne2, Below.heap_setCell _ _ _ _ hne2, Below.heap_setCell _ _ _ _ hne2]
          exact hG.block i hi hne
      · obtain rfl : j = n := by omega
        have i1 : ¬ (j : Int) < (j : Int) := by omega
        go_wp2
        go_ret
        refine ⟨rfl, ?_, hG⟩
        unfold OT
        rw [marks3_length]
        refine ⟨by rw [marks3_flat]; simp [marks], .inr ⟨g, cap, _, rfl, hb, hB, h1, by unfold maxLen; omega, by rw [fillTo_size, H3.out], ?_⟩⟩
        have := fillTo_take cur k (j * 3) (by omega)
        rw [Nat.mul_one] at this
        rw [marks3_flat, this]
end Go.Proofs.Ytchodlfkoafeaaa
