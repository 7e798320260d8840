/-
  The laws' helpers over slices of structs of three ints: contracts of szXS, toXS, eqXS, markXS, heldXS for X = Feedback, Edge. Conditions: at most 2^20 elements; numbers below 2^62.
-/
import Derived.Test.YtgdainjconfnfaaDoorTri
import Derived.Deep.RegionHeld3
namespace Go.Proofs.YtgdainjconfnfaaDoor
open Go.ChangeShapes Go.WideShapes Go.ChangeAt Go.RowKit
set_option linter.unusedVariables false
set_option maxRecDepth 100000

theorem Ed_info : (Tryd.prog.info? 36).map (fun i => (i.zero, i.size, i.bytes)) = some (some (.agg #[.int .i64 0, .int .i64 0, .int .i64 0]), 3, 24) := by kernel_rfl
theorem mkEd (n : Nat) (hn : n ≤ 1099511627776) : ∀ w : World, (Instr.makeSlice 27 (.int .i64 (n : Int)) (.int .i64 (n : Int))).run Tryd.prog w =
    .ok (.slice (some ⟨w.heap.size, 0, none⟩) n n) (w.alloc (.cells (madeCells #[.int .i64 0, .int .i64 0, .int .i64 0] (n * 3)) 36)) := by
  intro w
  obtain ⟨i0, hi, hz0, hz1, hz2⟩ := info_parts Ed_info
  have hr := run_make (P := Tryd.prog) w 27 36 i0 (.agg #[.int .i64 0, .int .i64 0, .int .i64 0]) Tryd.underlying27 hi hz0 .i64 .i64 n n (by omega) (by omega) (by rw [hz2]; omega) (by omega)
  rw [hz1] at hr
  simp only [Int.toNat_natCast] at hr
  exact hr
theorem szEd_ok (v : Value) (xs : List Tr) (l : Int) (w : World) (hv : RT w v xs) (h0 : (xs.length : Int) ≤ l) (h1 : l ≤ 1048576) :
    Calls Tryd.prog 9 #[v, .int .i64 l] w fun e w' => e = .returned (.int .i64 (l - xs.length)) ∧ w = w' := by
  obtain ⟨A, c, rfl, h2, h3, hA⟩ := hv
  have hd : decide (l - (xs.length : Int) < 0) = false := by simp; omega
  go_enter Tryd.func9, Tryd.ntmps9
  go_wp2
  go_ret
  exact ⟨rfl, rfl⟩
theorem szEd_no (v : Value) (xs : List Tr) (l : Int) (w : World) (hv : RT w v xs) (h0 : l < (xs.length : Int)) (h1 : 0 ≤ l) (h2 : l ≤ 1048576) :
    Calls Tryd.prog 9 #[v, .int .i64 l] w fun e w' => e = .returned (.int .i64 (-1)) ∧ w = w' := by
  obtain ⟨A, c, rfl, h3, h4, hA⟩ := hv
  have hd : decide (l - (xs.length : Int) < 0) = true := by simp; omega
  go_enter Tryd.func9, Tryd.ntmps9
  go_wp2
  go_ret
  exact ⟨rfl, rfl⟩
set_option maxHeartbeats 400000 in
theorem toEd1 (a b c : Int) (w : World) : Calls Tryd.prog 14 #[.agg #[.int .i64 a, .int .i64 b, .int .i64 c]] w fun e w' => e = .returned (.agg #[.int .i64 a, .int .i64 b, .int .i64 c]) ∧ Bel w w' := by
  go_enter Tryd.func14, Tryd.ntmps14
  go_wp2
  refine bodyPost_ret (v := .agg #[.int .i64 a, .int .i64 b, .int .i64 c]) (by simp [results, Tryd.results14, go_sem]) rfl ⟨rfl, ?_⟩
  repeat (first | exact Bel.refl _ | apply Bel.alloc)
set_option maxHeartbeats 400000 in
theorem eqEd1 (a b c : Int) (w : World) : Calls Tryd.prog 16 #[.agg #[.int .i64 a, .int .i64 b, .int .i64 c], .agg #[.int .i64 a, .int .i64 b, .int .i64 c]] w fun e w' => e = .returned (.bool true) ∧ Bel w w' := by
  go_enter Tryd.func16, Tryd.ntmps16
  go_wp2
  go_ret
  exact ⟨rfl, ((Bel.refl _).alloc _).alloc _⟩
set_option maxHeartbeats 1000000 in
theorem toEdS (v : Value) (xs : List Tr) (w : World) (hv : RT w v xs) (hn : xs.length ≤ 1048576) :
    Calls Tryd.prog 11 #[v] w fun e w' => ∃ v', e = .returned v' ∧ OT 36 w' w.heap.size v' xs ∧ Bel w w' := by
  obtain ⟨A, c, rfl, h2, h3, hA⟩ := hv
  have hmk := mkEd xs.length (by omega)
  have hcs : (madeCells #[.int .i64 0, .int .i64 0, .int .i64 0] (xs.length * 3)).size = xs.length * 3 := size_madeCells _ _
  generalize madeCells #[.int .i64 0, .int .i64 0, .int .i64 0] (xs.length * 3) = C at *
  have HC := Lib.hid hcs
  have hcs2 : xs.length * 3 ≤ C.size := by omega
  clear hcs
  go_enter Tryd.func11, Tryd.ntmps11
  go_wp2
  clear hmk
  go_loopg [4] xs.length (fun f i wr => ∃ j : Nat, j + f = xs.length ∧ i = .int .i64 j ∧ Blk wr w.heap.size 36 (fillF C (fun i => (flat3 xs).getD i (.int .i64 0)) (j * 3)) ∧ Bel w wr)
  case atStart => exact ⟨0, by omega, rfl, Blk.new w _ _, (Bel.refl _).alloc _⟩
  case round =>
    obtain ⟨j, hj, rfl, hB, hb⟩ := hrel
    have hj2 : j ≤ xs.length := by omega
    have HJ := Lib.hid hj
    clear hj
    by_cases hlt : j < xs.length
    · obtain ⟨b1, o1, rfl, hb1, hc1⟩ := hA (by omega)
      have hx : xs[j]? = some (xs[j]'hlt) := List.getElem?_eq_getElem hlt
      obtain ⟨g1, g2, g3⟩ := hc1 j _ hx
      have HX := Lib.hid (flat3_getD hx)
      generalize xs[j]'hlt = x at *
      obtain ⟨x, y, z⟩ := x
      dsimp only at *
      replace g1 := hb.cell1 hb1 g1
      replace g2 := hb.cell1 hb1 g2
      replace g3 := hb.cell1 hb1 g3
      clear hc1 hA hx
      have i0 : (0 : Int) ≤ (j : Int) := by omega
      have i1 : (j : Int) < (xs.length : Int) := by omega
      go_wp2_with fail
      refine (toEd1 x y z _).mono ?_
      rintro e w1 ⟨rfl, hb2⟩
      replace hB := hb2.keep hB
      replace hb := hb.trans hb2
      clear g1 g2 g3 hb2
      obtain ⟨c1, f1, z1⟩ := hB.facts
      have sz : (fillF C (fun i => (flat3 xs).getD i (.int .i64 0)) (j * 3)).size = C.size := fillF_size _ _ _
      have r1 : ∃ u, w1.cell? ⟨w.heap.size, j * 3, none⟩ = some u := ⟨_, (c1 _).trans (Array.getElem?_eq_getElem (by omega))⟩
      have r2 : ∃ u, w1.cell? ⟨w.heap.size, j * 3 + 1, none⟩ = some u := ⟨_, (c1 _).trans (Array.getElem?_eq_getElem (by omega))⟩
      have r3 : ∃ u, w1.cell? ⟨w.heap.size, j * 3 + 2, none⟩ = some u := ⟨_, (c1 _).trans (Array.getElem?_eq_getElem (by omega))⟩
      obtain ⟨u1, r1⟩ := r1
      obtain ⟨u2, r2⟩ := r2
      obtain ⟨u3, r3⟩ := r3
      have f2 := f1 (j * 3)
      have f3 := f1 (j * 3 + 1)
      have f4 := f1 (j * 3 + 2)
      clear c1 f1 sz
      go_wp2
      go_roundg (xs.length - (j + 1))
      case measure => have := HJ.out; omega
      case rel =>
        refine ⟨j + 1, by omega, by go_num, ?_, ((hb.setCell (p := ⟨w.heap.size, j * 3, none⟩) (Nat.le_refl _) _).setCell (p := ⟨w.heap.size, j * 3 + 1, none⟩) (Nat.le_refl _) _).setCell (p := ⟨w.heap.size, j * 3 + 2, none⟩) (Nat.le_refl _) _⟩
        have hs := ((hB.set (j * 3) (.int .i64 x)).set (j * 3 + 1) (.int .i64 y)).set (j * 3 + 2) (.int .i64 z)
        have e3 : (j + 1) * 3 = j * 3 + 1 + 1 + 1 := by omega
        rw [e3]
        have e4 : fillF C (fun i => (flat3 xs).getD i (.int .i64 0)) (j * 3 + 1 + 1 + 1) = (((fillF C (fun i => (flat3 xs).getD i (.int .i64 0)) (j * 3)).setIfInBounds (j * 3) (.int .i64 x)).setIfInBounds (j * 3 + 1) (.int .i64 y)).setIfInBounds (j * 3 + 2) (.int .i64 z) := by
          have hx := HX.out
          show ((((fillF C _ (j * 3)).setIfInBounds (j * 3) ((flat3 xs).getD (j * 3) (.int .i64 0))).setIfInBounds (j * 3 + 1) ((flat3 xs).getD (j * 3 + 1) (.int .i64 0))).setIfInBounds (j * 3 + 1 + 1) ((flat3 xs).getD (j * 3 + 1 + 1) (.int .i64 0))) = _
          rw [hx.1, hx.2.1, show j * 3 + 1 + 1 = j * 3 + 2 from rfl, hx.2.2]
        rw [e4]
        exact hs
    · obtain rfl : j = xs.length := by omega
      have i1 : ¬ (xs.length : Int) < (xs.length : Int) := by omega
      go_wp2
      go_ret
      refine ⟨_, rfl, ?_, hb⟩
      exact ⟨flat3_length xs, .inr ⟨w.heap.size, xs.length, _, rfl, Nat.le_refl _, hB, Nat.le_refl _, by unfold maxLen; omega, by rw [fillF_size, HC.out], fill3_take C xs hcs2⟩⟩
set_option maxHeartbeats 1000000 in
theorem eqEdS_same (v u : Value) (xs : List Tr) (w : World) (hv : RT w v xs) (hu : RT w u xs) :
    Calls Tryd.prog 13 #[v, u] w fun e w' => e = .returned (.bool true) ∧ Bel w w' := by
  obtain ⟨A, c, rfl, h1, h2, hA⟩ := hv
  obtain ⟨B, d, rfl, h3, h4, hB⟩ := hu
  go_enter Tryd.func13, Tryd.ntmps13
  go_wp2
  go_loopg [5] xs.length (fun f i wr => ∃ k : Nat, k + f = xs.length ∧ i = .int .i64 k ∧ Bel w wr)
  case atStart => exact ⟨0, by omega, rfl, Bel.refl _⟩
  case round =>
    obtain ⟨k, hk, rfl, Y⟩ := hrel
    have hk2 : k ≤ xs.length := by omega
    have HK := Lib.hid hk
    clear hk
    by_cases hlt : k < xs.length
    · obtain ⟨b1, o1, rfl, z1, hc1⟩ := hA (by omega)
      obtain ⟨b2, o2, rfl, z2, hc2⟩ := hB (by omega)
      have hx : xs[k]? = some (xs[k]'hlt) := List.getElem?_eq_getElem hlt
      obtain ⟨g1, g2, g3⟩ := hc1 k _ hx
      obtain ⟨k1, k2, k3⟩ := hc2 k _ hx
      generalize xs[k]'hlt = x at *
      obtain ⟨x, y, z⟩ := x
      dsimp only at *
      replace g1 := Y.cell1 z1 g1
      replace g2 := Y.cell1 z1 g2
      replace g3 := Y.cell1 z1 g3
      replace k1 := Y.cell1 z2 k1
      replace k2 := Y.cell1 z2 k2
      replace k3 := Y.cell1 z2 k3
      clear hc1 hc2 hA hB hx
      have y1 := Nat.lt_of_lt_of_le z1 Y.size
      have y2 := Nat.lt_of_lt_of_le z2 Y.size
      have i0 : (0 : Int) ≤ (k : Int) := by omega
      have i1 : (k : Int) < (xs.length : Int) := by omega
      go_wp2
      go_region_held3 (fun w' => w'.cell? ⟨b1, o1 + k * 3, none⟩ = some (.int .i64 x) ∧ w'.cell? ⟨b1, o1 + k * 3 + 1, none⟩ = some (.int .i64 y) ∧ w'.cell? ⟨b1, o1 + k * 3 + 2, none⟩ = some (.int .i64 z) ∧ w'.cell? ⟨b2, o2 + k * 3, none⟩ = some (.int .i64 x) ∧ w'.cell? ⟨b2, o2 + k * 3 + 1, none⟩ = some (.int .i64 y) ∧ w'.cell? ⟨b2, o2 + k * 3 + 2, none⟩ = some (.int .i64 z))
        (first | exact ⟨hbE.cell1 y1 g1, hbE.cell1 y1 g2, hbE.cell1 y1 g3, hbE.cell1 y2 k1, hbE.cell1 y2 k2, hbE.cell1 y2 k3⟩ | go_keep)
        (first | (go_at_call 16; ((with_reducible refine (eqEd1 x y z _).mono ?_); rintro e wE ⟨rfl, hbE⟩)))
      have YE : Bel w wE := (Y.trans ((Bel.refl _).drew)).trans hbE
      go_wp2
      go_roundg (xs.length - (k + 1))
      case measure => have := HK.out; omega
      case rel => exact ⟨k + 1, by omega, by go_num, YE⟩
    · obtain rfl : k = xs.length := by omega
      have i1 : ¬ (xs.length : Int) < (xs.length : Int) := by omega
      go_wp2
      go_ret
      exact ⟨rfl, Y⟩
end Go.Proofs.YtgdainjconfnfaaDoor
