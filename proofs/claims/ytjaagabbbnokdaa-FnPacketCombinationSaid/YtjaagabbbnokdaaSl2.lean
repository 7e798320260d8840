/-
  Contracts of the laws' helpers szIntS and toIntS. Condition of toIntS: at most 2^20 elements.
-/
import Derived.Test.YtjaagabbbnokdaaSl
import Derived.Laws.MakeOwn
import Derived.Deep.LoopGhost
namespace Go.Proofs.Ytjaagabbbnokdaa
open Go.ChangeShapes Go.WideShapes Go.ChangeAt Go.RowKit
set_option linter.unusedVariables false
set_option maxRecDepth 100000

theorem Bel.cell1 {a w : World} {b o : Nat} {x : Value} (h : Bel a w) (hb : b < a.heap.size) (hc : a.cell? ⟨b, o, none⟩ = some x) : w.cell? ⟨b, o, none⟩ = some x :=
  (Below.cell (p := ⟨b, o, none⟩) h hb).trans hc

/-- A block's cells behind j stores, one a place. -/
def fillF (cur : Array Value) (f : Nat → Value) : Nat → Array Value
  | 0 => cur
  | j + 1 => (fillF cur f j).setIfInBounds j (f j)
theorem fillF_size (cur : Array Value) (f : Nat → Value) (j : Nat) : (fillF cur f j).size = cur.size := by
  induction j with
  | zero => rfl
  | succ j ih => simp [fillF, ih]
theorem fillF_at (cur : Array Value) (f : Nat → Value) (j i : Nat) (hi : i < cur.size) : (fillF cur f j)[i]? = if i < j then some (f i) else cur[i]? := by
  induction j with
  | zero => simp [fillF]
  | succ j ih =>
    simp only [fillF, Array.getElem?_setIfInBounds, ih, fillF_size]
    by_cases h : j = i
    · subst h; simp [hi]
    · rw [if_neg h]
      by_cases h2 : i < j
      · rw [if_pos h2, if_pos (by omega)]
      · rw [if_neg h2, if_neg (by omega)]
theorem fillF_take (cur : Array Value) (xs : List Int) (hn : xs.length ≤ cur.size) :
    (fillF cur (fun i => .int .i64 (xs.getD i 0)) xs.length).toList.take (xs.length * 1) = xs.map (Value.int .i64) := by
  apply List.ext_getElem?
  intro i
  rw [List.getElem?_take, List.getElem?_map, Array.getElem?_toList]
  by_cases h : i < xs.length
  · rw [if_pos (by omega), fillF_at _ _ _ _ (by omega), if_pos h, List.getElem?_eq_getElem h]
    simp [List.getD, h]
  · rw [if_neg (by omega), List.getElem?_eq_none (by omega)]; rfl

theorem mkInts (n : Nat) (hn : n ≤ 1099511627776) : ∀ w : World, (Instr.makeSlice 59 (.int .i64 (n : Int)) (.int .i64 (n : Int))).run Try.prog w =
    .ok (.slice (some ⟨w.heap.size, 0, none⟩) n n) (w.alloc (.cells (madeCells #[.int .i64 0] n) 3)) := by
  intro w
  obtain ⟨i0, hi, hz0, hz1, hz2⟩ := info_parts int_info
  have hr := run_make (P := Try.prog) w 59 3 i0 (.int .i64 0) Try.underlying59 hi hz0 .i64 .i64 n n (by omega) (by omega) (by rw [hz2]; omega) (by omega)
  rw [hz1] at hr
  simp only [Int.toNat_natCast, Nat.mul_one] at hr
  exact hr

theorem szI_ok (v : Value) (xs : List Int) (l : Int) (w : World) (hv : RI w v xs) (h0 : (xs.length : Int) ≤ l) (h1 : l ≤ 1048576) :
    Calls Try.prog 108 #[v, .int .i64 l] w fun e w' => e = .returned (.int .i64 (l - xs.length)) ∧ w = w' := by
  obtain ⟨A, c, rfl, h2, h3, hA⟩ := hv
  have hd : decide (l - (xs.length : Int) < 0) = false := by simp; omega
  go_enter Try.func108, Try.ntmps108
  go_wp2
  go_ret
  exact ⟨rfl, rfl⟩
theorem szI_no (v : Value) (xs : List Int) (l : Int) (w : World) (hv : RI w v xs) (h0 : l < (xs.length : Int)) (h1 : 0 ≤ l) (h2 : l ≤ 1048576) :
    Calls Try.prog 108 #[v, .int .i64 l] w fun e w' => e = .returned (.int .i64 (-1)) ∧ w = w' := by
  obtain ⟨A, c, rfl, h3, h4, hA⟩ := hv
  have hd : decide (l - (xs.length : Int) < 0) = true := by simp; omega
  go_enter Try.func108, Try.ntmps108
  go_wp2
  go_ret
  exact ⟨rfl, rfl⟩

set_option maxHeartbeats 400000 in
theorem toInts (v : Value) (xs : List Int) (w : World) (hv : RI w v xs) (hn : xs.length ≤ 1048576) :
    Calls Try.prog 112 #[v] w fun e w' => ∃ v', e = .returned v' ∧ OI w' w.heap.size v' xs ∧ Bel w w' := by
  obtain ⟨A, c, rfl, h2, h3, hA⟩ := hv
  have hmk := mkInts xs.length (by omega)
  have hcs : (madeCells #[.int .i64 0] xs.length).size = xs.length := size_madeCells _ _
  generalize madeCells #[.int .i64 0] xs.length = C at *
  have HC := Lib.hid hcs
  have hcs2 : xs.length ≤ C.size := by omega
  clear hcs
  go_enter Try.func112, Try.ntmps112
  go_wp2
  clear hmk
  go_loopg [4] xs.length (fun f i wr => ∃ j : Nat, j + f = xs.length ∧ i = .int .i64 j ∧ Blk wr w.heap.size 3 (fillF C (fun i => .int .i64 (xs.getD i 0)) j) ∧ Bel w wr)
  case atStart => exact ⟨0, by omega, rfl, Blk.new w _ _, (Bel.refl _).alloc _⟩
  case round =>
    obtain ⟨j, hj, rfl, hB, hb⟩ := hrel
    have hj2 : j ≤ xs.length := by omega
    have HJ := Lib.hid hj
    clear hj
    by_cases hlt : j < xs.length
    · obtain ⟨b1, o1, rfl, hb1, hc1⟩ := hA (by omega)
      have g1 := hb.cell1 hb1 (hc1 j (xs[j]'hlt) (List.getElem?_eq_getElem hlt))
      clear hc1 hA
      have hx : Hid (xs.getD j 0 = xs[j]'hlt) := by show _ = _; simp [List.getD, hlt]
      generalize xs[j]'hlt = x at *
      obtain ⟨c1, f1, z1⟩ := hB.facts
      have r1 : ∃ u, wr.cell? ⟨w.heap.size, j, none⟩ = some u := by
        refine ⟨(fillF C (fun i => .int .i64 (xs.getD i 0)) j)[j]'(by rw [fillF_size]; omega), ?_⟩
        rw [c1]; exact Array.getElem?_eq_getElem _
      obtain ⟨u, r1⟩ := r1
      have f2 := f1 j
      clear c1 f1
      have i0 : (0 : Int) ≤ (j : Int) := by omega
      have i1 : (j : Int) < (xs.length : Int) := by omega
      go_wp2
      go_roundg (xs.length - (j + 1))
      case measure => have := HJ.out; omega
      case rel =>
        refine ⟨j + 1, by omega, by go_num, ?_, hb.setCell (p := ⟨w.heap.size, j, none⟩) (Nat.le_refl _) _⟩
        have := hB.set j (.int .i64 x)
        rw [← hx.out] at this ⊢
        exact this
    · obtain rfl : j = xs.length := by omega
      have i1 : ¬ (xs.length : Int) < (xs.length : Int) := by omega
      go_wp2
      go_ret
      refine ⟨_, rfl, ?_, hb⟩
      exact ⟨by simp, .inr ⟨w.heap.size, xs.length, _, rfl, Nat.le_refl _, hB, Nat.le_refl _, by unfold maxLen; omega, by rw [fillF_size, HC.out]; omega, fillF_take C xs hcs2⟩⟩
end Go.Proofs.Ytjaagabbbnokdaa
