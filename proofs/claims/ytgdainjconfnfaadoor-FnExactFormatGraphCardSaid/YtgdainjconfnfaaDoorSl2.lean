/-
  Contracts of the laws' helpers szIntS and toIntS. Condition of toIntS: at most 2^20 elements.
-/
import Derived.Test.YtgdainjconfnfaaDoorSl
import Derived.Laws.MakeOwn
import Derived.Deep.LoopGhost
namespace Go.Proofs.YtgdainjconfnfaaDoor
open Go.ChangeShapes Go.WideShapes Go.ChangeAt Go.RowKit
set_option linter.unusedVariables false
set_option maxRecDepth 100000

theorem Bel.cell1 {a w : World} {b o : Nat} {x : Value} (h : Bel a w) (hb : b < a.heap.size) (hc : a.cell? ⟨b, o, none⟩ = some x) : w.cell? ⟨b, o, none⟩ = some x :=
  (Below.cell (p := ⟨b, o, none⟩) h hb).trans hc

/-- A block's cells behind j stores, one a place. -/
def fillF (cur : Array Value) (f : Nat → Value) : Nat → Array Value
  | 0 => cur
  | j + 1 => (fillF cur f j).setIfInBounds j (f j)
theorem fillF_size (cur : Array Value) (f : Nat → Value) (j : Nat) : (fillF cur f j).size = cur.size := by
  induction j with
  | zero => rfl
  | succ j ih => simp [fillF, ih]
theorem fillF_at (cur : Array Value) (f : Nat → Value) (j i : Nat) (hi : i < cur.size) : (fillF cur f j)[i]? = if i < j then some (f i) else cur[i]? := by
  induction j with
  | zero => simp [fillF]
  | succ j ih =>
    simp only [fillF, Array.getElem?_setIfInBounds, ih, fillF_size]
    by_cases h : j = i
    · subst h; simp [hi]
    · rw [if_neg h]
      by_cases h2 : i < j
      · rw [if_pos h2, if_pos (by omega)]
      · rw [if_neg h2, if_neg (by omega)]
theorem fillF_take (cur : Array Value) (xs : List Int) (hn : xs.length ≤ cur.size) :
    (fillF cur (fun i => .int .i64 (xs.getD i 0)) xs.length).toList.take (xs.length * 1) = xs.map (Value.int .i64) := by
  apply List.ext_getElem?
  intro i
  rw [List.getElem?_take, List.getElem?_map, Array.getElem?_toList]
  by_cases h : i < xs.length
  · rw [if_pos (by omega), fillF_at _ _ _ _ (by omega), if_pos h, List.getElem?_eq_getElem h]
    simp [List.getD, h]
  · rw [if_neg (by omega), List.getElem?_eq_none (by omega)]; rfl

end Go.Proofs.YtgdainjconfnfaaDoor
