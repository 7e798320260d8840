/-
  Slices of ints: words for reading and owning them, and contracts of the laws' helpers eqIntS, markIntS, heldIntS. Conditions: the numbers that are written stay below 2^62.
-/
import Derived.Test.YtgdainjconfnfaaDoorWords
import Derived.LoopTactic
import Derived.OwnWalk
import Derived.RegionTactic
import Derived.ChangeAlike
namespace Go.Proofs.YtgdainjconfnfaaDoor
open Go.ChangeShapes Go.WideShapes Go.ChangeAt Go.RowKit
set_option linter.unusedVariables false
set_option maxRecDepth 100000

/-- A slice of ints that reads as xs. -/
def RI (w : World) (v : Value) (xs : List Int) : Prop :=
  ∃ A c, v = .slice A xs.length c ∧ xs.length ≤ c ∧ c ≤ 9223372036854775807 ∧
    (0 < xs.length → ∃ b off, A = some ⟨b, off, none⟩ ∧ b < w.heap.size ∧ ∀ j x, xs[j]? = some x → w.cell? ⟨b, off + j, none⟩ = some (.int .i64 x))
theorem RI.keep {w w' : World} {v : Value} {xs : List Int} (h : RI w v xs) (k : Bel w w') : RI w' v xs := by
  obtain ⟨A, c, hv, h1, h2, h3⟩ := h
  refine ⟨A, c, hv, h1, h2, fun h0 => ?_⟩
  obtain ⟨b, off, hA, hb, hc⟩ := h3 h0
  exact ⟨b, off, hA, Nat.lt_of_lt_of_le hb k.size, fun j x hx => (Below.cell (p := ⟨b, off + j, none⟩) k hb).trans (hc j x hx)⟩
theorem RI.nil (w : World) : RI w (.slice none 0 0) [] := ⟨none, 0, rfl, by simp, by omega, fun h => absurd h (by simp)⟩

/-- A slice of ints in a block of its own, from block 'base' on. -/
def OI (w : World) (base : Nat) (v : Value) (xs : List Int) : Prop := w.ownsRow base 3 1 v xs.length (xs.map (Value.int .i64))
theorem OI.nil (w : World) (base : Nat) : OI w base (.slice none 0 0) [] := World.ownsRow_nil _ _ _ _
theorem OI.keep {w w' : World} {base : Nat} {v : Value} {xs : List Int} (h : OI w base v xs) (k : Bel w w') : OI w' base v xs := by
  obtain ⟨hl, h | ⟨g, cap, cur, hv, hb, hh, h1, h2, h3, h4⟩⟩ := h
  · exact ⟨hl, .inl h⟩
  · have hg : g < w.heap.size := Blk.lt hh
    exact ⟨hl, .inr ⟨g, cap, cur, hv, hb, (Below.block k g hg).trans hh, h1, h2, h3, h4⟩⟩
theorem OI.low {w : World} {base base' : Nat} {v : Value} {xs : List Int} (h : OI w base v xs) (hb : base' ≤ base) : OI w base' v xs := Go.Joins.ownsRow_le h hb
theorem OI.reads {w : World} {base : Nat} {v : Value} {xs : List Int} (h : OI w base v xs) : RI w v xs := by
  obtain ⟨hl, ⟨rfl, h0⟩ | ⟨g, cap, cur, rfl, hb, hh, h1, h2, h3, h4⟩⟩ := h
  · have : xs = [] := List.eq_nil_of_length_eq_zero h0
    subst this
    exact RI.nil w
  · refine ⟨some ⟨g, 0, none⟩, cap, rfl, h1, by unfold maxLen at h2; omega, fun _ => ⟨g, 0, rfl, Blk.lt hh, fun j x hx => ?_⟩⟩
    have hj : j < xs.length := (List.getElem?_eq_some_iff.1 hx).1
    rw [Nat.zero_add, (Blk.facts hh).1 j, ← Array.getElem?_toList]
    have h5 : (cur.toList.take (xs.length * 1))[j]? = some (.int .i64 x) := by rw [h4, List.getElem?_map, hx]; rfl
    rw [List.getElem?_take] at h5
    rwa [if_pos (by omega)] at h5
theorem OI.block {w : World} {base : Nat} {v : Value} {xs : List Int} (h : OI w base v xs) : ∀ k, v.ownBlock = some k → base ≤ k ∧ k < w.heap.size := World.ownsRow.lt h
theorem OI.far {w w' : World} {base : Nat} {v : Value} {xs : List Int} {row : Option Nat} (h : OI w base v xs) (hg : w.grownBy w' row) (hne : v.ownBlock = none ∨ v.ownBlock ≠ row) : OI w' base v xs := World.ownsRow.kept h hg hne
theorem RI.far {w w' : World} {v : Value} {xs : List Int} {row : Option Nat} {B : Nat} (h : RI w v xs) (hB : ∀ a n c, v = .slice (some a) n c → a.block < B) (hr : ∀ k, row = some k → B ≤ k) (hg : w.grownBy w' row) : RI w' v xs := by
  obtain ⟨A, c, hv, h1, h2, h3⟩ := h
  refine ⟨A, c, hv, h1, h2, fun h0 => ?_⟩
  obtain ⟨b, off, hA, hb, hc⟩ := h3 h0
  have hlt : b < B := hB ⟨b, off, none⟩ _ _ (by rw [hv, hA])
  refine ⟨b, off, hA, Nat.lt_of_lt_of_le hb hg.size, fun j x hx => ?_⟩
  rw [← hc j x hx]
  exact World.cell?_of_block (hg.block b hb (fun e => by have := hr b e.symm; omega))

/-- The numbers from k on. -/
def marks (k : Int) (n : Nat) : List Int := (List.range n).map fun i : Nat => k + (i : Int)
theorem marks_length (k : Int) (n : Nat) : (marks k n).length = n := by simp [marks]
theorem marks_at (k : Int) (n j : Nat) (h : j < n) : (marks k n)[j]? = some (k + (j : Int)) := by simp [marks, h]

/-- A block's cells behind j marks. -/
def fillTo (cur : Array Value) (k : Int) : Nat → Array Value
  | 0 => cur
  | j + 1 => (fillTo cur k j).setIfInBounds j (.int .i64 (k + (j : Int)))
theorem fillTo_size (cur : Array Value) (k : Int) (j : Nat) : (fillTo cur k j).size = cur.size := by
  induction j with
  | zero => rfl
  | succ j ih => simp [fillTo, ih]
theorem fillTo_at (cur : Array Value) (k : Int) (j i : Nat) (hi : i < cur.size) : (fillTo cur k j)[i]? = if i < j then some (.int .i64 (k + (i : Int))) else cur[i]? := by
  induction j with
  | zero => simp [fillTo]
  | succ j ih =>
    simp only [fillTo, Array.getElem?_setIfInBounds, ih, fillTo_size]
    by_cases h : j = i
    · subst h; simp [hi]
    · rw [if_neg h]
      by_cases h2 : i < j
      · rw [if_pos h2, if_pos (by omega)]
      · rw [if_neg h2, if_neg (by omega)]
theorem fillTo_take (cur : Array Value) (k : Int) (n : Nat) (hn : n ≤ cur.size) : (fillTo cur k n).toList.take (n * 1) = (marks k n).map (Value.int .i64) := by
  apply List.ext_getElem?
  intro i
  rw [List.getElem?_take, List.getElem?_map, Array.getElem?_toList]
  by_cases h : i < n
  · rw [if_pos (by omega), fillTo_at _ _ _ _ (by omega), if_pos h, marks_at _ _ _ h]; rfl
  · rw [if_neg (by omega), List.getElem?_eq_none (by rw [marks_length]; omega)]; rfl

theorem Bel.grown {a w w2 : World} {row : Option Nat} (h : Bel a w) (hg : w.grownBy w2 row) (hr : ∀ k, row = some k → a.heap.size ≤ k) : Bel a w2 := Below.grown h hg h.size hr
theorem Blk.grown {w w2 : World} {g : Nat} {t : TypeId} {cs : Array Value} {row : Option Nat} (h : Blk w g t cs) (hg : w.grownBy w2 row) (hr : row ≠ some g) : Blk w2 g t cs := (hg.block g h.lt (fun e => hr e.symm)).trans h
theorem OI.snoc {w : World} {base : Nat} {v : Value} {xs : List Int} {x : Int} (h : w.ownsRow base 3 1 v (xs.length + 1) (xs.map (Value.int .i64) ++ [.int .i64 x])) : OI w base v (xs ++ [x]) := by
  unfold OI
  simpa using h
theorem int_info : (Tryd.prog.info? 3).map (fun i => (i.zero, i.size, i.bytes)) = some (some (.int .i64 0), 1, 8) := by kernel_rfl
end Go.Proofs.YtgdainjconfnfaaDoor
