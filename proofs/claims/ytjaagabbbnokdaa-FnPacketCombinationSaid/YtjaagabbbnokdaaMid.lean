/-
  Words for marking: only blocks from lo to hi have turned. Nothing of the program but markIntS is run here.
-/
import Derived.Test.YtjaagabbbnokdaaSl3
namespace Go.Proofs.Ytjaagabbbnokdaa
open Go.ChangeShapes Go.WideShapes Go.ChangeAt Go.RowKit
set_option linter.unusedVariables false
set_option maxRecDepth 100000

/-- Of the blocks that lay in w only those from lo up to hi may have turned. -/
structure Mid (lo hi : Nat) (w w' : World) : Prop where
  os : w'.os = w.os
  tape : w'.tape = w.tape
  output : w'.output = w.output
  size : w.heap.size ≤ w'.heap.size
  block : ∀ k, k < w.heap.size → k < lo ∨ hi ≤ k → w'.heap[k]? = w.heap[k]?
theorem Mid.refl (lo hi : Nat) (w : World) : Mid lo hi w w := ⟨rfl, rfl, rfl, Nat.le_refl _, fun _ _ _ => rfl⟩
theorem Mid.trans {lo hi : Nat} {a b c : World} (h : Mid lo hi a b) (k : Mid lo hi b c) : Mid lo hi a c :=
  ⟨k.os.trans h.os, k.tape.trans h.tape, k.output.trans h.output, Nat.le_trans h.size k.size, fun i hi2 ho => (k.block i (Nat.lt_of_lt_of_le hi2 h.size) ho).trans (h.block i hi2 ho)⟩
theorem Mid.ofBel {lo hi : Nat} {a b : World} (h : Bel a b) : Mid lo hi a b := ⟨Below.os h, Below.tape h, Below.output h, Below.size h, fun i hi2 _ => Below.block h i hi2⟩
theorem Mid.ofGrown {lo hi : Nat} {a b : World} {row : Option Nat} (h : a.grownBy b row) (hr : ∀ q, row = some q → lo ≤ q ∧ q < hi) : Mid lo hi a b :=
  ⟨h.os, h.tape, h.output, h.size, fun i hi2 ho => h.block i hi2 (fun e => by have := hr i e.symm; omega)⟩
theorem Bel.mid {lo hi : Nat} {a w w' : World} (h : Bel a w) (m : Mid lo hi w w') (hl : a.heap.size ≤ lo) : Bel a w' :=
  ⟨m.os.trans (Below.os h), m.tape.trans (Below.tape h), m.output.trans (Below.output h), Nat.le_trans h.size m.size, fun i hi2 => (m.block i (Nat.lt_of_lt_of_le hi2 h.size) (.inl (by omega))).trans (Below.block h i hi2)⟩
theorem Blk.mid {lo hi g : Nat} {w w' : World} {t : TypeId} {cs : Array Value} (h : Blk w g t cs) (m : Mid lo hi w w') (hg : g < lo ∨ hi ≤ g) : Blk w' g t cs := (m.block g h.lt hg).trans h
theorem OI.mid {lo hi base : Nat} {w w' : World} {v : Value} {xs : List Int} (h : OI w base v xs) (m : Mid lo hi w w') (hg : ∀ q, v.ownBlock = some q → q < lo ∨ hi ≤ q) : OI w' base v xs := by
  obtain ⟨hl, h | ⟨g, cap, cur, rfl, hb, hh, h1, h2, h3, h4⟩⟩ := h
  · exact ⟨hl, .inl h⟩
  · exact ⟨hl, .inr ⟨g, cap, cur, rfl, hb, (m.block g (Blk.lt hh) (hg g rfl)).trans hh, h1, h2, h3, h4⟩⟩
end Go.Proofs.Ytjaagabbbnokdaa
