/-
  Words on memory: a box that the call made, kept over later calls. Nothing of the program is run here.
-/
import Derived.Test.YtelioajodmgkdaaInt
import Derived.Laws.AppendOwn
import Derived.Laws.OwnMore
import Derived.Deep.AppendLies
import Derived.Deep.Draws
namespace Go.Proofs.Ytelioajodmgkdaa
open Go.ChangeShapes Go.WideShapes Go.ChangeAt Go.RowKit
set_option linter.unusedVariables false

/-- A box that the call made reads as it did when it was made. -/
theorem Bel.box {w w1 : World} {cs : Array Value} {t : TypeId} (h : Bel (w.alloc (.cells cs t)) w1) :
    (∀ o, w1.cell? ⟨w.heap.size, o, none⟩ = cs[o]?) ∧ (∀ o, w1.frozen? ⟨w.heap.size, o, none⟩ = false) ∧ w.heap.size < w1.heap.size := by
  have hb : w1.heap[w.heap.size]? = some (.cells cs t (0, 0)) := by
    have h1 := Below.block h w.heap.size (by simp)
    rw [h1]
    exact heap_alloc_new w _
  refine ⟨fun o => ?_, fun o => ?_, ?_⟩
  · simp [World.cell?, hb]
  · simp [World.frozen?, hb]
  · have := h.size
    simp at this
    omega
end Go.Proofs.Ytelioajodmgkdaa
