/-
  Slices of slices of ints: one word for owning them; EqualMatrices of the program and of the reference. No condition but toM's: at most 2^20 rows and numbers.
-/
import Derived.Test.YtchodlfkoafeaaaMat2
import Derived.Test.YtchodlfkoafeaaaEqI
namespace Go.Proofs.Ytchodlfkoafeaaa
open Go.ChangeShapes Go.WideShapes Go.ChangeAt Go.RowKit
set_option linter.unusedVariables false
set_option maxRecDepth 100000

def OM (w : World) (lo : Nat) (v : Value) (xss : List (List Int)) : Prop := OII w lo w.heap.size v xss
theorem OM.keep {w w' : World} {lo : Nat} {v : Value} {xss : List (List Int)} (h : OM w lo v xss) (k : Bel w w') : OM w' lo v xss := (OII.keep h (Nat.le_refl _) k).wide (Nat.le_refl _) k.size
theorem OM.low {w : World} {base base' : Nat} {v : Value} {xss : List (List Int)} (h : OM w base v xss) (hl : base' ≤ base) : OM w base' v xss := OII.wide h hl (Nat.le_refl _)
theorem OM.reads {w : World} {lo : Nat} {v : Value} {xss : List (List Int)} (h : OM w lo v xss) : RII w v xss := OII.reads h
theorem OM.setFar {w : World} {lo : Nat} {v : Value} {xss : List (List Int)} (h : OM w lo v xss) {p : Addr} (hp : p.block < lo) (u : Value) : OM (w.setCell p u) lo v xss := by
  have hs : (w.setCell p u).heap.size = w.heap.size := by simp [World.setCell]
  unfold OM at *
  rw [hs]
  obtain ⟨us, hl, ho, hq, hr, hd, hv⟩ := h
  have hu : ∀ k, lo ≤ k → k < w.heap.size → (w.setCell p u).heap[k]? = w.heap[k]? := fun k h1 _ => Below.heap_setCell w p u k (by omega)
  exact ⟨us, hl, ownsRow_loc ho hq hu, hq, fun j y xs h1 h2 => ⟨ownsRow_loc (hr j y xs h1 h2).1 (hr j y xs h1 h2).2 hu, (hr j y xs h1 h2).2⟩, hd, hv⟩
theorem OM.loc {w : World} {lo : Nat} {v : Value} {xss : List (List Int)} (h : OM w lo v xss) (hl : lo ≤ w.heap.size) : Loc lo w.heap.size (fun u => OII u lo w.heap.size v xss) w := OII.loc h hl (Nat.le_refl _)
theorem OM.nil (w : World) (lo : Nat) : OM w lo (.slice none 0 0) [] := OII.nil _ _ _
theorem mat_step {xss yss : List (List Int)} {k : Nat} (h : xss.take k = yss.take k) (hk : xss[k]? = yss[k]?) : xss.take (k + 1) = yss.take (k + 1) := by
  rw [List.take_add_one, List.take_add_one, h, hk]


end Go.Proofs.Ytchodlfkoafeaaa
