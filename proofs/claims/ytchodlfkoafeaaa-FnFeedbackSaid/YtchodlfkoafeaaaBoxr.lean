/-
  A store outside of the blocks that a fact speaks of.
-/
import Derived.Test.YtchodlfkoafeaaaOwn
import Derived.Test.YtchodlfkoafeaaaCutl
namespace Go.Proofs.Ytchodlfkoafeaaa
open Go.RowKit

theorem Loc.store {lo hi : Nat} {P : World → Prop} {w : World} (h : Loc lo hi P w) {p : Addr} (u : Value) (hp : p.block < lo ∨ hi ≤ p.block) : Loc lo hi P (w.setCell p u) := by
  refine h.mid (lo' := p.block) (hi' := p.block + 1) ⟨rfl, rfl, rfl, by simp [World.setCell], fun k hk ho => Below.heap_setCell w p u k (by omega)⟩ (by omega)
end Go.Proofs.Ytchodlfkoafeaaa
