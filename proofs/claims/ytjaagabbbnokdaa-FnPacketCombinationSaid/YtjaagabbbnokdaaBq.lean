/-
  A region that draws its order, whose operations only read old memory and whose callees leave old memory alone: one walk in the order of the text serves every order (the library's theorem on quiet regions, at the class 'worlds in which all that lay here lies unchanged').
-/
import Derived.Test.YtjaagabbbnokdaaWords
import Derived.Deep.QuietTactic
namespace Go.Proofs.Ytjaagabbbnokdaa
open Go.RowKit

/-- A world in which all that lay in w lies unchanged. -/
structure Bw (v : World) where
  w : World
  bel : Bel v w
instance bwNonempty (v : World) : Nonempty (Bw v) := ⟨⟨v, Bel.refl v⟩⟩
theorem wp_region_bel {P : Program} {id : Nat} {Q : Exit → Act → World → Prop} {a : Act} {w : World} {l : List Oper} (hm : P.follows .mixedOrders = true) (hB : Region.lexB .any l.toArray = true)
    (h : wpQuiet P l.toArray (fun w' => ∃ q : Bw w, w' = q.w) (fun a' => ∀ w', (∃ q : Bw w, w' = q.w) → Q .normal a' w') l a) : (Code.region id l.toArray true).wp P Q a w :=
  wp_region_quiet (C := fun w' => ∃ q : Bw w, w' = q.w) hm hB ⟨⟨w.drew, (Bel.refl w).drew⟩, rfl⟩ (by simpa using h)
theorem belQ {P : Program} {f : FuncId} {args : Array Value} {w : World} {q : Bw w} {v : Value}
    (h : Calls P f args q.w fun e w' => e = .returned v ∧ Bel q.w w') : Calls P f args q.w fun e w'' => e = .returned v ∧ ∃ q' : Bw w, w'' = q'.w :=
  h.mono fun _ w' ⟨he, hb⟩ => ⟨he, ⟨w', q.bel.trans hb⟩, rfl⟩
theorem belQ_same {P : Program} {f : FuncId} {args : Array Value} {w : World} {q : Bw w} {v : Value}
    (h : Calls P f args q.w fun e w' => e = .returned v ∧ q.w = w') : Calls P f args q.w fun e w'' => e = .returned v ∧ ∃ q' : Bw w, w'' = q'.w :=
  h.mono fun _ _ ⟨he, hw⟩ => ⟨he, q, hw.symm⟩
theorem Bw.cell {w : World} {b o : Nat} {x : Value} (hc : w.cell? ⟨b, o, none⟩ = some x) (hb : b < w.heap.size) : ∀ q : Bw w, q.w.cell? ⟨b, o, none⟩ = some x :=
  fun q => (Below.cell (p := ⟨b, o, none⟩) q.bel hb).trans hc
end Go.Proofs.Ytjaagabbbnokdaa
