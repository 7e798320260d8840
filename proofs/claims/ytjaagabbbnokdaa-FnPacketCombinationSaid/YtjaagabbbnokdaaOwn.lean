/-
  Words: a fact that rests on some blocks alone; slices that lie between two blocks; marking them. Nothing of the program but markIntS, markFeedbackS, markEdgeS is run here. Condition: numbers below 2^62.
-/
import Derived.Test.YtjaagabbbnokdaaMid
import Derived.Test.YtjaagabbbnokdaaTriC
namespace Go.Proofs.Ytjaagabbbnokdaa
open Go.ChangeShapes Go.WideShapes Go.ChangeAt Go.RowKit
set_option linter.unusedVariables false
set_option maxRecDepth 100000

/-- P holds in w, and in every world whose blocks from lo up to hi are those of w. -/
def Loc (lo hi : Nat) (P : World → Prop) (w : World) : Prop := lo ≤ hi ∧ hi ≤ w.heap.size ∧ ∀ w', (∀ k, lo ≤ k → k < hi → w'.heap[k]? = w.heap[k]?) → P w'
theorem Loc.out {lo hi : Nat} {P : World → Prop} {w : World} (h : Loc lo hi P w) : P w := h.2.2 w (fun _ _ _ => rfl)
theorem Loc.keep {lo hi : Nat} {P : World → Prop} {w w' : World} (h : Loc lo hi P w) (k : Bel w w') : Loc lo hi P w' :=
  ⟨h.1, Nat.le_trans h.2.1 k.size, fun u hu => h.2.2 u (fun i h1 h2 => (hu i h1 h2).trans (Below.block k i (Nat.lt_of_lt_of_le h2 h.2.1)))⟩
theorem Loc.mid {lo hi lo' hi' : Nat} {P : World → Prop} {w w' : World} (h : Loc lo hi P w) (m : Mid lo' hi' w w') (hd : hi' ≤ lo ∨ hi ≤ lo') : Loc lo hi P w' :=
  ⟨h.1, Nat.le_trans h.2.1 m.size, fun u hu => h.2.2 u (fun i h1 h2 => (hu i h1 h2).trans (m.block i (Nat.lt_of_lt_of_le h2 h.2.1) (by omega)))⟩
theorem Loc.imp {lo hi : Nat} {P Q : World → Prop} {w : World} (h : Loc lo hi P w) (f : ∀ u, P u → Q u) : Loc lo hi Q w := ⟨h.1, h.2.1, fun u hu => f u (h.2.2 u hu)⟩
theorem Loc.and {lo hi : Nat} {P Q : World → Prop} {w : World} (h : Loc lo hi P w) (k : Loc lo hi Q w) : Loc lo hi (fun u => P u ∧ Q u) w := ⟨h.1, h.2.1, fun u hu => ⟨h.2.2 u hu, k.2.2 u hu⟩⟩
theorem Loc.wide {lo hi lo' hi' : Nat} {P : World → Prop} {w : World} (h : Loc lo hi P w) (h1 : lo' ≤ lo) (h2 : hi ≤ hi') (h3 : hi' ≤ w.heap.size) : Loc lo' hi' P w :=
  ⟨by have := h.1; omega, h3, fun u hu => h.2.2 u (fun i q1 q2 => hu i (by omega) (by omega))⟩

theorem Bel.sz0 {a w : World} (h : Bel a w) : a.heap.size + 0 ≤ w.heap.size := h.size
theorem Bel.sz1 {a w : World} {o : Obj} (h : Bel (a.alloc o) w) : a.heap.size + 1 ≤ w.heap.size := by have := h.size; rwa [World.size_alloc] at this
theorem Bel.sz2 {a w : World} {o o2 : Obj} (h : Bel ((a.alloc o).alloc o2) w) : a.heap.size + 2 ≤ w.heap.size := by have := h.size; rwa [World.size_alloc, World.size_alloc] at this
theorem Bel.sz3 {a w : World} {o o2 o3 : Obj} (h : Bel (((a.alloc o).alloc o2).alloc o3) w) : a.heap.size + 3 ≤ w.heap.size := by have := h.size; rwa [World.size_alloc, World.size_alloc, World.size_alloc] at this
theorem Mid.sz0 {lo hi : Nat} {a w : World} (h : Mid lo hi a w) : a.heap.size + 0 ≤ w.heap.size := h.size
theorem Mid.sz1 {lo hi : Nat} {a w : World} {o : Obj} (h : Mid lo hi (a.alloc o) w) : a.heap.size + 1 ≤ w.heap.size := by have := h.size; rwa [World.size_alloc] at this
theorem Mid.sz2 {lo hi : Nat} {a w : World} {o o2 : Obj} (h : Mid lo hi ((a.alloc o).alloc o2) w) : a.heap.size + 2 ≤ w.heap.size := by have := h.size; rwa [World.size_alloc, World.size_alloc] at this
/-- A slice of ints in a block of its own between lo and hi. -/
def OIn (w : World) (lo hi : Nat) (v : Value) (xs : List Int) : Prop := OI w lo v xs ∧ ∀ q, v.ownBlock = some q → q < hi
theorem OIn.loc {w : World} {lo hi : Nat} {v : Value} {xs : List Int} (h : OIn w lo hi v xs) (hl : lo ≤ hi) (hh : hi ≤ w.heap.size) : Loc lo hi (fun u => OIn u lo hi v xs) w := by
  refine ⟨hl, hh, fun u hu => ⟨?_, h.2⟩⟩
  obtain ⟨⟨hl, h | ⟨g, cap, cur, rfl, hb, hh, h1, h2, h3, h4⟩⟩, hq⟩ := h
  · exact ⟨hl, .inl h⟩
  · exact ⟨hl, .inr ⟨g, cap, cur, rfl, hb, (hu g hb (hq g rfl)).trans hh, h1, h2, h3, h4⟩⟩
theorem OI.loc {w : World} {lo : Nat} {v : Value} {xs : List Int} (h : OI w lo v xs) (hl : lo ≤ w.heap.size) : Loc lo w.heap.size (fun u => OIn u lo w.heap.size v xs) w :=
  OIn.loc ⟨h, fun q hq => (h.block q hq).2⟩ hl (Nat.le_refl _)
theorem OIn.reads {w : World} {lo hi : Nat} {v : Value} {xs : List Int} (h : OIn w lo hi v xs) : RI w v xs := h.1.reads
def OTn (T : TypeId) (w : World) (lo hi : Nat) (v : Value) (xs : List Tr) : Prop := OT T w lo v xs ∧ ∀ q, v.ownBlock = some q → q < hi
theorem OTn.loc {T : TypeId} {w : World} {lo hi : Nat} {v : Value} {xs : List Tr} (h : OTn T w lo hi v xs) (hl : lo ≤ hi) (hh : hi ≤ w.heap.size) : Loc lo hi (fun u => OTn T u lo hi v xs) w := by
  refine ⟨hl, hh, fun u hu => ⟨?_, h.2⟩⟩
  obtain ⟨⟨hl, h | ⟨g, cap, cur, rfl, hb, hh, h1, h2, h3, h4⟩⟩, hq⟩ := h
  · exact ⟨hl, .inl h⟩
  · exact ⟨hl, .inr ⟨g, cap, cur, rfl, hb, (hu g hb (hq g rfl)).trans hh, h1, h2, h3, h4⟩⟩
theorem OT.loc {T : TypeId} {w : World} {lo : Nat} {v : Value} {xs : List Tr} (h : OT T w lo v xs) (hl : lo ≤ w.heap.size) : Loc lo w.heap.size (fun u => OTn T u lo w.heap.size v xs) w :=
  OTn.loc ⟨h, fun q hq => (h.block q hq).2⟩ hl (Nat.le_refl _)

theorem OTn.reads {T : TypeId} {w : World} {lo hi : Nat} {v : Value} {xs : List Tr} (h : OTn T w lo hi v xs) : RT w v xs := h.1.reads

theorem mkIn (v : Value) (k : Int) (xs : List Int) (lo hi : Nat) (w : World) (h : OIn w lo hi v xs) (hl : lo ≤ hi) (hh : hi ≤ w.heap.size) (h0 : 0 ≤ k) (hk : k + xs.length ≤ 4611686018427387904) :
    Calls Try.prog 116 #[v, .int .i64 k] w fun e w' => e = .returned (.int .i64 (k + xs.length)) ∧ Loc lo hi (fun u => OIn u lo hi v (marks k xs.length)) w' ∧ Mid lo hi w w' :=
  (markInts v k xs lo w h.1 h0 hk).mono fun _ _ ⟨he, ho, hg⟩ =>
    have m : Mid lo hi w _ := Mid.ofGrown hg (fun q hq => ⟨(h.1.block q hq).1, h.2 q hq⟩)
    ⟨he, OIn.loc ⟨ho, h.2⟩ hl (Nat.le_trans hh m.size), m⟩
end Go.Proofs.Ytjaagabbbnokdaa
