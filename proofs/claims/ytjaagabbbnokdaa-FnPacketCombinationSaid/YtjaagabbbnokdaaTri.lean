/-
  Slices of structs of three ints: words for reading and owning them. Nothing of the program is run here.
-/
import Derived.Test.YtjaagabbbnokdaaSl2
namespace Go.Proofs.Ytjaagabbbnokdaa
open Go.ChangeShapes Go.WideShapes Go.ChangeAt Go.RowKit
set_option linter.unusedVariables false
set_option maxRecDepth 100000

abbrev Tr : Type := Int × Int × Int
def cells3 (f : Tr) : List Value := [.int .i64 f.1, .int .i64 f.2.1, .int .i64 f.2.2]
def flat3 (fs : List Tr) : List Value := fs.flatMap cells3
theorem flat3_length (fs : List Tr) : (flat3 fs).length = fs.length * 3 := by
  induction fs with
  | nil => rfl
  | cons f fs ih =>
    have h1 : flat3 (f :: fs) = cells3 f ++ flat3 fs := rfl
    rw [h1, List.length_append, ih]
    simp [cells3]; omega
theorem flat3_at : ∀ (fs : List Tr) (j i : Nat) (f : Tr), fs[j]? = some f → i < 3 → (flat3 fs)[j * 3 + i]? = (cells3 f)[i]?
  | [], j, i, f, h, hi => by simp at h
  | g :: fs, 0, i, f, h, hi => by
    simp at h
    subst h
    show (cells3 g ++ flat3 fs)[0 * 3 + i]? = _
    rw [List.getElem?_append_left (by simp [cells3]; omega)]
    simp
  | g :: fs, j + 1, i, f, h, hi => by
    have h' : fs[j]? = some f := by simpa using h
    have ih := flat3_at fs j i f h' hi
    show (cells3 g ++ flat3 fs)[(j + 1) * 3 + i]? = _
    rw [List.getElem?_append_right (by simp [cells3]; omega), ← ih]
    congr 1
    simp [cells3]; omega

/-- A slice of structs of three ints that reads as fs. -/
def RT (w : World) (v : Value) (fs : List Tr) : Prop :=
  ∃ A c, v = .slice A fs.length c ∧ fs.length ≤ c ∧ c ≤ 9223372036854775807 ∧
    (0 < fs.length → ∃ b off, A = some ⟨b, off, none⟩ ∧ b < w.heap.size ∧ ∀ j f, fs[j]? = some f →
      w.cell? ⟨b, off + j * 3, none⟩ = some (.int .i64 f.1) ∧ w.cell? ⟨b, off + j * 3 + 1, none⟩ = some (.int .i64 f.2.1) ∧ w.cell? ⟨b, off + j * 3 + 2, none⟩ = some (.int .i64 f.2.2))
theorem RT.keep {w w' : World} {v : Value} {fs : List Tr} (h : RT w v fs) (k : Bel w w') : RT w' v fs := by
  obtain ⟨A, c, hv, h1, h2, h3⟩ := h
  refine ⟨A, c, hv, h1, h2, fun h0 => ?_⟩
  obtain ⟨b, off, hA, hb, hc⟩ := h3 h0
  exact ⟨b, off, hA, Nat.lt_of_lt_of_le hb k.size, fun j f hf => ⟨k.cell1 hb (hc j f hf).1, k.cell1 hb (hc j f hf).2.1, k.cell1 hb (hc j f hf).2.2⟩⟩
theorem RT.nil (w : World) : RT w (.slice none 0 0) [] := ⟨none, 0, rfl, by simp, by omega, fun h => absurd h (by simp)⟩

/-- A slice of structs of three ints in a block of its own. -/
def OT (T : TypeId) (w : World) (base : Nat) (v : Value) (fs : List Tr) : Prop := w.ownsRow base T 3 v fs.length (flat3 fs)
theorem OT.nil (T : TypeId) (w : World) (base : Nat) : OT T w base (.slice none 0 0) [] := World.ownsRow_nil _ _ _ _
theorem OT.keep {T : TypeId} {w w' : World} {base : Nat} {v : Value} {fs : List Tr} (h : OT T w base v fs) (k : Bel w w') : OT T w' base v fs := by
  obtain ⟨hl, h | ⟨g, cap, cur, hv, hb, hh, h1, h2, h3, h4⟩⟩ := h
  · exact ⟨hl, .inl h⟩
  · exact ⟨hl, .inr ⟨g, cap, cur, hv, hb, (Below.block k g (Blk.lt hh)).trans hh, h1, h2, h3, h4⟩⟩
theorem OT.low {T : TypeId} {w : World} {base base' : Nat} {v : Value} {fs : List Tr} (h : OT T w base v fs) (hb : base' ≤ base) : OT T w base' v fs := Go.Joins.ownsRow_le h hb
theorem OT.setFar {T : TypeId} {w : World} {base : Nat} {v : Value} {fs : List Tr} (h : OT T w base v fs) {p : Addr} (hp : p.block < base) (u : Value) : OT T (w.setCell p u) base v fs := by
  obtain ⟨hl, h | ⟨g, cap, cur, hv, hb, hh, h1, h2, h3, h4⟩⟩ := h
  · exact ⟨hl, .inl h⟩
  · exact ⟨hl, .inr ⟨g, cap, cur, hv, hb, (Below.heap_setCell w p u g (by omega)).trans hh, h1, h2, h3, h4⟩⟩
theorem OT.block {T : TypeId} {w : World} {base : Nat} {v : Value} {fs : List Tr} (h : OT T w base v fs) : ∀ k, v.ownBlock = some k → base ≤ k ∧ k < w.heap.size := World.ownsRow.lt h
theorem OT.far {T : TypeId} {w w' : World} {base : Nat} {v : Value} {fs : List Tr} {row : Option Nat} (h : OT T w base v fs) (hg : w.grownBy w' row) (hne : v.ownBlock = none ∨ v.ownBlock ≠ row) : OT T w' base v fs := World.ownsRow.kept h hg hne
theorem OT.reads {T : TypeId} {w : World} {base : Nat} {v : Value} {fs : List Tr} (h : OT T w base v fs) : RT w v fs := by
  obtain ⟨hl, ⟨rfl, h0⟩ | ⟨g, cap, cur, rfl, hb, hh, h1, h2, h3, h4⟩⟩ := h
  · have : fs = [] := List.eq_nil_of_length_eq_zero h0
    subst this
    exact RT.nil w
  · have key : ∀ j f, fs[j]? = some f → ∀ i u, (cells3 f)[i]? = some u → w.cell? ⟨g, 0 + j * 3 + i, none⟩ = some u := by
      intro j f hf i u hu
      have hj : j < fs.length := (List.getElem?_eq_some_iff.1 hf).1
      have hi : i < 3 := by
        have := (List.getElem?_eq_some_iff.1 hu).1
        simpa [cells3] using this
      rw [Nat.zero_add, (Blk.facts hh).1, ← Array.getElem?_toList, ← hu, ← flat3_at fs j i f hf hi, ← h4, List.getElem?_take, if_pos (by omega)]
    refine ⟨some ⟨g, 0, none⟩, cap, rfl, h1, by unfold maxLen at h2; omega, fun _ => ⟨g, 0, rfl, Blk.lt hh, fun j f hf => ⟨?_, ?_, ?_⟩⟩⟩
    · exact key j f hf 0 _ rfl
    · exact key j f hf 1 _ rfl
    · exact key j f hf 2 _ rfl

/-- The numbers from k on, three a struct. -/
def marks3 (k : Int) (n : Nat) : List Tr := (List.range n).map fun i : Nat => (k + ((i * 3 : Nat) : Int), k + ((i * 3 + 1 : Nat) : Int), k + ((i * 3 + 2 : Nat) : Int))
theorem marks3_length (k : Int) (n : Nat) : (marks3 k n).length = n := by simp [marks3]
theorem marks3_at (k : Int) (n j : Nat) (h : j < n) : (marks3 k n)[j]? = some (k + ((j * 3 : Nat) : Int), k + ((j * 3 + 1 : Nat) : Int), k + ((j * 3 + 2 : Nat) : Int)) := by simp [marks3, h]
theorem marks3_flat (k : Int) (n : Nat) : flat3 (marks3 k n) = (marks k (n * 3)).map (Value.int .i64) := by
  apply List.ext_getElem?
  intro i
  by_cases h : i < n * 3
  · have hj : i / 3 < n := by omega
    have e : i = (i / 3) * 3 + i % 3 := by omega
    rw [List.getElem?_map, marks_at _ _ _ h]
    have h3 : i % 3 < 3 := by omega
    have := flat3_at (marks3 k n) (i / 3) (i % 3) _ (marks3_at k n _ hj) h3
    rw [← e] at this
    rw [this]
    rcases (by omega : i % 3 = 0 ∨ i % 3 = 1 ∨ i % 3 = 2) with q | q | q <;> rw [q] <;> simp [cells3] <;> omega
  · rw [List.getElem?_eq_none (by rw [flat3_length, marks3_length]; omega), List.getElem?_eq_none (by simp [marks]; omega)]
theorem fill3_take (cur : Array Value) (fs : List Tr) (hn : fs.length * 3 ≤ cur.size) :
    (fillF cur (fun i => (flat3 fs).getD i (.int .i64 0)) (fs.length * 3)).toList.take (fs.length * 3) = flat3 fs := by
  apply List.ext_getElem?
  intro i
  rw [List.getElem?_take, Array.getElem?_toList]
  by_cases h : i < fs.length * 3
  · have h2 : i < (flat3 fs).length := by rw [flat3_length]; exact h
    rw [if_pos h, fillF_at _ _ _ _ (by omega), if_pos h, List.getElem?_eq_getElem h2]
    simp [List.getD, h2]
  · rw [if_neg h, List.getElem?_eq_none (by rw [flat3_length]; omega)]
theorem flat3_getD {fs : List Tr} {j : Nat} {f : Tr} (hf : fs[j]? = some f) : (flat3 fs).getD (j * 3) (.int .i64 0) = .int .i64 f.1 ∧ (flat3 fs).getD (j * 3 + 1) (.int .i64 0) = .int .i64 f.2.1 ∧ (flat3 fs).getD (j * 3 + 2) (.int .i64 0) = .int .i64 f.2.2 := by
  have h0 := flat3_at fs j 0 f hf (by omega)
  have h1 := flat3_at fs j 1 f hf (by omega)
  have h2 := flat3_at fs j 2 f hf (by omega)
  refine ⟨?_, ?_, ?_⟩
  · rw [Nat.add_zero] at h0; simp [List.getD, h0, cells3]
  · simp [List.getD, h1, cells3]
  · simp [List.getD, h2, cells3]
end Go.Proofs.Ytjaagabbbnokdaa
