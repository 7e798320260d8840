/-
  How arguments of laws with slices of ints read. Nothing of the program is run here.
-/
import Derived.Test.YtjaagabbbnokdaaOpen
import Derived.Test.YtjaagabbbnokdaaSl
namespace Go.Proofs.Ytjaagabbbnokdaa
open Go.ChangeShapes Go.WideShapes Go.ChangeAt Go.RowKit Go.Joins Go.Deep
set_option linter.unusedVariables false
set_option maxRecDepth 100000

def IsInts (W : World) (v : Value) (xs : List Int) : Prop := RI W v xs ∧ ∀ x ∈ xs, I64 x

section
variable {H : Type} {enc : TypeId × Value → H} {w : World} {base : Nat} {spare : Nat → Bool} {held : Bool} {r : Reach} {b0 : Nat} {v : Value} {d : DataW H} {p : List MemPlace}

theorem readInts {fuel : Nat} {cs : List Value} {y : DataW H × List MemPlace} (h : DataW.trod enc Try.prog w base spare held fuel 59 cs = some y) : ∃ v xs, cs = [v] ∧ IsInts w v xs := by
  rcases open_ints Try.underlying59 Try.underlying3 (by kernel_rfl) h with ⟨hcs, _⟩ | ⟨a, l, c, zs, hcs, _, hl, hm, hz, _, hcell, hwz⟩
  · exact ⟨_, [], hcs, RI.nil w, fun x hx => by simp at hx⟩
  · have hlz : l ≤ zs.length := by rw [hz]; split <;> omega
    refine ⟨_, zs.take l, hcs, ⟨some a, c, ?_, ?_, ?_, fun h0 => ?_⟩, fun x hx => bounds_i64 (hwz x (List.mem_of_mem_take hx))⟩
    · rw [List.length_take, Nat.min_eq_left hlz]
    · rw [List.length_take, Nat.min_eq_left hlz]; exact hl
    · unfold maxLen at hm; omega
    · rw [List.length_take, Nat.min_eq_left hlz] at h0
      obtain ⟨b, off, rfl, hc⟩ := ints_at hcell (by omega)
      refine ⟨b, off, rfl, World.block_lt_of_cell? w _ (hc 0 (by omega)), fun j x hx => ?_⟩
      have hj : j < l := by
        have := (List.getElem?_eq_some_iff.1 hx).1
        rw [List.length_take] at this
        omega
      rw [hc j (by omega)]
      rw [List.getElem?_take, if_pos hj] at hx
      simp [List.getD, hx]
theorem openInts (hv : Value.okWide Try.prog w r b0 59 v) (h : DataW.Trod enc Try.prog w base spare held 59 v d p) : ∃ xs, IsInts w v xs := by
  obtain ⟨a, l, c, rfl⟩ := okWide_slice Try.underlying59 hv
  obtain ⟨fuel, hf⟩ := h
  obtain ⟨u, xs, hu, hx⟩ := readInts hf
  simp [Value.cells] at hu
  subst hu
  exact ⟨xs, hx⟩
/-- A struct of one field of one cell. -/
theorem open_agg1 {P : Program} {t : TypeId} {f0 : Field} (hs : P.underlying t = some (.struct #[f0])) (hone : oneCellFields P #[f0] = true) (hC : P.cellsOf t = 1)
    (hv : Value.okWide P w r b0 t v) (h : DataW.Trod enc P w base spare held t v d p) :
    ∃ (v0 : Value) (y0 : DataW H × List MemPlace) (n : Nat), v = .agg #[v0] ∧ DataW.trod enc P w base spare held n f0.type [v0] = some y0 := by
  obtain ⟨cs, rfl, hsz⟩ := okWide_struct hs hv
  obtain ⟨l⟩ := cs
  match l, hsz.trans hC with
  | [c0], _ =>
    obtain ⟨fuel, hf⟩ := h
    obtain ⟨xs, n, _, hx, _, hlen, hg⟩ := DataW.trod_struct hs hf
    obtain ⟨o0, k0⟩ := hone_of hone 0 f0 rfl
    match xs, hlen with
    | [y0], _ => exact ⟨c0, y0, n, rfl, by simpa [Value.cells, o0, k0] using hg 0 f0 rfl⟩
theorem field_ints {n : Nat} {v : Value} {y : DataW H × List MemPlace} (h : DataW.trod enc Try.prog w base spare held n 59 [v] = some y) : ∃ xs, IsInts w v xs := by
  obtain ⟨u, xs, hu, hx⟩ := readInts h
  simp at hu
  subst hu
  exact ⟨xs, hx⟩

end
end Go.Proofs.Ytjaagabbbnokdaa
