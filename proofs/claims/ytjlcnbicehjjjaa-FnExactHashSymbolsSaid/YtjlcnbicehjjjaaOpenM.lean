/-
  How arguments of laws with slices of slices of ints read. Nothing of the program is run here.
-/
import Derived.Test.YtjlcnbicehjjjaaOpenP
import Derived.Test.YtjlcnbicehjjjaaConcat
namespace Go.Proofs.Ytjlcnbicehjjjaa
open Go.ChangeShapes Go.WideShapes Go.ChangeAt Go.RowKit Go.Joins Go.Deep
set_option linter.unusedVariables false
set_option maxRecDepth 100000

def IsIntss (W : World) (v : Value) (xss : List (List Int)) : Prop := RII W v xss ∧ ∀ xs ∈ xss, ∀ x ∈ xs, I64 x

section
variable {H : Type} {enc : TypeId × Value → H} {w : World} {base : Nat} {spare : Nat → Bool} {held : Bool} {r : Reach} {b0 : Nat} {v : Value} {d : DataW H} {p : List MemPlace}

theorem readIntss {fuel : Nat} {cs : List Value} {y : DataW H × List MemPlace} (h : DataW.trod enc Try.prog w base spare held fuel 45 cs = some y) : ∃ v xss, cs = [v] ∧ IsIntss w v xss := by
  rcases open_slice Try.underlying45 h with ⟨hcs, _⟩ | ⟨a, len, cap, m, n, D, Pl, hcs, hb, hl, hm, hmm, _, hi⟩
  · exact ⟨_, [], hcs, RII.nil w, fun x hx => by simp at hx⟩
  have hlm : len ≤ m := by rw [hmm]; split <;> omega
  have hC : Try.prog.cellsOf 22 = 1 := by kernel_rfl
  have key : ∀ i, i < len → ∃ f : Value × List Int, w.cell? (a.add i) = some f.1 ∧ IsInts w f.1 f.2 := by
    intro i hilt
    obtain ⟨cs', hc, ht'⟩ := hi i (by omega)
    rw [hC, Nat.mul_one] at hc
    obtain ⟨u, xs, hu, hx⟩ := readInts ht'
    subst hu
    obtain ⟨_, hcl, hat⟩ := World.cells?_some hc
    have h0 := hat 0 (by omega)
    rw [show (a.add i).add 0 = a.add i from by rw [add_add]; rfl] at h0
    exact ⟨(u, xs), h0, hx⟩
  obtain ⟨F, hF⟩ := choose_lt key
  have hlenF : ((List.range len).map fun i => (F i).2).length = len := by simp
  refine ⟨_, (List.range len).map fun i => (F i).2, hcs, ⟨some a, cap, ?_, ?_, ?_, fun h0 => ?_⟩, fun xs hxs => ?_⟩
  · rw [hlenF]
  · rw [hlenF]; exact hl
  · unfold maxLen at hm; omega
  · rw [hlenF] at h0
    have h00 := (hF 0 h0).1
    obtain ⟨b, off, spot⟩ := a
    have hspot : spot = none := by simpa [Addr.add] using World.cell?_spot h00
    subst hspot
    refine ⟨b, off, rfl, ?_, fun j xs hf => ?_⟩
    · have := World.block_lt_of_cell? w _ h00
      simpa [Addr.add] using this
    · have hj : j < len := by
        have := (List.getElem?_eq_some_iff.1 hf).1
        rw [hlenF] at this
        exact this
      have hfj : xs = (F j).2 := by
        rw [List.getElem?_map, List.getElem?_range hj] at hf
        simpa using hf.symm
      subst hfj
      have g0 := (hF j hj).1
      rw [add_plain] at g0
      exact ⟨_, g0, (hF j hj).2.1⟩
  · obtain ⟨j, hj, rfl⟩ := List.mem_map.1 hxs
    exact (hF j (List.mem_range.1 hj)).2.2
theorem field_intss {n : Nat} {v : Value} {y : DataW H × List MemPlace} (h : DataW.trod enc Try.prog w base spare held n 45 [v] = some y) : ∃ xss, IsIntss w v xss := by
  obtain ⟨u, xs, hu, hx⟩ := readIntss h
  simp at hu
  subst hu
  exact ⟨xs, hx⟩
theorem openIntss (hv : Value.okWide Try.prog w r b0 45 v) (h : DataW.Trod enc Try.prog w base spare held 45 v d p) : ∃ xss, IsIntss w v xss := by
  obtain ⟨a, l, c, rfl⟩ := okWide_slice Try.underlying45 hv
  obtain ⟨fuel, hf⟩ := h
  obtain ⟨u, xs, hu, hx⟩ := readIntss hf
  simp [Value.cells] at hu
  subst hu
  exact ⟨xs, hx⟩
def IsGen (W : World) (v : Value) (x : Int × List (List Int)) : Prop := ∃ u, v = .agg #[.int .i64 x.1, u] ∧ RII W u x.2 ∧ (∀ xs ∈ x.2, ∀ y ∈ xs, I64 y) ∧ I64 x.1
theorem openGen (hv : Value.okWide Try.prog w r b0 60 v) (h : DataW.Trod enc Try.prog w base spare held 60 v d p) : ∃ x, IsGen w v x := by
  obtain ⟨v0, v1, y0, y1, n, rfl, _, _, h0, h1⟩ := open_agg2 Try.underlying60 (by kernel_rfl) (by kernel_rfl) hv h
  obtain ⟨a, rfl, ha⟩ := field_int h0
  obtain ⟨xss, hx⟩ := field_intss h1
  exact ⟨(a, xss), v1, rfl, hx.1, hx.2, ha⟩
end
end Go.Proofs.Ytjlcnbicehjjjaa
