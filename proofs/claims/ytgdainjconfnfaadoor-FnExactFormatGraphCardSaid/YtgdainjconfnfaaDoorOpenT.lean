/-
  How arguments of laws with slices of structs of three ints read. Nothing of the program is run here.
-/
import Derived.Test.YtgdainjconfnfaaDoorOpenS
import Derived.Test.YtgdainjconfnfaaDoorTri
namespace Go.Proofs.YtgdainjconfnfaaDoor
open Go.ChangeShapes Go.WideShapes Go.ChangeAt Go.RowKit Go.Joins Go.Deep
set_option linter.unusedVariables false
set_option maxRecDepth 100000

def IsTris (W : World) (v : Value) (fs : List Tr) : Prop := RT W v fs ∧ ∀ f ∈ fs, I64 f.1 ∧ I64 f.2.1 ∧ I64 f.2.2

section
variable {H : Type} {enc : TypeId × Value → H} {w : World} {base : Nat} {spare : Nat → Bool} {held : Bool} {r : Reach} {b0 : Nat} {v : Value} {d : DataW H} {p : List MemPlace}

theorem readTri {t e : TypeId} {f0 f1 f2 : Field} {fuel : Nat} {cs : List Value} {y : DataW H × List MemPlace} (ht : Tryd.prog.underlying t = some (.slice e)) (he : Tryd.prog.underlying e = some (.struct #[f0, f1, f2]))
    (hone : oneCellFields Tryd.prog #[f0, f1, f2] = true) (hC : Tryd.prog.cellsOf e = 3) (t0 : f0.type = 3) (t1 : f1.type = 3) (t2 : f2.type = 3)
    (h : DataW.trod enc Tryd.prog w base spare held fuel t cs = some y) : ∃ v fs, cs = [v] ∧ IsTris w v fs := by
  rcases open_slice ht h with ⟨hcs, _⟩ | ⟨a, len, cap, m, n, D, Pl, hcs, hb, hl, hm, hmm, _, hi⟩
  · exact ⟨_, [], hcs, RT.nil w, fun x hx => by simp at hx⟩
  have hlm : len ≤ m := by rw [hmm]; split <;> omega
  have key : ∀ i, i < len → ∃ f : Tr, (w.cell? (a.add (i * 3)) = some (.int .i64 f.1) ∧ w.cell? ((a.add (i * 3)).add 1) = some (.int .i64 f.2.1) ∧ w.cell? ((a.add (i * 3)).add 2) = some (.int .i64 f.2.2)) ∧ I64 f.1 ∧ I64 f.2.1 ∧ I64 f.2.2 := by
    intro i hilt
    obtain ⟨cs', hc, ht'⟩ := hi i (by omega)
    rw [hC] at hc
    obtain ⟨ys, n', _, _, hlen, hyl, hf⟩ := DataW.trod_struct he ht'
    obtain ⟨_, hcl, hat⟩ := World.cells?_some hc
    match cs', hcl with
    | [c0, c1, c2], _ =>
      match ys, hyl with
      | [y0, y1, y2], _ =>
        obtain ⟨o0, k0⟩ := hone_of hone 0 f0 rfl
        obtain ⟨o1, k1⟩ := hone_of hone 1 f1 rfl
        obtain ⟨o2, k2⟩ := hone_of hone 2 f2 rfl
        have q0 := hf 0 f0 rfl
        have q1 := hf 1 f1 rfl
        have q2 := hf 2 f2 rfl
        rw [o0, k0, t0] at q0
        rw [o1, k1, t1] at q1
        rw [o2, k2, t2] at q2
        obtain ⟨x0, e0, b0⟩ := field_int q0
        obtain ⟨x1, e1, b1⟩ := field_int q1
        obtain ⟨x2, e2, b2⟩ := field_int q2
        subst e0 e1 e2
        have r0 := hat 0 (by omega)
        have r1 := hat 1 (by omega)
        have r2 := hat 2 (by omega)
        refine ⟨(x0, x1, x2), ⟨?_, ?_, ?_⟩, b0, b1, b2⟩
        · have := r0; rw [show (a.add (i * 3)).add 0 = a.add (i * 3) from by rw [add_add]; rfl] at this; exact this
        · exact r1
        · exact r2
  obtain ⟨F, hF⟩ := choose_lt key
  have hlenF : ((List.range len).map F).length = len := by simp
  refine ⟨_, (List.range len).map F, hcs, ⟨some a, cap, ?_, ?_, ?_, fun h0 => ?_⟩, fun f hf => ?_⟩
  · rw [hlenF]
  · rw [hlenF]; exact hl
  · unfold maxLen at hm; omega
  · rw [hlenF] at h0
    have h00 := (hF 0 h0).1.1
    obtain ⟨b, off, spot⟩ := a
    have hspot : spot = none := by simpa [Addr.add] using World.cell?_spot h00
    subst hspot
    refine ⟨b, off, rfl, ?_, fun j f hf => ?_⟩
    · have := World.block_lt_of_cell? w _ h00
      simpa [Addr.add] using this
    · have hj : j < len := by
        have := (List.getElem?_eq_some_iff.1 hf).1
        rw [hlenF] at this
        exact this
      have hfj : f = F j := by
        rw [List.getElem?_map, List.getElem?_range hj] at hf
        simpa using hf.symm
      subst hfj
      obtain ⟨g0, g1, g2⟩ := (hF j hj).1
      rw [add_plain] at g0
      rw [add_plain, add_plain] at g1 g2
      exact ⟨g0, g1, g2⟩
  · obtain ⟨j, hj, rfl⟩ := List.mem_map.1 hf
    exact (hF j (List.mem_range.1 hj)).2
def IsGraph (W : World) (v : Value) (x : Int × List Tr) : Prop := ∃ u, v = .agg #[.int .i64 x.1, u] ∧ RT W u x.2 ∧ (∀ f ∈ x.2, I64 f.1 ∧ I64 f.2.1 ∧ I64 f.2.2) ∧ I64 x.1
theorem openGraph (hv : Value.okWide Tryd.prog w r b0 24 v) (h : DataW.Trod enc Tryd.prog w base spare held 24 v d p) : ∃ x, IsGraph w v x := by
  obtain ⟨v0, v1, y0, y1, n, rfl, _, _, h0, h1⟩ := open_agg2 Tryd.underlying24 (by kernel_rfl) (by kernel_rfl) hv h
  obtain ⟨a, rfl, ha⟩ := field_int h0
  obtain ⟨u, fs, hu, hx⟩ := readTri Tryd.underlying22 Tryd.underlying41 (by kernel_rfl) (by kernel_rfl) rfl rfl rfl h1
  simp at hu
  subst hu
  exact ⟨(a, fs), v1, rfl, hx.1, hx.2, ha⟩
end
end Go.Proofs.YtgdainjconfnfaaDoor
