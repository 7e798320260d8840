/-
  In the order that the program finds every edge leads to a later node: plain law. Nothing of the program is run here.
-/
import Derived.Test.YtjlcnbicehjjjaaTopo5
namespace Go.Proofs.Ytjlcnbicehjjjaa
open Go.ChangeShapes Go.WideShapes Go.ChangeAt Go.RowKit
set_option linter.unusedVariables false
set_option maxRecDepth 100000

def Ord (E : Eds) (out : List Nat) : Prop := ∀ (k b : Nat), out[k]? = some b → ∀ a : Nat, (a, b) ∈ E → ∃ j : Nat, j < k ∧ out[j]? = some a
theorem ord_snoc {E : Eds} {out : List Nat} {v : Nat} (h : Ord E out) (hr : rdyB E out v = true) : Ord E (out ++ [v]) := by
  intro k b hk a ha
  rcases Nat.lt_or_ge k out.length with hl | hl
  · rw [List.getElem?_append_left hl] at hk
    obtain ⟨j, hj, hja⟩ := h k b hk a ha
    exact ⟨j, hj, by rw [List.getElem?_append_left (by omega)]; exact hja⟩
  · have hl2 := (List.getElem?_eq_some_iff.1 hk).1
    simp at hl2
    have e : k = out.length := by omega
    subst e
    rw [List.getElem?_append_right (Nat.le_refl _), Nat.sub_self] at hk
    have e2 : v = b := by simpa using hk
    subst e2
    obtain ⟨j, hj⟩ := List.mem_iff_getElem?.1 ((rdy_facts hr).2 a ha)
    have hjl := (List.getElem?_eq_some_iff.1 hj).1
    exact ⟨j, hjl, by rw [List.getElem?_append_left hjl]; exact hj⟩
theorem topo_ord {s : Nat} {E : Eds} : ∀ (f : Nat) (out l : List Nat), Ord E out → topo s E f out = some l → Ord E l
  | 0, out, l, h, ht => by
    have e : out = l := by simpa [topo] using ht
    rw [← e]; exact h
  | f + 1, out, l, h, ht => by
    simp only [topo] at ht
    cases hn : nextN s E out with
    | none => rw [hn] at ht; cases ht
    | some v =>
      rw [hn] at ht
      exact topo_ord f (out ++ [v]) l (ord_snoc h (next_some hn).1) ht
/-- What the law asks of the order. -/
theorem top_yes {s : Int} {fs : List Tr} (h : acyB s fs = true) : ((topL s fs).length : Int) = s ∧ ∀ f ∈ fs, ∀ k : Nat, (topL s fs)[k]? = some f.2.1 → hasB ((topL s fs).take k) f.1 = true := by
  have hg : graphB s fs = true := by
    unfold acyB at h
    rw [Bool.and_eq_true] at h
    exact h.1
  obtain ⟨n, rfl, _, _, hin, _⟩ := graph_in hg
  have ht : (topo n (prs fs) n []).isSome = true := by
    unfold acyB at h
    rw [Bool.and_eq_true, Int.toNat_natCast] at h
    exact h.2
  obtain ⟨l, hl⟩ := Option.isSome_iff_exists.1 ht
  rw [(topL_some hg hl).1]
  have hlen := (topo_inv n [] l (TInv.nil _ _) hl).2
  have hord := topo_ord n [] l (fun k b hk => absurd hk (by simp)) hl
  refine ⟨by unfold outI; rw [List.length_map, hlen]; simp, fun f hf k hk => ?_⟩
  obtain ⟨⟨h1, h2⟩, h3, h4⟩ := hin f hf
  obtain ⟨x, y, z⟩ := f
  dsimp only at *
  obtain ⟨x, rfl⟩ := Int.eq_ofNat_of_zero_le h1
  obtain ⟨y, rfl⟩ := Int.eq_ofNat_of_zero_le h3
  unfold outI at hk ⊢
  rw [List.getElem?_map] at hk
  have hk2 : l[k]? = some y := by
    cases hlk : l[k]? with
    | none => rw [hlk] at hk; cases hk
    | some b =>
      rw [hlk] at hk
      have : (b : Int) = (y : Int) := by simpa using hk
      have e : b = y := by omega
      rw [e]
  have hE : (x, y) ∈ prs fs := by
    unfold prs
    exact List.mem_map.2 ⟨_, hf, by simp⟩
  obtain ⟨j, hj, hja⟩ := hord k y hk2 x hE
  exact has_at (k := j) (by rw [List.getElem?_take, if_pos hj, List.getElem?_map, hja]; rfl)
theorem top_no {s : Int} {fs : List Tr} (h : acyB s fs = false) : topL s fs = [] := by
  unfold topL
  split
  · rename_i hg
    unfold acyB at h
    rw [hg, Bool.true_and] at h
    cases ht : topo s.toNat (prs fs) s.toNat [] with
    | none => rfl
    | some l => rw [ht] at h; cases h
  · rfl
theorem has_take {xs : List Int} {k : Nat} {x y : Int} (h : xs[k]? = some x) : hasB (xs.take (k + 1)) y = (hasB (xs.take k) y || (x == y)) := by
  unfold hasB
  rw [List.take_add_one, h, List.any_append]
  simp
end Go.Proofs.Ytjlcnbicehjjjaa
