/-
  Slices of slices of ints: owning them; contracts of the laws' helpers szIntSS, toIntSS, eqIntSS. Condition of toIntSS: at most 2^20 rows, and at most 2^20 elements a row.
-/
import Derived.Test.YtchodlfkoafeaaaConcat
import Derived.Test.YtchodlfkoafeaaaOwn
import Derived.Test.YtchodlfkoafeaaaBq
import Derived.Deep.RegionHeld3
namespace Go.Proofs.Ytchodlfkoafeaaa
open Go.ChangeShapes Go.WideShapes Go.ChangeAt Go.RowKit
set_option linter.unusedVariables false
set_option maxRecDepth 100000

/-- A slice of slices of ints, all in blocks of their own between lo and hi. -/
def OII (w : World) (lo hi : Nat) (v : Value) (xss : List (List Int)) : Prop :=
  ∃ us : List Value, us.length = xss.length ∧ w.ownsRow lo 55 1 v xss.length us ∧ (∀ q, v.ownBlock = some q → q < hi) ∧ (∀ (j : Nat) u xs, us[j]? = some u → xss[j]? = some xs → OIn w lo hi u xs) ∧
    (∀ (i j : Nat) u u', i ≠ j → us[i]? = some u → us[j]? = some u' → ∀ q, u.ownBlock = some q → u'.ownBlock ≠ some q) ∧ (∀ (j : Nat) u, us[j]? = some u → ∀ q, u.ownBlock = some q → v.ownBlock ≠ some q)
theorem OII.nil (w : World) (lo hi : Nat) : OII w lo hi (.slice none 0 0) [] :=
  ⟨[], rfl, World.ownsRow_nil _ _ _ _, fun q hq => by simp [Value.ownBlock] at hq, fun j u xs h => by simp at h, fun i j u u' _ h => by simp at h, fun j u h => by simp at h⟩
theorem OII.reads {w : World} {lo hi : Nat} {v : Value} {xss : List (List Int)} (h : OII w lo hi v xss) : RII w v xss := by
  obtain ⟨us, hl, ⟨hl2, ⟨rfl, h0⟩ | ⟨g, cap, cur, rfl, hb, hh, h1, h2, h3, h4⟩⟩, hq, hr, _, _⟩ := h
  · have : xss = [] := List.eq_nil_of_length_eq_zero h0
    subst this
    exact RII.nil w
  · refine ⟨some ⟨g, 0, none⟩, cap, rfl, h1, by unfold maxLen at h2; omega, fun _ => ⟨g, 0, rfl, Blk.lt hh, fun j xs hx => ?_⟩⟩
    have hj : j < xss.length := (List.getElem?_eq_some_iff.1 hx).1
    have hju : j < us.length := by omega
    refine ⟨us[j]'hju, ?_, (hr j _ xs (List.getElem?_eq_getElem hju) hx).reads⟩
    rw [Nat.zero_add, (Blk.facts hh).1 j, ← Array.getElem?_toList]
    have h5 : (cur.toList.take (xss.length * 1))[j]? = some (us[j]'hju) := by rw [h4]; exact List.getElem?_eq_getElem hju
    rw [List.getElem?_take] at h5
    rwa [if_pos (by omega)] at h5
theorem ownsRow_loc {w u : World} {lo hi : Nat} {T : TypeId} {k : Nat} {v : Value} {n : Nat} {us : List Value} (h : w.ownsRow lo T k v n us) (hq : ∀ q, v.ownBlock = some q → q < hi)
    (hu : ∀ k, lo ≤ k → k < hi → u.heap[k]? = w.heap[k]?) : u.ownsRow lo T k v n us := by
  obtain ⟨hl2, h0 | ⟨g, cap, cur, rfl, hb, hh, h1, h2, h3, h4⟩⟩ := h
  · exact ⟨hl2, .inl h0⟩
  · exact ⟨hl2, .inr ⟨g, cap, cur, rfl, hb, (hu g hb (hq g rfl)).trans hh, h1, h2, h3, h4⟩⟩
theorem OII.loc {w : World} {lo hi : Nat} {v : Value} {xss : List (List Int)} (h : OII w lo hi v xss) (hl : lo ≤ hi) (hh : hi ≤ w.heap.size) : Loc lo hi (fun u => OII u lo hi v xss) w := by
  refine ⟨hl, hh, fun u hu => ?_⟩
  obtain ⟨us, hl, ho, hq, hr, hd, hv⟩ := h
  exact ⟨us, hl, ownsRow_loc ho hq hu, hq, fun j y xs h1 h2 => ⟨ownsRow_loc (hr j y xs h1 h2).1 (hr j y xs h1 h2).2 hu, (hr j y xs h1 h2).2⟩, hd, hv⟩
theorem OII.wide {w : World} {lo hi lo' hi' : Nat} {v : Value} {xss : List (List Int)} (h : OII w lo hi v xss) (h1 : lo' ≤ lo) (h2 : hi ≤ hi') : OII w lo' hi' v xss := by
  obtain ⟨us, hl, ho, hq, hr, hd, hv⟩ := h
  exact ⟨us, hl, Go.Joins.ownsRow_le ho h1, fun q e => Nat.lt_of_lt_of_le (hq q e) h2, fun j y xs e1 e2 => ⟨Go.Joins.ownsRow_le (hr j y xs e1 e2).1 h1, fun q e => Nat.lt_of_lt_of_le ((hr j y xs e1 e2).2 q e) h2⟩, hd, hv⟩
theorem OII.keep {w w' : World} {lo hi : Nat} {v : Value} {xss : List (List Int)} (h : OII w lo hi v xss) (hh : hi ≤ w.heap.size) (k : Bel w w') : OII w' lo hi v xss := by
  obtain ⟨us, hl, ho, hq, hr, hd, hv⟩ := h
  have hu : ∀ i, lo ≤ i → i < hi → w'.heap[i]? = w.heap[i]? := fun i _ h2 => Below.block k i (Nat.lt_of_lt_of_le h2 hh)
  exact ⟨us, hl, ownsRow_loc ho hq hu, hq, fun j y xs h1 h2 => ⟨ownsRow_loc (hr j y xs h1 h2).1 (hr j y xs h1 h2).2 hu, (hr j y xs h1 h2).2⟩, hd, hv⟩

def szM (xss : List (List Int)) : Nat := xss.length + xss.flatten.length
theorem szM_ge (xss : List (List Int)) (k : Nat) : xss.length + sumL xss k ≤ szM xss := by have := sumL_le xss k; unfold szM; omega
theorem szM_eq (xss : List (List Int)) : szM xss = xss.length + sumL xss xss.length := by unfold szM sumL; simp
theorem sumL_all (xss : List (List Int)) : sumL xss xss.length = xss.flatten.length := by simp [sumL]
theorem len_le_flat {xss : List (List Int)} {k : Nat} {xs : List Int} (h : xss[k]? = some xs) : xs.length ≤ xss.flatten.length := by
  have h1 := sumL_step h
  have h2 := sumL_le xss (k + 1)
  omega


end Go.Proofs.Ytchodlfkoafeaaa
