/-
  toIntSS: its contract. Condition: at most 2^20 rows, and at most 2^20 elements a row.
-/
import Derived.Test.YtchodlfkoafeaaaMat1
namespace Go.Proofs.Ytchodlfkoafeaaa
open Go.ChangeShapes Go.WideShapes Go.ChangeAt Go.RowKit
set_option linter.unusedVariables false
set_option maxRecDepth 100000

theorem fillF_congr {cur : Array Value} {f g : Nat → Value} : ∀ {j : Nat}, (∀ i, i < j → f i = g i) → fillF cur f j = fillF cur g j
  | 0, _ => rfl
  | j + 1, h => by simp only [fillF]; rw [fillF_congr (fun i hi => h i (by omega)), h j (by omega)]
theorem fillF_takeV (cur : Array Value) (us : List Value) (hn : us.length ≤ cur.size) :
    (fillF cur (fun i => us.getD i (.slice none 0 0)) us.length).toList.take (us.length * 1) = us := by
  apply List.ext_getElem?
  intro i
  rw [List.getElem?_take, Array.getElem?_toList]
  by_cases h : i < us.length
  · rw [if_pos (by omega), fillF_at _ _ _ _ (by omega), if_pos h, List.getElem?_eq_getElem h]
    simp [List.getD, h]
  · rw [if_neg (by omega), List.getElem?_eq_none (by omega)]
theorem row_info : (Try.prog.info? 55).map (fun i => (i.zero, i.size, i.bytes)) = some (some (.slice none 0 0), 1, 24) := by kernel_rfl
/-- The rows made so far: each in a block of its own, none twice, all behind block lo. -/
structure Rws (w : World) (lo : Nat) (us : List Value) (xss : List (List Int)) : Prop where
  row : ∀ (j : Nat) u xs, us[j]? = some u → xss[j]? = some xs → OI w lo u xs
  apart : ∀ (i j : Nat) u u', i ≠ j → us[i]? = some u → us[j]? = some u' → ∀ q, u.ownBlock = some q → u'.ownBlock ≠ some q
  low : ∀ (j : Nat) u, us[j]? = some u → ∀ q, u.ownBlock = some q → lo ≤ q ∧ q < w.heap.size
theorem Rws.nil (w : World) (lo : Nat) (xss : List (List Int)) : Rws w lo [] xss := ⟨fun j u xs h => by simp at h, fun i j u u' _ h => by simp at h, fun j u h => by simp at h⟩
theorem Rws.keep {w w' : World} {lo : Nat} {us : List Value} {xss : List (List Int)} (h : Rws w lo us xss) (k : Bel w w') : Rws w' lo us xss :=
  ⟨fun j u xs h1 h2 => (h.row j u xs h1 h2).keep k, h.apart, fun j u h1 q hq => ⟨(h.low j u h1 q hq).1, Nat.lt_of_lt_of_le (h.low j u h1 q hq).2 k.size⟩⟩
theorem Rws.setFar {w : World} {lo : Nat} {us : List Value} {xss : List (List Int)} (h : Rws w lo us xss) {p : Addr} (hp : p.block < lo) (u : Value) : Rws (w.setCell p u) lo us xss :=
  ⟨fun j u xs h1 h2 => (h.row j u xs h1 h2).setFar hp _, h.apart, fun j u h1 q hq => by have := h.low j u h1 q hq; simpa [World.setCell] using this⟩
theorem Rws.snoc {w w' : World} {lo : Nat} {us : List Value} {xss : List (List Int)} {u : Value} {xs : List Int} (h : Rws w lo us xss) (k : Bel w w') (hl : lo ≤ w.heap.size) (hu : OI w' w.heap.size u xs) (hx : xss[us.length]? = some xs) : Rws w' lo (us ++ [u]) xss := by
  have hk := h.keep k
  have hub := hu.block
  refine ⟨fun j y ys h1 h2 => ?_, fun i j y y' hne h1 h2 q hq hq' => ?_, fun j y h1 q hq => ?_⟩
  · rcases Nat.lt_or_ge j us.length with hj | hj
    · rw [List.getElem?_append_left hj] at h1
      exact hk.row j y ys h1 h2
    · rw [List.getElem?_append_right hj] at h1
      have : j - us.length = 0 := by
        rcases Nat.eq_zero_or_pos (j - us.length) with e | e
        · exact e
        · rw [List.getElem?_eq_none (by simp; omega)] at h1; cases h1
      rw [this] at h1
      simp at h1
      subst h1
      have e : j = us.length := by omega
      rw [e, hx] at h2
      injection h2 with h2
      subst h2
      exact hu.low hl
  · have key : ∀ (i : Nat) y, (us ++ [u])[i]? = some y → (i < us.length ∧ us[i]? = some y) ∨ (i = us.length ∧ y = u) := fun i y h1 => by
      rcases Nat.lt_or_ge i us.length with hj | hj
      · rw [List.getElem?_append_left hj] at h1; exact .inl ⟨hj, h1⟩
      · rw [List.getElem?_append_right hj] at h1
        have : i - us.length = 0 := by
          rcases Nat.eq_zero_or_pos (i - us.length) with e | e
          · exact e
          · rw [List.getElem?_eq_none (by simp; omega)] at h1; cases h1
        rw [this] at h1
        simp at h1
        exact .inr ⟨by omega, h1.symm⟩
    rcases key i y h1 with ⟨a1, a2⟩ | ⟨a1, rfl⟩
    · rcases key j y' h2 with ⟨b1, b2⟩ | ⟨b1, rfl⟩
      · exact h.apart i j y y' hne a2 b2 q hq hq'
      · have := h.low i y a2 q hq
        have := hub q hq'
        omega
    · rcases key j y' h2 with ⟨b1, b2⟩ | ⟨b1, rfl⟩
      · have := h.low j y' b2 q hq'
        have := hub q hq
        omega
      · omega
  · rcases Nat.lt_or_ge j us.length with hj | hj
    · rw [List.getElem?_append_left hj] at h1
      exact hk.low j y h1 q hq
    · rw [List.getElem?_append_right hj] at h1
      have : j - us.length = 0 := by
        rcases Nat.eq_zero_or_pos (j - us.length) with e | e
        · exact e
        · rw [List.getElem?_eq_none (by simp; omega)] at h1; cases h1
      rw [this] at h1
      simp at h1
      subst h1
      have := hub q hq
      omega

end Go.Proofs.Ytchodlfkoafeaaa
