/-
  Plain words on spans: how long a reduced matrix can be, the span of those of a list's vectors that fit a width, the free columns of a reduced matrix and the vectors that stand for them. No condition.
-/
import Derived.Test.YtjaagabbbnokdaaMx5
namespace Go.Proofs.Ytjaagabbbnokdaa
set_option linter.unusedVariables false
set_option maxRecDepth 100000

theorem Red.at_le {c : Nat} {m : List (List Int)} {P : Nat → Nat} (h : Red c m P) : ∀ i, i < m.length → i ≤ P i := by
  intro i
  induction i with
  | zero => intro _; exact Nat.zero_le _
  | succ i ih =>
    intro hi
    have h1 := ih (by omega)
    have h2 := h.mono i (i + 1) (by omega) hi
    omega
theorem Red.len_le {c : Nat} {m : List (List Int)} {P : Nat → Nat} (h : Red c m P) : m.length ≤ c := by
  rcases Nat.eq_zero_or_pos m.length with h0 | h0
  · omega
  · have h1 := h.at_le (m.length - 1) (by omega)
    have h2 := h.low (m.length - 1) (by omega)
    omega
theorem mrowB_row {c : Nat} {r : List Int} (h : mrowB c r = true) : Row c r ∧ r.length ≤ 40 := by
  unfold mrowB at h
  rw [Bool.and_eq_true] at h
  obtain ⟨h1, h2⟩ := h
  obtain ⟨h3, h4⟩ := vecB_facts h1
  exact ⟨⟨by simp at h2; omega, h3⟩, h4⟩
theorem mrowB_yes {c : Nat} {r : List Int} (h : Row c r) (hc : c ≤ 40) : mrowB c r = true := by
  unfold mrowB
  rw [row_vecB h hc, h.1]
  simp
/-- The reduced span of those of the vectors that have the width c. -/
def spanZ (c : Nat) (vs : List (List Int)) : List (List Int) := insAll (vs.filter (mrowB c))
theorem filter_mtx (c : Nat) (vs : List (List Int)) : Mtx c (vs.filter (mrowB c)) := fun r hr => (mrowB_row (List.mem_filter.1 hr).2).1
theorem span_nil (c : Nat) (vs : List (List Int)) : spanZ c (vs.take 0) = [] := rfl
theorem span_yes {c : Nat} {vs : List (List Int)} {k : Nat} {v : List Int} (hx : vs[k]? = some v) (h : mrowB c v = true) : spanZ c (vs.take (k + 1)) = insB (spanZ c (vs.take k)) v := by
  unfold spanZ
  rw [take_snoc hx, List.filter_append, List.filter_cons_of_pos h, List.filter_nil, insAll_snoc]
theorem span_no {c : Nat} {vs : List (List Int)} {k : Nat} {v : List Int} (hx : vs[k]? = some v) (h : mrowB c v = false) : spanZ c (vs.take (k + 1)) = spanZ c (vs.take k) := by
  unfold spanZ
  rw [take_snoc hx, List.filter_append, List.filter_cons_of_neg (by simp [h]), List.filter_nil, List.append_nil]
theorem span_red (c : Nat) (vs : List (List Int)) : ∃ P, Red c (spanZ c vs) P := by
  have h := (insAll_facts (filter_mtx c vs) _ (Nat.le_refl _)).1
  rw [List.take_length] at h
  exact h
theorem span_same (c : Nat) (vs : List (List Int)) : Same (vs.filter (mrowB c)) (spanZ c vs) := by
  have h := (insAll_facts (filter_mtx c vs) _ (Nat.le_refl _)).2
  rw [List.take_length] at h
  exact h
theorem span_len (c : Nat) (vs : List (List Int)) : (spanZ c vs).length ≤ c := (span_red c vs).elim fun _ h => h.len_le
theorem span_all (c : Nat) (vs : List (List Int)) : spanZ c (vs.take vs.length) = spanZ c vs := by rw [List.take_length]
/-- A reduced matrix is its own span. -/
theorem span_id {c : Nat} {m : List (List Int)} {P : Nat → Nat} (h : Red c m P) (hc : c ≤ 40) : spanZ c m = m := by
  unfold spanZ
  rw [List.filter_eq_self.2 (fun r hr => mrowB_yes (h.mtx r hr) hc), ← insAll_red h.mtx, redZ_id h]

/-- Whether k is the pivot of a row. -/
def pivB (m : List (List Int)) (k : Nat) : Bool := m.any (fun r => leadV r == (k : Int))
def freeZ (c : Nat) (m : List (List Int)) : List Nat := (List.range c).filter (fun k => !pivB m k)
def negF (x : Int) : Int := (1019 - x) % 1019
theorem negF_bd {x : Int} (h : 0 ≤ x ∧ x ≤ 1018) : 0 ≤ negF x ∧ negF x ≤ 1018 := by unfold negF; omega
theorem leadV_row {c : Nat} {m : List (List Int)} {P : Nat → Nat} (h : Red c m P) {i : Nat} (hi : i < m.length) : leadV (rw_ m i) = (P i : Int) := by
  have h1 := h.lead_eq hi
  have h2 := h.low i hi
  have h3 := (mtx_row h.mtx hi).1
  rw [leadV_yes (by rw [h1, h3]; exact h2), h1]
theorem pivB_iff {c : Nat} {m : List (List Int)} {P : Nat → Nat} (h : Red c m P) (k : Nat) : pivB m k = true ↔ ∃ i, i < m.length ∧ P i = k := by
  unfold pivB
  rw [List.any_eq_true]
  constructor
  · rintro ⟨r, hr, he⟩
    obtain ⟨i, hi⟩ := List.mem_iff_getElem?.1 hr
    have hl : i < m.length := (List.getElem?_eq_some_iff.1 hi).1
    refine ⟨i, hl, ?_⟩
    rw [← rw_in hi, leadV_row h hl] at he
    simp at he
    omega
  · rintro ⟨i, hi, e⟩
    exact ⟨rw_ m i, rw_mem hi, by rw [leadV_row h hi, e]; simp⟩
/-- The vector of the free column f after k rows. -/
def nvK (c : Nat) (m : List (List Int)) (f : Nat) : Nat → List Int
  | 0 => (List.replicate c 0).set f 1
  | k + 1 => (nvK c m f k).set (lead (rw_ m k)) (negF (ent (rw_ m k) f))
def nvec (c : Nat) (m : List (List Int)) (f : Nat) : List Int := nvK c m f m.length
def nullZ (c : Nat) (m : List (List Int)) : List (List Int) := (freeZ c m).map (nvec c m)
theorem nvK_len (c : Nat) (m : List (List Int)) (f : Nat) : ∀ k, (nvK c m f k).length = c
  | 0 => by unfold nvK; rw [List.length_set, List.length_replicate]
  | k + 1 => by unfold nvK; rw [List.length_set]; exact nvK_len c m f k
theorem nvK_bd (c : Nat) (m : List (List Int)) (f : Nat) (hm : Mtx c m) : ∀ k, k ≤ m.length → ∀ x ∈ nvK c m f k, 0 ≤ x ∧ x ≤ 1018
  | 0, _ => by
    intro x hx
    unfold nvK at hx
    rcases List.mem_or_eq_of_mem_set hx with h | h
    · rw [(List.mem_replicate.1 h).2]; omega
    · omega
  | k + 1, hk => by
    intro x hx
    unfold nvK at hx
    rcases List.mem_or_eq_of_mem_set hx with h | h
    · exact nvK_bd c m f hm k (by omega) x h
    · rw [h]; exact negF_bd (ent_bd (mtx_row hm (by omega)) f)
theorem nvec_row {c : Nat} {m : List (List Int)} (hm : Mtx c m) (f : Nat) : Row c (nvec c m f) := ⟨nvK_len _ _ _ _, nvK_bd _ _ _ hm _ (Nat.le_refl _)⟩
theorem ent_set (r : List Int) (i k : Nat) (x : Int) (hi : i < r.length) : ent (r.set i x) k = if k = i then x else ent r k := by
  unfold ent
  rw [List.getD_eq_getElem?_getD, List.getD_eq_getElem?_getD]
  by_cases e : k = i
  · subst e; rw [if_pos rfl, List.getElem?_set_self hi]; rfl
  · rw [if_neg e, List.getElem?_set_ne (fun h => e h.symm)]
theorem ent_unit (c f k : Nat) (hf : f < c) : ent ((List.replicate c 0).set f 1) k = if k = f then 1 else 0 := by
  rw [ent_set _ _ _ _ (by rw [List.length_replicate]; exact hf)]
  by_cases e : k = f
  · rw [if_pos e, if_pos e]
  · rw [if_neg e, if_neg e]
    unfold ent
    rw [List.getD_eq_getElem?_getD, List.getElem?_replicate]
    split <;> rfl
/-- At a pivot of one of the first k rows. -/
theorem nvK_piv {c : Nat} {m : List (List Int)} {P : Nat → Nat} (h : Red c m P) (f : Nat) : ∀ k, k ≤ m.length → ∀ i, i < k → ent (nvK c m f k) (P i) = negF (ent (rw_ m i) f)
  | 0, _ => fun i hi => by omega
  | k + 1, hk => fun i hi => by
    have hl := h.lead_eq (i := k) (by omega)
    have hlow := h.low k (by omega)
    unfold nvK
    rw [hl, ent_set _ _ _ _ (by rw [nvK_len]; exact hlow)]
    by_cases e : i = k
    · subst e; rw [if_pos rfl]
    · rw [if_neg (by have := h.mono i k (by omega) (by omega); omega)]
      exact nvK_piv h f k (by omega) i (by omega)
/-- Anywhere else. -/
theorem nvK_rest {c : Nat} {m : List (List Int)} {P : Nat → Nat} (h : Red c m P) {f : Nat} (hf : f < c) {l : Nat} : ∀ k, k ≤ m.length → (∀ i, i < k → P i ≠ l) → ent (nvK c m f k) l = if l = f then 1 else 0
  | 0, _, _ => ent_unit c f l hf
  | k + 1, hk, hn => by
    have hl := h.lead_eq (i := k) (by omega)
    have hlow := h.low k (by omega)
    unfold nvK
    rw [hl, ent_set _ _ _ _ (by rw [nvK_len]; exact hlow), if_neg (fun e => hn k (by omega) e.symm)]
    exact nvK_rest h hf k (by omega) (fun i hi => hn i (by omega))
theorem nullZ_row {c : Nat} {m : List (List Int)} (hm : Mtx c m) : Mtx c (nullZ c m) := by
  intro r hr
  obtain ⟨f, _, rfl⟩ := List.mem_map.1 hr
  exact nvec_row hm f
theorem freeZ_mem {c : Nat} {m : List (List Int)} {f : Nat} : f ∈ freeZ c m ↔ f < c ∧ pivB m f = false := by
  unfold freeZ
  rw [List.mem_filter, List.mem_range]
  simp
theorem free_step_yes {m : List (List Int)} {k : Nat} (h : pivB m k = true) : freeZ (k + 1) m = freeZ k m := by
  unfold freeZ
  rw [List.range_succ, List.filter_append, List.filter_cons_of_neg (by simp [h]), List.filter_nil, List.append_nil]
theorem free_step_no {m : List (List Int)} {k : Nat} (h : pivB m k = false) : freeZ (k + 1) m = freeZ k m ++ [k] := by
  unfold freeZ
  rw [List.range_succ, List.filter_append, List.filter_cons_of_pos (by simp [h]), List.filter_nil]
theorem freeZ_len (c : Nat) (m : List (List Int)) : (freeZ c m).length ≤ c := by
  unfold freeZ
  have := List.length_filter_le (fun k => !pivB m k) (List.range c)
  rw [List.length_range] at this
  exact this
end Go.Proofs.Ytjaagabbbnokdaa
