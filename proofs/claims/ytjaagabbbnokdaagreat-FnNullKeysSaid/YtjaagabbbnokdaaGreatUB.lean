/-
  Plain words on orthogonal vectors: the vectors that stand for the free columns of a reduced matrix span all that is orthogonal to its rows; the rows of a generation with unit vectors ahead are reduced. No condition.
  Plain words for null spaces: pivots, the vectors of free columns as the program and the reference lay them. No condition.
  SpanOf of the reference: contract. Conditions: a width of at most 40.
  freeColumns, nullSpace, OrthogonalSpace of the program: contracts. Conditions: a reduced matrix of at most 40 columns.
  nullSpace, OrthogonalSpace of the program: contracts. Conditions: a reduced matrix of at most 40 columns.
  Identity, NullSpace, OrthogonalSpace of the reference: contracts. Conditions: a reduced matrix of at most 40 columns.
  GenerationSpace of the program: contract. No condition.
  SourcePacket and GenerationSpace of the reference: contracts. No condition for GenerationSpace; SourcePacket: an index of a valid generation.
  GenerationSpace of the reference: contract. No condition.
  The size of a generation's space. Nothing of the program is run here.
-/
import Derived.Test.YtjaagabbbnokdaaGreatTA
import Derived.Test.YtjaagabbbnokdaaGreatVx
import Derived.Test.YtjaagabbbnokdaaGreatTB
import Derived.StillTailTactics
import Derived.Deep.RegionHeld3
import Derived.Test.YtjaagabbbnokdaaGreatTF
import Derived.Test.YtjaagabbbnokdaaGreatTC
namespace Go.Proofs.YtjaagabbbnokdaaGreat
set_option linter.unusedVariables false
set_option maxRecDepth 100000

/-- The sum of the products, before any remainder. -/
def ipd (c : Nat) (u v : List Int) : Int := sm c (fun l => ent u l * ent v l)
theorem ipd_comm (c : Nat) (u v : List Int) : ipd c u v = ipd c v u := sm_congr fun i _ => Int.mul_comm _ _
theorem sm_two {n a b : Nat} {f : Nat → Int} (ha : a < n) (hb : b < n) (hne : a ≠ b) (h : ∀ i, i < n → i ≠ a → i ≠ b → f i = 0) : sm n f = f a + f b := by
  have e : sm n f = sm n (fun i => (if i = a then f a else 0) + (if i = b then f b else 0)) := by
    apply sm_congr
    intro i hi
    by_cases e1 : i = a
    · subst e1; rw [if_pos rfl, if_neg hne, Int.add_zero]
    · by_cases e2 : i = b
      · subst e2; rw [if_neg e1, if_pos rfl, Int.zero_add]
      · rw [if_neg e1, if_neg e2, h i hi e1 e2]; rfl
  rw [e, sm_add, sm_one (j := a) ha (fun i _ hi => if_neg hi), sm_one (j := b) hb (fun i _ hi => if_neg hi), if_pos rfl, if_pos rfl]
theorem nvec_piv {c : Nat} {m : List (List Int)} {P : Nat → Nat} (h : Red c m P) (f : Nat) {i : Nat} (hi : i < m.length) : ent (nvec c m f) (P i) = negF (ent (rw_ m i) f) := nvK_piv h f _ (Nat.le_refl _) i hi
theorem nvec_rest {c : Nat} {m : List (List Int)} {P : Nat → Nat} (h : Red c m P) {f : Nat} (hf : f < c) {l : Nat} (hn : ∀ i, i < m.length → P i ≠ l) : ent (nvec c m f) l = if l = f then 1 else 0 := nvK_rest h hf _ (Nat.le_refl _) hn
theorem red_at {c : Nat} {m : List (List Int)} {P : Nat → Nat} (h : Red c m P) {i j : Nat} (hi : i < m.length) (hj : j < m.length) : ent (rw_ m i) (P j) = if i = j then 1 else 0 := by
  by_cases e : i = j
  · subst e; rw [if_pos rfl]; exact h.one i hi
  · rw [if_neg e]; exact h.col j hj i hi e
theorem dv_negF (x : Int) : Dv (negF x + x) := by
  unfold negF
  exact ⟨1 - (1019 - x) / 1019, by omega⟩
theorem null_orth {c : Nat} {m : List (List Int)} {P : Nat → Nat} (h : Red c m P) {f : Nat} (hf : f < c) (hn : ∀ i, i < m.length → P i ≠ f) {i : Nat} (hi : i < m.length) : Dv (ipd c (rw_ m i) (nvec c m f)) := by
  have hp := h.low i hi
  have e : ipd c (rw_ m i) (nvec c m f) = ent (rw_ m i) (P i) * ent (nvec c m f) (P i) + ent (rw_ m i) f * ent (nvec c m f) f := by
    unfold ipd
    apply sm_two hp hf (hn i hi)
    intro l hl h1 h2
    by_cases hl2 : ∃ j, j < m.length ∧ P j = l
    · obtain ⟨j, hj, e⟩ := hl2
      rw [← e, red_at h hi hj, if_neg (fun e2 => h1 (by rw [← e, e2])), Int.zero_mul]
    · rw [nvec_rest h hf (fun j hj e => hl2 ⟨j, hj, e⟩), if_neg h2, Int.mul_zero]
  rw [e, red_at h hi hi, if_pos rfl, nvec_piv h f hi, nvec_rest h hf hn, if_pos rfl, Int.one_mul, Int.mul_one]
  exact dv_negF _
theorem ipd_lin (c : Nat) {u v w x : List Int} {a b : Int} (h : ∀ l, Dv (ent u l - (a * ent v l + b * ent w l))) : Dv (ipd c u x - (a * ipd c v x + b * ipd c w x)) := by
  have e : a * ipd c v x + b * ipd c w x = sm c (fun l => (a * ent v l + b * ent w l) * ent x l) := by
    unfold ipd
    rw [← sm_mul, ← sm_mul, ← sm_add]
    apply sm_congr
    intro i _
    rw [Int.add_mul, Int.mul_assoc, Int.mul_assoc]
  rw [e]
  apply sm_dv_sub
  intro i _
  rw [← Int.sub_mul, Int.mul_comm]
  exact dv_mul (h i) _
/-- What is orthogonal to all rows is orthogonal to all that they span. -/
theorem orth_span {c : Nat} {m : List (List Int)} {u x : List Int} (h : ∀ i, i < m.length → Dv (ipd c (rw_ m i) x)) (hu : InS m u) : Dv (ipd c u x) := by
  obtain ⟨cs, hc⟩ := hu
  have e : Dv (ipd c u x - sm c (fun l => sm m.length (fun i => cs i * ent (rw_ m i) l) * ent x l)) := by
    apply sm_dv_sub
    intro l _
    rw [← Int.sub_mul, Int.mul_comm]
    exact dv_mul (hc l) _
  have e2 : sm c (fun l => sm m.length (fun i => cs i * ent (rw_ m i) l) * ent x l) = sm m.length (fun i => cs i * ipd c (rw_ m i) x) := by
    have : ∀ l, sm m.length (fun i => cs i * ent (rw_ m i) l) * ent x l = sm m.length (fun i => cs i * (ent (rw_ m i) l * ent x l)) := by
      intro l
      rw [Int.mul_comm, ← sm_mul]
      apply sm_congr
      intro i _
      rw [Int.mul_comm, Int.mul_assoc]
    rw [sm_congr (fun l _ => this l), sm_swap]
    apply sm_congr
    intro i _
    rw [sm_mul]
    rfl
  rw [e2] at e
  have e3 : Dv (sm m.length (fun i => cs i * ipd c (rw_ m i) x)) := sm_dv fun i hi => dv_mul (h i hi) _
  obtain ⟨p, hp⟩ := e
  obtain ⟨q, hq⟩ := e3
  exact ⟨p + q, by rw [Int.mul_add]; omega⟩
theorem sm_free (m : List (List Int)) (g : Nat → Int) : ∀ c, sm (freeZ c m).length (fun i => g ((freeZ c m).getD i 0)) = sm c (fun f => if pivB m f then 0 else g f)
  | 0 => rfl
  | c + 1 => by
    have ih := sm_free m g c
    cases hp : pivB m c
    · have e : freeZ (c + 1) m = freeZ c m ++ [c] := free_step_no hp
      have e1 : sm (freeZ (c + 1) m).length (fun i => g ((freeZ (c + 1) m).getD i 0)) = sm (freeZ c m).length (fun i => g ((freeZ c m).getD i 0)) + g c := by
        rw [e, List.length_append, List.length_singleton]
        show sm (freeZ c m).length _ + _ = _
        congr 1
        · apply sm_congr
          intro i hi
          rw [List.getD_eq_getElem?_getD, List.getD_eq_getElem?_getD, List.getElem?_append_left hi]
        · show g ((freeZ c m ++ [c]).getD (freeZ c m).length 0) = g c
          rw [List.getD_eq_getElem?_getD, List.getElem?_append_right (Nat.le_refl _), Nat.sub_self]
          rfl
      rw [e1, ih]
      show _ = sm c _ + (if pivB m c = true then 0 else g c)
      rw [hp]
      rfl
    · have e : freeZ (c + 1) m = freeZ c m := free_step_yes hp
      rw [e, ih]
      show _ = sm c _ + (if pivB m c = true then 0 else g c)
      rw [hp]
      simp
theorem pivB_no {c : Nat} {m : List (List Int)} {P : Nat → Nat} (h : Red c m P) {k : Nat} (hk : pivB m k = false) : ∀ i, i < m.length → P i ≠ k := by
  intro i hi e
  have := (pivB_iff h k).2 ⟨i, hi, e⟩
  rw [hk] at this
  cases this
theorem sm_neg (n : Nat) (f : Nat → Int) : sm n (fun i => - f i) = - sm n f := by
  have h := sm_mul n (-1) f
  have e : sm n (fun i => -1 * f i) = sm n (fun i => - f i) := sm_congr fun i _ => by omega
  rw [e] at h
  omega
/-- What is orthogonal to the rows of a reduced matrix is spanned by the vectors of its free columns. -/
theorem null_span {c : Nat} {m : List (List Int)} {P : Nat → Nat} (h : Red c m P) {v : List Int} (hv : Row c v) (ho : ∀ i, i < m.length → Dv (ipd c (rw_ m i) v)) : InS (nullZ c m) v := by
  refine ⟨fun i => ent v ((freeZ c m).getD i 0), fun l => ?_⟩
  have hl : (nullZ c m).length = (freeZ c m).length := by unfold nullZ; rw [List.length_map]
  have e : sm (nullZ c m).length (fun i => ent v ((freeZ c m).getD i 0) * ent (rw_ (nullZ c m) i) l) = sm c (fun f => if pivB m f then 0 else ent v f * ent (nvec c m f) l) := by
    rw [hl, ← sm_free m (fun f => ent v f * ent (nvec c m f) l) c]
    apply sm_congr
    intro i hi
    congr 2
    apply rw_in
    unfold nullZ
    rw [List.getElem?_map, List.getElem?_eq_getElem hi, List.getD_eq_getElem?_getD, List.getElem?_eq_getElem hi]
    rfl
  rw [e]
  rcases Nat.lt_or_ge l c with hlc | hlc
  · by_cases hp : pivB m l = true
    · obtain ⟨i, hi, e2⟩ := (pivB_iff h l).1 hp
      have h1 := ho i hi
      have h2 : ipd c (rw_ m i) v = sm c (fun f => if f = l then ent v l else 0) + sm c (fun f => if pivB m f then 0 else ent v f * ent (rw_ m i) f) := by
        unfold ipd
        rw [← sm_add]
        apply sm_congr
        intro f hf
        by_cases hpf : pivB m f = true
        · obtain ⟨j, hj, e3⟩ := (pivB_iff h f).1 hpf
          rw [if_pos hpf, ← e3, red_at h hi hj]
          by_cases e4 : i = j
          · subst e4; rw [if_pos rfl, if_pos e2, e2]; omega
          · rw [if_neg e4, if_neg]
            · omega
            · intro e5
              rw [← e2] at e5
              rcases Nat.lt_or_gt_of_ne e4 with hh | hh
              · have := h.mono i j hh hj; omega
              · have := h.mono j i hh hi; omega
        · rw [if_neg hpf, if_neg (by intro e3; exact hpf (by rw [e3]; exact hp)), Int.zero_add, Int.mul_comm]
      rw [sm_one (j := l) hlc (fun i _ hi => if_neg hi), if_pos rfl] at h2
      have h3 : Dv (sm c (fun f => if pivB m f then 0 else ent v f * ent (nvec c m f) l) - (- sm c (fun f => if pivB m f then 0 else ent v f * ent (rw_ m i) f))) := by
        rw [← sm_neg]
        apply sm_dv_sub
        intro f hf
        by_cases hpf : pivB m f = true
        · rw [if_pos hpf, if_pos hpf]; exact ⟨0, by omega⟩
        · rw [if_neg hpf, if_neg hpf, ← e2, nvec_piv h f hi]
          have h4 := dv_mul (dv_negF (ent (rw_ m i) f)) (ent v f)
          rw [Int.mul_add] at h4
          rw [Int.sub_neg]
          exact h4
      rw [h2] at h1
      obtain ⟨p, hp1⟩ := h1
      obtain ⟨q, hq1⟩ := h3
      exact ⟨p - q, by rw [Int.mul_sub]; omega⟩
    · have hp' : pivB m l = false := by simpa using hp
      have e3 : sm c (fun f => if pivB m f then 0 else ent v f * ent (nvec c m f) l) = ent v l := by
        rw [sm_one (j := l) hlc]
        · rw [hp', nvec_rest h hlc (pivB_no h hp'), if_pos rfl]
          simp
        · intro f hf hne
          by_cases hpf : pivB m f = true
          · rw [if_pos hpf]
          · rw [if_neg hpf, nvec_rest h hf (pivB_no h hp'), if_neg (fun e => hne e.symm), Int.mul_zero]
      rw [e3]
      exact dv_refl _
  · have e3 : sm c (fun f => if pivB m f then 0 else ent v f * ent (nvec c m f) l) = 0 := by
      apply sm_zero
      intro f hf
      split
      · rfl
      · rw [ent_out (r := nvec c m f) (by rw [(nvec_row h.mtx f).1]; exact hlc), Int.mul_zero]
    rw [e3, ent_out (by rw [hv.1]; exact hlc)]
    exact dv_refl _
theorem null_all {c : Nat} {m : List (List Int)} {P : Nat → Nat} (h : Red c m P) {r : List Int} (hr : r ∈ nullZ c m) : ∀ i, i < m.length → Dv (ipd c (rw_ m i) r) := by
  obtain ⟨f, hf, rfl⟩ := List.mem_map.1 hr
  obtain ⟨h1, h2⟩ := freeZ_mem.1 hf
  intro i hi
  exact null_orth h h1 (pivB_no h h2) hi
/-- A vector is in the orthogonal space if and only if it is orthogonal to all rows. -/
theorem null_iff {c : Nat} {m : List (List Int)} {P : Nat → Nat} (h : Red c m P) {v : List Int} (hv : Row c v) : InS (nullZ c m) v ↔ ∀ i, i < m.length → Dv (ipd c (rw_ m i) v) := by
  constructor
  · intro hs i hi
    rw [ipd_comm]
    refine orth_span (fun j hj => ?_) hs
    rw [ipd_comm]
    exact null_all h (rw_mem hj) i hi
  · exact null_span h hv
theorem null_span_same {c : Nat} {m : List (List Int)} (hm : Mtx c m) (hc : c ≤ 40) : Same (nullZ c m) (spanZ c (nullZ c m)) := by
  have h := span_same c (nullZ c m)
  rw [List.filter_eq_self.2 (fun r hr => mrowB_yes (nullZ_row hm r hr) hc)] at h
  exact h
def orthZ (c : Nat) (m : List (List Int)) : List (List Int) := spanZ c (nullZ c m)
theorem orth_iff {c : Nat} {m : List (List Int)} {P : Nat → Nat} (h : Red c m P) (hc : c ≤ 40) {v : List Int} (hv : Row c v) : InS (orthZ c m) v ↔ ∀ i, i < m.length → Dv (ipd c (rw_ m i) v) :=
  ((null_span_same h.mtx hc).span (v := v)).symm.trans (null_iff h hv)
theorem orth_red (c : Nat) (m : List (List Int)) : ∃ P, Red c (orthZ c m) P := span_red _ _
/-- With a row there are fewer free columns than columns. -/
theorem free_lt {c : Nat} {m : List (List Int)} {P : Nat → Nat} (h : Red c m P) (h0 : 0 < m.length) : (freeZ c m).length < c := by
  have hp : pivB m (P 0) = true := (pivB_iff h _).2 ⟨0, h0, rfl⟩
  have h1 : (freeZ c m).length < (List.range c).length := by
    unfold freeZ
    apply List.length_filter_lt_length_iff_exists.2
    exact ⟨P 0, List.mem_range.2 (h.low 0 h0), by simp [hp]⟩
  rw [List.length_range] at h1
  exact h1
theorem orth_lt {c : Nat} {m : List (List Int)} {P : Nat → Nat} (h : Red c m P) (hc : c ≤ 40) (h0 : 0 < m.length) : (orthZ c m).length < c := by
  have h1 := free_lt h h0
  have h2 := (innAll_len (nullZ_row h.mtx) _ (Nat.le_refl _)).1
  rw [List.take_length] at h2
  have h3 : orthZ c m = insAll (nullZ c m) := by
    unfold orthZ spanZ
    rw [List.filter_eq_self.2 (fun r hr => mrowB_yes (nullZ_row h.mtx r hr) hc)]
  have h4 : (nullZ c m).length = (freeZ c m).length := by unfold nullZ; rw [List.length_map]
  rw [h3]
  omega

/-- The rows of a generation's space: unit vectors ahead of the symbols. -/
def genZ (m : List (List Int)) : List (List Int) := m.mapIdx fun i s => unitV m.length i ++ s
theorem genZ_len (m : List (List Int)) : (genZ m).length = m.length := by unfold genZ; rw [List.length_mapIdx]
theorem genZ_at {m : List (List Int)} {i : Nat} {s : List Int} (h : m[i]? = some s) : (genZ m)[i]? = some (unitV m.length i ++ s) := by
  unfold genZ
  rw [List.getElem?_mapIdx, h]
  rfl
theorem genZ_row {m : List (List Int)} {i : Nat} (h : i < m.length) : rw_ (genZ m) i = unitV m.length i ++ rw_ m i := rw_in (genZ_at (rw_get h))
theorem ent_app_left {a b : List Int} {k : Nat} (h : k < a.length) : ent (a ++ b) k = ent a k := by
  unfold ent
  rw [List.getD_eq_getElem?_getD, List.getD_eq_getElem?_getD, List.getElem?_append_left h]
theorem ent_app_right (a b : List Int) (k : Nat) : ent (a ++ b) (a.length + k) = ent b k := by
  unfold ent
  rw [List.getD_eq_getElem?_getD, List.getD_eq_getElem?_getD, List.getElem?_append_right (by omega), Nat.add_sub_cancel_left]
theorem unitV_bd {n i : Nat} : ∀ x ∈ unitV n i, 0 ≤ x ∧ x ≤ 1018 := by
  intro x hx
  unfold unitV at hx
  rcases List.mem_or_eq_of_mem_set hx with h | h
  · rw [(List.mem_replicate.1 h).2]; omega
  · omega
theorem genZ_mtx {w : Nat} {m : List (List Int)} (h : Mtx w m) : Mtx (m.length + w) (genZ m) := by
  apply mtx_of
  intro i hi
  rw [genZ_len] at hi
  rw [genZ_row hi]
  obtain ⟨h1, h2⟩ := mtx_row h hi
  refine ⟨by rw [List.length_append, unitV_len, h1], fun x hx => ?_⟩
  rcases List.mem_append.1 hx with h3 | h3
  · exact unitV_bd x h3
  · exact h2 x h3
theorem genZ_ent {m : List (List Int)} {i k : Nat} (hi : i < m.length) (hk : k < m.length) : ent (rw_ (genZ m) i) k = if k = i then 1 else 0 := by
  rw [genZ_row hi, ent_app_left (by rw [unitV_len]; exact hk)]
  exact ent_in (unitV_at hk)
theorem genZ_red {w : Nat} {m : List (List Int)} (h : Mtx w m) : Red (m.length + w) (genZ m) (fun i => i) where
  mtx := genZ_mtx h
  tle := Nat.le_refl _
  low := fun i hi => by rw [genZ_len] at hi; omega
  one := fun i hi => by rw [genZ_len] at hi; rw [genZ_ent hi hi, if_pos rfl]
  lead := fun i hi l hl => by rw [genZ_len] at hi; rw [genZ_ent hi (by omega), if_neg (by omega)]
  col := fun i hi j hj hne => by rw [genZ_len] at hi hj; rw [genZ_ent hj hi, if_neg (Ne.symm hne)]
  mono := fun i j h1 _ => h1
  rest := fun i h1 h2 => by omega
theorem genZ_span {w : Nat} {m : List (List Int)} (h : Mtx w m) (hc : m.length + w ≤ 40) : spanZ (m.length + w) (genZ m) = genZ m := span_id (genZ_red h) hc
theorem genZ_free {w : Nat} {m : List (List Int)} (h : Mtx w m) (hw : 0 < w) : pivB (genZ m) m.length = false := by
  cases hp : pivB (genZ m) m.length
  · rfl
  · obtain ⟨i, hi, e⟩ := (pivB_iff (genZ_red h) _).1 hp
    rw [genZ_len] at hi
    omega
/-- The space orthogonal to a generation is not empty. -/
theorem genZ_orth {w : Nat} {m : List (List Int)} (h : Mtx w m) (hw : 0 < w) (hc : m.length + w ≤ 40) : 0 < (orthZ (m.length + w) (genZ m)).length := by
  rcases Nat.eq_zero_or_pos (orthZ (m.length + w) (genZ m)).length with h0 | h0
  · exfalso
    have hf : m.length ∈ freeZ (m.length + w) (genZ m) := freeZ_mem.2 ⟨by omega, genZ_free h hw⟩
    have hin : InS (nullZ (m.length + w) (genZ m)) (nvec (m.length + w) (genZ m) m.length) := InS.mem (List.mem_map.2 ⟨_, hf, rfl⟩)
    have hin2 := ((null_span_same (genZ_mtx h) hc).span).1 hin
    obtain ⟨cs, hcs⟩ := hin2
    have h1 := hcs m.length
    have h2 : sm (spanZ (m.length + w) (nullZ (m.length + w) (genZ m))).length (fun i => cs i * ent (rw_ (spanZ (m.length + w) (nullZ (m.length + w) (genZ m))) i) m.length) = 0 := by
      show sm (orthZ (m.length + w) (genZ m)).length _ = 0
      rw [h0]; rfl
    rw [h2, nvec_rest (genZ_red h) (by omega) (pivB_no (genZ_red h) (genZ_free h hw)), if_pos rfl] at h1
    obtain ⟨q, hq⟩ := h1
    omega
  · exact h0
end Go.Proofs.YtjaagabbbnokdaaGreat

namespace Go.Proofs.YtjaagabbbnokdaaGreat
set_option linter.unusedVariables false
set_option maxRecDepth 100000

def npB (k : Nat) (r : List Int) : Bool := !(leadV r == (k : Int))
theorem pivB_all (m : List (List Int)) (k : Nat) : pivB m k = !(m.all (npB k)) := by
  unfold pivB
  induction m with
  | nil => rfl
  | cons a l ih =>
    rw [List.any_cons, List.all_cons, ih]
    unfold npB
    cases (leadV a == (k : Int)) <;> simp
/-- The free columns as numbers of the program. -/
def fiZ (c : Nat) (m : List (List Int)) : List Int := (freeZ c m).map fun (k : Nat) => (k : Int)
theorem fiZ_len (c : Nat) (m : List (List Int)) : (fiZ c m).length = (freeZ c m).length := by simp [fiZ]
theorem fiZ_yes {m : List (List Int)} {k : Nat} (h : pivB m k = true) : fiZ (k + 1) m = fiZ k m := by unfold fiZ; rw [free_step_yes h]
theorem fiZ_no {m : List (List Int)} {k : Nat} (h : pivB m k = false) : fiZ (k + 1) m = fiZ k m ++ [(k : Int)] := by unfold fiZ; rw [free_step_no h]; simp
theorem fiZ_at {c : Nat} {m : List (List Int)} {j f : Nat} (h : (freeZ c m)[j]? = some f) : (fiZ c m)[j]? = some (f : Int) := by simp [fiZ, h]
theorem nullZ_at {c : Nat} {m : List (List Int)} {j f : Nat} (h : (freeZ c m)[j]? = some f) : (nullZ c m)[j]? = some (nvec c m f) := by simp [nullZ, h]
theorem nullZ_len (c : Nat) (m : List (List Int)) : (nullZ c m).length = (freeZ c m).length := by simp [nullZ]
theorem nvK_zero (c : Nat) (m : List (List Int)) (f : Nat) : nvK c m f 0 = (List.replicate c 0).set f 1 := rfl
theorem nvK_step {c : Nat} {m : List (List Int)} {P : Nat → Nat} (h : Red c m P) {k : Nat} (hk : k < m.length) (f : Nat) : (nvK c m f k).set (P k) (negF (ent (rw_ m k) f)) = nvK c m f (k + 1) := by
  show _ = (nvK c m f k).set (lead (rw_ m k)) (negF (ent (rw_ m k) f))
  rw [h.lead_eq hk]
theorem nvec_eq (c : Nat) (m : List (List Int)) (f : Nat) : nvec c m f = nvK c m f m.length := rfl
/-- Which row has its pivot in a column; -1: none. -/
def pvK (c : Nat) (m : List (List Int)) : Nat → List Int
  | 0 => List.replicate c (-1)
  | k + 1 => (pvK c m k).set (lead (rw_ m k)) (k : Int)
theorem pvK_len (c : Nat) (m : List (List Int)) : ∀ k, (pvK c m k).length = c
  | 0 => by simp [pvK]
  | k + 1 => by unfold pvK; rw [List.length_set]; exact pvK_len c m k
theorem pvK_step {c : Nat} {m : List (List Int)} {P : Nat → Nat} (h : Red c m P) {k : Nat} (hk : k < m.length) : (pvK c m k).set (P k) (k : Int) = pvK c m (k + 1) := by
  show _ = (pvK c m k).set (lead (rw_ m k)) (k : Int)
  rw [h.lead_eq hk]
theorem pvK_at {c : Nat} {m : List (List Int)} {P : Nat → Nat} (h : Red c m P) : ∀ k, k ≤ m.length → ∀ i, i < k → ent (pvK c m k) (P i) = (i : Int)
  | 0, _, i, hi => by omega
  | k + 1, hk, i, hi => by
    rw [← pvK_step h (show k < m.length by omega), ent_set _ _ _ _ (by rw [pvK_len]; exact h.low k (by omega))]
    by_cases e : i = k
    · subst e; rw [if_pos rfl]
    · rw [if_neg (fun e2 => by have := h.mono i k (by omega) (by omega); omega)]
      exact pvK_at h k (by omega) i (by omega)
theorem pvK_rest {c : Nat} {m : List (List Int)} {P : Nat → Nat} (h : Red c m P) {l : Nat} (hl : l < c) : ∀ k, k ≤ m.length → (∀ i, i < k → P i ≠ l) → ent (pvK c m k) l = -1
  | 0, _, _ => by
    have : (List.replicate c (-1 : Int))[l]? = some (-1) := by simp [hl]
    exact ent_in this
  | k + 1, hk, hn => by
    rw [← pvK_step h (show k < m.length by omega), ent_set _ _ _ _ (by rw [pvK_len]; exact h.low k (by omega)), if_neg (fun e => hn k (by omega) e.symm)]
    exact pvK_rest h hl k (by omega) (fun i hi => hn i (by omega))
/-- The row whose pivot is in column l, or -1. -/
theorem pv_cases {c : Nat} {m : List (List Int)} {P : Nat → Nat} (h : Red c m P) {l : Nat} (hl : l < c) :
    (pivB m l = true ∧ ∃ i, i < m.length ∧ P i = l ∧ ent (pvK c m m.length) l = (i : Int)) ∨ (pivB m l = false ∧ ent (pvK c m m.length) l = -1 ∧ ∀ i, i < m.length → P i ≠ l) := by
  cases hp : pivB m l
  · exact .inr ⟨rfl, pvK_rest h hl _ (Nat.le_refl _) (pivB_no h hp), pivB_no h hp⟩
  · obtain ⟨i, hi, e⟩ := (pivB_iff h l).1 hp
    refine .inl ⟨rfl, i, hi, e, ?_⟩
    rw [← e]
    exact pvK_at h _ (Nat.le_refl _) i hi
/-- The vector of a free column, its first j numbers laid. -/
def vJ (c : Nat) (m : List (List Int)) (f j : Nat) : List Int := mixK' (unitV c f) (nvec c m f) j
where mixK' (xs zs : List Int) (k : Nat) : List Int := zs.take k ++ xs.drop k
theorem vJ_len (c : Nat) (m : List (List Int)) (f j : Nat) : (vJ c m f j).length = c := by
  unfold vJ vJ.mixK'
  rw [List.length_append, List.length_take, List.length_drop, unitV_len, nvec_eq, nvK_len]
  omega
theorem vJ_zero (c : Nat) (m : List (List Int)) (f : Nat) : vJ c m f 0 = unitV c f := by simp [vJ, vJ.mixK']
theorem vJ_all (c : Nat) (m : List (List Int)) (f : Nat) : vJ c m f c = nvec c m f := by
  unfold vJ vJ.mixK'
  have h : (nvec c m f).length = c := by rw [nvec_eq, nvK_len]
  rw [List.take_of_length_le (by omega), List.drop_eq_nil_of_le (by rw [unitV_len]; exact Nat.le_refl _), List.append_nil]
theorem vJ_step (c : Nat) (m : List (List Int)) (f : Nat) {j : Nat} (hj : j < c) : (vJ c m f j).set j (ent (nvec c m f) j) = vJ c m f (j + 1) := by
  have hl : (nvec c m f).length = c := by rw [nvec_eq, nvK_len]
  apply List.ext_getElem?
  intro i
  by_cases e : i = j
  · subst e
    rw [List.getElem?_set_self (by rw [vJ_len]; omega)]
    unfold vJ vJ.mixK'
    rw [List.getElem?_append_left (by rw [List.length_take]; omega), List.getElem?_take, if_pos (by omega), ent_get (by omega)]
  · rw [List.getElem?_set_ne (Ne.symm e)]
    unfold vJ vJ.mixK'
    rcases Nat.lt_or_ge i j with h | h
    · rw [List.getElem?_append_left (by rw [List.length_take]; omega), List.getElem?_append_left (by rw [List.length_take]; omega), List.getElem?_take, List.getElem?_take, if_pos h, if_pos (by omega)]
    · rw [List.getElem?_append_right (by rw [List.length_take]; omega), List.getElem?_append_right (by rw [List.length_take]; omega), List.length_take, List.length_take, List.getElem?_drop, List.getElem?_drop]
      congr 1
      omega
theorem vJ_at (c : Nat) (m : List (List Int)) (f : Nat) {j : Nat} (hj : j < c) : (vJ c m f j)[j]? = some (ent (unitV c f) j) := by
  have hl : (nvec c m f).length = c := by rw [nvec_eq, nvK_len]
  unfold vJ vJ.mixK'
  rw [List.getElem?_append_right (by rw [List.length_take]; omega), List.length_take, List.getElem?_drop, show j + (j - min j (nvec c m f).length) = j by omega]
  exact ent_get (by rw [unitV_len]; exact hj)
theorem vJ_piv {c : Nat} {m : List (List Int)} {P : Nat → Nat} (h : Red c m P) (f : Nat) {j i : Nat} (hj : j < c) (hi : i < m.length) (e : P i = j) : (vJ c m f j).set j (negF (ent (rw_ m i) f)) = vJ c m f (j + 1) := by
  rw [← vJ_step c m f hj]
  congr 1
  rw [← e]
  exact (nvec_piv h f hi).symm
theorem vJ_free {c : Nat} {m : List (List Int)} {P : Nat → Nat} (h : Red c m P) {f j : Nat} (hf : f < c) (hj : j < c) (hn : ∀ i, i < m.length → P i ≠ j) : vJ c m f (j + 1) = vJ c m f j := by
  rw [← vJ_step c m f hj, nvec_rest h hf hn]
  apply List.ext_getElem?
  intro i
  by_cases e : i = j
  · subst e
    rw [List.getElem?_set_self (by rw [vJ_len]; omega), vJ_at c m f hj, ent_in (unitV_at (i := f) hj)]
  · rw [List.getElem?_set_ne (Ne.symm e)]
/-- The rows of the identity. -/
def idZ (c : Nat) : List (List Int) := (List.range c).map fun f => unitV c f
theorem idZ_at {c f : Nat} (h : f < c) : (idZ c)[f]? = some (unitV c f) := by simp [idZ, h]
theorem idZ_len (c : Nat) : (idZ c).length = c := by simp [idZ]
theorem null_nil (c : Nat) : nullZ c [] = idZ c := by
  have e : freeZ c [] = List.range c := by
    unfold freeZ
    rw [List.filter_eq_self]
    intro k _
    rfl
  unfold nullZ idZ
  rw [e]
  rfl
end Go.Proofs.YtjaagabbbnokdaaGreat

namespace Go.Proofs.YtjaagabbbnokdaaGreat
open Go.ChangeShapes Go.WideShapes Go.ChangeAt Go.RowKit
set_option linter.unusedVariables false
set_option maxRecDepth 100000

theorem span_stepF {c : Nat} {vs : List (List Int)} {k : Nat} {v : List Int} (hx : vs[k]? = some v) : spanZ c (vs.take (k + 1)) = insF c (spanZ c (vs.take k)) v := by
  unfold insF
  cases h : mrowB c v
  · rw [span_no hx h]; rfl
  · rw [span_yes hx h, if_pos rfl]
set_option maxHeartbeats 4000000 in
theorem spanS (v : Value) (vs : List (List Int)) (c : Nat) (w : World) (hv : RII w v vs) (hc : c ≤ 40) :
    Calls Tryz.prog 69 #[v, .int .i64 (c : Int)] w fun e w' => ∃ r, e = .returned (.agg #[.int .i64 (c : Int), r]) ∧ ML w' w.heap.size r (spanZ c vs) ∧ Bel w w' := by
  obtain ⟨A, cp, rfl, h2, h3, hA⟩ := id hv
  have R0 := Blk.new w 40 #[.int .i64 0, .slice none 0 0]
  have Y0 : Bel w (w.alloc (.cells #[.int .i64 0, .slice none 0 0] 40)) := (Bel.refl _).alloc _
  go_enter Tryz.func69, Tryz.ntmps69
  go_wp2_with fail
  refine (newBS c _ hc).mono ?_
  rintro e w1 ⟨rfl, hb1⟩
  have R1 := (hb1.keep R0).alloc (.cells #[.int .i64 (c : Int), .slice none 0 0] 40)
  have B1 := Blk.new w1 40 #[.int .i64 (c : Int), .slice none 0 0]
  have Y1 := (Y0.trans hb1).alloc (.cells #[.int .i64 (c : Int), .slice none 0 0] 40)
  have sz1 := (hb1.keep R0).lt
  obtain ⟨pb, hpb⟩ : ∃ pb, pb = w1.heap.size := ⟨_, rfl⟩
  rw [← hpb] at B1 sz1
  go_wp2
  rw [← hpb]
  clear hpb
  go_loopg [6] vs.length (fun f i wr => ∃ (k : Nat) (o : Value), k + f = vs.length ∧ i = .int .i64 k ∧ Blk wr w.heap.size 40 #[.int .i64 0, .slice none 0 0] ∧ Blk wr pb 40 #[.int .i64 (c : Int), o] ∧ ML wr (pb + 1) o (spanZ c (vs.take k)) ∧ Bel w wr)
  case atStart => exact ⟨0, _, by omega, rfl, R1, B1, ML.nil _ _, Y1⟩
  case round =>
    clear R0 R1 B1 Y0 Y1
    obtain ⟨k, o, hk, rfl, R, B, O, Y⟩ := hrel
    have hk2 : k ≤ vs.length := by omega
    have HK := Lib.hid hk
    clear hk
    by_cases hlt : k < vs.length
    · obtain ⟨b1, o1, rfl, z1, hc1⟩ := hA (by omega)
      have hx : Hid (vs[k]? = some (vs[k]'hlt)) := List.getElem?_eq_getElem hlt
      obtain ⟨u, g1, ru⟩ := hc1 k _ hx.out
      replace g1 := Y.cell1 z1 g1
      have z1' := Nat.lt_of_lt_of_le z1 Y.size
      have RU := Lib.hid (ru.keep Y)
      generalize vs[k]'hlt = xs at *
      have HST := Lib.hid (span_stepF (c := c) hx.out)
      obtain ⟨P, hP⟩ := span_red c (vs.take k)
      have HP := Lib.hid hP
      clear hP hc1 hA ru
      have i0 : (0 : Int) ≤ (k : Int) := by omega
      have i1 : (k : Int) < (vs.length : Int) := by omega
      have qb := B.lt
      obtain ⟨cb, fb, zb⟩ := B.facts
      have r0 : wr.cell? ⟨pb, 0, none⟩ = some (.int .i64 (c : Int)) := cb 0
      have r1 : wr.cell? ⟨pb, 1, none⟩ = some o := cb 1
      clear cb fb
      generalize spanZ c (vs.take k) = m at *
      obtain ⟨Ao, co, eo, _, _⟩ := O.shape
      subst eo
      have Yd := (Bel.refl wr).drew
      have RM := Lib.hid O.reads
      go_wp2_with fail
      refine (l1In_yes (c : Int) 0 40 _ (by omega) (by omega)).mono ?_
      rintro e w2 ⟨rfl, rfl⟩
      go_wp2_with fail
      go_region_held3 (fun w' => w'.cell? ⟨pb, 0, none⟩ = some (.int .i64 (c : Int)) ∧ w'.cell? ⟨pb, 1, none⟩ = some (.slice Ao m.length co) ∧ w'.cell? ⟨b1, o1 + k, none⟩ = some u) (first | exact ⟨YE.cell1 zb r0, YE.cell1 zb r1, YE.cell1 z1' g1⟩ | exact ⟨(YE.alloc _).cell1 zb r0, (YE.alloc _).cell1 zb r1, (YE.alloc _).cell1 z1' g1⟩ | exact ⟨YS.cell1 zb r0, YS.cell1 zb r1, YS.cell1 z1' g1⟩ | go_keep) (first
        | (go_at_call 101; refine (insVS c _ _ m xs P _ (RM.out.keep Yd) (RU.out.keep Yd) HP.out hc).mono ?_; rintro e wE ⟨r, rfl, Oe, hbE⟩; obtain ⟨Ae, ce, ee, _, _⟩ := Oe.shape; subst ee; have YE : Bel wr wE := Yd.trans hbE)
        | (go_at_call 101; refine (insVS c _ _ m xs P _ (RM.out.keep ((Bel.refl wr).alloc _).drew) (RU.out.keep ((Bel.refl wr).alloc _).drew) HP.out hc).mono ?_; rintro e wE ⟨r, rfl, Oe, hbE⟩; obtain ⟨Ae, ce, ee, _, _⟩ := Oe.shape; subst ee; have YE : Bel wr wE := (((Bel.refl wr).alloc _).drew).trans hbE; have XZ : Blk wE wr.heap.size 40 #[.int .i64 0, .slice none 0 0] := hbE.keep (Blk.new wr _ _).drew; have cq0 := XZ.facts.1 0; have cq1 := XZ.facts.1 1; have fq0 := XZ.facts.2.1 0; have fq1 := XZ.facts.2.1 1; have YS := (YE.setCell (p := ⟨wr.heap.size, 0, none⟩) (Nat.le_refl _) (.int .i64 (c : Int))).setCell (p := ⟨wr.heap.size, 1, none⟩) (Nat.le_refl _) (.slice Ae (insF c m xs).length ce)))
      all_goals (
        first
        | (have XE : Blk ((wE.setCell ⟨wr.heap.size, 0, none⟩ (.int .i64 (c : Int))).setCell ⟨wr.heap.size, 1, none⟩ (.slice Ae (insF c m xs).length ce)) wr.heap.size 40 #[.int .i64 (c : Int), .slice Ae (insF c m xs).length ce] := (XZ.set 0 (.int .i64 (c : Int))).set 1 (.slice Ae (insF c m xs).length ce)
           have RE := ((YE.keep R).far (p := ⟨wr.heap.size, 0, none⟩) (by have := R.lt; dsimp only; omega) (.int .i64 (c : Int))).far (p := ⟨wr.heap.size, 1, none⟩) (by have := R.lt; dsimp only; omega) (.slice Ae (insF c m xs).length ce)
           have BE := ((YE.keep B).far (p := ⟨wr.heap.size, 0, none⟩) (by dsimp only; omega) (.int .i64 (c : Int))).far (p := ⟨wr.heap.size, 1, none⟩) (by dsimp only; omega) (.slice Ae (insF c m xs).length ce)
           have YF := Y.trans YS
           have OE := ((((Oe.low (show wr.heap.size + 1 ≤ _ by simp)).setFar (p := ⟨wr.heap.size, 0, none⟩) (by dsimp only; omega) (.int .i64 (c : Int))).setFar (p := ⟨wr.heap.size, 1, none⟩) (by dsimp only; omega) (.slice Ae (insF c m xs).length ce)).low (show pb + 1 ≤ _ by omega))
           clear cq0 cq1 fq0 fq1 XZ YS YE hbE Oe
           generalize ((wE.setCell ⟨wr.heap.size, 0, none⟩ (.int .i64 (c : Int))).setCell ⟨wr.heap.size, 1, none⟩ (.slice Ae (insF c m xs).length ce)) = wF at *
           generalize wr.heap.size = xb at *)
        | (have XE := Blk.new wE 40 #[.int .i64 (c : Int), .slice Ae (insF c m xs).length ce]
           have RE := (YE.keep R).alloc (.cells #[.int .i64 (c : Int), .slice Ae (insF c m xs).length ce] 40)
           have BE := (YE.keep B).alloc (.cells #[.int .i64 (c : Int), .slice Ae (insF c m xs).length ce] 40)
           have YF := (Y.trans YE).alloc (.cells #[.int .i64 (c : Int), .slice Ae (insF c m xs).length ce] 40)
           have OE := (Oe.low (show pb + 1 ≤ _ from qb)).keep ((Bel.refl wE).alloc (.cells #[.int .i64 (c : Int), .slice Ae (insF c m xs).length ce] 40))
           clear YE hbE Oe
           generalize wE.alloc (.cells #[.int .i64 (c : Int), .slice Ae (insF c m xs).length ce] 40) = wF at *
           generalize wE.heap.size = xb at *)
        rw [← HST.out] at XE OE
        (try rw [← HST.out])
        obtain ⟨cx, fx, zx⟩ := XE.facts
        obtain ⟨cb, fb, zbE⟩ := BE.facts
        have q0 := cx 0
        have q1 := cx 1
        clear r0 r1 g1 cx
        have R3 := (RE.far (p := ⟨pb, 0, none⟩) (by dsimp only; omega) (.int .i64 (c : Int))).far (p := ⟨pb, 1, none⟩) (by dsimp only; omega) (.slice Ae (spanZ c (vs.take (k + 1))).length ce)
        have B3 := (BE.set 0 (.int .i64 (c : Int))).set 1 (.slice Ae (spanZ c (vs.take (k + 1))).length ce)
        have O3 := (OE.setFar (p := ⟨pb, 0, none⟩) (by dsimp only; omega) (.int .i64 (c : Int))).setFar (p := ⟨pb, 1, none⟩) (by dsimp only; omega) (.slice Ae (spanZ c (vs.take (k + 1))).length ce)
        have Y3 := (YF.setCell (p := ⟨pb, 0, none⟩) (by dsimp only; omega) (.int .i64 (c : Int))).setCell (p := ⟨pb, 1, none⟩) (by dsimp only; omega) (.slice Ae (spanZ c (vs.take (k + 1))).length ce)
        go_wp2
        go_roundg (vs.length - (k + 1))
        case measure => have := HK.out; omega
        case rel => exact ⟨k + 1, _, by omega, by go_num, R3, B3, O3, Y3⟩)
    · obtain rfl : k = vs.length := by omega
      have i1 : ¬ (vs.length : Int) < (vs.length : Int) := by omega
      rw [span_all] at O
      obtain ⟨Ao, co, eo, _, _⟩ := O.shape
      subst eo
      obtain ⟨cb, fb, zb⟩ := B.facts
      obtain ⟨cr, fr, zr⟩ := R.facts
      have Y3 : Bel w ((wr.setCell ⟨w.heap.size, 0, none⟩ (.int .i64 (c : Int))).setCell ⟨w.heap.size, 1, none⟩ (.slice Ao (spanZ c vs).length co)) := (Y.setCell (p := ⟨w.heap.size, 0, none⟩) (Nat.le_refl _) _).setCell (p := ⟨w.heap.size, 1, none⟩) (Nat.le_refl _) _
      have O3 := (O.setFar (p := ⟨w.heap.size, 0, none⟩) (by dsimp only; omega) (.int .i64 (c : Int))).setFar (p := ⟨w.heap.size, 1, none⟩) (by dsimp only; omega) (.slice Ao (spanZ c vs).length co)
      go_wp2
      refine bodyPost_ret (v := .agg #[.int .i64 (c : Int), .slice Ao (spanZ c vs).length co]) (by simp [results, Tryz.results69, go_sem, cr]) rfl ⟨_, rfl, ML.low O3 (by omega), Y3⟩
end Go.Proofs.YtjaagabbbnokdaaGreat

namespace Go.Proofs.YtjaagabbbnokdaaGreat
open Go.ChangeShapes Go.WideShapes Go.ChangeAt Go.RowKit
set_option linter.unusedVariables false
set_option maxRecDepth 100000

set_option maxHeartbeats 1000000 in
theorem fcC (k : Nat) (v : Value) (q : Addr) (xs : List Int) (w : World) (hq : q.spot = none) (hv : RI w v xs) (hc : w.cell? ⟨q.block, q.off, none⟩ = some (.int .i64 (k : Int))) (hb : q.block < w.heap.size) :
    Calls Tryz.prog 129 #[v, .pointer (some q)] w fun e w' => e = .returned (.bool (leadV xs == (k : Int))) ∧ Bel w w' := by
  obtain ⟨qb, qo, qs⟩ := q
  dsimp only at *
  subst hq
  go_enter Tryz.func129, Tryz.ntmps129
  go_wp2
  have qq := Bw.cell hc hb
  refine wp_region_bel (by kernel_rfl) (by kernel_rfl) ?_
  repeat (first | go_big_quiet_step (first | (go_at_call 61; exact belQ_same (leadI v xs _ (hv.keep (Bw.bel _))))) | quiet_step (first | (go_at_call 61; exact belQ_same (leadI v xs _ (hv.keep (Bw.bel _))))))
  refine wpQuiet_nil ?_
  rintro w3 ⟨⟨_, hb3⟩, rfl⟩
  clear qq
  go_wp2
  go_ret
  exact ⟨rfl, hb3⟩
set_option maxHeartbeats 1000000 in
theorem fcIdx (k : Nat) (v : Value) (q : Addr) (xss : List (List Int)) (w : World) (hv : RII w v xss) (hq : q.spot = none) (hc : w.cell? ⟨q.block, q.off, none⟩ = some (.int .i64 (k : Int))) (hb : q.block < w.heap.size) :
    Calls Tryz.prog 89 #[v, .func (.func 129) #[] #[.pointer (some q)]] w fun e w' => (∃ j : Int, e = .returned (.int .i64 j) ∧ decide (0 ≤ j) = pivB xss k) ∧ Bel w w' := by
  obtain ⟨A, cp, rfl, h1, h2, hA⟩ := hv
  have HQ := Lib.hid hc
  clear hc
  go_enter Tryz.func89, Tryz.ntmps89
  go_wp2
  go_loopg [8] xss.length (fun f i wr => ∃ j : Nat, j + f = xss.length ∧ i = .int .i64 j ∧ Bel w wr ∧ Hid ((xss.take j).all (npB k) = true))
  case atStart => exact ⟨0, by omega, rfl, Bel.refl _, by show _ = _; simp⟩
  case round =>
    obtain ⟨j, hk, rfl, Y, HB⟩ := hrel
    have hk2 : j ≤ xss.length := by omega
    have HK := Lib.hid hk
    clear hk
    by_cases hlt : j < xss.length
    · obtain ⟨b1, o1, rfl, z1, hc1⟩ := hA (by omega)
      have hx : Hid (xss[j]? = some (xss[j]'hlt)) := List.getElem?_eq_getElem hlt
      obtain ⟨u, g1, ru⟩ := hc1 j _ hx.out
      generalize xss[j]'hlt = xs at *
      replace g1 := Y.cell1 z1 g1
      clear hc1 hA
      have i0 : (0 : Int) ≤ (j : Int) := by omega
      have i1 : (j : Int) < (xss.length : Int) := by omega
      have HN : Hid (npB k xs = !(leadV xs == (k : Int))) := rfl
      go_wp2_with fail
      refine (fcC k u q xs _ hq (ru.keep Y) (Y.cell1 hb HQ.out) (Nat.lt_of_lt_of_le hb Y.size)).mono ?_
      rintro e w1 ⟨rfl, hb1⟩
      cases hp : (leadV xs == (k : Int))
      · have HF := Lib.hid (all_step (p := npB k) hx.out HB.out (by rw [HN.out, hp]; rfl))
        clear hp
        go_wp2
        go_roundg (xss.length - (j + 1))
        case measure => have := HK.out; omega
        case rel => exact ⟨j + 1, by omega, by go_num, Y.trans hb1, HF⟩
      · have HF := Lib.hid (all_fail (p := npB k) hx.out (by rw [HN.out, hp]; rfl))
        clear hp
        go_wp2
        go_ret
        exact ⟨⟨(j : Int), rfl, by rw [pivB_all, HF.out]; simp⟩, Y.trans hb1⟩
    · obtain rfl : j = xss.length := by omega
      have i1 : ¬ (xss.length : Int) < (xss.length : Int) := by omega
      have HF := Lib.hid (all_end HB.out)
      go_wp2
      go_ret
      exact ⟨⟨-1, rfl, by rw [pivB_all, HF.out]; rfl⟩, Y⟩
set_option maxHeartbeats 400000 in
theorem fcCont (k : Nat) (v : Value) (q : Addr) (xss : List (List Int)) (w : World) (hv : RII w v xss) (hq : q.spot = none) (hc : w.cell? ⟨q.block, q.off, none⟩ = some (.int .i64 (k : Int))) (hb : q.block < w.heap.size) :
    Calls Tryz.prog 48 #[v, .func (.func 129) #[] #[.pointer (some q)]] w fun e w' => e = .returned (.bool (pivB xss k)) ∧ Bel w w' := by
  go_enter Tryz.func48, Tryz.ntmps48
  go_wp2_with fail
  refine (fcIdx k v q xss _ hv hq hc hb).mono ?_
  rintro e w1 ⟨⟨j, rfl, hk⟩, hb1⟩
  go_wp2
  go_ret
  exact ⟨by first | rfl | simp [hk], hb1⟩
set_option maxHeartbeats 2000000 in
theorem fcI (v : Value) (m : List (List Int)) (c : Nat) (w : World) (hv : RII w v m) (hcc : c ≤ 40) :
    Calls Tryz.prog 107 #[v, .int .i64 (c : Int)] w fun e w' => ∃ r, e = .returned r ∧ OI w' w.heap.size r (fiZ c m) ∧ Bel w w' := by
  have hmf : ∀ (fn : Fn) (first cap : Array Value) (w : World), (Instr.makeFunc fn first cap).run Tryz.prog w = .ok (.func fn first cap) w := fun _ _ _ _ => rfl
  have HV := Lib.hid hv
  obtain ⟨A, cp, rfl, _, _, _⟩ := id hv
  clear hv
  have O0 : OI w w.heap.size (.slice none 0 0) (fiZ 0 m) := OI.nil _ _
  go_enter Tryz.func107, Tryz.ntmps107
  go_wp2
  go_loopg [5, 8] c (fun f o i wr => ∃ k : Nat, k + f = c ∧ i = .int .i64 k ∧ OI wr w.heap.size o (fiZ k m) ∧ Bel w wr)
  case atStart => exact ⟨0, by omega, rfl, O0, Bel.refl _⟩
  case round =>
    clear O0
    obtain ⟨k, hk, rfl, O, Y⟩ := hrel
    have hk2 : k ≤ c := by omega
    have HK := Lib.hid hk
    clear hk
    by_cases hlt : k < c
    · have i0 : (0 : Int) ≤ (k : Int) := by omega
      have i1 : (k : Int) < (c : Int) := by omega
      have hlen : (fiZ k m).length ≤ 40 := by rw [fiZ_len]; have := freeZ_len k m; omega
      have Z := Blk.new wr 3 #[.int .i64 (k : Int)]
      have Ya : Bel wr (wr.alloc (.cells #[.int .i64 (k : Int)] 3)) := (Bel.refl wr).alloc _
      have hs := Y.size
      have HZ := Lib.hid (Z.facts.1 0)
      go_wp2_with fail
      refine (fcCont k _ ⟨wr.heap.size, 0, none⟩ m _ (HV.out.keep (Y.trans Ya)) rfl HZ.out Z.lt).mono ?_
      rintro e w2 ⟨rfl, hb2⟩
      have Z2 := hb2.keep Z
      have O2 := (O.keep Ya).keep hb2
      have Y2 := (Y.trans Ya).trans hb2
      cases hp : pivB m k
      · have HF := Lib.hid (fiZ_no hp)
        have cz : w2.cell? ⟨wr.heap.size, 0, none⟩ = some (.int .i64 (k : Int)) := Z2.facts.1 0
        have y2 := Y2.size
        clear hp Z Ya HZ O Y
        go_wp2_with (at_builtin; refine wpList_appI _ rfl _ _ rfl w.heap.size _ _ _ [(k : Int)] rfl rfl (O2.keep ((Bel.refl _).alloc _)) (RI.lit1 _ _ _) (by simp only [List.length_cons, List.length_nil]; omega) (by simp only [World.size_alloc]; omega) ?_)
        intro v4 w4 O4 hG
        have Y4 : Bel w w4 := (Y2.alloc _).grown hG (fun p hp => (O2.block p hp).1)
        rw [← HF.out] at O4
        clear hG
        go_wp2
        go_roundg (c - (k + 1))
        case measure => have := HK.out; omega
        case rel => exact ⟨k + 1, by omega, by go_num, O4, Y4⟩
      · have HF := Lib.hid (fiZ_yes hp)
        rw [← HF.out] at O2
        clear hp
        go_wp2
        go_roundg (c - (k + 1))
        case measure => have := HK.out; omega
        case rel => exact ⟨k + 1, by omega, by go_num, O2, Y2⟩
    · obtain rfl : k = c := by omega
      have i1 : ¬ (k : Int) < (k : Int) := by omega
      go_wp2
      go_ret
      exact ⟨_, rfl, O, Y⟩
theorem subI (x : Int) (w : World) (h : elB x = true) : Calls Tryz.prog 108 #[.int .i64 0, .int .i64 x] w fun e w' => e = .returned (.int .i64 (negF x)) ∧ w = w' := by
  obtain ⟨b1, b2⟩ := elB_facts h
  have HH := Lib.hid h
  have HN : Hid ((1019 - x) % 1019 = negF x) := rfl
  clear h
  have h0 : elB 0 = true := by decide
  go_enter Tryz.func108, Tryz.ntmps108
  go_wp2_with fail
  refine (elI 0 _).mono ?_
  rintro e w1 ⟨rfl, rfl⟩
  rw [h0]
  go_wp2_with fail
  refine (elI x _).mono ?_
  rintro e w1 ⟨rfl, rfl⟩
  rw [HH.out]
  go_wp2
  go_ret
  exact ⟨by rw [← HN.out]; first | rfl | (congr 2; omega), rfl⟩
end Go.Proofs.YtjaagabbbnokdaaGreat

namespace Go.Proofs.YtjaagabbbnokdaaGreat
open Go.ChangeShapes Go.WideShapes Go.ChangeAt Go.RowKit
set_option linter.unusedVariables false
set_option maxRecDepth 100000

set_option maxHeartbeats 4000000 in
theorem nullI (v : Value) (m : List (List Int)) (c : Nat) (P : Nat → Nat) (w : World) (hv : RII w v m) (hR : Red c m P) (hcc : c ≤ 40) :
    Calls Tryz.prog 78 #[v, .int .i64 (c : Int)] w fun e w' => ∃ r, e = .returned r ∧ ML w' w.heap.size r (nullZ c m) ∧ Bel w w' := by
  have HR := Lib.hid hR
  have HV := Lib.hid hv
  obtain ⟨A, cp, rfl, h2, h3, hA⟩ := id hv
  have hml := hR.len_le
  clear hv hR
  go_enter Tryz.func78, Tryz.ntmps78
  go_wp2_with fail
  refine (fcI _ m c _ HV.out hcc).mono ?_
  rintro e w1 ⟨r1, rfl, O1, hb1⟩
  obtain ⟨A1, c1, e1, _, _, hA1⟩ := O1.reads
  subst e1
  have HFL := Lib.hid (freeZ_len c m)
  have HFI := Lib.hid (fiZ_len c m)
  have O10 : ML w1 w1.heap.size (.slice none 0 0) ((nullZ c m).take 0) := ML.nil _ _
  have HNL := Lib.hid (nullZ_len c m)
  have hn40 : (fiZ c m).length ≤ 40 := by rw [HFI.out]; have := HFL.out; omega
  go_wp2
  go_loopg [5, 15] (fiZ c m).length (fun f o i wr => ∃ j : Nat, j + f = (fiZ c m).length ∧ i = .int .i64 j ∧ ML wr w1.heap.size o ((nullZ c m).take j) ∧ Bel w1 wr)
  case atStart => exact ⟨0, by omega, rfl, O10, Bel.refl _⟩
  case round =>
    clear O10 O1
    obtain ⟨j, hk, rfl, O, Y1⟩ := hrel
    have Y := hb1.trans Y1
    have hk2 : j ≤ (fiZ c m).length := by omega
    have HJ := Lib.hid hk
    clear hk
    by_cases hlt : j < (fiZ c m).length
    · have hjf : j < (freeZ c m).length := by rw [← HFI.out]; exact hlt
      obtain ⟨f, hf⟩ : ∃ f, f = (freeZ c m)[j]'hjf := ⟨_, rfl⟩
      have hfx : (freeZ c m)[j]? = some f := by rw [hf]; exact List.getElem?_eq_getElem hjf
      have hfc : f < c := (freeZ_mem.1 (List.mem_of_getElem? hfx)).1
      obtain ⟨b1, o1, rfl, z1, hc1⟩ := hA1 (by omega)
      have g1 := Y1.cell1 z1 (hc1 j _ (fiZ_at hfx))
      have HS := Lib.hid (take_snoc (nullZ_at hfx))
      have hlen : ((nullZ c m).take j).length ≤ 40 := by rw [List.length_take]; omega
      have i0 : (0 : Int) ≤ (j : Int) := by omega
      have i1 : (j : Int) < ((fiZ c m).length : Int) := by omega
      have f0 : (0 : Int) ≤ (f : Int) := by omega
      have f1 : (f : Int) < (c : Int) := by omega
      have hmk := mkInts c (by omega)
      have OV := OI.made wr c (by omega)
      have Yv : Bel wr (wr.alloc (.cells (madeCells #[.int .i64 0] c) 3)) := (Bel.refl wr).alloc _
      have OV1 := OV.store (i := f) hfc 1
      have hz := nvK_zero c m f
      rw [← hz] at OV1
      obtain ⟨g', cap', e', _, zg, _, _, fz, cs⟩ := OV.cells (by simp; omega)
      injection e' with e1 e2 e3
      injection e1 with e1
      injection e1 with e1
      subst e1
      have fz1 := fz f
      have cs1 := cs f 0 (by simp [hfc])
      have Yv1 := Yv.setCell (p := ⟨wr.heap.size, f, none⟩) (Nat.le_refl _) (.int .i64 1)
      have HOK : Hid (∀ W, Bel wr W → ML W w1.heap.size u5 ((nullZ c m).take j)) := Lib.hid (fun W h => O.keep h)
      have HYW : Hid (∀ W, Bel wr W → Bel w W) := Lib.hid (fun W h => Y.trans h)
      have HYW1 : Hid (∀ W, Bel wr W → Bel w1 W) := Lib.hid (fun W h => Y1.trans h)
      have HYS := Lib.hid Y1.size
      generalize madeCells #[.int .i64 0] c = C at *
      have ew : (wr.alloc (.cells C 3)).setCell ⟨wr.heap.size, f, none⟩ (.int .i64 1) = wr.alloc (.cells (C.setIfInBounds f (.int .i64 1)) 3) := World.setCell_alloc_at C 3 wr.heap.size f (.int .i64 1) rfl
      rw [ew] at OV1 Yv1
      clear ew
      obtain ⟨g, hg⟩ : ∃ g, g = wr.heap.size := ⟨_, rfl⟩
      have HG := Lib.hid hg
      have hgw : w1.heap.size ≤ g := by rw [hg]; exact HYS.out
      have HOB : Hid (∀ q, u5.ownBlock = some q → q < g) := Lib.hid (fun q hq => by rw [hg]; exact (O.block q hq).2)
      clear fz cs e2 e3 OV Yv hz hf hfx hc1 O
      go_wp2
      rw [← hg] at OV1 ⊢
      clear cs1 fz1 hmk g1 zg hg
      go_loopg [26] m.length (fun f' i2 wq => ∃ k : Nat, k + f' = m.length ∧ i2 = .int .i64 k ∧ OI wq g (.slice (some ⟨g, 0, none⟩) c c) (nvK c m f k) ∧ Bel wr wq)
      case atStart => exact ⟨0, by omega, rfl, OV1, Yv1⟩
      case round =>
        clear OV1 Yv1
        obtain ⟨k, hk, rfl, OV, YQ⟩ := hrel
        have hk2 : k ≤ m.length := by omega
        have HK := Lib.hid hk
        clear hk
        by_cases hl2 : k < m.length
        · obtain ⟨b2, o2, rfl, z2, hc2⟩ := hA (by omega)
          obtain ⟨u, gu, ru⟩ := hc2 k _ (rw_get hl2)
          have YW := HYW.out _ YQ
          replace gu := YW.cell1 z2 gu
          have RU := Lib.hid (ru.keep YW)
          have hrow := mtx_row HR.out.mtx hl2
          have hrl : (rw_ m k).length = c := hrow.1
          have hlow := HR.out.low k hl2
          have HST := Lib.hid (nvK_step HR.out hl2 f)
          have HEL : Hid (elB (ent (rw_ m k) f) = true) := Lib.hid (elB_yes (ent_bd hrow f))
          have HLV : Hid (leadV (rw_ m k) = (P k : Int)) := Lib.hid (leadV_row HR.out hl2)
          obtain ⟨Au, cu, eu, _, _, hAu⟩ := id ru
          subst eu
          obtain ⟨b3, o3, rfl, z3, hc3⟩ := hAu (by omega)
          have g3 := YW.cell1 z3 (hc3 f _ (ent_get (by omega)))
          have LC : Hid (∀ W, Bel wr W → Calls Tryz.prog 61 #[.slice (some ⟨b3, o3, none⟩) (rw_ m k).length cu] W fun e w' => e = .returned (.int .i64 (P k : Int)) ∧ W = w') := Lib.hid (fun W h => by rw [← HLV.out]; exact leadI _ (rw_ m k) W (RU.out.keep h))
          obtain ⟨g', cap', e', _, zg, _, _, fz, cs⟩ := OV.cells (by rw [nvK_len]; omega)
          injection e' with e1 e2 e3
          injection e1 with e1
          injection e1 with e1
          subst e1
          have fz1 := fz (P k)
          have cs1 := cs (P k) _ (ent_get (by rw [nvK_len]; exact hlow))
          have Yd := (Bel.refl wr).drew
          have OV3 := (OV.keep Yd).store (i := P k) hlow (negF (ent (rw_ m k) f))
          rw [HST.out] at OV3
          have Y3 := (YQ.trans Yd).setCell (p := ⟨g, P k, none⟩) (by rw [← HG.out]; exact Nat.le_refl _) (.int .i64 (negF (ent (rw_ m k) f)))
          have k0 : (0 : Int) ≤ (k : Int) := by omega
          have k1 : (k : Int) < (m.length : Int) := by omega
          have p0 : (0 : Int) ≤ (P k : Int) := by omega
          have p1 : (P k : Int) < (c : Int) := by omega
          have f2 : (f : Int) < ((rw_ m k).length : Int) := by omega
          obtain ⟨x, hxx⟩ : ∃ x, x = ent (rw_ m k) f := ⟨_, rfl⟩
          rw [← hxx] at g3 HEL OV3 Y3
          clear hxx hAu hc2 hc3 e2 e3 fz cs hrow hrl ru OV YQ HLV HST
          go_wp2_with fail
          refine wp_region_still_tail 9 (by kernel_rfl) (by kernel_rfl) ?_
          simp only [List.take_succ_cons, List.take_zero, List.drop_succ_cons, List.drop_zero]
          repeat (first | still_step | (still_call (stillQ (LC.out _ Yd))) | (still_call (stillQ (subI x _ HEL.out))))
          refine wpStill_nil ?_
          go_wp2
          go_roundg (m.length - (k + 1))
          case measure => have := HK.out; omega
          case rel => exact ⟨k + 1, by omega, by go_num, OV3, Y3⟩
        · obtain rfl : k = m.length := by omega
          have k1 : ¬ (m.length : Int) < (m.length : Int) := by omega
          have HNV := Lib.hid (nvec_eq c m f)
          rw [← HNV.out] at OV
          have RX : RIx wr w1.heap.size u5.ownBlock (.slice (some ⟨g, 0, none⟩) c c) (nvec c m f) := (OV.low hgw).rx (fun q hq e => by have hq2 : g = q := Option.some.inj hq; have := HOB.out q e; omega)
          have hnl : (nvec c m f).length = c := by rw [nvec_eq, nvK_len]
          have Ya : Bel wr (wr.alloc (.cells #[.slice (some ⟨g, 0, none⟩) c c] 47)) := (Bel.refl wr).alloc _
          have O2 := (HOK.out _ YQ).keep Ya
          have Y2 := (HYW.out _ YQ).trans Ya
          have Y12 := (HYW1.out _ YQ).trans Ya
          have RX2 := RX.keep Ya
          have zs := Y12.size
          have HO2B := Lib.hid O2.block
          clear RX OV hnl
          go_wp2_with (at_builtin; refine wpList_appR _ rfl _ _ rfl w1.heap.size _ _ _ ((nullZ c m).take j) (nvec c m f) rfl rfl O2 ((Blk.new wr 47 _).facts.1 0) rfl RX2 (by omega) zs ?_)
          intro v6 w6 O6 hG6 ho6
          have Y6 : Bel w1 w6 := Y12.grown hG6 (fun q hq => (HO2B.out q hq).1)
          rw [← HS.out] at O6
          clear hG6 ho6 O2 RX2
          go_wp2
          go_roundg ((fiZ c m).length - (j + 1))
          case measure => have := HJ.out; omega
          case rel => exact ⟨j + 1, by omega, by go_num, O6, Y6⟩
    · obtain rfl : j = (fiZ c m).length := by omega
      have i1 : ¬ ((fiZ c m).length : Int) < ((fiZ c m).length : Int) := by omega
      have HTK : Hid ((nullZ c m).take (fiZ c m).length = nullZ c m) := Lib.hid (List.take_of_length_le (by rw [HNL.out, HFI.out]; exact Nat.le_refl _))
      rw [HTK.out] at O
      go_wp2
      go_ret
      exact ⟨_, rfl, O.low hb1.size, Y⟩
set_option maxHeartbeats 2000000 in
theorem orthI (v : Value) (m : List (List Int)) (c : Nat) (P : Nat → Nat) (w : World) (hv : RII w v m) (hR : Red c m P) (hcc : c ≤ 40) :
    Calls Tryz.prog 37 #[.agg #[.int .i64 (c : Int), v]] w fun e w' => ∃ r, e = .returned (.agg #[.int .i64 (c : Int), r]) ∧ OM w' w.heap.size r (orthZ c m) ∧ Bel w w' := by
  have HR := Lib.hid hR
  have HB := Lib.hid (basB_red hR hcc)
  obtain ⟨A, cp, rfl, h2, h3, hA⟩ := id hv
  have X := (Blk.new w 40 #[.int .i64 (c : Int), .slice A m.length cp]).alloc (.cells #[.int .i64 0, .slice none 0 0] 40)
  have R := Blk.new2 w (.cells #[.int .i64 (c : Int), .slice A m.length cp] 40) 40 #[.int .i64 0, .slice none 0 0]
  have Y : Bel w ((w.alloc (.cells #[.int .i64 (c : Int), .slice A m.length cp] 40)).alloc (.cells #[.int .i64 0, .slice none 0 0] 40)) := ((Bel.refl _).alloc _).alloc _
  have HO : Hid (orthZ c m = spanZ c (nullZ c m)) := rfl
  clear hR
  obtain ⟨cx, _, zx⟩ := X.facts
  go_enter Tryz.func37, Tryz.ntmps37
  go_wp2_with fail
  refine (basI (c : Int) _ m _ (hv.keep Y)).mono ?_
  rintro e w1 ⟨rfl, hb1⟩
  rw [HB.out]
  have X1 := hb1.keep X
  have R1 := hb1.keep R
  have Y1 := Y.trans hb1
  clear cx zx X R Y hb1
  obtain ⟨cx, _, zx⟩ := X1.facts
  have rx0 : w1.cell? ⟨w.heap.size, 0, none⟩ = some (.int .i64 (c : Int)) := cx 0
  have rx1 : w1.cell? ⟨w.heap.size, 1, none⟩ = some (.slice A m.length cp) := cx 1
  clear cx
  have Yd := (Bel.refl w1).drew
  have HV := Lib.hid (hv.keep Y1)
  have sz1 := R1.lt
  go_wp2_with fail
  go_region_held3 (fun w' => w'.cell? ⟨w.heap.size, 0, none⟩ = some (.int .i64 (c : Int)) ∧ w'.cell? ⟨w.heap.size, 1, none⟩ = some (.slice A m.length cp)) (first | exact ⟨YE.cell1 zx rx0, YE.cell1 zx rx1⟩ | exact ⟨YA.cell1 zx rx0, YA.cell1 zx rx1⟩ | go_keep) (first
    | (go_at_call 78; ((with_reducible refine (nullI _ m c _ _ (by exact HV.out.keep Yd) HR.out hcc).mono ?_); rintro e wA ⟨ra, rfl, Oa, hbA⟩; obtain ⟨Aa, ca, ea, _, _⟩ := Oa.shape; subst ea; have YA : Bel w1 wA := Yd.trans hbA))
    | (go_at_call 53; ((with_reducible refine (spanI _ (nullZ c m) c _ (by exact Oa.reads) hcc).mono ?_); rintro e wE ⟨rv, rfl, Oe, hbE⟩; obtain ⟨Ae, ce, ee, _, _, _⟩ := Oe.reads; subst ee; have YE : Bel w1 wE := YA.trans hbE; have RE := YE.keep R1; have cq0 := RE.facts.1 0; have cq1 := RE.facts.1 1; have fq0 := RE.facts.2.1 0; have fq1 := RE.facts.2.1 1)))
  all_goals (
    have cr := RE.facts.1
    have zr := RE.lt
    have YF := Y1.trans YE
    have hlo : w1.heap.size ≤ wA.heap.size := YA.size
    have Y3 := (YF.setCell (p := ⟨w.heap.size + 1, 0, none⟩) (by dsimp only; omega) (.int .i64 (c : Int))).setCell (p := ⟨w.heap.size + 1, 1, none⟩) (by dsimp only; omega) (.slice Ae (spanZ c (nullZ c m)).length ce)
    have O3 := OM.setFar (OM.setFar (OM.low Oe (show w.heap.size + 2 ≤ _ by omega)) (p := ⟨w.heap.size + 1, 0, none⟩) (by dsimp only; omega) (.int .i64 (c : Int))) (p := ⟨w.heap.size + 1, 1, none⟩) (by dsimp only; omega) (.slice Ae (spanZ c (nullZ c m)).length ce)
    go_wp2
    refine bodyPost_ret (v := .agg #[.int .i64 (c : Int), .slice Ae (spanZ c (nullZ c m)).length ce]) (by simp [results, Tryz.results37, go_sem, cr]) rfl ⟨_, rfl, OM.low O3 (by omega), Y3⟩)
end Go.Proofs.YtjaagabbbnokdaaGreat

namespace Go.Proofs.YtjaagabbbnokdaaGreat
open Go.ChangeShapes Go.WideShapes Go.ChangeAt Go.RowKit
set_option linter.unusedVariables false
set_option maxRecDepth 100000

theorem Loc.grown {lo hi : Nat} {P : World → Prop} {w w' : World} {row : Option Nat} (h : Loc lo hi P w) (g : w.grownBy w' row) (hr : ∀ q, row = some q → q < lo ∨ hi ≤ q) : Loc lo hi P w' :=
  ⟨h.1, Nat.le_trans h.2.1 g.size, fun u hu => h.2.2 u (fun k k1 k2 => (hu k k1 k2).trans (g.block k (by have := h.2.1; omega) (fun e => by rcases hr k e.symm with h9 | h9 <;> omega)))⟩
set_option maxHeartbeats 1000000 in
theorem idS (c : Nat) (w : World) (hc : c ≤ 40) :
    Calls Tryz.prog 70 #[.int .i64 (c : Int)] w fun e w' => ∃ r, e = .returned r ∧ ML w' w.heap.size r (idZ c) ∧ Bel w w' := by
  have Y0 : Bel w (w.alloc (.cells #[] 47)) := (Bel.refl _).alloc _
  have hcI : (c : Int) ≤ 40 := by omega
  go_enter Tryz.func70, Tryz.ntmps70
  go_wp2
  go_loopg [3, 4] c (fun f o i wr => ∃ k : Nat, k + f = c ∧ i = .int .i64 k ∧ ML wr w.heap.size o ((idZ c).take k) ∧ Bel w wr)
  case atStart => exact ⟨0, by omega, rfl, ML.empty w, Y0⟩
  case round =>
    clear Y0
    obtain ⟨k, hk, rfl, O, Y⟩ := hrel
    have hk2 : k ≤ c := by omega
    have HK := Lib.hid hk
    clear hk
    by_cases hlt : k < c
    · have HS := Lib.hid (take_snoc (idZ_at hlt))
      have hlen : ((idZ c).take k).length ≤ 40 := by rw [List.length_take]; omega
      have i0 : (0 : Int) ≤ (k : Int) := by omega
      have i1 : (k : Int) < (c : Int) := by omega
      have y2 := Y.size
      go_wp2_with fail
      refine (unitS c k _ hc hlt).mono ?_
      rintro e w2 ⟨r2, rfl, O2, hb2⟩
      obtain ⟨A2, c2, e2, _, _, _⟩ := O2.reads
      subst e2
      have O3 := (O.keep hb2).keep ((Bel.refl w2).alloc (.cells #[.slice A2 (unitV c k).length c2] 47))
      have rx : RIx (w2.alloc (.cells #[.slice A2 (unitV c k).length c2] 47)) w.heap.size u3.ownBlock (.slice A2 (unitV c k).length c2) (unitV c k) := ((O2.low y2).keep ((Bel.refl w2).alloc _)).rx (fun p hp e => by have := (O2.block p hp).1; have := (O.block p e).2; omega)
      have Y2 := Y.trans hb2
      have y3 := Y2.size
      go_wp2_with (at_builtin; refine wpList_appR _ rfl _ _ rfl w.heap.size _ _ _ ((idZ c).take k) (unitV c k) rfl rfl O3 ((Blk.new w2 47 _).facts.1 0) rfl rx (by omega) (by simp only [World.size_alloc]; omega) ?_)
      intro v4 w4 O4 hG4 ho4
      have Y4 : Bel w w4 := (Y2.alloc _).grown hG4 (fun p hp => (O.block p hp).1)
      rw [← HS.out] at O4
      clear hG4 ho4
      go_wp2
      go_roundg (c - (k + 1))
      case measure => have := HK.out; omega
      case rel => exact ⟨k + 1, by omega, by go_num, O4, Y4⟩
    · obtain rfl : k = c := by omega
      have i1 : ¬ (k : Int) < (k : Int) := by omega
      have HT : Hid ((idZ k).take k = idZ k) := Lib.hid (List.take_of_length_le (by rw [idZ_len]; exact Nat.le_refl _))
      rw [HT.out] at O
      go_wp2
      go_ret
      exact ⟨_, rfl, O, Y⟩
def nzK (c : Nat) (m : List (List Int)) (k : Nat) : List (List Int) := (freeZ k m).map (nvec c m)
theorem nzK_len (c : Nat) (m : List (List Int)) (k : Nat) : (nzK c m k).length ≤ k := by unfold nzK; rw [List.length_map]; exact freeZ_len k m
theorem nzK_all (c : Nat) (m : List (List Int)) : nzK c m c = nullZ c m := rfl
theorem nzK_yes {c : Nat} {m : List (List Int)} {k : Nat} (h : pivB m k = true) : nzK c m (k + 1) = nzK c m k := by unfold nzK; rw [free_step_yes h]
theorem nzK_no {c : Nat} {m : List (List Int)} {k : Nat} (h : pivB m k = false) : nzK c m (k + 1) = nzK c m k ++ [nvec c m k] := by unfold nzK; rw [free_step_no h]; simp
set_option maxHeartbeats 4000000 in
theorem nullS (v : Value) (m : List (List Int)) (c : Nat) (P : Nat → Nat) (w : World) (hv : RII w v m) (hR : Red c m P) (hcc : c ≤ 40) (h0 : 0 < m.length) :
    Calls Tryz.prog 71 #[v] w fun e w' => ∃ r, e = .returned r ∧ ML w' w.heap.size r (nullZ c m) ∧ Bel w w' := by
  have HR := Lib.hid hR
  have HV := Lib.hid hv
  have hml := hR.len_le
  have hcn : colN m = c := (mtx_row hR.mtx h0).1
  have HMX := Lib.hid (mtxB_yes hR.mtx (by omega) hcc)
  have HRD := Lib.hid (redZ_id hR)
  have HCN := Lib.hid hcn
  obtain ⟨A, cp, rfl, h2, h3, hA⟩ := id hv
  have Y0 : Bel w (w.alloc (.cells #[] 47)) := (Bel.refl _).alloc _
  have E0 := ML.empty w
  clear hv hR hcn
  go_enter Tryz.func71, Tryz.ntmps71
  go_wp2_with fail
  refine (mtxS _ m _ (HV.out.keep Y0)).mono ?_
  rintro e w1 ⟨rfl, hb1⟩
  rw [HMX.out]
  have Y1 := Y0.trans hb1
  have E1 := E0.keep hb1
  go_wp2_with fail
  refine (colS _ m _ (HV.out.keep Y1)).mono ?_
  rintro e w2 ⟨rfl, rfl⟩
  rw [HCN.out]
  go_wp2_with fail
  refine (rowRedS _ m _ (HV.out.keep Y1) HMX.out).mono ?_
  rintro e w2 ⟨rx, rfl, OX, hb2⟩
  rw [HCN.out, HRD.out] at OX
  obtain ⟨Ax, cx, ex, _, _⟩ := OX.shape
  subst ex
  have sb1 : w.heap.size + 1 ≤ w1.heap.size := by have := hb1.size; rw [World.size_alloc] at this; exact this
  have Y2 := Y1.trans hb2
  have E2 := E1.keep hb2
  have hmk := mkInts c (by omega)
  have OV := OI.made w2 c (by omega)
  have Yv : Bel w2 (w2.alloc (.cells (madeCells #[.int .i64 0] c) 3)) := (Bel.refl w2).alloc _
  have HL : Hid ((List.replicate c (-1 : Int)).length = (List.replicate c (0 : Int)).length) := Lib.hid (by simp)
  have hz := mixK_zero (List.replicate c (0 : Int)) (List.replicate c (-1 : Int))
  rw [← hz] at OV
  generalize madeCells #[.int .i64 0] c = C at *
  clear hz Y0 Y1 E0 E1 hb1
  go_wp2
  clear hmk
  go_loopg [7] c (fun f i wr => ∃ k : Nat, k + f = c ∧ i = .int .i64 k ∧ OI wr w2.heap.size (.slice (some ⟨w2.heap.size, 0, none⟩) c c) (mixK (List.replicate c (0 : Int)) (List.replicate c (-1 : Int)) k) ∧ Bel w2 wr)
  case atStart => exact ⟨0, by omega, rfl, OV, Yv⟩
  case round =>
    clear OV Yv
    obtain ⟨k, hk, rfl, OV, YV⟩ := hrel
    have hk2 : k ≤ c := by omega
    have HK := Lib.hid hk
    clear hk
    by_cases hlt : k < c
    · have i0 : (0 : Int) ≤ (k : Int) := by omega
      have i1 : (k : Int) < (c : Int) := by omega
      have HST := Lib.hid (mixK_step HL.out (show (List.replicate c (-1 : Int))[k]? = some (-1) by simp [hlt]))
      have O3 := OV.store (i := k) hlt (-1)
      rw [HST.out] at O3
      obtain ⟨g', cap', e', _, zg, _, _, fz, cs⟩ := OV.cells (by rw [mixK_len HL.out]; simp; omega)
      injection e' with e1 e2 e3
      injection e1 with e1
      injection e1 with e1
      subst e1
      have f1 := fz k
      have c1 := cs k _ ((mixK_at HL.out (by simp; exact hlt)).trans (show (List.replicate c (0 : Int))[k]? = some 0 by simp [hlt]))
      have Y3 := YV.setCell (p := ⟨w2.heap.size, k, none⟩) (Nat.le_refl _) (.int .i64 (-1))
      clear cs fz e2 e3 OV
      go_wp2
      go_roundg (c - (k + 1))
      case measure => have := HK.out; omega
      case rel => exact ⟨k + 1, by omega, by go_num, O3, Y3⟩
    · obtain rfl : c = k := by omega
      have i1 : ¬ (c : Int) < (c : Int) := by omega
      have HA2 := Lib.hid (mixK_all HL.out)
      rw [List.length_replicate] at HA2
      rw [HA2.out] at OV
      have HP0 : Hid (List.replicate c (-1 : Int) = pvK c m 0) := rfl
      rw [HP0.out] at OV
      go_wp2
      go_loopg [8] m.length (fun f i wr => ∃ j : Nat, j + f = m.length ∧ i = .int .i64 j ∧ OI wr w2.heap.size (.slice (some ⟨w2.heap.size, 0, none⟩) c c) (pvK c m j) ∧ Bel w2 wr)
      case atStart => exact ⟨0, by omega, rfl, OV, YV⟩
      case round =>
        clear OV YV HK hk2 hlt i1
        obtain ⟨j, hj, rfl, OV, YV⟩ := hrel
        have hj2 : j ≤ m.length := by omega
        have HJ := Lib.hid hj
        clear hj
        by_cases hlj : j < m.length
        · obtain ⟨gx, capx, ex, q1, zx, _, _, _, hcx⟩ := OX.cells (by omega)
          injection ex with ex1 ex2 ex3
          subst ex1 ex3
          obtain ⟨u, gu, ru⟩ := hcx j hlj
          replace gu := YV.cell1 zx gu
          have RU := (ru.reads).keep YV
          have hlow := HR.out.low j hlj
          have HLV : Hid (leadV (rw_ m j) = (P j : Int)) := Lib.hid (leadV_row HR.out hlj)
          have HST := Lib.hid (pvK_step HR.out hlj)
          have O3 := OV.store (i := P j) hlow (j : Int)
          rw [HST.out] at O3
          obtain ⟨g', cap', e', _, zg, _, _, fz, cs⟩ := OV.cells (by rw [pvK_len]; omega)
          injection e' with e1 e2 e3
          injection e1 with e1
          injection e1 with e1
          subst e1
          have f1 := fz (P j)
          have c1 := cs (P j) _ (ent_get (by rw [pvK_len]; exact hlow))
          have Y3 := YV.setCell (p := ⟨w2.heap.size, P j, none⟩) (Nat.le_refl _) (.int .i64 (j : Int))
          have j0 : (0 : Int) ≤ (j : Int) := by omega
          have j1 : (j : Int) < (m.length : Int) := by omega
          have p0 : (0 : Int) ≤ (P j : Int) := by omega
          have p1 : (P j : Int) < (c : Int) := by omega
          obtain ⟨Au, cu, eu, _, _, _⟩ := id RU
          subst eu
          clear cs fz e2 e3 OV hcx
          go_wp2_with fail
          refine (leadS _ (rw_ m j) _ RU).mono ?_
          rintro e w5 ⟨rfl, rfl⟩
          rw [HLV.out]
          go_wp2
          go_roundg (m.length - (j + 1))
          case measure => have := HJ.out; omega
          case rel => exact ⟨j + 1, by omega, by go_num, O3, Y3⟩
        · obtain rfl : j = m.length := by omega
          have j1 : ¬ (m.length : Int) < (m.length : Int) := by omega
          clear HJ hj2 hlj
          have hs2 : w2.heap.size ≤ wr.heap.size := YV.size
          have hs1 : w1.heap.size ≤ w2.heap.size := hb2.size
          have OX3 := ((OX.keep YV).low sb1).loc (by omega)
          have OV3 := (OV.low (show w.heap.size + 1 ≤ w2.heap.size by omega)).loc (by omega)
          have FX0 : Loc (w.heap.size + 1) wr.heap.size (fun u => RII u (.slice Ax m.length cx) m ∧ RI u (.slice (some ⟨w2.heap.size, 0, none⟩) c c) (pvK c m m.length)) wr := OX3.and (OV3.imp (fun u h => h.reads))
          have E3 : ML wr w.heap.size (.slice (some ⟨w.heap.size, 0, none⟩) 0 0) (nzK c m 0) := E2.keep YV
          have Y3 := Y2.trans YV
          obtain ⟨L3, hL3⟩ : ∃ L, L = wr.heap.size := ⟨_, rfl⟩
          rw [← hL3] at FX0
          clear OX3 OV3 OV YV E2 Y2 hL3 hb2
          go_wp2
          go_loopg [3, 9] c (fun f o i wt => ∃ t : Nat, t + f = c ∧ i = .int .i64 t ∧ ML wt w.heap.size o (nzK c m t) ∧ (∀ q, o.ownBlock = some q → q < w.heap.size + 1 ∨ L3 ≤ q) ∧ Loc (w.heap.size + 1) L3 (fun u => RII u (.slice Ax m.length cx) m ∧ RI u (.slice (some ⟨w2.heap.size, 0, none⟩) c c) (pvK c m m.length)) wt ∧ Bel w wt)
          case atStart => exact ⟨0, by omega, rfl, E3, fun q hq => by have h9 : w.heap.size = q := Option.some.inj hq; omega, FX0, Y3⟩
          case round =>
            clear E3 FX0 Y3 hs2
            obtain ⟨t, ht, rfl, O, OB, FX, Y⟩ := hrel
            have ht2 : t ≤ c := by omega
            have HT := Lib.hid ht
            clear ht
            by_cases hlt : t < c
            · have hpl : (pvK c m m.length).length = c := pvK_len c m _
              have HPV : Hid (∀ (W : World) (j : Nat), j < c → RI W (.slice (some ⟨w2.heap.size, 0, none⟩) c c) (pvK c m m.length) → W.cell? ⟨w2.heap.size, j, none⟩ = some (.int .i64 (ent (pvK c m m.length) j))) := Lib.hid (fun W j hj h => by
                obtain ⟨A9, c9, e9, _, _, h9⟩ := h
                obtain ⟨b, off, eb, _, hcb⟩ := h9 (by omega)
                injection e9 with e91 e92 e93
                rw [← e91] at eb
                injection eb with eb
                injection eb with eb1 eb2
                have h8 := hcb j _ (ent_get (by omega))
                rw [← eb1, ← eb2, Nat.zero_add] at h8
                exact h8)
              have cp0 := HPV.out wr t hlt FX.out.2
              have i0 : (0 : Int) ≤ (t : Int) := by omega
              have i1 : (t : Int) < (c : Int) := by omega
              clear hpl
              rcases pv_cases HR.out hlt with ⟨hp, i, hi, ei, hv⟩ | ⟨hp, hv, hn⟩
              · rw [hv] at cp0
                have HZ := Lib.hid (nzK_yes (c := c) hp)
                rw [← HZ.out] at O
                have ii : (0 : Int) ≤ (i : Int) := by omega
                clear hp hv ei
                go_wp2
                go_roundg (c - (t + 1))
                case measure => have := HT.out; omega
                case rel => exact ⟨t + 1, by omega, by go_num, O, OB, FX, Y⟩
              · rw [hv] at cp0
                have HZ := Lib.hid (nzK_no (c := c) hp)
                have HLN := Lib.hid (nzK_len c m t)
                obtain ⟨wo, hwo⟩ : ∃ x, x = wr := ⟨_, rfl⟩
                subst hwo
                have HOB := Lib.hid OB
                have HFX := Lib.hid FX
                have HO := Lib.hid O
                have HY := Lib.hid Y
                clear hp hv hn OB FX O Y
                go_wp2_with fail
                refine (unitS c t _ hcc hlt).mono ?_
                rintro e w5 ⟨r5, rfl, O5, hb5⟩
                obtain ⟨g, cap, er, hg1, hg2, _⟩ := O5.cells (by rw [unitV_len]; omega)
                rw [unitV_len] at er
                subst er
                have V0 : OI w5 wo.heap.size (.slice (some ⟨g, 0, none⟩) c cap) (vJ c m t 0) := by rw [vJ_zero]; exact O5
                clear O5 hg2 cp0
                go_wp2
                go_loopg [11] c (fun f' jj wq => ∃ j : Nat, j + f' = c ∧ jj = .int .i64 j ∧ OI wq wo.heap.size (.slice (some ⟨g, 0, none⟩) c cap) (vJ c m t j) ∧ Bel wo wq)
                case atStart => exact ⟨0, by omega, rfl, V0, hb5⟩
                case round =>
                  clear V0 hb5
                  obtain ⟨j, hj, rfl, OV, YQ⟩ := hrel
                  have hj2 : j ≤ c := by omega
                  have HJ := Lib.hid hj
                  clear hj
                  by_cases hlj : j < c
                  · have FQ := (HFX.out.keep YQ).out
                    have cpj := HPV.out wr j hlj FQ.2
                    have RXX := Lib.hid FQ.1
                    have j0 : (0 : Int) ≤ (j : Int) := by omega
                    have j1 : (j : Int) < (c : Int) := by omega
                    clear FQ
                    rcases pv_cases HR.out hlj with ⟨hp, i, hi, ei, hv⟩ | ⟨hp, hv, hn⟩
                    · rw [hv] at cpj
                      have ii : (0 : Int) ≤ (i : Int) := by omega
                      have ii2 : (i : Int) < (m.length : Int) := by omega
                      obtain ⟨A7, c7, e7, _, _, hA7⟩ := RXX.out
                      injection e7 with e71 e72 e73
                      obtain ⟨b7, o7, eb7, z7, hc7⟩ := hA7 (by omega)
                      obtain ⟨u, gu, ru⟩ := hc7 i _ (rw_get hi)
                      have hrow := mtx_row HR.out.mtx hi
                      have hrl : (rw_ m i).length = c := hrow.1
                      rw [← e71] at eb7
                      subst eb7
                      obtain ⟨Au, cu, eu, _, _, hAu⟩ := id ru
                      subst eu
                      rw [hrl] at gu
                      obtain ⟨b8, o8, eb8, z8, hc8⟩ := hAu (by omega)
                      subst eb8
                      have g8 := hc8 t _ (ent_get (by omega))
                      have HEL : Hid (elB (ent (rw_ m i) t) = true) := Lib.hid (elB_yes (ent_bd hrow t))
                      have HST := Lib.hid (vJ_piv HR.out t hlj hi ei)
                      have OV3 := OV.store (i := j) hlj (negF (ent (rw_ m i) t))
                      rw [HST.out] at OV3
                      obtain ⟨g', cap', e', _, zg, _, _, fz, cs⟩ := OV.cells (by rw [vJ_len]; omega)
                      injection e' with e1 e2 e3
                      injection e1 with e1
                      injection e1 with e1
                      subst e1
                      have fz1 := fz j
                      have cs1 := cs j _ (ent_get (by rw [vJ_len]; exact hlj))
                      have Y3 := YQ.setCell (p := ⟨g, j, none⟩) hg1 (.int .i64 (negF (ent (rw_ m i) t)))
                      obtain ⟨x, hxx⟩ : ∃ x, x = ent (rw_ m i) t := ⟨_, rfl⟩
                      rw [← hxx] at g8 HEL OV3 Y3
                      clear hxx fz cs e2 e3 e71 e72 e73 hc7 hA7 hc8 hAu ru hrow hrl HST OV YQ hp hv ei
                      go_wp2_with fail
                      refine (subS x _ HEL.out).mono ?_
                      rintro e w7 ⟨rfl, rfl⟩
                      go_wp2
                      go_roundg (c - (j + 1))
                      case measure => have := HJ.out; omega
                      case rel => exact ⟨j + 1, by omega, by go_num, OV3, Y3⟩
                    · rw [hv] at cpj
                      have HST := Lib.hid (vJ_free HR.out hlt hlj hn)
                      rw [← HST.out] at OV
                      clear hp hv hn
                      go_wp2
                      go_roundg (c - (j + 1))
                      case measure => have := HJ.out; omega
                      case rel => exact ⟨j + 1, by omega, by go_num, OV, YQ⟩
                  · obtain rfl : c = j := by omega
                    have j1 : ¬ (c : Int) < (c : Int) := by omega
                    have HVA := Lib.hid (vJ_all c m t)
                    rw [HVA.out] at OV
                    have HWO := Lib.hid HY.out.size
                    have HOBL := Lib.hid HO.out.block
                    have Ya : Bel wr (wr.alloc (.cells #[.slice (some ⟨g, 0, none⟩) c cap] 47)) := (Bel.refl wr).alloc _
                    have RX : RIx (wr.alloc (.cells #[.slice (some ⟨g, 0, none⟩) c cap] 47)) w.heap.size u3.ownBlock (.slice (some ⟨g, 0, none⟩) c cap) (nvec c m t) := ((OV.low HWO.out).keep Ya).rx (fun q hq e => by have hq2 : g = q := Option.some.inj hq; have := (HOBL.out q e).2; omega)
                    have O2 := (HO.out.keep YQ).keep Ya
                    have FX2 := (HFX.out.keep YQ).keep Ya
                    have Y2 := (HY.out.trans YQ).trans Ya
                    have zs := Y2.size
                    have zl : L3 ≤ (wr.alloc (.cells #[.slice (some ⟨g, 0, none⟩) c cap] 47)).heap.size := FX2.2.1
                    have hlen : (nzK c m t).length ≤ 40 := Nat.le_trans HLN.out (by omega)
                    have HYY := Lib.hid Y2
                    have HZL := Lib.hid zl
                    clear OV Ya YQ Y2 zl
                    go_wp2_with (at_builtin; refine wpList_appR _ rfl _ _ rfl w.heap.size _ _ _ (nzK c m t) (nvec c m t) rfl rfl O2 ((Blk.new wr 47 _).facts.1 0) rfl RX (by omega) zs ?_)
                    intro v6 w6 O6 hG6 ho6
                    have Y6 : Bel w w6 := HYY.out.grown hG6 (fun q hq => (HOBL.out q hq).1)
                    have FX6 := Loc.grown FX2 hG6 (fun q hq => HOB.out q hq)
                    have OB6 : ∀ q, v6.ownBlock = some q → q < w.heap.size + 1 ∨ L3 ≤ q := fun q hq => by
                      rcases ho6 with e | e
                      · exact HOB.out q (by rw [← e]; exact hq)
                      · rw [e] at hq; injection hq with hq; rw [← hq]; have h7 := HZL.out; rw [World.size_alloc] at h7; exact .inr h7
                    rw [← HZ.out] at O6
                    clear hG6 ho6 O2 RX FX2
                    go_wp2
                    go_roundg (c - (t + 1))
                    case measure => have := HT.out; omega
                    case rel => exact ⟨t + 1, by omega, by go_num, O6, OB6, FX6, Y6⟩
            · obtain rfl : c = t := by omega
              have i1 : ¬ (c : Int) < (c : Int) := by omega
              have HNA := Lib.hid (nzK_all c m)
              rw [HNA.out] at O
              go_wp2
              go_ret
              exact ⟨_, rfl, O, Y⟩
set_option maxHeartbeats 4000000 in
theorem orthS (v : Value) (m : List (List Int)) (c : Nat) (P : Nat → Nat) (w : World) (hv : RII w v m) (hR : Red c m P) (hcc : c ≤ 40) :
    Calls Tryz.prog 29 #[.agg #[.int .i64 (c : Int), v]] w fun e w' => ∃ r, e = .returned (.agg #[.int .i64 (c : Int), r]) ∧ ML w' w.heap.size r (orthZ c m) ∧ Bel w w' := by
  have HR := Lib.hid hR
  have HB := Lib.hid (basB_red hR hcc)
  obtain ⟨A, cp, rfl, h2, h3, hA⟩ := id hv
  have X := (Blk.new w 40 #[.int .i64 (c : Int), .slice A m.length cp]).alloc (.cells #[.int .i64 0, .slice none 0 0] 40)
  have R := Blk.new2 w (.cells #[.int .i64 (c : Int), .slice A m.length cp] 40) 40 #[.int .i64 0, .slice none 0 0]
  have Y : Bel w ((w.alloc (.cells #[.int .i64 (c : Int), .slice A m.length cp] 40)).alloc (.cells #[.int .i64 0, .slice none 0 0] 40)) := ((Bel.refl _).alloc _).alloc _
  have HO : Hid (orthZ c m = spanZ c (nullZ c m)) := rfl
  clear hR
  obtain ⟨cx, _, zx⟩ := X.facts
  go_enter Tryz.func29, Tryz.ntmps29
  go_wp2_with fail
  refine (basS (c : Int) _ m _ (hv.keep Y)).mono ?_
  rintro e w1 ⟨rfl, hb1⟩
  rw [HB.out]
  have X1 := hb1.keep X
  have R1 := hb1.keep R
  have Y1 := Y.trans hb1
  clear cx zx X R Y hb1
  obtain ⟨cx, _, zx⟩ := X1.facts
  have rx0 : w1.cell? ⟨w.heap.size, 0, none⟩ = some (.int .i64 (c : Int)) := cx 0
  have rx1 : w1.cell? ⟨w.heap.size, 1, none⟩ = some (.slice A m.length cp) := cx 1
  clear cx
  have Yd := (Bel.refl w1).drew
  have HV := Lib.hid (hv.keep Y1)
  have sz1 := R1.lt
  rcases Nat.eq_zero_or_pos m.length with h0 | h0
  · have q0 : ((m.length : Int) == 0) = true := by rw [h0]; rfl
    have HI : Hid (nullZ c m = idZ c) := Lib.hid (by rw [List.eq_nil_of_length_eq_zero h0]; exact null_nil c)
    have HH0 := Lib.hid h0
    clear h0
    go_wp2_with fail
    go_region_held3 (fun w' => w'.cell? ⟨w.heap.size, 0, none⟩ = some (.int .i64 (c : Int)) ∧ w'.cell? ⟨w.heap.size, 1, none⟩ = some (.slice A m.length cp)) (first | exact ⟨YE.cell1 zx rx0, YE.cell1 zx rx1⟩ | exact ⟨YA.cell1 zx rx0, YA.cell1 zx rx1⟩ | go_keep) (first
      | (go_at_call 70; ((with_reducible refine (idS c _ hcc).mono ?_); rintro e wA ⟨ra, rfl, Oa, hbA⟩; obtain ⟨Aa, ca, ea, _, _⟩ := Oa.shape; subst ea; have YA : Bel w1 wA := Yd.trans hbA))
      | (go_at_call 69; ((with_reducible refine (spanS _ (idZ c) c _ (by exact Oa.reads) hcc).mono ?_); rintro e wE ⟨rv, rfl, Oe, hbE⟩; obtain ⟨Ae, ce, ee, _, _⟩ := Oe.shape; subst ee; have YE : Bel w1 wE := YA.trans hbE; have RE := YE.keep R1; have cq0 := RE.facts.1 0; have cq1 := RE.facts.1 1; have fq0 := RE.facts.2.1 0; have fq1 := RE.facts.2.1 1)))
    all_goals (
      have cr := RE.facts.1
      have zr := RE.lt
      have YF := Y1.trans YE
      have hlo : w1.heap.size ≤ wA.heap.size := YA.size
      have Y3 := (YF.setCell (p := ⟨w.heap.size + 1, 0, none⟩) (by dsimp only; omega) (.int .i64 (c : Int))).setCell (p := ⟨w.heap.size + 1, 1, none⟩) (by dsimp only; omega) (.slice Ae (spanZ c (idZ c)).length ce)
      have O3 := ((Oe.low (show w.heap.size + 2 ≤ _ by omega)).setFar (p := ⟨w.heap.size + 1, 0, none⟩) (by dsimp only; omega) (.int .i64 (c : Int))).setFar (p := ⟨w.heap.size + 1, 1, none⟩) (by dsimp only; omega) (.slice Ae (spanZ c (idZ c)).length ce)
      go_wp2
      refine bodyPost_ret (v := .agg #[.int .i64 (c : Int), .slice Ae (spanZ c (idZ c)).length ce]) (by simp [results, Tryz.results29, go_sem, cr]) rfl ⟨_, rfl, by have h9 := O3.low (show w.heap.size ≤ w.heap.size + 2 by omega); rw [HO.out, HI.out]; exact h9, Y3⟩)
  · have q0 : ((m.length : Int) == 0) = false := beq_eq_false_iff_ne.2 (by omega)
    have HH0 := Lib.hid h0
    clear h0
    go_wp2_with fail
    go_region_held3 (fun w' => w'.cell? ⟨w.heap.size, 0, none⟩ = some (.int .i64 (c : Int)) ∧ w'.cell? ⟨w.heap.size, 1, none⟩ = some (.slice A m.length cp)) (first | exact ⟨YE.cell1 zx rx0, YE.cell1 zx rx1⟩ | exact ⟨YA.cell1 zx rx0, YA.cell1 zx rx1⟩ | go_keep) (first
      | (go_at_call 71; ((with_reducible refine (nullS _ m c _ _ (by exact HV.out.keep Yd) HR.out hcc HH0.out).mono ?_); rintro e wA ⟨ra, rfl, Oa, hbA⟩; obtain ⟨Aa, ca, ea, _, _⟩ := Oa.shape; subst ea; have YA : Bel w1 wA := Yd.trans hbA))
      | (go_at_call 69; ((with_reducible refine (spanS _ (nullZ c m) c _ (by exact Oa.reads) hcc).mono ?_); rintro e wE ⟨rv, rfl, Oe, hbE⟩; obtain ⟨Ae, ce, ee, _, _⟩ := Oe.shape; subst ee; have YE : Bel w1 wE := YA.trans hbE; have RE := YE.keep R1; have cq0 := RE.facts.1 0; have cq1 := RE.facts.1 1; have fq0 := RE.facts.2.1 0; have fq1 := RE.facts.2.1 1)))
    all_goals (
      have cr := RE.facts.1
      have zr := RE.lt
      have YF := Y1.trans YE
      have hlo : w1.heap.size ≤ wA.heap.size := YA.size
      have Y3 := (YF.setCell (p := ⟨w.heap.size + 1, 0, none⟩) (by dsimp only; omega) (.int .i64 (c : Int))).setCell (p := ⟨w.heap.size + 1, 1, none⟩) (by dsimp only; omega) (.slice Ae (spanZ c (nullZ c m)).length ce)
      have O3 := ((Oe.low (show w.heap.size + 2 ≤ _ by omega)).setFar (p := ⟨w.heap.size + 1, 0, none⟩) (by dsimp only; omega) (.int .i64 (c : Int))).setFar (p := ⟨w.heap.size + 1, 1, none⟩) (by dsimp only; omega) (.slice Ae (spanZ c (nullZ c m)).length ce)
      go_wp2
      refine bodyPost_ret (v := .agg #[.int .i64 (c : Int), .slice Ae (spanZ c (nullZ c m)).length ce]) (by simp [results, Tryz.results29, go_sem, cr]) rfl ⟨_, rfl, by have h9 := O3.low (show w.heap.size ≤ w.heap.size + 2 by omega); rw [HO.out]; exact h9, Y3⟩)
end Go.Proofs.YtjaagabbbnokdaaGreat

namespace Go.Proofs.YtjaagabbbnokdaaGreat
open Go.ChangeShapes Go.WideShapes Go.ChangeAt Go.RowKit
set_option linter.unusedVariables false
set_option maxRecDepth 100000

def gspN (a : Int) (m : List (List Int)) : Nat := if gnrB a m = true then m.length + colN m else 0
def gspM (a : Int) (m : List (List Int)) : List (List Int) := if gnrB a m = true then genZ m else []
theorem gsp_no {a : Int} {m : List (List Int)} (h : gnrB a m = false) : gspN a m = 0 ∧ gspM a m = [] := by unfold gspN gspM; rw [h]; exact ⟨rfl, rfl⟩
theorem gsp_yes {a : Int} {m : List (List Int)} (h : gnrB a m = true) : gspN a m = m.length + colN m ∧ gspM a m = genZ m := by unfold gspN gspM; rw [h]; exact ⟨rfl, rfl⟩
/-- The rows of a generation's space, up to k, are what is got by inserting them in turn. -/
theorem gsp_take {w : Nat} {m : List (List Int)} (h : Mtx w m) (hc : m.length + w ≤ 40) : spanZ (m.length + w) ((genZ m).take m.length) = genZ m := by
  rw [List.take_of_length_le (by rw [genZ_len]; exact Nat.le_refl _)]
  exact genZ_span h hc
theorem gspM_bd (a : Int) (m : List (List Int)) : gspN a m ≤ 24 ∧ (gspM a m).length ≤ 8 ∧ Mtx (gspN a m) (gspM a m) := by
  cases q : gnrB a m
  · rw [(gsp_no q).1, (gsp_no q).2]
    exact ⟨by omega, by simp, fun r hr => by simp at hr⟩
  · obtain ⟨_, h1, h2, h3, _⟩ := gnrB_facts q
    rw [(gsp_yes q).1, (gsp_yes q).2]
    exact ⟨by omega, by rw [genZ_len]; omega, genZ_mtx h3⟩
set_option maxHeartbeats 4000000 in
theorem gspI (a : Int) (v : Value) (m : List (List Int)) (w : World) (hv : RII w v m) :
    Calls Tryz.prog 20 #[.agg #[.int .i64 a, v]] w fun e w' => ∃ r, e = .returned (.agg #[.int .i64 (gspN a m : Int), r]) ∧ OM w' w.heap.size r (gspM a m) ∧ Bel w w' := by
  obtain ⟨A, cp, rfl, h2, h3, hA⟩ := id hv
  have X0 := (Blk.new w 30 #[.int .i64 a, .slice A m.length cp]).alloc (.cells #[.int .i64 0, .slice none 0 0] 40)
  have R0 := Blk.new2 w (.cells #[.int .i64 a, .slice A m.length cp] 30) 40 #[.int .i64 0, .slice none 0 0]
  have Y0 : Bel w ((w.alloc (.cells #[.int .i64 a, .slice A m.length cp] 30)).alloc (.cells #[.int .i64 0, .slice none 0 0] 40)) := ((Bel.refl _).alloc _).alloc _
  obtain ⟨cx, _, zx⟩ := X0.facts
  go_enter Tryz.func20, Tryz.ntmps20
  go_wp2_with fail
  refine (gnrI a _ m _ (hv.keep Y0)).mono ?_
  rintro e w1 ⟨rfl, hb1⟩
  have X1 := hb1.keep X0
  have R1 := hb1.keep R0
  have Y1 := Y0.trans hb1
  clear cx X0 R0 Y0 hb1
  obtain ⟨cx, _, zx1⟩ := X1.facts
  cases q : gnrB a m
  · obtain ⟨f1, f2⟩ := gsp_no q
    have HF1 := Lib.hid f1
    have HF2 := Lib.hid f2
    clear f1 f2 q
    go_wp2_with fail
    refine (newBI 0 _ (by omega)).mono ?_
    rintro e w2 ⟨rfl, hb2⟩
    have R2 := hb2.keep R1
    have Y2 := Y1.trans hb2
    clear cx
    obtain ⟨cr, fr, zr⟩ := R2.facts
    have Y3 := (Y2.setCell (p := ⟨w.heap.size + 1, 0, none⟩) (by dsimp only; omega) (.int .i64 ((0 : Nat) : Int))).setCell (p := ⟨w.heap.size + 1, 1, none⟩) (by dsimp only; omega) (.slice none 0 0)
    go_wp2
    refine bodyPost_ret (v := .agg #[.int .i64 ((0 : Nat) : Int), .slice none 0 0]) (by simp [results, Tryz.results20, go_sem, cr]) rfl ⟨_, by rw [HF1.out], by rw [HF2.out]; exact OM.nil _ _, Y3⟩
  obtain ⟨f1, f2⟩ := gsp_yes q
  obtain ⟨_, fl, fc, fm, _⟩ := gnrB_facts q
  have HF1 := Lib.hid f1
  have HF2 := Lib.hid f2
  have HM := Lib.hid fm
  have HT := Lib.hid (gsp_take fm (by omega))
  clear f1 f2 q fm
  go_wp2_with fail
  refine (symwI a _ m _ (hv.keep Y1)).mono ?_
  rintro e w2 ⟨rfl, hb2⟩
  have X2 := hb2.keep X1
  have R2 := hb2.keep R1
  have Y2 := Y1.trans hb2
  clear cx X1 R1 Y1 hb2
  have HCC : Hid ((m.length : Int) + (colN m : Int) = ((m.length + colN m : Nat) : Int)) := Lib.hid (by omega)
  obtain ⟨fl1, fl2⟩ := fl
  obtain ⟨fc1, fc2⟩ := fc
  go_wp2_with fail
  rw [HCC.out]
  refine (newBI (m.length + colN m) _ (by omega)).mono ?_
  rintro e w3 ⟨rfl, hb3⟩
  obtain ⟨c, hcn⟩ : ∃ c, c = m.length + colN m := ⟨_, rfl⟩
  rw [← hcn] at HT HF1 ⊢
  have HCN := Lib.hid hcn
  have hc24 : c ≤ 24 := by omega
  clear hcn
  have X3 := (hb3.keep X2).alloc (.cells #[.int .i64 (c : Int), .slice none 0 0] 40)
  have R3 := (hb3.keep R2).alloc (.cells #[.int .i64 (c : Int), .slice none 0 0] 40)
  have B3 := Blk.new w3 40 #[.int .i64 (c : Int), .slice none 0 0]
  have Y3 := (Y2.trans hb3).alloc (.cells #[.int .i64 (c : Int), .slice none 0 0] 40)
  have sz3 := (hb3.keep R2).lt
  obtain ⟨pb, hpb⟩ : ∃ pb, pb = w3.heap.size := ⟨_, rfl⟩
  rw [← hpb] at B3 sz3
  obtain ⟨cx, _, zx3⟩ := X3.facts
  go_wp2
  rw [← hpb]
  clear hpb cx zx3
  go_loopg [22] m.length (fun f i wr => ∃ (k : Nat) (o : Value), k + f = m.length ∧ i = .int .i64 k ∧ Blk wr (w.heap.size + 1) 40 #[.int .i64 0, .slice none 0 0] ∧ Blk wr pb 40 #[.int .i64 (c : Int), o] ∧ OM wr (pb + 1) o (spanZ c ((genZ m).take k)) ∧ Bel w wr)
  case atStart => exact ⟨0, _, by omega, rfl, R3, B3, OM.nil _ _, Y3⟩
  case round =>
    clear X2 X3 R2 R3 B3 Y2 Y3 hb3 zx zx1
    obtain ⟨k, o, hk, rfl, R, B, O, Y⟩ := hrel
    have hk2 : k ≤ m.length := by omega
    have HK := Lib.hid hk
    clear hk
    by_cases hlt : k < m.length
    · obtain ⟨b1, o1, rfl, z1, hc1⟩ := hA (by omega)
      have hx : m[k]? = some (rw_ m k) := rw_get hlt
      obtain ⟨u, g1, ru⟩ := hc1 k _ hx
      replace g1 := Y.cell1 z1 g1
      replace ru := ru.keep Y
      have HGR : Hid (mrowB c (unitV m.length k ++ rw_ m k) = true) := Lib.hid (by
        have h9 := genZ_mtx HM.out (unitV m.length k ++ rw_ m k) (List.mem_of_getElem? (genZ_at hx))
        rw [HCN.out]
        exact mrowB_yes h9 (by omega))
      have HST := Lib.hid (span_yes (c := c) (genZ_at hx) HGR.out)
      obtain ⟨P, hP⟩ := span_red c ((genZ m).take k)
      have hlen := hP.len_le
      have HPP := Lib.hid hP
      have hrl : (rw_ m k).length ≤ 16 := by rw [(mtx_row HM.out hlt).1]; exact fc2
      obtain ⟨Au, cu, rfl, _, _, _⟩ := id ru
      clear hc1 hA hx hP
      generalize rw_ m k = s at *
      generalize spanZ c ((genZ m).take k) = mm at *
      have i0 : (0 : Int) ≤ (k : Int) := by omega
      have i1 : (k : Int) < (m.length : Int) := by omega
      go_wp2_with fail
      refine (unitI m.length k _ (by omega) hlt).mono ?_
      rintro e w4 ⟨r4, rfl, O4, hb4⟩
      have R4 := hb4.keep R
      have B4 := hb4.keep B
      have OO4 := O.keep hb4
      have Y4 := Y.trans hb4
      have ru4 := ru.keep hb4
      clear R B O Y hb4
      obtain ⟨A4, c4, e4, _, _, _⟩ := O4.reads
      subst e4
      have hul : (unitV m.length k).length ≤ 8 := by rw [unitV_len]; exact fl2
      generalize unitV m.length k = uv at *
      have XA := Blk.new w4 47 #[.slice A4 uv.length c4, .slice Au s.length cu]
      have YA : Bel w4 (w4.alloc (.cells #[.slice A4 uv.length c4, .slice Au s.length cu] 47)) := (Bel.refl _).alloc _
      have HV := Lib.hid (O4.reads.keep YA)
      have HU := Lib.hid (ru4.keep YA)
      have R5 := YA.keep R4
      have B5 := YA.keep B4
      have O5 := OO4.keep YA
      have Y5 := Y4.trans YA
      clear R4 B4 OO4 Y4 g1
      go_wp2_with fail
      refine (concatI _ [uv, s] _ ?_ (by simp; omega)).mono ?_
      · refine RII.of XA rfl (by omega) ?_
        intro j zs hj
        match j with
        | 0 => simp at hj; subst hj; exact ⟨_, rfl, HV.out⟩
        | 1 => simp at hj; subst hj; exact ⟨_, rfl, HU.out⟩
        | j + 2 => simp at hj
      rintro e w6 ⟨v6, rfl, O6, hb6⟩
      have e1 : ([uv, s] : List (List Int)).flatten = uv ++ s := by simp
      rw [e1] at O6
      have R6 := hb6.keep R5
      have B6 := hb6.keep B5
      have OO6 := O5.keep hb6
      have Y6 := Y5.trans hb6
      clear XA e1 R5 B5 O5 Y5 YA hb6
      have zb := B6.lt
      obtain ⟨A6, c6, e6, _, _, _⟩ := O6.reads
      subst e6
      have R66 : Hid (RI w6 (.slice A6 (uv.length + s.length) c6) (uv ++ s)) := Lib.hid (by have h9 := O6.reads; rwa [List.length_append] at h9)
      clear O6
      go_wp2_with fail
      refine (insertI (c : Int) o _ mm (uv ++ s) c pb (pb + 1) _ P _ B6 OO6 (by omega) (Nat.le_refl _) (by omega) R66.out HPP.out (mrowB_row HGR.out).1 (by omega) (by omega)).mono ?_
      rintro e w7 ⟨o2, rfl, B7, O7, M7⟩
      have R7 := R6.mid M7 (.inl (by omega))
      have Y7 := Y6.mid M7 (by omega)
      rw [← HST.out] at O7
      clear R6 B6 OO6 Y6 M7
      go_wp2
      go_roundg (m.length - (k + 1))
      case measure => have := HK.out; omega
      case rel => exact ⟨k + 1, _, by omega, by go_num, R7, B7, O7, Y7⟩
    · obtain rfl : k = m.length := by omega
      have i1 : ¬ (m.length : Int) < (m.length : Int) := by omega
      rw [HT.out] at O
      obtain ⟨Ao, co, eo, _, _, _⟩ := O.reads
      subst eo
      obtain ⟨cb, fb, zb⟩ := B.facts
      obtain ⟨cr, fr, zr⟩ := R.facts
      have Y3 : Bel w ((wr.setCell ⟨w.heap.size + 1, 0, none⟩ (.int .i64 (c : Int))).setCell ⟨w.heap.size + 1, 1, none⟩ (.slice Ao (genZ m).length co)) := (Y.setCell (p := ⟨w.heap.size + 1, 0, none⟩) (by dsimp only; omega) _).setCell (p := ⟨w.heap.size + 1, 1, none⟩) (by dsimp only; omega) _
      have O3 := OM.setFar (OM.setFar O (p := ⟨w.heap.size + 1, 0, none⟩) (by dsimp only; omega) (.int .i64 (c : Int))) (p := ⟨w.heap.size + 1, 1, none⟩) (by dsimp only; omega) (.slice Ao (genZ m).length co)
      go_wp2
      refine bodyPost_ret (v := .agg #[.int .i64 (c : Int), .slice Ao (genZ m).length co]) (by simp [results, Tryz.results20, go_sem, cr]) rfl ⟨_, by rw [HF1.out], by rw [HF2.out]; exact OM.low O3 (by omega), Y3⟩
end Go.Proofs.YtjaagabbbnokdaaGreat

namespace Go.Proofs.YtjaagabbbnokdaaGreat
open Go.ChangeShapes Go.WideShapes Go.ChangeAt Go.RowKit
set_option linter.unusedVariables false
set_option maxRecDepth 100000

theorem gnr_unit {a : Int} {m : List (List Int)} (h : gnrB a m = true) {i : Nat} (hi : i < m.length) : cpB a m (unitV m.length i) = true ∧ lcZ m (unitV m.length i) = rw_ m i := by
  obtain ⟨_, h1, h2, h3, _⟩ := gnrB_facts h
  refine ⟨?_, lcZ_unit h3 hi⟩
  unfold cpB
  rw [h, row_vecB (c := m.length) ⟨unitV_len _ _, unitV_bd⟩ (by omega), unitV_len]
  simp
set_option maxHeartbeats 2000000 in
theorem srcS (a : Int) (v : Value) (m : List (List Int)) (i : Nat) (w : World) (hv : RII w v m) (h : gnrB a m = true) (hi : i < m.length) :
    Calls Tryz.prog 72 #[.agg #[.int .i64 a, v], .int .i64 (i : Int)] w fun e w' => ∃ r1 r2, e = .returned (.tuple #[.agg #[.int .i64 a, r1, r2], .bool true]) ∧ OI w' w.heap.size r1 (unitV m.length i) ∧ OI w' w.heap.size r2 (rw_ m i) ∧ Bel w w' := by
  obtain ⟨hc, hl⟩ := gnr_unit h hi
  have HC := Lib.hid hc
  have HL := Lib.hid hl
  have HG := Lib.hid h
  obtain ⟨_, ⟨fl1, fl2⟩, fc, _, _⟩ := gnrB_facts h
  obtain ⟨A, cp, rfl, h2, h3, hA⟩ := id hv
  have X := (Blk.new w 30 #[.int .i64 a, .slice A m.length cp]).alloc (.cells #[.int .i64 0, .slice none 0 0, .slice none 0 0] 49)
  have R := Blk.new2 w (.cells #[.int .i64 a, .slice A m.length cp] 30) 49 #[.int .i64 0, .slice none 0 0, .slice none 0 0]
  have Y : Bel w ((w.alloc (.cells #[.int .i64 a, .slice A m.length cp] 30)).alloc (.cells #[.int .i64 0, .slice none 0 0, .slice none 0 0] 49)) := ((Bel.refl _).alloc _).alloc _
  clear hc hl h
  obtain ⟨cx, _, zx⟩ := X.facts
  go_enter Tryz.func72, Tryz.ntmps72
  go_wp2_with fail
  refine (gnrS a _ m _ (hv.keep Y)).mono ?_
  rintro e w1 ⟨rfl, hb1⟩
  rw [HG.out]
  have X1 := hb1.keep X
  have R1 := hb1.keep R
  have Y1 := Y.trans hb1
  clear cx zx X R Y hb1
  obtain ⟨cx, _, zx⟩ := X1.facts
  have hs1 : IntKind.i64.wrap ((m.length : Int) - 1) = (m.length : Int) - 1 := IntWalk.i64_in _ (by omega)
  go_wp2_with fail
  refine (l1In_yes (i : Int) 0 ((m.length : Int) - 1) _ (by omega) (by omega)).mono ?_
  rintro e w2 ⟨rfl, rfl⟩
  have rx0 : w1.cell? ⟨w.heap.size, 0, none⟩ = some (.int .i64 a) := cx 0
  have rx1 : w1.cell? ⟨w.heap.size, 1, none⟩ = some (.slice A m.length cp) := cx 1
  clear cx
  have Yd := (Bel.refl w1).drew
  have HV := Lib.hid (hv.keep Y1)
  have sz1 := R1.lt
  go_wp2_with fail
  go_region_held3 (fun w' => w'.cell? ⟨w.heap.size, 0, none⟩ = some (.int .i64 a) ∧ w'.cell? ⟨w.heap.size, 1, none⟩ = some (.slice A m.length cp)) (first | exact ⟨YE.cell1 zx rx0, YE.cell1 zx rx1⟩ | exact ⟨YA.cell1 zx rx0, YA.cell1 zx rx1⟩ | go_keep) (first
    | (go_at_call 102; ((with_reducible refine (unitS m.length i _ (by omega) hi).mono ?_); rintro e wA ⟨ra, rfl, Oa, hbA⟩; obtain ⟨Aa, ca, ea, _, _, _⟩ := Oa.reads; subst ea; have YA : Bel w1 wA := Yd.trans hbA))
    | (go_at_call 18; ((with_reducible refine (cpS a _ _ m (unitV m.length i) _ (by exact HV.out.keep YA) (by exact Oa.reads) HC.out).mono ?_); rintro e wE ⟨rv, ru, rfl, Oe, Of, hbE⟩; obtain ⟨Ae, ce, ee, _, _, _⟩ := Oe.reads; obtain ⟨Af, cf, ef, _, _, _⟩ := Of.reads; subst ee ef; have YE : Bel w1 wE := YA.trans hbE; have RE := YE.keep R1; have cq0 := RE.facts.1 0; have cq1 := RE.facts.1 1; have cq2 := RE.facts.1 2; have fq0 := RE.facts.2.1 0; have fq1 := RE.facts.2.1 1; have fq2 := RE.facts.2.1 2)))
  all_goals (
    have cr := RE.facts.1
    have zr := RE.lt
    have YF := Y1.trans YE
    have hlo : w1.heap.size ≤ wA.heap.size := YA.size
    have Y3 := ((YF.setCell (p := ⟨w.heap.size + 1, 0, none⟩) (by dsimp only; omega) (.int .i64 a)).setCell (p := ⟨w.heap.size + 1, 1, none⟩) (by dsimp only; omega) (.slice Ae (unitV m.length i).length ce)).setCell (p := ⟨w.heap.size + 1, 2, none⟩) (by dsimp only; omega) (.slice Af (lcZ m (unitV m.length i)).length cf)
    have O3 := (((Oe.low (show w.heap.size + 2 ≤ _ by omega)).setFar (p := ⟨w.heap.size + 1, 0, none⟩) (by dsimp only; omega) (.int .i64 a)).setFar (p := ⟨w.heap.size + 1, 1, none⟩) (by dsimp only; omega) (.slice Ae (unitV m.length i).length ce)).setFar (p := ⟨w.heap.size + 1, 2, none⟩) (by dsimp only; omega) (.slice Af (lcZ m (unitV m.length i)).length cf)
    have O4 := (((Of.low (show w.heap.size + 2 ≤ _ by omega)).setFar (p := ⟨w.heap.size + 1, 0, none⟩) (by dsimp only; omega) (.int .i64 a)).setFar (p := ⟨w.heap.size + 1, 1, none⟩) (by dsimp only; omega) (.slice Ae (unitV m.length i).length ce)).setFar (p := ⟨w.heap.size + 1, 2, none⟩) (by dsimp only; omega) (.slice Af (lcZ m (unitV m.length i)).length cf)
    go_wp2
    refine bodyPost_ret (v := .tuple #[.agg #[.int .i64 a, .slice Ae (unitV m.length i).length ce, .slice Af (lcZ m (unitV m.length i)).length cf], .bool true]) (by simp [results, Tryz.results72, go_sem, cr]) rfl ⟨_, _, rfl, O3.low (by omega), by have h9 := O4.low (show w.heap.size ≤ w.heap.size + 2 by omega); rw [HL.out] at h9 ⊢; exact h9, Y3⟩)
end Go.Proofs.YtjaagabbbnokdaaGreat

namespace Go.Proofs.YtjaagabbbnokdaaGreat
open Go.ChangeShapes Go.WideShapes Go.ChangeAt Go.RowKit
set_option linter.unusedVariables false
set_option maxRecDepth 100000

set_option maxHeartbeats 4000000 in
theorem gspS (a : Int) (v : Value) (m : List (List Int)) (w : World) (hv : RII w v m) :
    Calls Tryz.prog 30 #[.agg #[.int .i64 a, v]] w fun e w' => ∃ r, e = .returned (.agg #[.int .i64 (gspN a m : Int), r]) ∧ ML w' w.heap.size r (gspM a m) ∧ Bel w w' := by
  obtain ⟨A, cp, rfl, h2, h3, hA⟩ := id hv
  have X0 := (Blk.new w 30 #[.int .i64 a, .slice A m.length cp]).alloc (.cells #[.int .i64 0, .slice none 0 0] 40)
  have R0 := Blk.new2 w (.cells #[.int .i64 a, .slice A m.length cp] 30) 40 #[.int .i64 0, .slice none 0 0]
  have Y0 : Bel w ((w.alloc (.cells #[.int .i64 a, .slice A m.length cp] 30)).alloc (.cells #[.int .i64 0, .slice none 0 0] 40)) := ((Bel.refl _).alloc _).alloc _
  obtain ⟨cx, _, zx⟩ := X0.facts
  go_enter Tryz.func30, Tryz.ntmps30
  go_wp2_with fail
  refine (gnrS a _ m _ (hv.keep Y0)).mono ?_
  rintro e w1 ⟨rfl, hb1⟩
  have X1 := hb1.keep X0
  have R1 := hb1.keep R0
  have Y1 := Y0.trans hb1
  clear cx X0 R0 Y0 hb1 zx
  obtain ⟨cx, _, zx1⟩ := X1.facts
  cases q : gnrB a m
  · obtain ⟨f1, f2⟩ := gsp_no q
    have HF1 := Lib.hid f1
    have HF2 := Lib.hid f2
    clear f1 f2 q
    go_wp2_with fail
    refine (newBS 0 _ (by omega)).mono ?_
    rintro e w2 ⟨rfl, hb2⟩
    have R2 := hb2.keep R1
    have Y2 := Y1.trans hb2
    clear cx
    obtain ⟨cr, fr, zr⟩ := R2.facts
    have Y3 := (Y2.setCell (p := ⟨w.heap.size + 1, 0, none⟩) (by dsimp only; omega) (.int .i64 ((0 : Nat) : Int))).setCell (p := ⟨w.heap.size + 1, 1, none⟩) (by dsimp only; omega) (.slice none 0 0)
    go_wp2
    refine bodyPost_ret (v := .agg #[.int .i64 ((0 : Nat) : Int), .slice none 0 0]) (by simp [results, Tryz.results30, go_sem, cr]) rfl ⟨_, by rw [HF1.out], by rw [HF2.out]; exact ML.nil _ _, Y3⟩
  obtain ⟨f1, f2⟩ := gsp_yes q
  obtain ⟨_, ⟨fl1, fl2⟩, ⟨fc1, fc2⟩, fm, _⟩ := gnrB_facts q
  have HF1 := Lib.hid f1
  have HF2 := Lib.hid f2
  have HG := Lib.hid q
  have HT := Lib.hid (genZ_span fm (by omega))
  have HM := Lib.hid fm
  clear f1 f2 q fm
  have X2 := X1.alloc (.cells #[] 47)
  have R2 := R1.alloc (.cells #[] 47)
  have Y2 := Y1.alloc (.cells #[] 47)
  have O2 := ML.empty w1
  have sz1 := R1.lt
  go_wp2
  clear cx zx1
  go_loopg [3, 4] m.length (fun f o i wr => ∃ k : Nat, k + f = m.length ∧ i = .int .i64 k ∧ Blk wr w.heap.size 30 #[.int .i64 a, .slice A m.length cp] ∧ Blk wr (w.heap.size + 1) 40 #[.int .i64 0, .slice none 0 0] ∧ ML wr w1.heap.size o ((genZ m).take k) ∧ Bel w wr ∧ w1.heap.size ≤ wr.heap.size)
  case atStart => exact ⟨0, by omega, rfl, X2, R2, O2, Y2, by rw [World.size_alloc]; omega⟩
  case round =>
    clear X1 X2 R1 R2 Y1 Y2 O2
    obtain ⟨k, hk, rfl, X, R, O, Y, hs⟩ := hrel
    have hk2 : k ≤ m.length := by omega
    have HK := Lib.hid hk
    clear hk
    obtain ⟨cx, _, zx⟩ := X.facts
    by_cases hlt : k < m.length
    · have hrl : (rw_ m k).length ≤ 16 := by rw [(mtx_row HM.out hlt).1]; exact fc2
      have HS := Lib.hid (take_snoc (genZ_at (rw_get hlt)))
      have hlen : ((genZ m).take k).length ≤ 8 := by rw [List.length_take, genZ_len]; omega
      have i0 : (0 : Int) ≤ (k : Int) := by omega
      have i1 : (k : Int) < (m.length : Int) := by omega
      go_wp2_with fail
      refine (srcS a _ m k _ (hv.keep Y) HG.out hlt).mono ?_
      rintro e w4 ⟨r1, r2, rfl, O1, O2, hb4⟩
      have hul : (unitV m.length k).length ≤ 8 := by rw [unitV_len]; exact fl2
      generalize unitV m.length k = uv at *
      generalize rw_ m k = s at *
      obtain ⟨A1, c1, e1, _, _, _⟩ := O1.reads
      obtain ⟨A2, c2, e2, _, _, _⟩ := O2.reads
      subst e1 e2
      have Ya : Bel w4 (w4.alloc (.cells #[.int .i64 a, .slice A1 uv.length c1, .slice A2 s.length c2] 49)) := (Bel.refl w4).alloc _
      have Y4 := (Y.trans hb4).trans Ya
      have X4 := Ya.keep (hb4.keep X)
      have R4 := Ya.keep (hb4.keep R)
      have OO4 := (O.keep hb4).keep Ya
      have P1 := Lib.hid (O1.reads.keep Ya)
      have P2 := Lib.hid (O2.reads.keep Ya)
      have s4 := Nat.le_trans hs hb4.size
      clear cx zx X R O Y O1 O2
      obtain ⟨cz, _, zz⟩ := (Blk.new w4 49 #[.int .i64 a, .slice A1 uv.length c1, .slice A2 s.length c2]).facts
      go_wp2_with fail
      refine (rowS a _ _ uv s _ P1.out P2.out (by omega)).mono ?_
      rintro e w5 ⟨r5, rfl, O5, hb5⟩
      generalize uv ++ s = row at *
      obtain ⟨A5, c5, e5, _, _, _⟩ := O5.reads
      subst e5
      have s5 : w1.heap.size ≤ w5.heap.size := Nat.le_trans (Nat.le_trans s4 Ya.size) hb5.size
      have Yb : Bel w5 (w5.alloc (.cells #[.slice A5 row.length c5] 47)) := (Bel.refl w5).alloc _
      have OO5 := (OO4.keep hb5).keep Yb
      have HO4 := OO4.block
      have rx : RIx (w5.alloc (.cells #[.slice A5 row.length c5] 47)) w1.heap.size u3.ownBlock (.slice A5 row.length c5) row := ((O5.low (Nat.le_trans s4 Ya.size)).keep Yb).rx (fun p hp e => by have t1 := (O5.block p hp).1; have t2 := (HO4 p e).2; omega)
      have Y5 := (Y4.trans hb5).trans Yb
      have X5 := Yb.keep (hb5.keep X4)
      have R5 := Yb.keep (hb5.keep R4)
      have HOB := Lib.hid HO4
      have zX5 := X5.lt
      have zR5 := R5.lt
      have s55 : w1.heap.size ≤ (w5.alloc (.cells #[.slice A5 row.length c5] 47)).heap.size := by rw [World.size_alloc]; omega
      have HOB2 := Lib.hid OO5.block
      clear cz zz HO4 X4 R4 OO4 Y4 hb5 O5 P1 P2
      go_wp2_with (at_builtin; refine wpList_appR _ rfl _ _ rfl w1.heap.size _ _ _ ((genZ m).take k) row rfl rfl OO5 ((Blk.new w5 47 _).facts.1 0) rfl rx (by omega) s55 ?_)
      intro v6 w6 O6 hG6 ho6
      have Y6 : Bel w w6 := Y5.grown hG6 (fun q hq => by have := (HOB2.out q hq).1; omega)
      have X6 := X5.grown hG6 (fun e => by have := (HOB2.out _ e).1; omega)
      have R6 := R5.grown hG6 (fun e => by have := (HOB2.out _ e).1; omega)
      have s6 := Nat.le_trans s55 hG6.size
      rw [← HS.out] at O6
      clear hG6 ho6 rx OO5 X5 R5 Y5
      go_wp2
      go_roundg (m.length - (k + 1))
      case measure => have := HK.out; omega
      case rel => exact ⟨k + 1, by omega, by go_num, X6, R6, O6, Y6, s6⟩
    · obtain rfl : k = m.length := by omega
      have i1 : ¬ (m.length : Int) < (m.length : Int) := by omega
      have HTK : Hid ((genZ m).take m.length = genZ m) := Lib.hid (List.take_of_length_le (by rw [genZ_len]; exact Nat.le_refl _))
      rw [HTK.out] at O
      have rx0 : wr.cell? ⟨w.heap.size, 0, none⟩ = some (.int .i64 a) := cx 0
      have rx1 : wr.cell? ⟨w.heap.size, 1, none⟩ = some (.slice A m.length cp) := cx 1
      obtain ⟨Ao, co, eo, _, _⟩ := O.shape
      subst eo
      have RO := Lib.hid O.reads
      have HV := Lib.hid (hv.keep Y)
      have Yd := (Bel.refl wr).drew
      have hcc : IntKind.i64.wrap ((m.length : Int) + (colN m : Int)) = ((m.length + colN m : Nat) : Int) := by rw [IntWalk.i64_in _ (by omega)]; omega
      have hc24 : m.length + colN m ≤ 40 := by omega
      generalize genZ m = gz at *
      generalize m.length + colN m = c at *
      clear cx O
      go_wp2_with fail
      go_region_held3 (fun w' => w'.cell? ⟨w.heap.size, 0, none⟩ = some (.int .i64 a) ∧ w'.cell? ⟨w.heap.size, 1, none⟩ = some (.slice A m.length cp)) (first | exact ⟨YE.cell1 zx rx0, YE.cell1 zx rx1⟩ | exact ⟨Yd.cell1 zx rx0, Yd.cell1 zx rx1⟩ | go_keep) (first
        | (go_at_call 31; ((with_reducible refine (colS _ m _ (by exact HV.out.keep Yd)).mono ?_); rintro e wA ⟨rfl, rfl⟩))
        | (go_at_call 69; ((with_reducible refine (spanS _ gz c _ (by exact RO.out.keep Yd) hc24).mono ?_); rintro e wE ⟨rv, rfl, Oe, hbE⟩; obtain ⟨Ae, ce, ee, _, _⟩ := Oe.shape; subst ee; have YE : Bel wr wE := Yd.trans hbE; have RE := YE.keep R; have cq0 := RE.facts.1 0; have cq1 := RE.facts.1 1; have fq0 := RE.facts.2.1 0; have fq1 := RE.facts.2.1 1)))
      all_goals (
        have cr := RE.facts.1
        have zr := RE.lt
        have YF := Y.trans YE
        have zR := R.lt
        have O3 := ((Oe.low (show w.heap.size + 2 ≤ _ from zR)).setFar (p := ⟨w.heap.size + 1, 0, none⟩) (by dsimp only; omega) (.int .i64 (c : Int))).setFar (p := ⟨w.heap.size + 1, 1, none⟩) (by dsimp only; omega) (.slice Ae (spanZ c gz).length ce)
        have Y3 := (YF.setCell (p := ⟨w.heap.size + 1, 0, none⟩) (by dsimp only; omega) (.int .i64 (c : Int))).setCell (p := ⟨w.heap.size + 1, 1, none⟩) (by dsimp only; omega) (.slice Ae (spanZ c gz).length ce)
        go_wp2
        refine bodyPost_ret (v := .agg #[.int .i64 (c : Int), .slice Ae (spanZ c gz).length ce]) (by simp [results, Tryz.results30, go_sem, cr]) rfl ⟨_, by rw [HF1.out], by rw [HF2.out]; have h9 := O3.low (show w.heap.size ≤ w.heap.size + 2 by omega); rw [HT.out] at h9 ⊢; exact h9, Y3⟩)
end Go.Proofs.YtjaagabbbnokdaaGreat

namespace Go.Proofs.YtjaagabbbnokdaaGreat
open Go.ChangeShapes Go.WideShapes Go.ChangeAt Go.RowKit
set_option linter.unusedVariables false

theorem mtx_fl {c : Nat} {m : List (List Int)} (h : Mtx c m) : flN m ≤ m.length * c := flat_len (fun r hr => Nat.le_of_eq (h r hr).1)
theorem gspM_fl (a : Int) (m : List (List Int)) : flN (gspM a m) ≤ 1600 := by
  obtain ⟨h1, h2, h3⟩ := gspM_bd a m
  have h4 := mtx_fl h3
  have h5 : (gspM a m).length * gspN a m ≤ 8 * 24 := Nat.mul_le_mul h2 h1
  omega
end Go.Proofs.YtjaagabbbnokdaaGreat
