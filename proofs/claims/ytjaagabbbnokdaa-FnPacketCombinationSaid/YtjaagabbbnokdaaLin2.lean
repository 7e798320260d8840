/-
  Spans of rows over the field of 1019 elements: the elimination keeps the span; a reduced matrix is given by its span. Plain mathematics: nothing of the program.
-/
import Derived.Test.YtjaagabbbnokdaaLin1
namespace Go.Proofs.Ytjaagabbbnokdaa

/-- The sum of f over the numbers below n. -/
def sm : Nat → (Nat → Int) → Int
  | 0, _ => 0
  | n + 1, f => sm n f + f n
theorem sm_congr {n : Nat} {f g : Nat → Int} (h : ∀ i, i < n → f i = g i) : sm n f = sm n g := by
  induction n with
  | zero => rfl
  | succ n ih => simp only [sm]; rw [ih fun i hi => h i (by omega), h n (by omega)]
theorem sm_add (n : Nat) (f g : Nat → Int) : sm n (fun i => f i + g i) = sm n f + sm n g := by
  induction n with
  | zero => rfl
  | succ n ih => simp only [sm]; rw [ih]; omega
theorem sm_mul (n : Nat) (q : Int) (f : Nat → Int) : sm n (fun i => q * f i) = q * sm n f := by
  induction n with
  | zero => simp [sm]
  | succ n ih => simp only [sm]; rw [ih, Int.mul_add]
theorem sm_zero {n : Nat} {f : Nat → Int} (h : ∀ i, i < n → f i = 0) : sm n f = 0 := by
  induction n with
  | zero => rfl
  | succ n ih => simp only [sm]; rw [ih fun i hi => h i (by omega), h n (by omega)]; rfl
theorem sm_one {n j : Nat} {f : Nat → Int} (hj : j < n) (h : ∀ i, i < n → i ≠ j → f i = 0) : sm n f = f j := by
  induction n with
  | zero => omega
  | succ n ih =>
    simp only [sm]
    by_cases e : j = n
    · subst e
      rw [sm_zero fun i hi => h i (by omega) (by omega)]; omega
    · rw [ih (by omega) fun i hi hne => h i (by omega) hne, h n (by omega) (by omega)]; omega
theorem sm_swap (n k : Nat) (f : Nat → Nat → Int) : sm n (fun i => sm k (fun j => f i j)) = sm k (fun j => sm n (fun i => f i j)) := by
  induction n with
  | zero => simp only [sm]; rw [sm_zero fun _ _ => rfl]
  | succ n ih => simp only [sm]; rw [ih, sm_add]
abbrev Dv (x : Int) : Prop := (1019 : Int) ∣ x
theorem sm_dv {n : Nat} {f : Nat → Int} (h : ∀ i, i < n → Dv (f i)) : Dv (sm n f) := by
  induction n with
  | zero => exact ⟨0, rfl⟩
  | succ n ih => exact Int.dvd_add (ih fun i hi => h i (by omega)) (h n (by omega))
theorem sm_sub (n : Nat) (f g : Nat → Int) : sm n (fun i => f i - g i) = sm n f - sm n g := by
  induction n with
  | zero => rfl
  | succ n ih => simp only [sm]; rw [ih]; omega
theorem sm_dv_sub {n : Nat} {f g : Nat → Int} (h : ∀ i, i < n → Dv (f i - g i)) : Dv (sm n f - sm n g) := by
  rw [← sm_sub]; exact sm_dv h
theorem dv_mul {x : Int} (h : Dv x) (q : Int) : Dv (q * x) := Int.dvd_trans h (Int.dvd_mul_left q x)
theorem dv_eq {x y : Int} (h : Dv (x - y)) (hx : 0 ≤ x ∧ x ≤ 1018) (hy : 0 ≤ y ∧ y ≤ 1018) : x = y := by
  obtain ⟨q, hq⟩ := h
  omega
theorem dv_mod (x : Int) : Dv (x % 1019 - x) := ⟨-(x / 1019), by omega⟩
theorem dv_zero : Dv 0 := ⟨0, rfl⟩
theorem dv_trans {x y z : Int} (h : Dv (x - y)) (k : Dv (y - z)) : Dv (x - z) := by
  have := Int.dvd_add h k
  rwa [show x - y + (y - z) = x - z by omega] at this
theorem dv_symm {x y : Int} (h : Dv (x - y)) : Dv (y - x) := by
  have := Int.dvd_neg.2 h
  rwa [show -(x - y) = y - x by omega] at this
theorem dv_refl (x : Int) : Dv (x - x) := by rw [Int.sub_self]; exact dv_zero

/-- v is a combination of the rows of m. -/
def InS (m : List (List Int)) (v : List Int) : Prop := ∃ cs : Nat → Int, ∀ l, Dv (ent v l - sm m.length (fun i => cs i * ent (rw_ m i) l))
theorem InS.lin {m : List (List Int)} {u v w : List Int} (a b : Int) (h : ∀ l, Dv (ent u l - (a * ent v l + b * ent w l))) (hv : InS m v) (hw : InS m w) : InS m u := by
  obtain ⟨c, hc⟩ := hv
  obtain ⟨d, hd⟩ := hw
  refine ⟨fun i => a * c i + b * d i, fun l => ?_⟩
  refine dv_trans (h l) ?_
  have e : sm m.length (fun i => (a * c i + b * d i) * ent (rw_ m i) l) = a * sm m.length (fun i => c i * ent (rw_ m i) l) + b * sm m.length (fun i => d i * ent (rw_ m i) l) := by
    rw [← sm_mul, ← sm_mul, ← sm_add]
    apply sm_congr
    intro i _
    rw [Int.add_mul, Int.mul_assoc, Int.mul_assoc]
  rw [e]
  have := Int.dvd_add (dv_mul (hc l) a) (dv_mul (hd l) b)
  rwa [Int.mul_sub, Int.mul_sub, show ∀ p q r s : Int, p - q + (r - s) = p + r - (q + s) by intros; omega] at this
theorem InS.row {m : List (List Int)} {i : Nat} (h : i < m.length) : InS m (rw_ m i) := by
  refine ⟨fun j => if j = i then 1 else 0, fun l => ?_⟩
  rw [sm_one h (fun j hj hne => by simp [hne])]
  simp
theorem InS.zero {m : List (List Int)} {v : List Int} (h : ∀ l, ent v l = 0) : InS m v := by
  refine ⟨fun _ => 0, fun l => ?_⟩
  rw [h l, sm_zero fun i _ => Int.zero_mul _]
  exact dv_zero
theorem InS.same {m : List (List Int)} {u v : List Int} (h : ∀ l, ent u l = ent v l) (hv : InS m v) : InS m u := by
  obtain ⟨c, hc⟩ := hv
  exact ⟨c, fun l => by rw [h l]; exact hc l⟩
theorem InS.trans {m n : List (List Int)} {v : List Int} (h : ∀ i, i < m.length → InS n (rw_ m i)) (hv : InS m v) : InS n v := by
  obtain ⟨cs, hc⟩ := hv
  have key : ∀ k, k ≤ m.length → ∃ ds : Nat → Int, ∀ l, Dv (sm k (fun i => cs i * ent (rw_ m i) l) - sm n.length (fun j => ds j * ent (rw_ n j) l)) := by
    intro k
    induction k with
    | zero =>
      intro _
      refine ⟨fun _ => 0, fun l => ?_⟩
      rw [sm_zero (n := n.length) fun i _ => Int.zero_mul _]; exact dv_zero
    | succ k ih =>
      intro hk
      obtain ⟨d, hd⟩ := ih (by omega)
      obtain ⟨e, he⟩ := h k (by omega)
      refine ⟨fun j => d j + cs k * e j, fun l => ?_⟩
      have e1 : sm n.length (fun j => (d j + cs k * e j) * ent (rw_ n j) l) = sm n.length (fun j => d j * ent (rw_ n j) l) + cs k * sm n.length (fun j => e j * ent (rw_ n j) l) := by
        rw [← sm_mul, ← sm_add]
        apply sm_congr
        intro i _
        rw [Int.add_mul, Int.mul_assoc]
      rw [e1]
      simp only [sm]
      have := Int.dvd_add (hd l) (dv_mul (he l) (cs k))
      rwa [Int.mul_sub, show ∀ p q r s : Int, p - q + (r - s) = p + r - (q + s) by intros; omega] at this
  obtain ⟨d, hd⟩ := key m.length (Nat.le_refl _)
  exact ⟨d, fun l => dv_trans (hc l) (hd l)⟩
/-- Two matrices with the same span. -/
def Same (m n : List (List Int)) : Prop := (∀ i, i < m.length → InS n (rw_ m i)) ∧ ∀ i, i < n.length → InS m (rw_ n i)
theorem Same.refl (m : List (List Int)) : Same m m := ⟨fun _ h => InS.row h, fun _ h => InS.row h⟩
theorem Same.symm {m n : List (List Int)} (h : Same m n) : Same n m := ⟨h.2, h.1⟩
theorem Same.trans {m n o : List (List Int)} (h : Same m n) (k : Same n o) : Same m o :=
  ⟨fun i hi => InS.trans k.1 (h.1 i hi), fun i hi => InS.trans h.2 (k.2 i hi)⟩
theorem Same.span {m n : List (List Int)} (h : Same m n) {v : List Int} : InS m v ↔ InS n v := ⟨fun k => InS.trans h.1 k, fun k => InS.trans h.2 k⟩

theorem mod_lin (x y q : Int) : Dv ((x + y * q) % 1019 - (1 * x + q * y)) := by
  have := dv_mod (x + y * q)
  rwa [show x + y * q = 1 * x + q * y by rw [Int.mul_comm y q]; omega] at this ⊢
theorem clr1_lin {c k : Nat} {r l : List Int} (hr : Row c r) (hl : Row c l) : ∃ q : Int, ∀ j, Dv (ent (clr1 r l k) j - (1 * ent r j + q * ent l j)) := by
  unfold clr1; split
  · refine ⟨1019 - ent r k, fun j => ?_⟩
    rw [ent_addsZ _ _ _ _ (by rw [hr.1, hl.1])]
    exact mod_lin _ _ _
  · refine ⟨0, fun j => ?_⟩
    rw [show ent r j - (1 * ent r j + 0 * ent l j) = 0 by omega]; exact dv_zero
theorem same_swp {c t p k : Nat} {rows : List (List Int)} (h : Mtx c rows) (ht : t < rows.length) (hp : p < rows.length) (hh : ent (rw_ rows p) k ≠ 0) : Same rows (swp rows t p k) := by
  have rp := mtx_row h hp
  have bp := ent_bd rp k
  have hinv := invZ_mul bp.1 bp.2 hh
  have st := swp_t (rows := rows) (p := p) (k := k) ht
  have ht' : t < (swp rows t p k).length := by rw [swp_len]; exact ht
  have hp' : p < (swp rows t p k).length := by rw [swp_len]; exact hp
  -- row p of the old ones, out of row t of the new ones
  have back : InS (swp rows t p k) (rw_ rows p) := by
    refine InS.lin (ent (rw_ rows p) k) 0 (fun l => ?_) (InS.row ht') (InS.row ht')
    rw [st, ent_scaleZ]
    generalize ent (rw_ rows p) l = x at *
    generalize ent (rw_ rows p) k = a at *
    generalize invZ a = b at *
    -- x - a * (x*b % 1019) = (1 - a*b) x mod
    have h1 := dv_mul (dv_mod (x * b)) a
    have h2 : Dv (a * b - 1) := ⟨a * b / 1019, by omega⟩
    have h3 := dv_mul h2 x
    have h4 := Int.dvd_neg.2 (Int.dvd_add h1 h3)
    have e : -(a * (x * b % 1019 - x * b) + x * (a * b - 1)) = x - (a * (x * b % 1019) + 0 * (x * b % 1019)) := by
      rw [Int.mul_sub, Int.mul_sub, Int.mul_left_comm x a b]; omega
    rwa [e] at h4
  refine ⟨fun i hi => ?_, fun i hi => ?_⟩
  · by_cases e : i = p
    · subst e; exact back
    · by_cases e2 : i = t
      · subst e2
        have : rw_ (swp rows i p k) p = rw_ rows i := by
          rw [swp_o hp (Ne.symm e), if_pos rfl]
        rw [← this]; exact InS.row hp'
      · have : rw_ (swp rows t p k) i = rw_ rows i := by
          rw [swp_o hp e2, if_neg e]
        rw [← this]; exact InS.row (by rw [swp_len]; exact hi)
  · rw [swp_len] at hi
    by_cases e2 : i = t
    · subst e2
      rw [st]
      refine InS.lin (invZ (ent (rw_ rows p) k)) 0 (fun l => ?_) (InS.row hp) (InS.row hp)
      rw [ent_scaleZ]
      have := dv_mod (ent (rw_ rows p) l * invZ (ent (rw_ rows p) k))
      rwa [show invZ (ent (rw_ rows p) k) * ent (rw_ rows p) l + 0 * ent (rw_ rows p) l = ent (rw_ rows p) l * invZ (ent (rw_ rows p) k) by rw [Int.mul_comm]; omega]
    · rw [swp_o hp e2]
      split
      · exact InS.row ht
      · exact InS.row hi
theorem same_clr {c t k : Nat} {rows : List (List Int)} (h : Mtx c rows) (ht : t < rows.length) : Same rows (clr rows t k) := by
  have tt : InS (clr rows t k) (rw_ rows t) := by rw [← clr_t rows t k]; exact InS.row (by rw [clr_len]; exact ht)
  refine ⟨fun i hi => ?_, fun i hi => ?_⟩
  · by_cases e : i = t
    · subst e; exact tt
    · obtain ⟨q, hq⟩ := clr1_lin (k := k) (mtx_row h hi) (mtx_row h ht)
      refine InS.lin 1 (-q) (fun l => ?_) (InS.row (m := clr rows t k) (i := i) (by rw [clr_len]; exact hi)) tt
      rw [clr_o hi e]
      have := dv_symm (hq l)
      generalize ent (clr1 (rw_ rows i) (rw_ rows t) k) l = x at *
      generalize ent (rw_ rows i) l = y at *
      generalize ent (rw_ rows t) l = z at *
      rwa [show y - (1 * x + -q * z) = 1 * y + q * z - x by rw [Int.neg_mul]; omega]
  · rw [clr_len] at hi
    by_cases e : i = t
    · subst e; rw [clr_t]; exact InS.row hi
    · obtain ⟨q, hq⟩ := clr1_lin (k := k) (mtx_row h hi) (mtx_row h ht)
      rw [clr_o hi e]
      exact InS.lin 1 q hq (InS.row hi) (InS.row ht)
theorem swp_mtx {c t p k : Nat} {rows : List (List Int)} (h : Mtx c rows) (ht : t < rows.length) (hp : p < rows.length) : Mtx c (swp rows t p k) := by
  apply mtx_of
  intro i hi
  rw [swp_len] at hi
  by_cases e : i = t
  · subst e; rw [swp_t ht]; exact row_scale _ (mtx_row h hp)
  · rw [swp_o hp e]; split
    · exact mtx_row h ht
    · exact mtx_row h hi
theorem redS_same {c : Nat} {m : List (List Int)} (h : Mtx c m) : ∀ k, Same m (redS m k).1
  | 0 => Same.refl m
  | k + 1 => by
    obtain ⟨P, hP⟩ := redS_inv h k
    have ih := redS_same h k
    unfold redS stp
    split
    · rename_i hp
      have hg := piv_ge (redS m k).1 (redS m k).2 k
      have ht : (redS m k).2 < (redS m k).1.length := by omega
      have s1 := same_swp hP.mtx ht hp (piv_hit hp)
      exact (ih.trans s1).trans (same_clr (swp_mtx hP.mtx ht hp) (by rw [swp_len]; exact ht))
    · exact ih
theorem redZ_same {c : Nat} {m : List (List Int)} (h : Mtx c m) : Same m (redZ m c) := by
  obtain ⟨P, hP⟩ := redS_inv h c
  refine (redS_same h c).trans ?_
  unfold redZ
  generalize (redS m c).1 = rows at *
  generalize (redS m c).2 = t at *
  have htl := hP.tle
  have hl : (rows.take t).length = t := by rw [List.length_take]; omega
  refine ⟨fun i hi => ?_, fun i hi => ?_⟩
  · rcases Nat.lt_or_ge i t with h1 | h1
    · rw [← rw_take h1]; exact InS.row (by rw [hl]; exact h1)
    · apply InS.zero
      intro l
      rcases Nat.lt_or_ge l c with h2 | h2
      · exact hP.rest i h1 hi l h2
      · exact ent_out (by rw [(mtx_row hP.mtx hi).1]; exact h2)
  · rw [hl] at hi
    rw [rw_take hi]; exact InS.row (by omega)

/-- A vector of a reduced matrix' span, out of its entries at the pivots. -/
theorem Red.coord {c : Nat} {m : List (List Int)} {P : Nat → Nat} (h : Red c m P) {v : List Int} (hv : InS m v) : ∀ l, Dv (ent v l - sm m.length (fun i => ent v (P i) * ent (rw_ m i) l)) := by
  obtain ⟨cs, hc⟩ := hv
  intro l
  refine dv_trans (hc l) (sm_dv_sub fun i hi => ?_)
  have h1 := hc (P i)
  rw [sm_one hi (fun j hj hne => by rw [h.col i hi j hj hne, Int.mul_zero]), h.one i hi, Int.mul_one] at h1
  have := dv_mul (dv_symm h1) (ent (rw_ m i) l)
  rwa [Int.mul_sub, Int.mul_comm, Int.mul_comm (ent (rw_ m i) l)] at this
theorem Red.eqv {c : Nat} {m : List (List Int)} {P : Nat → Nat} (h : Red c m P) {u v : List Int} (hu : InS m u) (hv : InS m v) (he : ∀ i, i < m.length → ent u (P i) = ent v (P i)) : ∀ l, Dv (ent u l - ent v l) := by
  intro l
  refine dv_trans (h.coord hu l) ?_
  rw [sm_congr (g := fun i => ent v (P i) * ent (rw_ m i) l) (fun i hi => by rw [he i hi])]
  exact dv_symm (h.coord hv l)
theorem exists_first {n : Nat} {p : Nat → Prop} (h : ∃ i, i < n ∧ p i) : ∃ i, i < n ∧ p i ∧ ∀ j, j < i → ¬ p j := by
  obtain ⟨i, hi, hp⟩ := h
  induction i using Nat.strongRecOn with
  | _ i ih =>
    by_cases hx : ∃ j, j < i ∧ p j
    · obtain ⟨j, hj, hpj⟩ := hx
      exact ih j hj (by omega) hpj
    · exact ⟨i, hi, hp, fun j hj hpj => hx ⟨j, hj, hpj⟩⟩
theorem Red.pivot {c : Nat} {m : List (List Int)} {P : Nat → Nat} (h : Red c m P) {v : List Int} (hr : Row c v) (hv : InS m v) {l : Nat} (hl : ent v l ≠ 0) : ∃ i, i < m.length ∧ lead v = P i := by
  have hex : ∃ i, i < m.length ∧ ent v (P i) ≠ 0 := by
    apply Classical.byContradiction
    intro hn
    have hz : ∀ i, i < m.length → ent v (P i) = 0 := fun i hi => Classical.byContradiction fun e => hn ⟨i, hi, e⟩
    have h1 := h.coord hv l
    rw [sm_zero (fun i hi => by rw [hz i hi, Int.zero_mul])] at h1
    have := dv_eq h1 (ent_bd hr l) (by omega)
    exact hl this
  obtain ⟨i, hi, hne, hmin⟩ := exists_first hex
  refine ⟨i, hi, Go.Proofs.Ytjaagabbbnokdaa.lead_eq hne fun k hk => ?_⟩
  have h1 := h.coord hv k
  rw [sm_zero (fun j hj => ?_)] at h1
  · exact dv_eq h1 (ent_bd hr k) (by omega)
  · rcases Nat.lt_or_ge j i with h2 | h2
    · have : ent v (P j) = 0 := Classical.byContradiction fun e => hmin j h2 e
      rw [this, Int.zero_mul]
    · have : P i ≤ P j := by
        rcases Nat.lt_or_eq_of_le h2 with h3 | rfl
        · have := h.mono i j h3 hj; omega
        · exact Nat.le_refl _
      rw [h.lead j hj k (by omega), Int.mul_zero]
theorem enum_eq {n k : Nat} {P Q : Nat → Nat} (hP : ∀ i j, i < j → j < n → P i < P j) (hQ : ∀ i j, i < j → j < k → Q i < Q j)
    (h1 : ∀ i, i < n → ∃ j, j < k ∧ P i = Q j) (h2 : ∀ i, i < k → ∃ j, j < n ∧ Q i = P j) : ∀ i, i < n → i < k ∧ P i = Q i := by
  intro i
  induction i using Nat.strongRecOn with
  | _ i ih =>
    intro hi
    obtain ⟨j, hj, e⟩ := h1 i hi
    have hji : i ≤ j := by
      rcases Nat.lt_or_ge j i with h | h
      · have := (ih j h (by omega)).2
        have := hP j i h hi
        omega
      · exact h
    refine ⟨by omega, ?_⟩
    obtain ⟨j2, hj2, e2⟩ := h2 i (by omega)
    have hji2 : i ≤ j2 := by
      rcases Nat.lt_or_ge j2 i with h | h
      · have h3 := ih j2 h (by omega)
        have := hQ j2 i h (by omega)
        omega
      · exact h
    have a1 : Q i ≤ Q j := by
      rcases Nat.lt_or_eq_of_le hji with h | rfl
      · have := hQ i j h hj; omega
      · exact Nat.le_refl _
    have a2 : P i ≤ P j2 := by
      rcases Nat.lt_or_eq_of_le hji2 with h | rfl
      · have := hP i j2 h hj2; omega
      · exact Nat.le_refl _
    omega
theorem Red.half {c : Nat} {m n : List (List Int)} {P Q : Nat → Nat} (hm : Red c m P) (hn : Red c n Q) (hs : Same m n) : ∀ i, i < m.length → ∃ j, j < n.length ∧ P i = Q j := by
  intro i hi
  obtain ⟨j, hj, e⟩ := hn.pivot (mtx_row hm.mtx hi) (hs.1 i hi) (l := P i) (by rw [hm.one i hi]; decide)
  exact ⟨j, hj, by rw [← e, hm.lead_eq hi]⟩
/-- A reduced matrix is given by its span. -/
theorem red_unique {c : Nat} {m n : List (List Int)} {P Q : Nat → Nat} (hm : Red c m P) (hn : Red c n Q) (hs : Same m n) : m = n := by
  have h1 := hm.half hn hs
  have h2 := hn.half hm hs.symm
  have e1 := enum_eq hm.mono hn.mono h1 h2
  have e2 := enum_eq hn.mono hm.mono h2 h1
  have hl : m.length = n.length := by
    rcases Nat.lt_trichotomy m.length n.length with h | h | h
    · have := (e2 m.length h).1; omega
    · exact h
    · have := (e1 n.length h).1; omega
  apply mat_ext hl
  intro i hi
  have ri := mtx_row hm.mtx hi
  have rj := mtx_row hn.mtx (show i < n.length by omega)
  apply row_ext (by rw [ri.1, rj.1])
  intro l _
  refine dv_eq (hn.eqv (hs.1 i hi) (InS.row (by omega)) (fun j hj => ?_) l) (ent_bd ri l) (ent_bd rj l)
  have ej := (e1 j (by omega)).2
  by_cases e : j = i
  · subst e; rw [hn.one j hj, ← ej, hm.one j hi]
  · rw [hn.col j hj i (by omega) (Ne.symm e), ← ej, hm.col j (by omega) i hi (Ne.symm e)]
end Go.Proofs.Ytjaagabbbnokdaa
