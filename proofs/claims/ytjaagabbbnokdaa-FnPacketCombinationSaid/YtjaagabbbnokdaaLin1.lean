/-
  Matrices over the field of 1019 elements, as lists of rows: the elimination of the reference, the structural test of the program, and that they agree. Plain mathematics: nothing of the program.
-/
namespace Go.Proofs.Ytjaagabbbnokdaa

/-- Entry k of a row. -/
def ent (r : List Int) (k : Nat) : Int := r.getD k 0
def ex17 : Nat := 1017
def invZ (a : Int) : Int := a ^ ex17 % 1019
def scaleZ (r : List Int) (k : Int) : List Int := r.map fun x => x * k % 1019
def addsZ (a b : List Int) (k : Int) : List Int := List.zipWith (fun x y => (x + y * k) % 1019) a b
/-- A row of width c. -/
def Row (c : Nat) (r : List Int) : Prop := r.length = c ∧ ∀ x ∈ r, 0 ≤ x ∧ x ≤ 1018
def Mtx (c : Nat) (m : List (List Int)) : Prop := ∀ r ∈ m, Row c r
/-- Row i. -/
def rw_ (m : List (List Int)) (i : Nat) : List Int := m.getD i []

theorem ent_out {r : List Int} {k : Nat} (h : r.length ≤ k) : ent r k = 0 := by
  simp [ent, List.getD, List.getElem?_eq_none h]
theorem ent_in {r : List Int} {k : Nat} {x : Int} (h : r[k]? = some x) : ent r k = x := by
  simp [ent, List.getD, h]
theorem ent_get {r : List Int} {k : Nat} (h : k < r.length) : r[k]? = some (ent r k) := by
  simp [ent, List.getD, h]
theorem ent_bd {c : Nat} {r : List Int} (h : Row c r) (k : Nat) : 0 ≤ ent r k ∧ ent r k ≤ 1018 := by
  rcases Nat.lt_or_ge k r.length with hk | hk
  · exact h.2 _ (List.mem_of_getElem? (ent_get hk))
  · rw [ent_out hk]; omega
theorem row_ext {r s : List Int} (hl : r.length = s.length) (h : ∀ k, k < r.length → ent r k = ent s k) : r = s := by
  apply List.ext_getElem?
  intro k
  rcases Nat.lt_or_ge k r.length with hk | hk
  · rw [ent_get hk, ent_get (by omega), h k hk]
  · rw [List.getElem?_eq_none hk, List.getElem?_eq_none (by omega)]
theorem scaleZ_len (r : List Int) (k : Int) : (scaleZ r k).length = r.length := by simp [scaleZ]
theorem addsZ_len (a b : List Int) (k : Int) (h : a.length = b.length) : (addsZ a b k).length = a.length := by simp [addsZ, h]
theorem ent_scaleZ (r : List Int) (q : Int) (k : Nat) : ent (scaleZ r q) k = ent r k * q % 1019 := by
  rcases Nat.lt_or_ge k r.length with hk | hk
  · have : (scaleZ r q)[k]? = some (ent r k * q % 1019) := by simp [scaleZ, ent_get hk]
    exact ent_in this
  · rw [ent_out hk, ent_out (by rw [scaleZ_len]; exact hk)]; simp
theorem ent_addsZ (a b : List Int) (q : Int) (k : Nat) (h : a.length = b.length) : ent (addsZ a b q) k = (ent a k + ent b k * q) % 1019 := by
  rcases Nat.lt_or_ge k a.length with hk | hk
  · have : (addsZ a b q)[k]? = some ((ent a k + ent b k * q) % 1019) := by simp [addsZ, List.getElem?_zipWith, ent_get hk, ent_get (show k < b.length by omega)]
    exact ent_in this
  · rw [ent_out hk, ent_out (show b.length ≤ k by omega), ent_out (by rw [addsZ_len _ _ _ h]; exact hk)]; simp
theorem row_scale {c : Nat} {r : List Int} (q : Int) (h : Row c r) : Row c (scaleZ r q) := by
  refine ⟨by rw [scaleZ_len]; exact h.1, fun x hx => ?_⟩
  simp only [scaleZ, List.mem_map] at hx
  obtain ⟨y, _, rfl⟩ := hx
  omega
theorem row_adds {c : Nat} {a b : List Int} (q : Int) (h : Row c a) (k : Row c b) : Row c (addsZ a b q) := by
  have hl : a.length = b.length := by rw [h.1, k.1]
  refine ⟨by rw [addsZ_len _ _ _ hl]; exact h.1, fun x hx => ?_⟩
  obtain ⟨i, hi⟩ := List.mem_iff_getElem?.1 hx
  have hlt : i < (addsZ a b q).length := (List.getElem?_eq_some_iff.1 hi).1
  have := ent_addsZ a b q i hl
  rw [ent_in hi] at this
  omega

theorem inv_nat : ∀ n : Nat, n < 1019 → n ≠ 0 → n * (n ^ ex17 % 1019) % 1019 = 1 := by decide +kernel
theorem invZ_bd (a : Int) : 0 ≤ invZ a ∧ invZ a ≤ 1018 := by unfold invZ; omega
theorem invZ_mul {a : Int} (h0 : 0 ≤ a) (h1 : a ≤ 1018) (h : a ≠ 0) : a * invZ a % 1019 = 1 := by
  obtain ⟨n, rfl⟩ := Int.eq_ofNat_of_zero_le h0
  have := inv_nat n (by omega) (by omega)
  unfold invZ
  have e : ((n : Int) * ((n : Int) ^ ex17 % 1019) % 1019) = ((n * (n ^ ex17 % 1019) % 1019 : Nat) : Int) := by
    rw [Int.natCast_emod, Int.natCast_mul, Int.natCast_emod, Int.natCast_pow]; rfl
  rw [e, this]; rfl
theorem invZ_one : invZ 1 = 1 := by unfold invZ; rw [Int.one_pow]; rfl

/-- The first row from t on with an entry in column k that is not 0; the number of rows if there is none. -/
def piv (rows : List (List Int)) (t k : Nat) : Nat := t + (rows.drop t).findIdx (fun r => ent r k != 0)
def swp (rows : List (List Int)) (t p k : Nat) : List (List Int) := (rows.set p (rw_ rows t)).set t (scaleZ (rw_ rows p) (invZ (ent (rw_ rows p) k)))
def clr1 (r l : List Int) (k : Nat) : List Int := if ent r k != 0 then addsZ r l (1019 - ent r k) else r
def clr (rows : List (List Int)) (t k : Nat) : List (List Int) := rows.mapIdx fun i r => if i = t then r else clr1 r (rw_ rows t) k
def stp (s : List (List Int) × Nat) (k : Nat) : List (List Int) × Nat := if piv s.1 s.2 k < s.1.length then (clr (swp s.1 s.2 (piv s.1 s.2 k) k) s.2 k, s.2 + 1) else s
def redS (m : List (List Int)) : Nat → List (List Int) × Nat
  | 0 => (m, 0)
  | k + 1 => stp (redS m k) k
def redZ (m : List (List Int)) (c : Nat) : List (List Int) := (redS m c).1.take (redS m c).2

theorem rw_get {m : List (List Int)} {i : Nat} (h : i < m.length) : m[i]? = some (rw_ m i) := by simp [rw_, List.getD, h]
theorem rw_in {m : List (List Int)} {i : Nat} {r : List Int} (h : m[i]? = some r) : rw_ m i = r := by simp [rw_, List.getD, h]
theorem mtx_row {c : Nat} {m : List (List Int)} (h : Mtx c m) {i : Nat} (hi : i < m.length) : Row c (rw_ m i) := h _ (List.mem_of_getElem? (rw_get hi))
theorem mtx_of {c : Nat} {m : List (List Int)} (h : ∀ i, i < m.length → Row c (rw_ m i)) : Mtx c m := by
  intro r hr
  obtain ⟨i, hi⟩ := List.mem_iff_getElem?.1 hr
  have := h i (List.getElem?_eq_some_iff.1 hi).1
  rwa [rw_in hi] at this
theorem mat_ext {m n : List (List Int)} (hl : m.length = n.length) (h : ∀ i, i < m.length → rw_ m i = rw_ n i) : m = n := by
  apply List.ext_getElem?
  intro k
  rcases Nat.lt_or_ge k m.length with hk | hk
  · rw [rw_get hk, rw_get (by omega), h k hk]
  · rw [List.getElem?_eq_none hk, List.getElem?_eq_none (by omega)]

theorem piv_ge (rows : List (List Int)) (t k : Nat) : t ≤ piv rows t k := by unfold piv; omega
theorem piv_le {rows : List (List Int)} {t : Nat} (k : Nat) (h : t ≤ rows.length) : piv rows t k ≤ rows.length := by
  unfold piv
  have := List.findIdx_le_length (p := fun r => ent r k != 0) (xs := rows.drop t)
  rw [List.length_drop] at this
  omega
theorem piv_hit {rows : List (List Int)} {t k : Nat} (h : piv rows t k < rows.length) : ent (rw_ rows (piv rows t k)) k ≠ 0 := by
  have h1 : (rows.drop t).findIdx (fun r => ent r k != 0) < (rows.drop t).length := by
    rw [List.length_drop]; unfold piv at h; omega
  have h2 := List.findIdx_getElem (w := h1)
  have e : (rows.drop t)[(rows.drop t).findIdx (fun r => ent r k != 0)]'h1 = rw_ rows (piv rows t k) := by
    rw [List.getElem_drop]
    symm
    apply rw_in
    exact List.getElem?_eq_getElem (by unfold piv at h; exact h)
  rw [e] at h2
  simpa using h2
theorem piv_before {rows : List (List Int)} {t k i : Nat} (h1 : t ≤ i) (h2 : i < piv rows t k) (hl : i < rows.length) : ent (rw_ rows i) k = 0 := by
  have h3 : i - t < (rows.drop t).findIdx (fun r => ent r k != 0) := by unfold piv at h2; omega
  have h4 := List.not_of_lt_findIdx h3
  have hlt : i - t < (rows.drop t).length := by rw [List.length_drop]; omega
  have e : (rows.drop t)[i - t]'hlt = rw_ rows i := by
    rw [List.getElem_drop]
    symm
    apply rw_in
    have e2 : t + (i - t) = i := by omega
    rw [List.getElem?_eq_getElem hl]
    simp only [e2]
  rw [e] at h4
  simpa using h4

theorem swp_len (rows : List (List Int)) (t p k : Nat) : (swp rows t p k).length = rows.length := by simp [swp]
theorem clr_len (rows : List (List Int)) (t k : Nat) : (clr rows t k).length = rows.length := by simp [clr]
theorem swp_t {rows : List (List Int)} {t p k : Nat} (ht : t < rows.length) : rw_ (swp rows t p k) t = scaleZ (rw_ rows p) (invZ (ent (rw_ rows p) k)) := by
  apply rw_in; simp [swp, ht]
theorem swp_o {rows : List (List Int)} {t p k i : Nat} (hp : p < rows.length) (hi : i ≠ t) : rw_ (swp rows t p k) i = if i = p then rw_ rows t else rw_ rows i := by
  by_cases h : i = p
  · subst h
    rw [if_pos rfl]
    apply rw_in; simp [swp, hp, Ne.symm hi]
  · rw [if_neg h]
    unfold rw_ swp List.getD
    rw [List.getElem?_set_ne (Ne.symm hi), List.getElem?_set_ne (Ne.symm h)]
theorem clr_t (rows : List (List Int)) (t k : Nat) : rw_ (clr rows t k) t = rw_ rows t := by
  rcases Nat.lt_or_ge t rows.length with h | h
  · apply rw_in; simp [clr, List.getElem?_mapIdx, rw_get h]
  · simp [rw_, List.getD, clr, List.getElem?_mapIdx, List.getElem?_eq_none h]
theorem clr_o {rows : List (List Int)} {t k i : Nat} (hi : i < rows.length) (h : i ≠ t) : rw_ (clr rows t k) i = clr1 (rw_ rows i) (rw_ rows t) k := by
  apply rw_in; simp [clr, List.getElem?_mapIdx, rw_get hi, h]

theorem clr1_row {c k : Nat} {r l : List Int} (hr : Row c r) (hl : Row c l) : Row c (clr1 r l k) := by
  unfold clr1; split
  · exact row_adds _ hr hl
  · exact hr
/-- Column k of a row that has been cleared by a row with 1 there is 0. -/
theorem clr1_k {c k : Nat} {r l : List Int} (hr : Row c r) (hl : Row c l) (h : ent l k = 1) : ent (clr1 r l k) k = 0 := by
  unfold clr1; split
  · rw [ent_addsZ _ _ _ _ (by rw [hr.1, hl.1]), h]
    have := ent_bd hr k
    omega
  · rename_i h2; simpa using h2
/-- A column where the clearing row is 0 stays. -/
theorem clr1_j {c k j : Nat} {r l : List Int} (hr : Row c r) (hl : Row c l) (h : ent l j = 0) : ent (clr1 r l k) j = ent r j := by
  unfold clr1; split
  · rw [ent_addsZ _ _ _ _ (by rw [hr.1, hl.1]), h]
    have := ent_bd hr j
    rw [Int.zero_mul, Int.add_zero, Int.emod_eq_of_lt] <;> omega
  · rfl
theorem clr1_0 {k : Nat} {r l : List Int} (h : ent r k = 0) : clr1 r l k = r := by unfold clr1; rw [h]; rfl

/-- The rows behind the elimination of the first k columns; t of them have pivots, at P. -/
structure Inv (c k : Nat) (rows : List (List Int)) (t : Nat) (P : Nat → Nat) : Prop where
  mtx : Mtx c rows
  tle : t ≤ rows.length
  low : ∀ i, i < t → P i < k
  one : ∀ i, i < t → ent (rw_ rows i) (P i) = 1
  lead : ∀ i, i < t → ∀ l, l < P i → ent (rw_ rows i) l = 0
  col : ∀ i, i < t → ∀ j, j < rows.length → j ≠ i → ent (rw_ rows j) (P i) = 0
  mono : ∀ i j, i < j → j < t → P i < P j
  rest : ∀ i, t ≤ i → i < rows.length → ∀ l, l < k → ent (rw_ rows i) l = 0

theorem Inv.start {c : Nat} {m : List (List Int)} (h : Mtx c m) : Inv c 0 m 0 (fun _ => 0) :=
  ⟨h, Nat.zero_le _, fun i hi => by omega, fun i hi => by omega, fun i hi => by omega, fun i hi => by omega, fun i j _ h => by omega, fun i _ _ l hl => by omega⟩
theorem Inv.skip {c k : Nat} {rows : List (List Int)} {t : Nat} {P : Nat → Nat} (h : Inv c k rows t P) (hp : ¬ piv rows t k < rows.length) : Inv c (k + 1) rows t P := by
  refine ⟨h.mtx, h.tle, fun i hi => Nat.lt_succ_of_lt (h.low i hi), h.one, h.lead, h.col, h.mono, fun i h1 h2 l hl => ?_⟩
  rcases Nat.lt_or_eq_of_le (Nat.le_of_lt_succ hl) with h3 | rfl
  · exact h.rest i h1 h2 l h3
  · exact piv_before h1 (by omega) h2
theorem Inv.step {c k : Nat} {rows : List (List Int)} {t : Nat} {P : Nat → Nat} (h : Inv c k rows t P) (hp : piv rows t k < rows.length) :
    Inv c (k + 1) (clr (swp rows t (piv rows t k) k) t k) (t + 1) (fun i => if i = t then k else P i) := by
  have hge := piv_ge rows t k
  have hhit := piv_hit hp
  generalize piv rows t k = p at *
  have ht : t < rows.length := by omega
  have rp := mtx_row h.mtx hp
  have bp := ent_bd rp k
  -- the swapped rows
  have sl := swp_len rows t p k
  have st : rw_ (swp rows t p k) t = scaleZ (rw_ rows p) (invZ (ent (rw_ rows p) k)) := swp_t ht
  have so : ∀ i, i ≠ t → i < rows.length → ∃ j, j < rows.length ∧ rw_ (swp rows t p k) i = rw_ rows j ∧ (i < t → j = i) ∧ (t ≤ i → t ≤ j) := by
    intro i hi hl
    rw [swp_o hp hi]
    by_cases e : i = p
    · rw [if_pos e]; exact ⟨t, ht, rfl, fun _ => by omega, fun _ => Nat.le_refl _⟩
    · rw [if_neg e]; exact ⟨i, hl, rfl, fun _ => rfl, fun h => h⟩
  have rt : Row c (rw_ (swp rows t p k) t) := by rw [st]; exact row_scale _ rp
  have one_t : ent (rw_ (swp rows t p k) t) k = 1 := by rw [st, ent_scaleZ]; exact invZ_mul bp.1 bp.2 hhit
  have zer_t : ∀ l, l < k → ent (rw_ (swp rows t p k) t) l = 0 := by
    intro l hl
    rw [st, ent_scaleZ, h.rest p hge hp l hl]; simp
  have ro : ∀ i, i ≠ t → i < rows.length → Row c (rw_ (swp rows t p k) i) := by
    intro i hi hl
    obtain ⟨j, hj, e, _⟩ := so i hi hl
    rw [e]; exact mtx_row h.mtx hj
  have pz : ∀ i, i < t → ent (rw_ (swp rows t p k) t) (P i) = 0 := fun i hi => zer_t _ (h.low i hi)
  -- the cleared rows
  have cl : (clr (swp rows t p k) t k).length = rows.length := by rw [clr_len, sl]
  have ct : rw_ (clr (swp rows t p k) t k) t = rw_ (swp rows t p k) t := clr_t _ _ _
  have co : ∀ i, i ≠ t → i < rows.length → rw_ (clr (swp rows t p k) t k) i = clr1 (rw_ (swp rows t p k) i) (rw_ (swp rows t p k) t) k := fun i hi hl => clr_o (by rw [sl]; exact hl) hi
  have cj : ∀ i, i ≠ t → i < rows.length → ∀ l, ent (rw_ (swp rows t p k) t) l = 0 → ent (rw_ (clr (swp rows t p k) t k) i) l = ent (rw_ (swp rows t p k) i) l := by
    intro i hi hl l h0
    rw [co i hi hl]; exact clr1_j (ro i hi hl) rt h0
  refine ⟨mtx_of fun i hi => ?_, by rw [cl]; omega, fun i hi => ?_, fun i hi => ?_, fun i hi l hl => ?_, fun i hi j hj hne => ?_, fun i j hij hj => ?_, fun i h1 h2 l hl => ?_⟩
  · rw [cl] at hi
    by_cases e : i = t
    · subst e; rw [ct]; exact rt
    · rw [co i e hi]; exact clr1_row (ro i e hi) rt
  · split
    · omega
    · exact Nat.lt_succ_of_lt (h.low i (by omega))
  · split
    · rename_i e; subst e; rw [ct]; exact one_t
    · rename_i e
      have hi' : i < t := by omega
      rw [cj i e (by omega) _ (pz i hi')]
      obtain ⟨j, hj, ej, f1, _⟩ := so i e (by omega)
      rw [ej, f1 hi']; exact h.one i hi'
  · split at hl
    · rename_i e; subst e; rw [ct]; exact zer_t l hl
    · rename_i e
      have hi' : i < t := by omega
      rw [cj i e (by omega) l (zer_t l (by have := h.low i hi'; omega))]
      obtain ⟨j, hj, ej, f1, _⟩ := so i e (by omega)
      rw [ej, f1 hi']; exact h.lead i hi' l hl
  · rw [cl] at hj
    split
    · rename_i e; subst e
      rw [co j hne hj]; exact clr1_k (ro j hne hj) rt one_t
    · rename_i e
      have hi' : i < t := by omega
      by_cases e2 : j = t
      · subst e2; rw [ct]; exact pz i hi'
      · rw [cj j e2 hj _ (pz i hi')]
        obtain ⟨j', hj', ej, f1, f2⟩ := so j e2 hj
        rw [ej]
        apply h.col i hi' j' hj'
        rcases Nat.lt_or_ge j t with h3 | h3
        · rw [f1 h3]; exact hne
        · have := f2 h3; omega
  · rw [if_neg (by omega : ¬ i = t)]
    split
    · rename_i e; exact h.low i (by omega)
    · exact h.mono i j hij (by omega)
  · rw [cl] at h2
    have e : i ≠ t := by omega
    obtain ⟨j, hj, ej, _, f2⟩ := so i e h2
    rcases Nat.lt_or_eq_of_le (Nat.le_of_lt_succ hl) with h3 | rfl
    · rw [cj i e h2 l (zer_t l h3), ej]
      exact h.rest j (f2 (by omega)) hj l h3
    · rw [co i e h2]; exact clr1_k (ro i e h2) rt one_t
theorem redS_inv {c : Nat} {m : List (List Int)} (h : Mtx c m) : ∀ k, ∃ P, Inv c k (redS m k).1 (redS m k).2 P
  | 0 => ⟨_, Inv.start h⟩
  | k + 1 => by
    obtain ⟨P, hP⟩ := redS_inv h k
    unfold redS stp
    split
    · rename_i hp; exact ⟨_, hP.step hp⟩
    · rename_i hp; exact ⟨P, hP.skip hp⟩
theorem redS_len (m : List (List Int)) : ∀ k, (redS m k).1.length = m.length
  | 0 => rfl
  | k + 1 => by
    unfold redS stp
    split
    · simp only; rw [clr_len, swp_len]; exact redS_len m k
    · exact redS_len m k

/-- A reduced matrix of width c, its pivots at P. -/
def Red (c : Nat) (m : List (List Int)) (P : Nat → Nat) : Prop := Inv c c m m.length P
theorem rw_take {m : List (List Int)} {t i : Nat} (h : i < t) : rw_ (m.take t) i = rw_ m i := by simp [rw_, List.getD, h]
theorem redZ_red {c : Nat} {m : List (List Int)} (h : Mtx c m) : ∃ P, Red c (redZ m c) P := by
  obtain ⟨P, hP⟩ := redS_inv h c
  refine ⟨P, ?_⟩
  unfold redZ Red
  generalize (redS m c).1 = rows at *
  generalize (redS m c).2 = t at *
  have hl : (rows.take t).length = t := by rw [List.length_take]; have := hP.tle; omega
  have htl := hP.tle
  rw [hl]
  refine ⟨fun r hr => hP.mtx r (List.mem_of_mem_take hr), by omega, hP.low, fun i hi => ?_, fun i hi l h2 => ?_, fun i hi j hj hne => ?_, hP.mono, fun i h1 h2 => by omega⟩
  · rw [rw_take hi]; exact hP.one i hi
  · rw [rw_take hi]; exact hP.lead i hi l h2
  · rw [hl] at hj; rw [rw_take hj]; exact hP.col i hi j (by omega) hne
theorem scale_one {c : Nat} {r : List Int} (h : Row c r) : scaleZ r 1 = r := by
  apply row_ext (scaleZ_len _ _)
  intro k _
  rw [ent_scaleZ, Int.mul_one, Int.emod_eq_of_lt] <;> have := ent_bd h k <;> omega
theorem redS_id {c : Nat} {m : List (List Int)} {P : Nat → Nat} (h : Red c m P) : ∀ k, k ≤ c → ∃ t, redS m k = (m, t) ∧ t ≤ m.length ∧ (∀ i, i < t → P i < k) ∧ (∀ i, t ≤ i → i < m.length → k ≤ P i)
  | 0, _ => ⟨0, rfl, Nat.zero_le _, fun i hi => by omega, fun i _ _ => Nat.zero_le _⟩
  | k + 1, hk => by
    obtain ⟨t, e, h1, h2, h3⟩ := redS_id h k (by omega)
    unfold redS
    rw [e]
    unfold stp
    dsimp only
    by_cases hp : t < m.length ∧ P t = k
    · have hone := h.one t hp.1
      rw [hp.2] at hone
      have pe : piv m t k = t := by
        rcases Nat.lt_or_ge t (piv m t k) with h4 | h4
        · have := piv_before (Nat.le_refl t) h4 hp.1; omega
        · have := piv_ge m t k; omega
      rw [pe, if_pos hp.1]
      have sw : swp m t t k = m := by
        apply mat_ext (swp_len _ _ _ _)
        intro i hi
        by_cases e2 : i = t
        · subst e2
          rw [swp_t hp.1, hone, invZ_one]
          exact scale_one (mtx_row h.mtx hp.1)
        · rw [swp_o hp.1 e2, if_neg e2]
      have cw : clr m t k = m := by
        apply mat_ext (clr_len _ _ _)
        intro i hi
        rw [clr_len] at hi
        by_cases e2 : i = t
        · subst e2; exact clr_t _ _ _
        · rw [clr_o hi e2]
          apply clr1_0
          have := h.col t hp.1 i hi e2
          rwa [hp.2] at this
      rw [sw, cw]
      refine ⟨t + 1, rfl, by omega, fun i hi => ?_, fun i hi1 hi2 => ?_⟩
      · rcases Nat.lt_or_eq_of_le (Nat.le_of_lt_succ hi) with h4 | rfl
        · have := h2 i h4; omega
        · omega
      · have := h.mono t i (by omega) hi2; omega
    · have hall : ∀ i, t ≤ i → i < m.length → k < P i := by
        intro i hi1 hi2
        have h4 := h3 i hi1 hi2
        rcases Nat.lt_or_eq_of_le h4 with h5 | h5
        · exact h5
        · exfalso
          apply hp
          refine ⟨by omega, ?_⟩
          rcases Nat.lt_or_eq_of_le hi1 with h6 | rfl
          · have := h.mono t i h6 hi2
            have := h3 t (Nat.le_refl _) (by omega)
            omega
          · exact h5.symm
      have pe : ¬ piv m t k < m.length := by
        intro hlt
        have hh := piv_hit hlt
        have hg := piv_ge m t k
        exact hh (h.lead _ hlt k (hall _ hg hlt))
      rw [if_neg pe]
      exact ⟨t, rfl, h1, fun i hi => Nat.lt_succ_of_lt (h2 i hi), fun i hi1 hi2 => hall i hi1 hi2⟩
theorem redZ_id {c : Nat} {m : List (List Int)} {P : Nat → Nat} (h : Red c m P) : redZ m c = m := by
  obtain ⟨t, e, h1, h2, h3⟩ := redS_id h c (Nat.le_refl _)
  unfold redZ
  rw [e]
  have : t = m.length := by
    rcases Nat.lt_or_eq_of_le h1 with h4 | h4
    · have := h3 t (Nat.le_refl _) h4
      have := h.low t h4
      omega
    · exact h4
  subst this
  exact List.take_length

/-- The index of the first entry that is not 0; the length if there is none. -/
def lead (r : List Int) : Nat := r.findIdx (fun x => x != 0)
theorem lead_le (r : List Int) : lead r ≤ r.length := List.findIdx_le_length
theorem lead_hit {r : List Int} (h : lead r < r.length) : ent r (lead r) ≠ 0 := by
  have := List.findIdx_getElem (w := h)
  have e : r[lead r]? = some (r[lead r]'h) := List.getElem?_eq_getElem h
  rw [ent_in e]
  intro h0
  simp [lead] at this h0
  exact this h0
theorem lead_before {r : List Int} {k : Nat} (h : k < lead r) : ent r k = 0 := by
  have h2 := List.not_of_lt_findIdx h
  have hl : k < r.length := by have := lead_le r; omega
  rw [ent_in (List.getElem?_eq_getElem hl)]
  simpa using h2
theorem lead_eq {r : List Int} {p : Nat} (h1 : ent r p ≠ 0) (h2 : ∀ l, l < p → ent r l = 0) : lead r = p := by
  rcases Nat.lt_trichotomy (lead r) p with h | h | h
  · have hp : p < r.length := by
      rcases Nat.lt_or_ge p r.length with h3 | h3
      · exact h3
      · exact absurd (ent_out h3) h1
    exact absurd (h2 _ h) (lead_hit (by omega))
  · exact h
  · exact absurd (lead_before h) h1
/-- The program's test of row i. -/
def rowB (m : List (List Int)) (i : Nat) : Bool :=
  decide (lead (rw_ m i) < (rw_ m i).length) && decide (i = 0 ∨ lead (rw_ m (i - 1)) < lead (rw_ m i)) && (ent (rw_ m i) (lead (rw_ m i)) == 1) && decide (∀ k, k < m.length → k ≠ i → ent (rw_ m k) (lead (rw_ m i)) = 0)
def rdB (m : List (List Int)) : Bool := decide (∀ i, i < m.length → rowB m i = true)
theorem rdB_iff {c : Nat} {m : List (List Int)} (h : Mtx c m) : rdB m = true ↔ Red c m (fun i => lead (rw_ m i)) := by
  unfold rdB
  rw [decide_eq_true_eq]
  constructor
  · intro hr
    have hr' : ∀ i, i < m.length → lead (rw_ m i) < (rw_ m i).length ∧ (i = 0 ∨ lead (rw_ m (i - 1)) < lead (rw_ m i)) ∧ ent (rw_ m i) (lead (rw_ m i)) = 1 ∧ ∀ k, k < m.length → k ≠ i → ent (rw_ m k) (lead (rw_ m i)) = 0 := by
      intro i hi
      have := hr i hi
      simp only [rowB, Bool.and_eq_true, decide_eq_true_eq, beq_iff_eq] at this
      exact ⟨this.1.1.1, this.1.1.2, this.1.2, this.2⟩
    refine ⟨h, Nat.le_refl _, fun i hi => ?_, fun i hi => (hr' i hi).2.2.1, fun i hi l hl => lead_before hl, fun i hi j hj hne => (hr' i hi).2.2.2 j hj hne, ?_, fun i h1 h2 => by omega⟩
    · have := (hr' i hi).1
      rwa [(mtx_row h hi).1] at this
    · intro i j hij hj
      induction j with
      | zero => omega
      | succ j ih =>
        have h1 := (hr' (j + 1) hj).2.1
        have h2 : lead (rw_ m j) < lead (rw_ m (j + 1)) := by
          rcases h1 with h1 | h1
          · omega
          · exact h1
        rcases Nat.lt_or_eq_of_le (Nat.le_of_lt_succ hij) with h3 | rfl
        · have := ih h3 (by omega)
          omega
        · exact h2
  · intro hr i hi
    simp only [rowB, Bool.and_eq_true, decide_eq_true_eq, beq_iff_eq]
    refine ⟨⟨⟨?_, ?_⟩, hr.one i hi⟩, fun k hk hne => hr.col i hi k hk hne⟩
    · rw [(mtx_row h hi).1]; exact hr.low i hi
    · rcases Nat.eq_zero_or_pos i with h0 | h0
      · exact .inl h0
      · exact .inr (hr.mono (i - 1) i (by omega) hi)
theorem Red.lead_eq {c : Nat} {m : List (List Int)} {P : Nat → Nat} (h : Red c m P) {i : Nat} (hi : i < m.length) : lead (rw_ m i) = P i :=
  Go.Proofs.Ytjaagabbbnokdaa.lead_eq (by rw [h.one i hi]; decide) (h.lead i hi)
theorem Red.own {c : Nat} {m : List (List Int)} {P : Nat → Nat} (h : Red c m P) : Red c m (fun i => lead (rw_ m i)) := by
  have e : ∀ i, i < m.length → lead (rw_ m i) = P i := fun i hi => h.lead_eq hi
  refine ⟨h.mtx, h.tle, fun i hi => ?_, fun i hi => ?_, fun i hi l hl => ?_, fun i hi j hj hne => ?_, fun i j hij hj => ?_, h.rest⟩
  · rw [e i hi]; exact h.low i hi
  · rw [e i hi]; exact h.one i hi
  · rw [e i hi] at hl; exact h.lead i hi l hl
  · rw [e i hi]; exact h.col i hi j hj hne
  · rw [e i (by omega), e j hj]; exact h.mono i j hij hj
/-- The reference's test (the elimination gives the same rows) is the program's. -/
theorem red_test {c : Nat} {m : List (List Int)} (h : Mtx c m) : decide (redZ m c = m) = rdB m := by
  rw [Bool.eq_iff_iff, decide_eq_true_eq, rdB_iff h]
  constructor
  · intro e
    obtain ⟨P, hP⟩ := redZ_red h
    rw [e] at hP
    exact hP.own
  · intro hr; exact redZ_id hr
end Go.Proofs.Ytjaagabbbnokdaa
