/-
  Inserting a vector into a reduced matrix: what the program does gives the reduced matrix of the greater span. Plain mathematics: nothing of the program.
-/
import Derived.Test.YtjaagabbbnokdaaLin2
namespace Go.Proofs.Ytjaagabbbnokdaa

theorem InS.mem {m : List (List Int)} {r : List Int} (h : r ∈ m) : InS m r := by
  obtain ⟨i, hi⟩ := List.mem_iff_getElem?.1 h
  have := InS.row (m := m) (List.getElem?_eq_some_iff.1 hi).1
  rwa [rw_in hi] at this
theorem rw_mem {m : List (List Int)} {i : Nat} (h : i < m.length) : rw_ m i ∈ m := List.mem_of_getElem? (rw_get h)
theorem Same.of {m n : List (List Int)} (h : ∀ r, r ∈ m → InS n r) (k : ∀ r, r ∈ n → InS m r) : Same m n := ⟨fun _ hi => h _ (rw_mem hi), fun _ hi => k _ (rw_mem hi)⟩
theorem Same.mem1 {m n : List (List Int)} (h : Same m n) {r : List Int} (hr : r ∈ m) : InS n r := h.span.1 (InS.mem hr)
theorem Same.app {m n : List (List Int)} (h : Same m n) (v : List Int) : Same (m ++ [v]) (n ++ [v]) := by
  have half : ∀ {m n : List (List Int)}, Same m n → ∀ r, r ∈ m ++ [v] → InS (n ++ [v]) r := by
    intro m n h r hr
    rcases List.mem_append.1 hr with h1 | h1
    · exact InS.trans (fun i hi => InS.mem (List.mem_append_left _ (rw_mem hi))) (h.mem1 h1)
    · exact InS.mem (List.mem_append_right _ h1)
  exact Same.of (half h) (half h.symm)

/-- A vector, reduced by the first rows of a reduced matrix. -/
def reduceZ (b : List (List Int)) (v : List Int) : List Int := b.foldl (fun o r => clr1 o r (lead r)) v
theorem reduceZ_snoc (b : List (List Int)) (r v : List Int) : reduceZ (b ++ [r]) v = clr1 (reduceZ b v) r (lead r) := by simp [reduceZ]
theorem reduce_take {b : List (List Int)} {k : Nat} (v : List Int) (hk : k < b.length) : reduceZ (b.take (k + 1)) v = clr1 (reduceZ (b.take k) v) (rw_ b k) (lead (rw_ b k)) := by
  rw [List.take_add_one, rw_get hk]; exact reduceZ_snoc _ _ _
theorem reduce_inv {c : Nat} {b : List (List Int)} {P : Nat → Nat} (h : Red c b P) {v : List Int} (hv : Row c v) : ∀ k, k ≤ b.length →
    Row c (reduceZ (b.take k) v) ∧ (∀ i, i < k → ent (reduceZ (b.take k) v) (P i) = 0) ∧ (∀ n, (∀ r, r ∈ b → InS n r) → (InS n v ↔ InS n (reduceZ (b.take k) v)))
  | 0, _ => ⟨hv, fun i hi => by omega, fun n _ => Iff.rfl⟩
  | k + 1, hk => by
    obtain ⟨h1, h2, h3⟩ := reduce_inv h hv k (by omega)
    have hk' : k < b.length := by omega
    have rk := mtx_row h.mtx hk'
    have lk : lead (rw_ b k) = P k := h.lead_eq hk'
    rw [reduce_take v hk', lk]
    refine ⟨clr1_row h1 rk, fun i hi => ?_, fun n hn => ?_⟩
    · rcases Nat.lt_or_eq_of_le (Nat.le_of_lt_succ hi) with h4 | rfl
      · rw [clr1_j h1 rk (h.col i (by omega) k hk' (by omega))]; exact h2 i h4
      · exact clr1_k h1 rk (h.one i hk')
    · rw [h3 n hn]
      obtain ⟨q, hq⟩ := clr1_lin (k := P k) h1 rk
      constructor
      · intro h4; exact InS.lin 1 q hq h4 (hn _ (rw_mem hk'))
      · intro h4
        refine InS.lin 1 (-q) (fun l => ?_) h4 (hn _ (rw_mem hk'))
        have := dv_symm (hq l)
        generalize ent (clr1 (reduceZ (b.take k) v) (rw_ b k) (P k)) l = x at *
        generalize ent (reduceZ (b.take k) v) l = y at *
        generalize ent (rw_ b k) l = z at *
        rwa [show y - (1 * x + -q * z) = 1 * y + q * z - x by rw [Int.neg_mul]; omega]
theorem reduce_row {c : Nat} {b : List (List Int)} {P : Nat → Nat} (h : Red c b P) {v : List Int} (hv : Row c v) : Row c (reduceZ b v) := by
  have := (reduce_inv h hv b.length (Nat.le_refl _)).1; rwa [List.take_length] at this
theorem reduce_piv {c : Nat} {b : List (List Int)} {P : Nat → Nat} (h : Red c b P) {v : List Int} (hv : Row c v) : ∀ i, i < b.length → ent (reduceZ b v) (P i) = 0 := by
  have := (reduce_inv h hv b.length (Nat.le_refl _)).2.1; rwa [List.take_length] at this
theorem reduce_span {c : Nat} {b : List (List Int)} {P : Nat → Nat} (h : Red c b P) {v : List Int} (hv : Row c v) {n : List (List Int)} (hn : ∀ r, r ∈ b → InS n r) : InS n v ↔ InS n (reduceZ b v) := by
  have := (reduce_inv h hv b.length (Nat.le_refl _)).2.2 n hn; rwa [List.take_length] at this
theorem lead_none {r : List Int} (h : ¬ lead r < r.length) : ∀ l, ent r l = 0 := by
  intro l
  rcases Nat.lt_or_ge l r.length with h1 | h1
  · exact lead_before (by omega)
  · exact ent_out h1
/-- A vector lies in the span if and only if nothing is left of it. -/
theorem reduce_iff {c : Nat} {b : List (List Int)} {P : Nat → Nat} (h : Red c b P) {v : List Int} (hv : Row c v) : InS b v ↔ ¬ lead (reduceZ b v) < (reduceZ b v).length := by
  rw [reduce_span h hv (fun r hr => InS.mem hr)]
  have hr := reduce_row h hv
  constructor
  · intro hs hl
    obtain ⟨i, hi, e⟩ := h.pivot hr hs (lead_hit hl)
    have := reduce_piv h hv i hi
    rw [← e] at this
    exact lead_hit hl this
  · intro hl; exact InS.zero (lead_none hl)

/-- How many of the first k rows lie before one with its pivot at p. -/
def atS (o : List (List Int)) (p : Nat) : Nat → Nat
  | 0 => 0
  | k + 1 => if lead (rw_ o k) < p then k + 1 else atS o p k
def unitZ (w : List Int) : List Int := scaleZ w (invZ (ent w (lead w)))
def clrAll (b : List (List Int)) (u : List Int) (p : Nat) : List (List Int) := b.map fun r => clr1 r u p
def putZ (o : List (List Int)) (a : Nat) (u : List Int) : List (List Int) := o.take a ++ u :: o.drop a
def insZ (b : List (List Int)) (v : List Int) : List (List Int) :=
  putZ (clrAll b (unitZ (reduceZ b v)) (lead (reduceZ b v))) (atS (clrAll b (unitZ (reduceZ b v)) (lead (reduceZ b v))) (lead (reduceZ b v)) b.length) (unitZ (reduceZ b v))
def innB (b : List (List Int)) (v : List Int) : Bool := decide (lead (reduceZ b v) < (reduceZ b v).length)
def insB (b : List (List Int)) (v : List Int) : List (List Int) := if innB b v then insZ b v else b

theorem clrAll_len (b : List (List Int)) (u : List Int) (p : Nat) : (clrAll b u p).length = b.length := by simp [clrAll]
theorem clrAll_row {b : List (List Int)} {u : List Int} {p i : Nat} (h : i < b.length) : rw_ (clrAll b u p) i = clr1 (rw_ b i) u p := by
  apply rw_in; simp [clrAll, rw_get h]
theorem atS_le (o : List (List Int)) (p : Nat) : ∀ k, atS o p k ≤ k
  | 0 => Nat.le_refl _
  | k + 1 => by unfold atS; split; exact Nat.le_refl _; exact Nat.le_succ_of_le (atS_le o p k)
theorem atS_lt {o : List (List Int)} {p : Nat} (hm : ∀ i j, i < j → j < o.length → lead (rw_ o i) < lead (rw_ o j)) : ∀ k, k ≤ o.length → ∀ i, i < k → (i < atS o p k ↔ lead (rw_ o i) < p)
  | 0, _, i, hi => by omega
  | k + 1, hk, i, hi => by
    have ih := atS_lt (p := p) hm k (by omega)
    unfold atS
    by_cases h : lead (rw_ o k) < p
    · rw [if_pos h]
      constructor
      · intro _
        rcases Nat.lt_or_eq_of_le (Nat.le_of_lt_succ hi) with h1 | rfl
        · have := hm i k h1 (by omega); omega
        · exact h
      · intro _; exact hi
    · rw [if_neg h]
      rcases Nat.lt_or_eq_of_le (Nat.le_of_lt_succ hi) with h1 | rfl
      · exact ih i h1
      · have := atS_le o p i
        constructor
        · intro h2; omega
        · intro h2; exact absurd h2 h
theorem putZ_len {o : List (List Int)} {a : Nat} {u : List Int} (h : a ≤ o.length) : (putZ o a u).length = o.length + 1 := by
  simp [putZ]; omega
theorem putZ_row {o : List (List Int)} {a : Nat} {u : List Int} (h : a ≤ o.length) (i : Nat) : rw_ (putZ o a u) i = if i < a then rw_ o i else if i = a then u else rw_ o (i - 1) := by
  have hl : (o.take a).length = a := by rw [List.length_take]; omega
  unfold rw_ List.getD putZ
  rcases Nat.lt_trichotomy i a with h1 | h1 | h1
  · rw [if_pos h1, List.getElem?_append_left (by omega), List.getElem?_take, if_pos h1]
  · subst h1
    rw [if_neg (by omega), if_pos rfl, List.getElem?_append_right (by omega), hl]; simp
  · rw [if_neg (by omega), if_neg (by omega), List.getElem?_append_right (by omega), hl]
    obtain ⟨j, rfl⟩ : ∃ j, i = a + 1 + j := ⟨i - a - 1, by omega⟩
    rw [show a + 1 + j - a = j + 1 by omega, List.getElem?_cons_succ, List.getElem?_drop, show a + 1 + j - 1 = a + j by omega]
theorem putZ_mem {o : List (List Int)} {a : Nat} {u r : List Int} : r ∈ putZ o a u ↔ r ∈ o ∨ r = u := by
  unfold putZ
  conv => rhs; rw [← List.take_append_drop a o]
  simp only [List.mem_append, List.mem_cons]
  constructor
  · rintro (h | h | h)
    · exact .inl (.inl h)
    · exact .inr h
    · exact .inl (.inr h)
  · rintro ((h | h) | h)
    · exact .inl h
    · exact .inr (.inr h)
    · exact .inr (.inl h)

theorem insZ_facts {c : Nat} {b : List (List Int)} {P : Nat → Nat} (h : Red c b P) {v : List Int} (hv : Row c v) (hi : innB b v = true) :
    (∃ Q, Red c (insZ b v) Q) ∧ Same (b ++ [v]) (insZ b v) ∧ (insZ b v).length = b.length + 1 := by
  unfold innB at hi
  rw [decide_eq_true_eq] at hi
  unfold insZ
  have hw := reduce_row h hv
  have hz := reduce_piv h hv
  have hsp := fun (n : List (List Int)) hn => reduce_span h hv (n := n) hn
  generalize reduceZ b v = w at *
  have lw := lead_hit hi
  have lb := fun l => lead_before (r := w) (k := l)
  have pc : lead w < c := by rw [← hw.1]; exact hi
  have bw := ent_bd hw (lead w)
  have hinv := invZ_mul bw.1 bw.2 lw
  have ru : Row c (unitZ w) := row_scale _ hw
  have u1 : ent (unitZ w) (lead w) = 1 := by unfold unitZ; rw [ent_scaleZ]; exact hinv
  have u0 : ∀ l, ent w l = 0 → ent (unitZ w) l = 0 := by intro l hl; unfold unitZ; rw [ent_scaleZ, hl]; simp
  have uw : ∀ l, Dv (ent (unitZ w) l - (invZ (ent w (lead w)) * ent w l + 0 * ent w l)) := by
    intro l
    unfold unitZ; rw [ent_scaleZ]
    have := dv_mod (ent w l * invZ (ent w (lead w)))
    rwa [show invZ (ent w (lead w)) * ent w l + 0 * ent w l = ent w l * invZ (ent w (lead w)) by rw [Int.mul_comm]; omega]
  have wu : ∀ l, Dv (ent w l - (ent w (lead w) * ent (unitZ w) l + 0 * ent (unitZ w) l)) := by
    intro l
    unfold unitZ; rw [ent_scaleZ]
    generalize ent w l = x at *
    generalize ent w (lead w) = a at *
    generalize invZ a = d at *
    have h1 := dv_mul (dv_mod (x * d)) a
    have h2 : Dv (a * d - 1) := ⟨a * d / 1019, by omega⟩
    have h3 := dv_mul h2 x
    have h4 := Int.dvd_neg.2 (Int.dvd_add h1 h3)
    have e : -(a * (x * d % 1019 - x * d) + x * (a * d - 1)) = x - (a * (x * d % 1019) + 0 * (x * d % 1019)) := by
      rw [Int.mul_sub, Int.mul_sub, Int.mul_left_comm x a d]; omega
    rwa [e] at h4
  generalize hp : lead w = p at *
  generalize unitZ w = u at *
  have npiv : ∀ i, i < b.length → P i ≠ p := fun i hi2 e => lw (by rw [← e]; exact hz i hi2)
  have ol := clrAll_len b u p
  have orow : ∀ i, i < b.length → rw_ (clrAll b u p) i = clr1 (rw_ b i) u p := fun i hi2 => clrAll_row hi2
  have ro : ∀ i, i < b.length → Row c (rw_ (clrAll b u p) i) := fun i hi2 => by rw [orow i hi2]; exact clr1_row (mtx_row h.mtx hi2) ru
  have oz : ∀ i, i < b.length → ent (rw_ (clrAll b u p) i) p = 0 := fun i hi2 => by rw [orow i hi2]; exact clr1_k (mtx_row h.mtx hi2) ru u1
  have oj : ∀ i, i < b.length → ∀ j, j < b.length → ent (rw_ (clrAll b u p) i) (P j) = ent (rw_ b i) (P j) := fun i hi2 j hj => by
    rw [orow i hi2]; exact clr1_j (mtx_row h.mtx hi2) ru (u0 _ (hz j hj))
  have olow : ∀ i, i < b.length → ∀ l, l < P i → ent (rw_ (clrAll b u p) i) l = 0 := fun i hi2 l hl => by
    rw [orow i hi2]
    rcases Nat.lt_or_ge l p with h1 | h1
    · rw [clr1_j (mtx_row h.mtx hi2) ru (u0 _ (lb l h1))]; exact h.lead i hi2 l hl
    · rw [clr1_0 (h.lead i hi2 p (by omega))]; exact h.lead i hi2 l hl
  have o1 : ∀ i, i < b.length → ent (rw_ (clrAll b u p) i) (P i) = 1 := fun i hi2 => by rw [oj i hi2 i hi2]; exact h.one i hi2
  have olead : ∀ i, i < b.length → lead (rw_ (clrAll b u p) i) = P i := fun i hi2 => lead_eq (by rw [o1 i hi2]; decide) (olow i hi2)
  have hat := atS_lt (o := clrAll b u p) (p := p) (fun i j hij hj => by rw [ol] at hj; rw [olead i (by omega), olead j hj]; exact h.mono i j hij hj) b.length (by rw [ol]; exact Nat.le_refl _)
  have hal := atS_le (clrAll b u p) p b.length
  generalize atS (clrAll b u p) p b.length = a at *
  have hat' : ∀ i, i < b.length → (i < a ↔ P i < p) := fun i hi2 => by rw [hat i hi2, olead i hi2]
  have al : a ≤ (clrAll b u p).length := by rw [ol]; exact hal
  have len := putZ_len (o := clrAll b u p) (a := a) (u := u) al
  rw [ol] at len
  have prow := putZ_row (o := clrAll b u p) (a := a) (u := u) al
  refine ⟨⟨fun i => if i < a then P i else if i = a then p else P (i - 1), ?_⟩, ?_, len⟩
  · unfold Red
    rw [len]
    -- each new row is one of the old ones, or u
    have cases : ∀ i, i < b.length + 1 → (i = a ∧ rw_ (putZ (clrAll b u p) a u) i = u) ∨ ∃ j, j < b.length ∧ rw_ (putZ (clrAll b u p) a u) i = rw_ (clrAll b u p) j ∧ ((i < a ∧ j = i) ∨ (a < i ∧ j = i - 1)) := by
      intro i hi2
      rw [prow i]
      rcases Nat.lt_trichotomy i a with h1 | h1 | h1
      · rw [if_pos h1]; exact .inr ⟨i, by omega, rfl, .inl ⟨h1, rfl⟩⟩
      · rw [if_neg (by omega), if_pos h1]; exact .inl ⟨h1, rfl⟩
      · rw [if_neg (by omega), if_neg (by omega)]; exact .inr ⟨i - 1, by omega, rfl, .inr ⟨h1, rfl⟩⟩
    have pcases : ∀ i, i < b.length + 1 → (i = a ∧ (if i < a then P i else if i = a then p else P (i - 1)) = p) ∨ ∃ j, j < b.length ∧ (if i < a then P i else if i = a then p else P (i - 1)) = P j ∧ ((i < a ∧ j = i) ∨ (a < i ∧ j = i - 1)) := by
      intro i hi2
      rcases Nat.lt_trichotomy i a with h1 | h1 | h1
      · rw [if_pos h1]; exact .inr ⟨i, by omega, rfl, .inl ⟨h1, rfl⟩⟩
      · rw [if_neg (by omega), if_pos h1]; exact .inl ⟨h1, rfl⟩
      · rw [if_neg (by omega), if_neg (by omega)]; exact .inr ⟨i - 1, by omega, rfl, .inr ⟨h1, rfl⟩⟩
    refine ⟨?_, by omega, fun i hi2 => ?_, fun i hi2 => ?_, fun i hi2 l hl => ?_, fun i hi2 j hj hne => ?_, fun i j hij hj => ?_, fun i h1 h2 => by omega⟩
    · intro r hr
      rcases putZ_mem.1 hr with h1 | h1
      · obtain ⟨i, hi2⟩ := List.mem_iff_getElem?.1 h1
        have hlt := (List.getElem?_eq_some_iff.1 hi2).1
        rw [ol] at hlt
        have := ro i hlt
        rwa [rw_in hi2] at this
      · rw [h1]; exact ru
    · rcases pcases i hi2 with ⟨_, e⟩ | ⟨j, hj, e, _⟩
      · rw [e]; exact pc
      · rw [e]; exact h.low j hj
    · rcases pcases i hi2 with ⟨e1, e⟩ | ⟨j, hj, e, q⟩
      · rcases cases i hi2 with ⟨_, f⟩ | ⟨j2, _, _, q2⟩
        · rw [e, f]; exact u1
        · omega
      · rcases cases i hi2 with ⟨e2, f⟩ | ⟨j2, hj2, f, q2⟩
        · omega
        · have : j2 = j := by omega
          subst this
          rw [e, f]; exact o1 j2 hj
    · rcases pcases i hi2 with ⟨e1, e⟩ | ⟨j, hj, e, q⟩
      · rw [e] at hl
        rcases cases i hi2 with ⟨_, f⟩ | ⟨j2, _, _, q2⟩
        · rw [f]; exact u0 l (lb l hl)
        · omega
      · rw [e] at hl
        rcases cases i hi2 with ⟨e2, f⟩ | ⟨j2, hj2, f, q2⟩
        · omega
        · have : j2 = j := by omega
          subst this
          rw [f]; exact olow j2 hj l hl
    · rw [len] at hj
      rcases pcases i hi2 with ⟨e1, e⟩ | ⟨i2, hi3, e, q⟩
      · rw [e]
        rcases cases j hj with ⟨e2, f⟩ | ⟨j2, hj2, f, q2⟩
        · omega
        · rw [f]; exact oz j2 hj2
      · rw [e]
        rcases cases j hj with ⟨e2, f⟩ | ⟨j2, hj2, f, q2⟩
        · rw [f]; exact u0 _ (hz i2 hi3)
        · rw [f, oj j2 hj2 i2 hi3]
          exact h.col i2 hi3 j2 hj2 (by omega)
    · rcases pcases i (by omega) with ⟨e1, e⟩ | ⟨i2, hi3, e, q⟩
      · rcases pcases j hj with ⟨e2, f⟩ | ⟨j2, hj2, f, q2⟩
        · omega
        · rw [e, f]
          have h1 := hat' j2 hj2
          have h2 := npiv j2 hj2
          have : ¬ j2 < a := by omega
          have : ¬ P j2 < p := fun h3 => this (h1.2 h3)
          omega
      · rcases pcases j hj with ⟨e2, f⟩ | ⟨j2, hj2, f, q2⟩
        · rw [e, f]; exact (hat' i2 hi3).1 (by omega)
        · rw [e, f]; exact h.mono i2 j2 (by omega) hj2
  · -- the spans
    have hb : ∀ r, r ∈ b → InS (b ++ [v]) r := fun r hr => InS.mem (List.mem_append_left _ hr)
    have hv1 : InS (b ++ [v]) v := InS.mem (List.mem_append_right _ (List.mem_singleton.2 rfl))
    have hw1 : InS (b ++ [v]) w := (hsp _ hb).1 hv1
    have hu1 : InS (b ++ [v]) u := InS.lin _ _ uw hw1 hw1
    have un : InS (putZ (clrAll b u p) a u) u := InS.mem (putZ_mem.2 (.inr rfl))
    have bn : ∀ r, r ∈ b → InS (putZ (clrAll b u p) a u) r := by
      intro r hr
      obtain ⟨i, hi2⟩ := List.mem_iff_getElem?.1 hr
      have hlt := (List.getElem?_eq_some_iff.1 hi2).1
      have er := rw_in hi2
      have om : rw_ (clrAll b u p) i ∈ putZ (clrAll b u p) a u := putZ_mem.2 (.inl (rw_mem (by rw [ol]; exact hlt)))
      obtain ⟨q, hq⟩ := clr1_lin (k := p) (mtx_row h.mtx hlt) ru
      rw [orow i hlt] at om
      rw [er] at om hq
      refine InS.lin 1 (-q) (fun l => ?_) (InS.mem om) un
      have := dv_symm (hq l)
      generalize ent (clr1 r u p) l = x at *
      generalize ent r l = y at *
      generalize ent u l = z at *
      rwa [show y - (1 * x + -q * z) = 1 * y + q * z - x by rw [Int.neg_mul]; omega]
    refine Same.of (fun r hr => ?_) (fun r hr => ?_)
    · rcases List.mem_append.1 hr with h1 | h1
      · exact bn r h1
      · rw [List.mem_singleton.1 h1]
        exact (hsp _ bn).2 (InS.lin _ _ wu un un)
    · rcases putZ_mem.1 hr with h1 | h1
      · obtain ⟨i, hi2⟩ := List.mem_iff_getElem?.1 h1
        have hlt := (List.getElem?_eq_some_iff.1 hi2).1
        rw [ol] at hlt
        rw [← rw_in hi2, orow i hlt]
        obtain ⟨q, hq⟩ := clr1_lin (k := p) (mtx_row h.mtx hlt) ru
        exact InS.lin 1 q hq (hb _ (rw_mem hlt)) hu1
      · rw [h1]; exact hu1
theorem insB_facts {c : Nat} {b : List (List Int)} {P : Nat → Nat} (h : Red c b P) {v : List Int} (hv : Row c v) : (∃ Q, Red c (insB b v) Q) ∧ Same (b ++ [v]) (insB b v) := by
  unfold insB
  cases hi : innB b v
  · refine ⟨⟨P, h⟩, Same.of (fun r hr => ?_) (fun r hr => InS.mem (List.mem_append_left _ hr))⟩
    rcases List.mem_append.1 hr with h1 | h1
    · exact InS.mem h1
    · rw [List.mem_singleton.1 h1]
      exact (reduce_iff h hv).2 (by simpa [innB] using hi)
  · exact ⟨(insZ_facts h hv hi).1, (insZ_facts h hv hi).2.1⟩
theorem red_nil (c : Nat) : Red c [] (fun _ => 0) :=
  ⟨fun r hr => by simp at hr, Nat.le_refl _, fun i hi => absurd hi (Nat.not_lt_zero _), fun i hi => absurd hi (Nat.not_lt_zero _), fun i hi => absurd hi (Nat.not_lt_zero _), fun i hi => absurd hi (Nat.not_lt_zero _), fun i j _ hj => absurd hj (Nat.not_lt_zero _), fun i h1 h2 => absurd h2 (Nat.not_lt_zero _)⟩
theorem mtx_app {c : Nat} {b : List (List Int)} (h : Mtx c b) {v : List Int} (hv : Row c v) : Mtx c (b ++ [v]) := by
  intro r hr
  rcases List.mem_append.1 hr with h1 | h1
  · exact h r h1
  · rw [List.mem_singleton.1 h1]; exact hv
/-- The reference's insertion is the program's. -/
theorem ins_red {c : Nat} {b : List (List Int)} {P : Nat → Nat} (h : Red c b P) {v : List Int} (hv : Row c v) (hi : innB b v = true) : redZ (b ++ [v]) c = insZ b v := by
  have hm := mtx_app h.mtx hv
  obtain ⟨Q, hQ⟩ := redZ_red hm
  obtain ⟨⟨R, hR⟩, hs, _⟩ := insZ_facts h hv hi
  exact red_unique hQ hR ((redZ_same hm).symm.trans hs)
/-- All rows inserted, one after another. -/
def insAll (m : List (List Int)) : List (List Int) := m.foldl insB []
theorem insAll_snoc (m : List (List Int)) (v : List Int) : insAll (m ++ [v]) = insB (insAll m) v := by simp [insAll]
theorem insAll_facts {c : Nat} {m : List (List Int)} (h : Mtx c m) : ∀ k, k ≤ m.length → (∃ P, Red c (insAll (m.take k)) P) ∧ Same (m.take k) (insAll (m.take k))
  | 0, _ => ⟨⟨_, red_nil c⟩, Same.refl _⟩
  | k + 1, hk => by
    obtain ⟨⟨P, hP⟩, hs⟩ := insAll_facts h k (by omega)
    have hk' : k < m.length := by omega
    rw [List.take_add_one, rw_get hk']
    have e : (some (rw_ m k)).toList = [rw_ m k] := rfl
    rw [e, insAll_snoc]
    obtain ⟨h1, h2⟩ := insB_facts hP (mtx_row h hk')
    exact ⟨h1, (hs.app _).trans h2⟩
theorem insAll_red {c : Nat} {m : List (List Int)} (h : Mtx c m) : redZ m c = insAll m := by
  obtain ⟨⟨P, hP⟩, hs⟩ := insAll_facts h m.length (Nat.le_refl _)
  rw [List.take_length] at hP hs
  obtain ⟨Q, hQ⟩ := redZ_red h
  exact red_unique hQ hP ((redZ_same h).symm.trans hs)
theorem insB_len {c : Nat} {b : List (List Int)} {P : Nat → Nat} (h : Red c b P) {v : List Int} (hv : Row c v) : (insB b v).length = b.length + (if innB b v then 1 else 0) := by
  unfold insB
  cases hi : innB b v
  · simp
  · simp [(insZ_facts h hv hi).2.2]
/-- All of the first k rows were innovative. -/
def innAll (m : List (List Int)) : Nat → Bool
  | 0 => true
  | k + 1 => innAll m k && innB (insAll (m.take k)) (rw_ m k)
theorem innAll_len {c : Nat} {m : List (List Int)} (h : Mtx c m) : ∀ k, k ≤ m.length → (insAll (m.take k)).length ≤ k ∧ (innAll m k = decide ((insAll (m.take k)).length = k))
  | 0, _ => ⟨Nat.le_refl _, rfl⟩
  | k + 1, hk => by
    obtain ⟨h1, h2⟩ := innAll_len h k (by omega)
    obtain ⟨⟨P, hP⟩, hs⟩ := insAll_facts h k (by omega)
    have hk' : k < m.length := by omega
    have hl := insB_len hP (mtx_row h hk')
    rw [List.take_add_one, rw_get hk']
    have e : (some (rw_ m k)).toList = [rw_ m k] := rfl
    rw [e, insAll_snoc, hl]
    unfold innAll
    rw [h2]
    cases innB (insAll (m.take k)) (rw_ m k)
    · refine ⟨by simp; omega, ?_⟩
      rw [Bool.and_false]; symm; exact decide_eq_false (by simp; omega)
    · refine ⟨by simp; omega, ?_⟩
      rw [Bool.and_true]
      simp
/-- The rank is full if and only if every row is innovative. -/
theorem rank_inn {c : Nat} {m : List (List Int)} (h : Mtx c m) : decide ((redZ m c).length = m.length) = innAll m m.length := by
  rw [(innAll_len h m.length (Nat.le_refl _)).2, List.take_length, insAll_red h]
theorem innAll_mono {m : List (List Int)} {k n : Nat} (hk : k ≤ n) (h : innAll m k = false) : innAll m n = false := by
  induction n with
  | zero => have : k = 0 := by omega
            subst this; exact h
  | succ n ih =>
    rcases Nat.lt_or_eq_of_le hk with h1 | h1
    · unfold innAll; rw [ih (by omega)]; rfl
    · rw [← h1]; exact h
end Go.Proofs.Ytjaagabbbnokdaa
