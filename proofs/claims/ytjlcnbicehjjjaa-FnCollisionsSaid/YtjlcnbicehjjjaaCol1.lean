/-
  Plain words: the vector that FindCollision returns has the same hash, and is another one. No condition.
-/
import Derived.Test.YtjlcnbicehjjjaaFnd
import Derived.Test.YtjlcnbicehjjjaaHash2
namespace Go.Proofs.Ytjlcnbicehjjjaa
set_option linter.unusedVariables false
set_option maxRecDepth 100000

/-- An exponent counts modulo the order. -/
theorem pow_ord {g : Int} {E : Nat} (h : g ^ E % 2039 = 1) (a : Nat) : g ^ (a % E) % 2039 = g ^ a % 2039 := by
  have h1 := Nat.div_add_mod a E
  have h2 : g ^ a = g ^ (E * (a / E)) * g ^ (a % E) := by rw [← Int.pow_add, h1]
  have h3 : (g ^ E) ^ (a / E) % 2039 = 1 := by
    generalize a / E = n
    induction n with
    | zero => rw [Int.pow_zero]; rfl
    | succ n ih => rw [Int.pow_succ, Int.mul_emod, ih, h]; rfl
  rw [h2, Int.pow_mul, Int.mul_emod, h3, Int.one_mul, Int.emod_emod]
theorem col_two {g0 g1 : Int} {E L : Nat} (h0 : g0 ^ E % 2039 = 1) (h1 : g1 ^ E % 2039 = 1) (hE : 0 < E) (hl : g0 ^ L % 2039 = g1 % 2039) (a b : Nat) :
    g0 ^ ((a + L) % E) * g1 ^ ((b + (E - 1)) % E) % 2039 = g0 ^ a * g1 ^ b % 2039 := by
  have e1 : g0 ^ L * g1 ^ (E - 1) % 2039 = 1 := by
    rw [Int.mul_emod, hl, ← Int.mul_emod, Int.mul_comm, ← Int.pow_succ, show (E - 1).succ = E by omega, h1]
  rw [Int.mul_emod, pow_ord h0, pow_ord h1, ← Int.mul_emod, Int.pow_add, Int.pow_add]
  have e2 : g0 ^ a * g0 ^ L * (g1 ^ b * g1 ^ (E - 1)) = g0 ^ a * g1 ^ b * (g0 ^ L * g1 ^ (E - 1)) := by
    rw [Int.mul_assoc, Int.mul_left_comm (g0 ^ L), ← Int.mul_assoc]
  rw [e2, Int.mul_emod, e1, Int.mul_one, Int.emod_emod]
theorem pwr_two {gs es : List Int} {g0 g1 e0 e1 : Int} (a : gs[0]? = some g0) (b : gs[1]? = some g1) (c : es[0]? = some e0) (d : es[1]? = some e1) : pwr gs es 2 = g0 ^ e0.toNat * g1 ^ e1.toNat % 2039 := by
  rw [pwr_step b d, pwr_step a c, show pwr gs es 0 = 1 from rfl, Int.one_mul, Int.emod_emod, ← Int.mul_emod]
theorem fcolX_at {gs es : List Int} {k : Nat} (h : 2 ≤ k) : (fcolX gs es)[k]? = es[k]? := by
  unfold fcolX
  rw [List.getElem?_set_ne (by omega), List.getElem?_set_ne (by omega)]
theorem col_pwr {gs es : List Int} (hk : hkB gs = true) (hv : vecB es = true) (hl : es.length = gs.length) (h2 : 2 ≤ es.length) : ∀ k, k + 2 ≤ gs.length → pwr gs (fcolX gs es) (k + 2) = pwr gs es (k + 2)
  | 0, hn => by
    have a0 := getD_at (xs := gs) (show 0 < gs.length by omega)
    have a1 := getD_at (xs := gs) (show 1 < gs.length by omega)
    have c0 := getD_at (xs := es) (show 0 < es.length by omega)
    have c1 := getD_at (xs := es) (show 1 < es.length by omega)
    have k0 := (hkB_facts hk).1 _ (List.mem_of_getElem? a0)
    have k1 := (hkB_facts hk).1 _ (List.mem_of_getElem? a1)
    have n0 := (vecB_facts hv).1 _ (List.mem_of_getElem? c0)
    have n1 := (vecB_facts hv).1 _ (List.mem_of_getElem? c1)
    obtain ⟨l1, l2, _⟩ := logZ_facts k0.1 (ne_of_beq_false k0.2) k1.1
    have d0 : (fcolX gs es)[0]? = some ((es.getD 0 0 + (logZ (gs.getD 0 0) (gs.getD 1 0) : Int)) % 1019) := by
      unfold fcolX
      rw [List.getElem?_set_ne (by omega), List.getElem?_set_self (by omega)]
    have d1 : (fcolX gs es)[1]? = some (sfZ (es.getD 1 0) 1) := by
      unfold fcolX
      rw [List.getElem?_set_self (by rw [List.length_set]; omega)]
    rw [pwr_two a0 a1 c0 c1, pwr_two a0 a1 d0 d1]
    generalize gs.getD 0 0 = g0 at *
    generalize gs.getD 1 0 = g1 at *
    generalize es.getD 0 0 = e0 at *
    generalize es.getD 1 0 = e1 at *
    generalize logZ g0 g1 = L at *
    have t0 : ((e0 + (L : Int)) % 1019).toNat = (e0.toNat + L) % 1019 := by omega
    have t1 : (sfZ e1 1).toNat = (e1.toNat + (1019 - 1)) % 1019 := by unfold sfZ; omega
    rw [t0, t1]
    have hg1 := (grB_facts k1.1).1
    exact col_two (grB_facts k0.1).2 (grB_facts k1.1).2 (by omega) (by rw [l2]; omega) e0.toNat e1.toNat
  | k + 1, hn => by
    have ih := col_pwr hk hv hl h2 k (by omega)
    have a := getD_at (xs := gs) (show k + 2 < gs.length by omega)
    have b := getD_at (xs := es) (show k + 2 < es.length by omega)
    have c := (fcolX_at (gs := gs) (es := es) (show 2 ≤ k + 2 by omega)).trans b
    rw [show k + 1 + 2 = k + 2 + 1 by omega, pwr_step a b, pwr_step a c, ih]
theorem fcolX_len (gs es : List Int) : (fcolX gs es).length = es.length := by unfold fcolX; rw [List.length_set, List.length_set]
theorem col_ne {gs es : List Int} (hk : hkB gs = true) (hv : vecB es = true) (hl : es.length = gs.length) (h2 : 2 ≤ es.length) : fcolX gs es ≠ es := fun e => by
  have a0 := getD_at (xs := gs) (show 0 < gs.length by omega)
  have a1 := getD_at (xs := gs) (show 1 < gs.length by omega)
  have c0 := getD_at (xs := es) (show 0 < es.length by omega)
  have k0 := (hkB_facts hk).1 _ (List.mem_of_getElem? a0)
  have k1 := (hkB_facts hk).1 _ (List.mem_of_getElem? a1)
  have n0 := (vecB_facts hv).1 _ (List.mem_of_getElem? c0)
  obtain ⟨l1, l2, _⟩ := logZ_facts k0.1 (ne_of_beq_false k0.2) k1.1
  have d0 : (fcolX gs es)[0]? = some ((es.getD 0 0 + (logZ (gs.getD 0 0) (gs.getD 1 0) : Int)) % 1019) := by
    unfold fcolX
    rw [List.getElem?_set_ne (by omega), List.getElem?_set_self (by omega)]
  rw [e, c0] at d0
  have d1 := Option.some.inj d0
  have hn1 : gs.getD 1 0 ≠ 1 := ne_of_beq_false k1.2
  have hL : logZ (gs.getD 0 0) (gs.getD 1 0) ≠ 0 := fun h => by
    rw [h, Int.pow_zero] at l2
    exact hn1 (by rw [← l2]; rfl)
  generalize logZ (gs.getD 0 0) (gs.getD 1 0) = L at *
  omega
theorem col_vec {gs es : List Int} (hv : vecB es = true) : vecB (fcolX gs es) = true := by
  obtain ⟨h1, h2⟩ := vecB_facts hv
  unfold vecB
  rw [Bool.and_eq_true]
  refine ⟨List.all_eq_true.2 fun x hx => ?_, by rw [fcolX_len]; exact decide_eq_true h2⟩
  unfold fcolX at hx
  rcases List.mem_or_eq_of_mem_set hx with h | h
  · rcases List.mem_or_eq_of_mem_set h with h | h
    · exact elB_yes (h1 x h)
    · exact elB_yes (by omega)
  · exact elB_yes (by unfold sfZ at h; omega)
theorem col_hash {gs es : List Int} (h : fcolB gs es = true) : hashZ gs (fcolX gs es) = hashZ gs es := by
  unfold fcolB at h
  rw [Bool.and_eq_true, Bool.and_eq_true, Bool.and_eq_true] at h
  obtain ⟨⟨⟨h1, h2⟩, h3⟩, h4⟩ := h
  have hl : es.length = gs.length := by simp at h3; omega
  have h5 : 2 ≤ es.length := by simp at h4; omega
  rw [hashZ_yes h1 (col_vec h2) (by rw [fcolX_len]; exact hl), hashZ_yes h1 h2 hl]
  have h9 := col_pwr h1 h2 hl h5 (gs.length - 2) (by omega)
  rwa [show gs.length - 2 + 2 = gs.length by omega] at h9
end Go.Proofs.Ytjlcnbicehjjjaa
