/-
  Homomorphic hashes: contracts of PowGroup, MulGroup, powers, HashVector, CombineHashes. No condition.
-/
import Derived.Test.YtjlcnbicehjjjaaVec
namespace Go.Proofs.Ytjlcnbicehjjjaa
open Go.ChangeShapes Go.WideShapes Go.ChangeAt Go.RowKit
set_option linter.unusedVariables false
set_option maxRecDepth 100000

theorem grB_mk {x : Int} (h1 : 0 ≤ x) (h2 : x ≤ 2038) (h : x ^ 1019 % 2039 = 1) : grB x = true := by
  have h0 : 1 ≤ x := by
    rcases (by omega : x = 0 ∨ 1 ≤ x) with rfl | h0
    · rw [Int.zero_pow (by decide)] at h; simp at h
    · exact h0
  unfold grB
  rw [decide_eq_true ⟨h0, h2⟩, h]
  rfl
theorem grB_one : grB 1 = true := grB_mk (by decide) (by decide) (by rw [Int.one_pow]; decide)
theorem grB_pow {g : Int} (n : Nat) (h : grB g = true) : grB (g ^ n % 2039) = true := by
  have hg := (grB_facts h).2
  refine grB_mk (Int.emod_nonneg _ (by decide)) (by have := Int.emod_lt_of_pos (g ^ n) (show (0 : Int) < 2039 by decide); omega) ?_
  rw [pow_mod, ← Int.pow_mul, Nat.mul_comm, Int.pow_mul, ← pow_mod, hg, Int.one_pow]
  decide
theorem grB_mul {a b : Int} (ha : grB a = true) (hb : grB b = true) : grB (a * b % 2039) = true := by
  refine grB_mk (Int.emod_nonneg _ (by decide)) (by have := Int.emod_lt_of_pos (a * b) (show (0 : Int) < 2039 by decide); omega) ?_
  rw [pow_mod, Int.mul_pow, Int.mul_emod, (grB_facts ha).2, (grB_facts hb).2]
  decide
/-- The product of the first k powers. -/
def pwr (gs es : List Int) : Nat → Int
  | 0 => 1
  | k + 1 => pwr gs es k * (gs.getD k 0 ^ (es.getD k 0).toNat % 2039) % 2039
theorem pwr_bd (gs es : List Int) (k : Nat) : 0 ≤ pwr gs es k ∧ pwr gs es k ≤ 2038 := by
  cases k with
  | zero => simp [pwr]
  | succ k => simp only [pwr]; omega
theorem pwr_step {gs es : List Int} {k : Nat} {g e : Int} (hg : gs[k]? = some g) (he : es[k]? = some e) : pwr gs es (k + 1) = pwr gs es k * (g ^ e.toNat % 2039) % 2039 := by
  simp [pwr, List.getD, hg, he]
theorem pwr_gr {gs es : List Int} (h : ∀ g ∈ gs, grB g = true) : ∀ k, k ≤ gs.length → grB (pwr gs es k) = true := by
  intro k
  induction k with
  | zero => intro _; exact grB_one
  | succ k ih =>
    intro hk
    have hx : gs[k]? = some (gs[k]'(by omega)) := List.getElem?_eq_getElem (by omega)
    simp only [pwr, List.getD, hx, Option.getD_some]
    exact grB_mul (ih (by omega)) (grB_pow _ (h _ (List.getElem_mem _)))
def hashZ (gs v : List Int) : Int := if hkB gs = true ∧ vecB v = true ∧ v.length = gs.length then pwr gs v gs.length else 0
def combZ (hs cs : List Int) : Int := if vecB cs = true ∧ hs.length = cs.length ∧ hs.all grB = true then pwr hs cs hs.length else 0

set_option maxHeartbeats 400000 in
theorem powersI (v u : Value) (gs es : List Int) (w : World) (hv : RI w v gs) (hu : RI w u es) (hl : gs.length ≤ es.length) (hg : ∀ g ∈ gs, 0 ≤ g ∧ g ≤ 2038) (he : ∀ e ∈ es, 0 ≤ e) :
    Calls Try.prog 68 #[v, u] w fun e w' => e = .returned (.int .i64 (pwr gs es gs.length)) ∧ w = w' := by
  obtain ⟨A, c, rfl, h2, h3, hA⟩ := hv
  obtain ⟨B, d, rfl, h4, h5, hB⟩ := hu
  have HG := Lib.hid hg
  have HE := Lib.hid he
  clear hg he
  go_enter Try.func68, Try.ntmps68
  go_wp2
  go_loopg [5, 10] gs.length (fun f o i wr => ∃ k : Nat, k + f = gs.length ∧ i = .int .i64 k ∧ o = .int .i64 (pwr gs es k) ∧ wr = w)
  case atStart => exact ⟨0, by omega, rfl, rfl, rfl⟩
  case round =>
    obtain ⟨k, hk, rfl, rfl, rfl⟩ := hrel
    have hk2 : k ≤ gs.length := by omega
    have HK := Lib.hid hk
    clear hk
    by_cases hlt : k < gs.length
    · obtain ⟨b1, o1, rfl, hb1, hc1⟩ := hA (by omega)
      obtain ⟨b2, o2, rfl, hb2, hc2⟩ := hB (by omega)
      have hx : gs[k]? = some (gs[k]'hlt) := List.getElem?_eq_getElem hlt
      have hy : es[k]? = some (es[k]'(by omega)) := List.getElem?_eq_getElem (by omega)
      have g1 := hc1 k _ hx
      have g2 := hc2 k _ hy
      have m1 := HG.out _ (List.getElem_mem hlt)
      have m2 := HE.out _ (List.getElem_mem (show k < es.length by omega))
      have HS := Lib.hid (pwr_step hx hy)
      have q := pwr_bd gs es k
      clear hc1 hc2 hA hB hx hy
      generalize gs[k]'hlt = x at *
      generalize es[k]'(by omega) = y at *
      have i0 : (0 : Int) ≤ (k : Int) := by omega
      have i1 : (k : Int) < (gs.length : Int) := by omega
      have i2 : (k : Int) < (es.length : Int) := by omega
      obtain ⟨m1a, m1b⟩ := m1
      obtain ⟨q1, q2⟩ := q
      go_wp2_with fail
      refine (powI x y 2039 _ (by omega) (by omega) (by omega) (by omega) (by omega)).mono ?_
      rintro e w1 ⟨rfl, rfl⟩
      have u1 : 0 ≤ x ^ y.toNat % 2039 := Int.emod_nonneg _ (by omega)
      have u2 : x ^ y.toNat % 2039 < 2039 := Int.emod_lt_of_pos _ (by omega)
      generalize x ^ y.toNat % 2039 = z at *
      generalize pwr gs es k = p at *
      have u3 : 0 ≤ p * z := Int.mul_nonneg q1 u1
      have u4 : p * z ≤ 2038 * 2038 := Int.mul_le_mul (by omega) (by omega) u1 (by omega)
      go_wp2
      go_roundg (gs.length - (k + 1))
      case measure => have := HK.out; omega
      case rel => exact ⟨k + 1, by omega, by go_num, by rw [HS.out], rfl⟩
    · obtain rfl : k = gs.length := by omega
      have i1 : ¬ (gs.length : Int) < (gs.length : Int) := by omega
      go_wp2
      go_ret
      exact ⟨rfl, rfl⟩
theorem powGS (g n : Int) (w : World) (hg : grB g = true) (hn : elB n = true) :
    Calls Try.prog 51 #[.int .i64 g, .int .i64 n] w fun e w' => e = .returned (.int .i64 (g ^ n.toNat % 2039)) ∧ w = w' := by
  have f1 := (grB_facts hg).1
  have f2 := elB_facts hn
  obtain ⟨f1a, f1b⟩ := f1
  obtain ⟨f2a, f2b⟩ := f2
  have HP := Lib.hid (fun w => powS g n 2039 w (by omega) (by omega) (by omega) (by omega) (by omega))
  generalize g ^ n.toNat % 2039 = q at *
  go_enter Try.func51, Try.ntmps51
  go_wp2_with fail
  refine (grS g _).mono ?_
  rintro e w1 ⟨rfl, rfl⟩
  rw [hg]
  go_wp2_with fail
  refine (elS n _).mono ?_
  rintro e w1 ⟨rfl, rfl⟩
  rw [hn]
  go_wp2_with fail
  refine (HP.out _).mono ?_
  rintro e w1 ⟨rfl, rfl⟩
  go_wp2
  go_ret
  exact ⟨rfl, rfl⟩
theorem mulGS (a b : Int) (w : World) (ha : grB a = true) (hb : grB b = true) :
    Calls Try.prog 37 #[.int .i64 a, .int .i64 b] w fun e w' => e = .returned (.int .i64 (a * b % 2039)) ∧ w = w' := by
  have f1 := (grB_facts ha).1
  have f2 := (grB_facts hb).1
  obtain ⟨f1a, f1b⟩ := f1
  obtain ⟨f2a, f2b⟩ := f2
  have u3 : 0 ≤ a * b := Int.mul_nonneg (by omega) (by omega)
  have u4 : a * b ≤ 2038 * 2038 := Int.mul_le_mul (by omega) (by omega) (by omega) (by omega)
  go_enter Try.func37, Try.ntmps37
  go_wp2_with fail
  refine (grS a _).mono ?_
  rintro e w1 ⟨rfl, rfl⟩
  rw [ha]
  go_wp2_with fail
  refine (grS b _).mono ?_
  rintro e w1 ⟨rfl, rfl⟩
  rw [hb]
  go_wp2
  go_ret
  exact ⟨rfl, rfl⟩
end Go.Proofs.Ytjlcnbicehjjjaa
