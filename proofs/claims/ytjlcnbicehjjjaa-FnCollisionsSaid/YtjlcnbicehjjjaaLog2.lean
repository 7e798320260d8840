/-
  logarithm of the program, l18Log of the reference, AddField and SubField of both: contracts. Conditions: elements; group elements, the base not 1.
-/
import Derived.Test.YtjlcnbicehjjjaaLog1
import Derived.Test.YtjlcnbicehjjjaaSl3
namespace Go.Proofs.Ytjlcnbicehjjjaa
open Go.ChangeShapes Go.WideShapes Go.ChangeAt Go.RowKit
set_option linter.unusedVariables false
set_option maxRecDepth 100000

theorem lg_step (g : Int) (k : Nat) : g ^ k % 2039 * g % 2039 = g ^ (k + 1) % 2039 := by
  rw [Int.pow_succ, Int.mul_emod (g ^ k % 2039) g, Int.emod_emod, ← Int.mul_emod]
theorem lg_bd {p g : Int} (hp : 0 ≤ p ∧ p ≤ 2038) (hg : 1 ≤ g ∧ g ≤ 2038) : 0 ≤ p * g ∧ p * g ≤ 4153444 := by
  refine ⟨Int.mul_nonneg hp.1 (by omega), ?_⟩
  have := Int.mul_le_mul hp.2 hg.2 (by omega) (by omega)
  omega
set_option maxHeartbeats 1000000 in
theorem logI (g h : Int) (w : World) (hg : grB g = true) (h1 : g ≠ 1) (hh : grB h = true) :
    Calls Try.prog 63 #[.int .i64 g, .int .i64 h] w fun e w' => e = .returned (.int .i64 (logZ g h : Int)) ∧ w = w' := by
  obtain ⟨l1, l2, l3⟩ := logZ_facts hg h1 hh
  have HL3 := Lib.hid l3
  have HL2 := Lib.hid l2
  have hgb := (grB_facts hg).1
  have HGB := Lib.hid hgb
  have H0 : Hid ((1 : Int) = g ^ 0 % 2039) := Lib.hid (by rw [Int.pow_zero]; rfl)
  generalize logZ g h = L at *
  clear hg h1 hh l2 l3 hgb
  go_enter Try.func63, Try.ntmps63
  go_wp2
  go_loopg [5, 6] L (fun f n p wr => ∃ k : Nat, k + f = L ∧ n = .int .i64 k ∧ p = .int .i64 (g ^ k % 2039) ∧ w = wr)
  case atStart => exact ⟨0, by omega, rfl, by rw [← H0.out], rfl⟩
  case round =>
    obtain ⟨k, hk, rfl, rfl, rfl⟩ := hrel
    have hk2 : k ≤ L := by omega
    have HK := Lib.hid hk
    clear hk
    have HST := Lib.hid (lg_step g k)
    obtain ⟨p, hp⟩ : ∃ p, p = g ^ k % 2039 := ⟨_, rfl⟩
    have hpb : 0 ≤ p ∧ p ≤ 2038 := by have := Int.emod_nonneg (g ^ k) (show (2039 : Int) ≠ 0 by omega); have := Int.emod_lt_of_pos (g ^ k) (show (0 : Int) < 2039 by omega); omega
    have hpg := lg_bd hpb HGB.out
    by_cases hlt : k < L
    · have q : (p != h) = true := bne_iff_ne.2 (by rw [hp]; exact HL3.out k hlt)
      rw [← hp] at HST ⊢
      clear hp
      go_wp2
      go_roundg (L - (k + 1))
      case measure => have := HK.out; omega
      case rel => exact ⟨k + 1, by omega, by go_num, by rw [← HST.out], rfl⟩
    · obtain rfl : k = L := by omega
      have e : p = h := hp.trans HL2.out
      have q : (p != h) = false := by rw [e]; simp
      rw [← hp]
      clear hp e
      go_wp2
      go_ret
      exact ⟨rfl, rfl⟩
set_option maxHeartbeats 1000000 in
theorem logS (g h : Int) (w : World) (hg : grB g = true) (h1 : g ≠ 1) (hh : grB h = true) :
    Calls Try.prog 58 #[.int .i64 g, .int .i64 h] w fun e w' => e = .returned (.int .i64 (logZ g h : Int)) ∧ w = w' := by
  obtain ⟨l1, l2, l3⟩ := logZ_facts hg h1 hh
  have HL3 := Lib.hid l3
  have HL2 := Lib.hid l2
  have hgb := (grB_facts hg).1
  have HGB := Lib.hid hgb
  have H0 : Hid ((1 : Int) = g ^ 0 % 2039) := Lib.hid (by rw [Int.pow_zero]; rfl)
  generalize logZ g h = L at *
  clear hg h1 hh l2 l3 hgb
  go_enter Try.func58, Try.ntmps58
  go_wp2
  go_loopg [5, 6] L (fun f p n wr => ∃ k : Nat, k + f = L ∧ n = .int .i64 k ∧ p = .int .i64 (g ^ k % 2039) ∧ w = wr)
  case atStart => exact ⟨0, by omega, rfl, by rw [← H0.out], rfl⟩
  case round =>
    obtain ⟨k, hk, rfl, rfl, rfl⟩ := hrel
    have hk2 : k ≤ L := by omega
    have HK := Lib.hid hk
    clear hk
    have HST := Lib.hid (lg_step g k)
    obtain ⟨p, hp⟩ : ∃ p, p = g ^ k % 2039 := ⟨_, rfl⟩
    have hpb : 0 ≤ p ∧ p ≤ 2038 := by have := Int.emod_nonneg (g ^ k) (show (2039 : Int) ≠ 0 by omega); have := Int.emod_lt_of_pos (g ^ k) (show (0 : Int) < 2039 by omega); omega
    have hpg := lg_bd hpb HGB.out
    have hk3 : (k : Int) < 1019 := by omega
    by_cases hlt : k < L
    · have q : (p == h) = false := beq_eq_false_iff_ne.2 (by rw [hp]; exact HL3.out k hlt)
      rw [← hp] at HST ⊢
      clear hp
      go_wp2
      go_roundg (L - (k + 1))
      case measure => have := HK.out; omega
      case rel => exact ⟨k + 1, by omega, by go_num, by rw [← HST.out], rfl⟩
    · obtain rfl : k = L := by omega
      have e : p = h := hp.trans HL2.out
      have q : (p == h) = true := by rw [e]; simp
      rw [← hp]
      clear hp e
      go_wp2
      go_ret
      exact ⟨rfl, rfl⟩
def sfZ (a b : Int) : Int := (a + 1019 - b) % 1019
theorem adfI (a b : Int) (w : World) (ha : elB a = true) (hb : elB b = true) : Calls Try.prog 62 #[.int .i64 a, .int .i64 b] w fun e w' => e = .returned (.int .i64 ((a + b) % 1019)) ∧ w = w' := by
  obtain ⟨a1, a2⟩ := elB_facts ha
  obtain ⟨b1, b2⟩ := elB_facts hb
  have HA := Lib.hid ha
  have HB := Lib.hid hb
  clear ha hb
  go_enter Try.func62, Try.ntmps62
  go_wp2_with fail
  refine (elI a _).mono ?_
  rintro e w1 ⟨rfl, rfl⟩
  rw [HA.out]
  go_wp2_with fail
  refine (elI b _).mono ?_
  rintro e w1 ⟨rfl, rfl⟩
  rw [HB.out]
  go_wp2
  go_ret
  exact ⟨rfl, rfl⟩
theorem sufI (a b : Int) (w : World) (ha : elB a = true) (hb : elB b = true) : Calls Try.prog 64 #[.int .i64 a, .int .i64 b] w fun e w' => e = .returned (.int .i64 (sfZ a b)) ∧ w = w' := by
  obtain ⟨a1, a2⟩ := elB_facts ha
  obtain ⟨b1, b2⟩ := elB_facts hb
  have HA := Lib.hid ha
  have HB := Lib.hid hb
  have HN : Hid ((a + 1019 - b) % 1019 = sfZ a b) := rfl
  clear ha hb
  go_enter Try.func64, Try.ntmps64
  go_wp2_with fail
  refine (elI a _).mono ?_
  rintro e w1 ⟨rfl, rfl⟩
  rw [HA.out]
  go_wp2_with fail
  refine (elI b _).mono ?_
  rintro e w1 ⟨rfl, rfl⟩
  rw [HB.out]
  go_wp2
  go_ret
  exact ⟨by rw [← HN.out]; rfl, rfl⟩
theorem bothS (a b : Int) (w : World) (ha : elB a = true) (hb : elB b = true) : Calls Try.prog 100 #[.int .i64 a, .int .i64 b] w fun e w' => e = .returned (.bool true) ∧ w = w' := by
  have HA := Lib.hid ha
  have HB := Lib.hid hb
  clear ha hb
  go_enter Try.func100, Try.ntmps100
  go_wp2_with fail
  refine (elS a _).mono ?_
  rintro e w1 ⟨rfl, rfl⟩
  rw [HA.out]
  go_wp2_with fail
  refine (elS b _).mono ?_
  rintro e w1 ⟨rfl, rfl⟩
  rw [HB.out]
  go_wp2
  go_ret
  exact ⟨rfl, rfl⟩
theorem adfS (a b : Int) (w : World) (ha : elB a = true) (hb : elB b = true) : Calls Try.prog 57 #[.int .i64 a, .int .i64 b] w fun e w' => e = .returned (.int .i64 ((a + b) % 1019)) ∧ w = w' := by
  obtain ⟨a1, a2⟩ := elB_facts ha
  obtain ⟨b1, b2⟩ := elB_facts hb
  have HC := Lib.hid (fun w => bothS a b w ha hb)
  clear ha hb
  go_enter Try.func57, Try.ntmps57
  go_wp2_with fail
  refine (HC.out _).mono ?_
  rintro e w1 ⟨rfl, rfl⟩
  go_wp2
  go_ret
  exact ⟨rfl, rfl⟩
theorem sufS (a b : Int) (w : World) (ha : elB a = true) (hb : elB b = true) : Calls Try.prog 59 #[.int .i64 a, .int .i64 b] w fun e w' => e = .returned (.int .i64 (sfZ a b)) ∧ w = w' := by
  obtain ⟨a1, a2⟩ := elB_facts ha
  obtain ⟨b1, b2⟩ := elB_facts hb
  have HC := Lib.hid (fun w => bothS a b w ha hb)
  have HN : Hid ((a - b + 1019) % 1019 = sfZ a b) := Lib.hid (by unfold sfZ; congr 1; omega)
  clear ha hb
  go_enter Try.func59, Try.ntmps59
  go_wp2_with fail
  refine (HC.out _).mono ?_
  rintro e w1 ⟨rfl, rfl⟩
  go_wp2
  go_ret
  exact ⟨by rw [← HN.out]; rfl, rfl⟩
end Go.Proofs.Ytjlcnbicehjjjaa
