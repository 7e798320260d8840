/-
  The field and the group: contracts of IsElement, powMod, IsGroupElement, of the program and of the reference. No condition but for powMod's range.
-/
import Derived.Test.YtjaagabbbnokdaaBits
import Derived.Test.YtjaagabbbnokdaaNum
import Derived.Deep.LoopGhost
namespace Go.Proofs.Ytjaagabbbnokdaa
open Go.ChangeShapes Go.WideShapes Go.ChangeAt Go.RowKit
set_option linter.unusedVariables false
set_option maxRecDepth 100000

set_option maxHeartbeats 400000 in
theorem powI (a n m : Int) (w : World) (h0 : 0 ≤ a) (h1 : a ≤ 2147483648) (hn : 0 ≤ n) (hm : 2 ≤ m) (hm2 : m ≤ 2147483648) :
    Calls Try.prog 165 #[.int .i64 a, .int .i64 n, .int .i64 m] w fun e w' => e = .returned (.int .i64 (a ^ n.toNat % m)) ∧ w = w' := by
  obtain ⟨N, rfl⟩ := Int.eq_ofNat_of_zero_le hn
  rw [Int.toNat_natCast]
  go_enter Try.func165, Try.ntmps165
  go_wp2
  go_loopg [0, 1, 7] N (fun f a' n' o wr => ∃ A O : Int, 0 ≤ A ∧ A ≤ 2147483648 ∧ 0 ≤ O ∧ O < m ∧ a' = .int .i64 A ∧ n' = .int .i64 (f : Int) ∧ o = .int .i64 O ∧ wr = w ∧ Hid (O * A ^ f % m = a ^ N % m))
  case atStart => exact ⟨a, 1, h0, h1, by omega, by omega, rfl, rfl, rfl, rfl, by show _ = _; rw [Int.one_mul]⟩
  case round =>
    obtain ⟨A, O, k1, k2, k3, k4, rfl, rfl, rfl, rfl, HE⟩ := hrel
    by_cases hp : 0 < gk
    · have ha := and1 (gk : Int)
      have u1 : 0 ≤ O * A := Int.mul_nonneg k3 k1
      have u2 : O * A ≤ 2147483648 * 2147483648 := Int.mul_le_mul (by omega) k2 k1 (by omega)
      have u3 : 0 ≤ A * A := Int.mul_nonneg k1 k1
      have u4 : A * A ≤ 2147483648 * 2147483648 := Int.mul_le_mul k2 k2 k1 (by omega)
      have u5 : 0 ≤ O * A % m := Int.emod_nonneg _ (by omega)
      have u6 : O * A % m < m := Int.emod_lt_of_pos _ (by omega)
      have u7 : 0 ≤ A * A % m := Int.emod_nonneg _ (by omega)
      have u8 : A * A % m < m := Int.emod_lt_of_pos _ (by omega)
      have hp2 : (0 : Int) < (gk : Int) := by omega
      by_cases hodd : gk % 2 = 1
      · have hb : (bits .and .i64 (gk : Int) 1 == 1) = true := by rw [ha]; simp; omega
        have HE2 : Hid (O * A % m * (A * A % m) ^ (gk / 2) % m = a ^ N % m) := by show _ = _; rw [pow_odd_step O A m gk hodd]; exact HE.out
        clear HE ha hodd
        go_wp2
        go_roundg (gk / 2)
        case measure => omega
        case rel => exact ⟨A * A % m, O * A % m, u7, by omega, u5, u6, by go_num, by go_num, by go_num, rfl, HE2⟩
      · have hb : (bits .and .i64 (gk : Int) 1 == 1) = false := by rw [ha]; simp; omega
        have HE2 : Hid (O * (A * A % m) ^ (gk / 2) % m = a ^ N % m) := by show _ = _; rw [pow_even_step O A m gk (by omega)]; exact HE.out
        clear HE ha hodd
        go_wp2
        go_roundg (gk / 2)
        case measure => omega
        case rel => exact ⟨A * A % m, O, u7, by omega, k3, k4, by go_num, by go_num, by go_num, rfl, HE2⟩
    · obtain rfl : gk = 0 := by omega
      have HE2 : Hid (a ^ N % m = O) := by
        have h := HE.out
        rw [Int.pow_zero, Int.mul_one, Int.emod_eq_of_lt k3 k4] at h
        exact h.symm
      clear HE
      go_wp2
      go_ret
      exact ⟨by rw [HE2.out]; rfl, rfl⟩
set_option maxHeartbeats 400000 in
theorem powS (a n m : Int) (w : World) (h0 : 0 ≤ a) (h1 : a ≤ 2147483648) (hn : 0 ≤ n) (hm : 2 ≤ m) (hm2 : m ≤ 2147483648) :
    Calls Try.prog 174 #[.int .i64 a, .int .i64 n, .int .i64 m] w fun e w' => e = .returned (.int .i64 (a ^ n.toNat % m)) ∧ w = w' := by
  obtain ⟨N, rfl⟩ := Int.eq_ofNat_of_zero_le hn
  rw [Int.toNat_natCast]
  go_enter Try.func174, Try.ntmps174
  go_wp2
  go_loopg [0, 1, 7] N (fun f a' n' o wr => ∃ A O : Int, 0 ≤ A ∧ A ≤ 2147483648 ∧ 0 ≤ O ∧ O < m ∧ a' = .int .i64 A ∧ n' = .int .i64 (f : Int) ∧ o = .int .i64 O ∧ wr = w ∧ Hid (O * A ^ f % m = a ^ N % m))
  case atStart => exact ⟨a, 1, h0, h1, by omega, by omega, rfl, rfl, rfl, rfl, by show _ = _; rw [Int.one_mul]⟩
  case round =>
    obtain ⟨A, O, k1, k2, k3, k4, rfl, rfl, rfl, rfl, HE⟩ := hrel
    by_cases hp : 0 < gk
    · have ha := and1 (gk : Int)
      have u1 : 0 ≤ O * A := Int.mul_nonneg k3 k1
      have u2 : O * A ≤ 2147483648 * 2147483648 := Int.mul_le_mul (by omega) k2 k1 (by omega)
      have u3 : 0 ≤ A * A := Int.mul_nonneg k1 k1
      have u4 : A * A ≤ 2147483648 * 2147483648 := Int.mul_le_mul k2 k2 k1 (by omega)
      have u5 : 0 ≤ O * A % m := Int.emod_nonneg _ (by omega)
      have u6 : O * A % m < m := Int.emod_lt_of_pos _ (by omega)
      have u7 : 0 ≤ A * A % m := Int.emod_nonneg _ (by omega)
      have u8 : A * A % m < m := Int.emod_lt_of_pos _ (by omega)
      have hp2 : (0 : Int) < (gk : Int) := by omega
      by_cases hodd : gk % 2 = 1
      · have hb : (bits .and .i64 (gk : Int) 1 == 1) = true := by rw [ha]; simp; omega
        have HE2 : Hid (O * A % m * (A * A % m) ^ (gk / 2) % m = a ^ N % m) := by show _ = _; rw [pow_odd_step O A m gk hodd]; exact HE.out
        clear HE ha hodd
        go_wp2
        go_roundg (gk / 2)
        case measure => omega
        case rel => exact ⟨A * A % m, O * A % m, u7, by omega, u5, u6, by go_num, by go_num, by go_num, rfl, HE2⟩
      · have hb : (bits .and .i64 (gk : Int) 1 == 1) = false := by rw [ha]; simp; omega
        have HE2 : Hid (O * (A * A % m) ^ (gk / 2) % m = a ^ N % m) := by show _ = _; rw [pow_even_step O A m gk (by omega)]; exact HE.out
        clear HE ha hodd
        go_wp2
        go_roundg (gk / 2)
        case measure => omega
        case rel => exact ⟨A * A % m, O, u7, by omega, k3, k4, by go_num, by go_num, by go_num, rfl, HE2⟩
    · obtain rfl : gk = 0 := by omega
      have HE2 : Hid (a ^ N % m = O) := by
        have h := HE.out
        rw [Int.pow_zero, Int.mul_one, Int.emod_eq_of_lt k3 k4] at h
        exact h.symm
      clear HE
      go_wp2
      go_ret
      exact ⟨by rw [HE2.out]; rfl, rfl⟩

/-- A field element. -/
def elB (x : Int) : Bool := decide (0 ≤ x ∧ x ≤ 1018)
theorem elB_yes {x : Int} (h : 0 ≤ x ∧ x ≤ 1018) : elB x = true := decide_eq_true h
theorem elB_no {x : Int} (h : x < 0 ∨ 1018 < x) : elB x = false := decide_eq_false (by omega)
theorem elB_facts {x : Int} (h : elB x = true) : 0 ≤ x ∧ x ≤ 1018 := of_decide_eq_true h
/-- A group element. -/
def grB (x : Int) : Bool := decide (1 ≤ x ∧ x ≤ 2038) && (x ^ 1019 % 2039 == 1)
theorem grB_no {x : Int} (h : x < 1 ∨ 2038 < x) : grB x = false := by unfold grB; rw [decide_eq_false (by omega)]; rfl
theorem grB_in {x : Int} (h : 1 ≤ x ∧ x ≤ 2038) : grB x = (x ^ 1019 % 2039 == 1) := by unfold grB; rw [decide_eq_true h]; rfl
theorem grB_facts {x : Int} (h : grB x = true) : (1 ≤ x ∧ x ≤ 2038) ∧ x ^ 1019 % 2039 = 1 := by
  unfold grB at h
  rw [Bool.and_eq_true, decide_eq_true_eq, beq_iff_eq] at h
  exact h
theorem elI (x : Int) (w : World) : Calls Try.prog 139 #[.int .i64 x] w fun e w' => e = .returned (.bool (elB x)) ∧ w = w' := by
  by_cases h : 0 ≤ x ∧ x ≤ 1018
  · rw [elB_yes h]
    go_enter Try.func139, Try.ntmps139
    go_wp2_with fail
    refine (inR_yes _ _ _ _ (by omega) (by omega)).mono ?_
    rintro e w1 ⟨rfl, rfl⟩
    go_wp2
    go_ret
    exact ⟨rfl, rfl⟩
  · rw [elB_no (by omega)]
    go_enter Try.func139, Try.ntmps139
    go_wp2_with fail
    refine (inR_no _ _ _ _ (by omega)).mono ?_
    rintro e w1 ⟨rfl, rfl⟩
    go_wp2
    go_ret
    exact ⟨rfl, rfl⟩
theorem elS (x : Int) (w : World) : Calls Try.prog 137 #[.int .i64 x] w fun e w' => e = .returned (.bool (elB x)) ∧ w = w' := by
  by_cases h : 0 ≤ x ∧ x ≤ 1018
  · rw [elB_yes h]
    go_enter Try.func137, Try.ntmps137
    go_wp2_with fail
    refine (l1In_yes _ _ _ _ (by omega) (by omega)).mono ?_
    rintro e w1 ⟨rfl, rfl⟩
    go_wp2
    go_ret
    exact ⟨rfl, rfl⟩
  · rw [elB_no (by omega)]
    go_enter Try.func137, Try.ntmps137
    go_wp2_with fail
    refine (l1In_no _ _ _ _ (by omega)).mono ?_
    rintro e w1 ⟨rfl, rfl⟩
    go_wp2
    go_ret
    exact ⟨rfl, rfl⟩
end Go.Proofs.Ytjaagabbbnokdaa
