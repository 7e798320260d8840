/-
  Powers modulo a number. Plain mathematics: nothing of the program.
-/
namespace Go.Proofs.Ytjaagabbbnokdaa

theorem mul_mod_l (a b m : Int) : (a % m) * b % m = a * b % m := by rw [Int.mul_emod, Int.emod_emod_of_dvd _ (Int.dvd_refl m), ← Int.mul_emod]
theorem mul_mod_r (a b m : Int) : a * (b % m) % m = a * b % m := by rw [Int.mul_comm a (b % m), mul_mod_l, Int.mul_comm]
theorem pow_mod (a m : Int) (n : Nat) : (a % m) ^ n % m = a ^ n % m := by
  induction n with
  | zero => simp
  | succ n ih =>
    rw [Int.pow_succ, Int.pow_succ, mul_mod_r, ← mul_mod_l, ih, mul_mod_l]
theorem pow_even (a : Int) (n : Nat) : (a * a) ^ n = a ^ (2 * n) := by
  rw [Nat.two_mul, Int.pow_add, ← Int.mul_pow]
/-- One round of powMod at an odd exponent. -/
theorem pow_odd_step (o a m : Int) (n : Nat) (h : n % 2 = 1) : (o * a % m) * (a * a % m) ^ (n / 2) % m = o * a ^ n % m := by
  rw [mul_mod_l, ← mul_mod_r, pow_mod, mul_mod_r, pow_even]
  have e : n = 2 * (n / 2) + 1 := by omega
  conv => rhs; rw [e, Int.pow_succ]
  rw [Int.mul_assoc, Int.mul_comm a]
theorem pow_even_step (o a m : Int) (n : Nat) (h : n % 2 = 0) : o * (a * a % m) ^ (n / 2) % m = o * a ^ n % m := by
  rw [← mul_mod_r, pow_mod, mul_mod_r, pow_even]
  have e : n = 2 * (n / 2) := by omega
  conv => rhs; rw [e]
end Go.Proofs.Ytjaagabbbnokdaa
