/-
  Hashes: contracts of Mod, Hash, KeyedHash, of the program and of the reference. Conditions: a modulus from 1 to 10^12; at most 2^39 numbers.
-/
import Derived.Test.YtjlcnbicehjjjaaConcat
namespace Go.Proofs.Ytjlcnbicehjjjaa
open Go.ChangeShapes Go.WideShapes Go.ChangeAt Go.RowKit
set_option linter.unusedVariables false
set_option maxRecDepth 100000

theorem tmod_emod (p q : Int) (hq : 1 ≤ q) : (p.tmod q + q) % q = p % q ∧ -q < p.tmod q ∧ p.tmod q < q := by
  have h1 : p.tmod q < q := Int.tmod_lt_of_pos p (by omega)
  have h2 : -q < p.tmod q := by
    rcases Int.le_total 0 p with hp | hp
    · have := Int.tmod_nonneg q hp; omega
    · have h3 : (-p).tmod q < q := Int.tmod_lt_of_pos (-p) (by omega)
      rw [Int.neg_tmod] at h3
      omega
  refine ⟨?_, h2, h1⟩
  rw [Int.add_emod_right]
  have h4 := Int.mul_tdiv_add_tmod p q
  conv => rhs; rw [← h4]
  rw [Int.add_comm, Int.add_mul_emod_self_left]

/-- The hash of a list of numbers. -/
def hshS (s v : Int) : Int := (s * 1000003 + v % 2147483647 + 13) % 2147483647
def hsh (xs : List Int) : Int := xs.foldl hshS 11
theorem hsh_bd (xs : List Int) : 0 ≤ hsh xs ∧ hsh xs < 2147483647 := by
  have key : ∀ (ys : List Int) (s : Int), 0 ≤ s ∧ s < 2147483647 → 0 ≤ ys.foldl hshS s ∧ ys.foldl hshS s < 2147483647 := by
    intro ys
    induction ys with
    | nil => intro s h; exact h
    | cons y ys ih => intro s h; exact ih _ ⟨Int.emod_nonneg _ (by decide), Int.emod_lt_of_pos _ (by decide)⟩
  exact key xs 11 (by decide)
theorem hsh_step {xs : List Int} {k : Nat} {x : Int} (h : xs[k]? = some x) : hsh (xs.take (k + 1)) = (hsh (xs.take k) * 1000003 + x % 2147483647 + 13) % 2147483647 := by
  obtain ⟨hk, rfl⟩ := List.getElem?_eq_some_iff.1 h
  unfold hsh
  rw [List.take_succ_eq_append_getElem hk, List.foldl_append]
  rfl
set_option maxHeartbeats 400000 in
theorem modI (p q : Int) (w : World) (h1 : 1 ≤ q) (h2 : q ≤ 1000000000000) (hp : -9223372036854775808 ≤ p) (hp2 : p ≤ 9223372036854775807) :
    Calls Try.prog 125 #[.int .i64 p, .int .i64 q] w fun e w' => e = .returned (.int .i64 (p % q)) ∧ w = w' := by
  obtain ⟨k1, k2, k3⟩ := tmod_emod p q h1
  have K1 := Lib.hid k1
  clear k1
  have k4 : 0 ≤ p.tmod q + q := by omega
  go_enter Try.func125, Try.ntmps125
  go_wp2_with fail
  refine (inR_yes _ _ _ _ (by omega) (by omega)).mono ?_
  rintro e w1 ⟨rfl, rfl⟩
  go_wp2
  go_ret
  exact ⟨by rw [← K1.out]; rfl, rfl⟩
set_option maxHeartbeats 400000 in
theorem modS (p q : Int) (w : World) (h1 : 1 ≤ q) (h2 : q ≤ 1000000000000) (hp : -9223372036854775808 ≤ p) (hp2 : p ≤ 9223372036854775807) :
    Calls Try.prog 124 #[.int .i64 p, .int .i64 q] w fun e w' => e = .returned (.int .i64 (p % q)) ∧ w = w' := by
  obtain ⟨k1, k2, k3⟩ := tmod_emod p q h1
  have K1 := Lib.hid k1
  clear k1
  have k4 : 0 ≤ p.tmod q + q := by omega
  go_enter Try.func124, Try.ntmps124
  go_wp2_with fail
  refine (l1In_yes _ _ _ _ (by omega) (by omega)).mono ?_
  rintro e w1 ⟨rfl, rfl⟩
  go_wp2
  go_ret
  exact ⟨by rw [← K1.out]; rfl, rfl⟩
set_option maxHeartbeats 1000000 in
theorem hash1I (v : Value) (xs : List Int) (w : World) (hv : RI w v xs) (hb : ∀ x ∈ xs, -9223372036854775808 ≤ x ∧ x ≤ 9223372036854775807) :
    Calls Try.prog 116 #[v] w fun e w' => e = .returned (.int .i64 (hsh xs)) ∧ w = w' := by
  obtain ⟨A, c, rfl, h2, h3, hA⟩ := hv
  have HB := Lib.hid hb
  clear hb
  go_enter Try.func116, Try.ntmps116
  go_wp2
  go_loopg [3, 8] xs.length (fun f m i wr => ∃ k : Nat, k + f = xs.length ∧ i = .int .i64 k ∧ m = .int .i64 (hsh (xs.take k)) ∧ wr = w)
  case atStart => exact ⟨0, by omega, rfl, rfl, rfl⟩
  case round =>
    obtain ⟨k, hk, rfl, rfl, rfl⟩ := hrel
    have hk2 : k ≤ xs.length := by omega
    have HK := Lib.hid hk
    clear hk
    by_cases hlt : k < xs.length
    · obtain ⟨b1, o1, rfl, z1, hc1⟩ := hA (by omega)
      have hx : xs[k]? = some (xs[k]'hlt) := List.getElem?_eq_getElem hlt
      have g1 := hc1 k _ hx
      have HS := Lib.hid (hsh_step hx)
      obtain ⟨m1, m2⟩ := HB.out _ (List.getElem_mem hlt)
      obtain ⟨q1, q2⟩ := hsh_bd (xs.take k)
      clear hc1 hA hx
      generalize xs[k]'hlt = x at *
      generalize hsh (xs.take k) = s at *
      have i0 : (0 : Int) ≤ (k : Int) := by omega
      have i1 : (k : Int) < (xs.length : Int) := by omega
      go_wp2_with fail
      refine (modI x 2147483647 _ (by omega) (by omega) m1 m2).mono ?_
      rintro e w1 ⟨rfl, rfl⟩
      have u1 : 0 ≤ x % 2147483647 := Int.emod_nonneg _ (by omega)
      have u2 : x % 2147483647 < 2147483647 := Int.emod_lt_of_pos _ (by omega)
      generalize x % 2147483647 = y at *
      go_wp2
      go_roundg (xs.length - (k + 1))
      case measure => have := HK.out; omega
      case rel => exact ⟨k + 1, by omega, by go_num, by rw [HS.out], rfl⟩
    · obtain rfl : k = xs.length := by omega
      have i1 : ¬ (xs.length : Int) < (xs.length : Int) := by omega
      go_wp2
      go_ret
      exact ⟨rfl, rfl⟩
set_option maxHeartbeats 1000000 in
theorem hash1S (v : Value) (xs : List Int) (w : World) (hv : RI w v xs) (hb : ∀ x ∈ xs, -9223372036854775808 ≤ x ∧ x ≤ 9223372036854775807) :
    Calls Try.prog 115 #[v] w fun e w' => e = .returned (.int .i64 (hsh xs)) ∧ w = w' := by
  obtain ⟨A, c, rfl, h2, h3, hA⟩ := hv
  have HB := Lib.hid hb
  clear hb
  go_enter Try.func115, Try.ntmps115
  go_wp2
  go_loopg [3, 4] xs.length (fun f m i wr => ∃ k : Nat, k + f = xs.length ∧ i = .int .i64 k ∧ m = .int .i64 (hsh (xs.take k)) ∧ wr = w)
  case atStart => exact ⟨0, by omega, rfl, rfl, rfl⟩
  case round =>
    obtain ⟨k, hk, rfl, rfl, rfl⟩ := hrel
    have hk2 : k ≤ xs.length := by omega
    have HK := Lib.hid hk
    clear hk
    by_cases hlt : k < xs.length
    · obtain ⟨b1, o1, rfl, z1, hc1⟩ := hA (by omega)
      have hx : xs[k]? = some (xs[k]'hlt) := List.getElem?_eq_getElem hlt
      have g1 := hc1 k _ hx
      have HS := Lib.hid (hsh_step hx)
      obtain ⟨m1, m2⟩ := HB.out _ (List.getElem_mem hlt)
      obtain ⟨q1, q2⟩ := hsh_bd (xs.take k)
      clear hc1 hA hx
      generalize xs[k]'hlt = x at *
      generalize hsh (xs.take k) = s at *
      have i0 : (0 : Int) ≤ (k : Int) := by omega
      have i1 : (k : Int) < (xs.length : Int) := by omega
      go_wp2_with fail
      refine (modS x 2147483647 _ (by omega) (by omega) m1 m2).mono ?_
      rintro e w1 ⟨rfl, rfl⟩
      have u1 : 0 ≤ x % 2147483647 := Int.emod_nonneg _ (by omega)
      have u2 : x % 2147483647 < 2147483647 := Int.emod_lt_of_pos _ (by omega)
      generalize x % 2147483647 = y at *
      go_wp2
      go_roundg (xs.length - (k + 1))
      case measure => have := HK.out; omega
      case rel => exact ⟨k + 1, by omega, by go_num, by rw [HS.out], rfl⟩
    · obtain rfl : k = xs.length := by omega
      have i1 : ¬ (xs.length : Int) < (xs.length : Int) := by omega
      go_wp2
      go_ret
      exact ⟨rfl, rfl⟩
end Go.Proofs.Ytjlcnbicehjjjaa
