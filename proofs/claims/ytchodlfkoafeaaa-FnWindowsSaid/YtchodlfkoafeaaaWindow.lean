/-
  Contracts of IsValidWindow, of the program and of the reference: both return 'winB'. No condition.
-/
import Derived.Test.YtchodlfkoafeaaaInt
namespace Go.Proofs.Ytchodlfkoafeaaa
open Go.ChangeShapes Go.WideShapes Go.ChangeAt Go.RowKit
set_option linter.unusedVariables false

/-- A valid window, in plain numbers. -/
def winB (b n d t : Int) : Bool :=
  decide (0 ≤ t ∧ t ≤ 60 ∧ 0 ≤ b ∧ b ≤ n ∧ n ≤ t ∧ n - b ≤ 4 ∧ 0 ≤ d ∧ d ≤ 2 ^ (n - b).toNat - 1) && (bits .and .i64 d 1 == 0)
theorem winB_no {b n d t : Int} (h : ¬ (0 ≤ t ∧ t ≤ 60 ∧ 0 ≤ b ∧ b ≤ n ∧ n ≤ t ∧ n - b ≤ 4 ∧ 0 ≤ d ∧ d ≤ 2 ^ (n - b).toNat - 1)) : winB b n d t = false := by
  unfold winB; rw [decide_eq_false h]; rfl
theorem winB_in {b n d t : Int} (h : 0 ≤ t ∧ t ≤ 60 ∧ 0 ≤ b ∧ b ≤ n ∧ n ≤ t ∧ n - b ≤ 4 ∧ 0 ≤ d ∧ d ≤ 2 ^ (n - b).toNat - 1) : winB b n d t = (bits .and .i64 d 1 == 0) := by
  unfold winB; rw [decide_eq_true h]; rfl
abbrev win (b n d t : Int) : Value := .agg #[.int .i64 b, .int .i64 n, .int .i64 d, .int .i64 t]

set_option maxHeartbeats 400000 in
theorem winI_t (b n d t : Int) (w : World) (h : t < 0 ∨ 60 < t) :
    Calls Try.prog 34 #[.agg #[.int .i64 b, .int .i64 n, .int .i64 d, .int .i64 t]] w fun e w' => e = .returned (.bool false) ∧ Below w.heap.size w w' := by
  go_enter Try.func34, Try.ntmps34
  go_wp2_with (first | (go_at_call 67; refine (inR_yes _ _ _ _ (by omega) (by omega)).mono ?_; rintro e w' ⟨rfl, rfl⟩) | (go_at_call 67; refine (inR_no _ _ _ _ (by omega)).mono ?_; rintro e w' ⟨rfl, rfl⟩))
  go_ret
  exact ⟨rfl, by first | exact (Below.refl _ _).alloc (Nat.le_refl _) _ | exact belowN ((Below.refl _ _).alloc (Nat.le_refl _) _) _⟩
set_option maxHeartbeats 400000 in
theorem winI_b (b n d t : Int) (w : World) (h1 : 0 ≤ t) (h2 : t ≤ 60) (h : b < 0 ∨ n < b) :
    Calls Try.prog 34 #[.agg #[.int .i64 b, .int .i64 n, .int .i64 d, .int .i64 t]] w fun e w' => e = .returned (.bool false) ∧ Below w.heap.size w w' := by
  go_enter Try.func34, Try.ntmps34
  go_wp2_with (first | (go_at_call 67; refine (inR_yes _ _ _ _ (by omega) (by omega)).mono ?_; rintro e w' ⟨rfl, rfl⟩) | (go_at_call 67; refine (inR_no _ _ _ _ (by omega)).mono ?_; rintro e w' ⟨rfl, rfl⟩))
  go_ret
  exact ⟨rfl, by first | exact (Below.refl _ _).alloc (Nat.le_refl _) _ | exact belowN ((Below.refl _ _).alloc (Nat.le_refl _) _) _⟩
set_option maxHeartbeats 400000 in
theorem winI_n (b n d t : Int) (w : World) (h1 : 0 ≤ t) (h2 : t ≤ 60) (h3 : 0 ≤ b) (h4 : b ≤ n) (h : t < n) :
    Calls Try.prog 34 #[.agg #[.int .i64 b, .int .i64 n, .int .i64 d, .int .i64 t]] w fun e w' => e = .returned (.bool false) ∧ Below w.heap.size w w' := by
  go_enter Try.func34, Try.ntmps34
  go_wp2_with (first | (go_at_call 67; refine (inR_yes _ _ _ _ (by omega) (by omega)).mono ?_; rintro e w' ⟨rfl, rfl⟩) | (go_at_call 67; refine (inR_no _ _ _ _ (by omega)).mono ?_; rintro e w' ⟨rfl, rfl⟩))
  go_ret
  exact ⟨rfl, by first | exact (Below.refl _ _).alloc (Nat.le_refl _) _ | exact belowN ((Below.refl _ _).alloc (Nat.le_refl _) _) _⟩
set_option maxHeartbeats 400000 in
theorem winI_w (b n d t : Int) (w : World) (h1 : 0 ≤ t) (h2 : t ≤ 60) (h3 : 0 ≤ b) (h4 : b ≤ n) (h5 : n ≤ t) (h : 4 < n - b) :
    Calls Try.prog 34 #[.agg #[.int .i64 b, .int .i64 n, .int .i64 d, .int .i64 t]] w fun e w' => e = .returned (.bool false) ∧ Below w.heap.size w w' := by
  have e1 : decide (t < n) = false := by simp; omega
  have e2 : decide (4 < n - b) = true := by simp; omega
  have e4 : decide (n - b ≤ 4) = false := by simp; omega
  go_enter Try.func34, Try.ntmps34
  go_wp2_with (first | (go_at_call 67; refine (inR_yes _ _ _ _ (by omega) (by omega)).mono ?_; rintro e w' ⟨rfl, rfl⟩) | (go_at_call 67; refine (inR_no _ _ _ _ (by omega)).mono ?_; rintro e w' ⟨rfl, rfl⟩))
  go_ret
  exact ⟨rfl, by first | exact (Below.refl _ _).alloc (Nat.le_refl _) _ | exact belowN ((Below.refl _ _).alloc (Nat.le_refl _) _) _⟩
set_option maxHeartbeats 400000 in
theorem winI_k0no (b n d t : Int) (w : World) (h1 : 0 ≤ t) (h2 : t ≤ 60) (h3 : 0 ≤ b) (h4 : b ≤ n) (h5 : n ≤ t) (h6 : Hid (n - b = 0)) (h : d < 0 ∨ 0 < d) :
    Calls Try.prog 34 #[.agg #[.int .i64 b, .int .i64 n, .int .i64 d, .int .i64 t]] w fun e w' => e = .returned (.bool false) ∧ Below w.heap.size w w' := by
  have e1 : decide (t < n) = false := by simp; omega
  have e2 : decide (4 < n - b) = false := by rw [h6.out]; rfl
  have e3 : IntKind.i64.wrap (n - b) = 0 := by rw [h6.out]; rfl
  have e4 : n - b ≤ 0 := by rw [h6.out]; omega
  go_enter Try.func34, Try.ntmps34
  go_wp2_with (first | (go_at_call 67; refine (inR_yes _ _ _ _ (by omega) (by omega)).mono ?_; rintro e w' ⟨rfl, rfl⟩) | (go_at_call 67; refine (inR_no _ _ _ _ (by omega)).mono ?_; rintro e w' ⟨rfl, rfl⟩))
  go_quiet (first | (go_at_call 67; exact quietL (inR_yes _ _ _ _ (by omega) (by omega))) | (go_at_call 67; exact quietL (inR_no _ _ _ _ (by omega))))
  go_wp2
  go_ret
  exact ⟨rfl, by first | exact (Below.refl _ _).alloc (Nat.le_refl _) _ | exact belowN ((Below.refl _ _).alloc (Nat.le_refl _) _) _⟩
set_option maxHeartbeats 400000 in
theorem winI_k0 (b n d t : Int) (w : World) (h1 : 0 ≤ t) (h2 : t ≤ 60) (h3 : 0 ≤ b) (h4 : b ≤ n) (h5 : n ≤ t) (h6 : Hid (n - b = 0)) (h7 : 0 ≤ d) (h8 : d ≤ 0) (q : Bool) (e5 : (bits .and .i64 d 1 == 0) = q) :
    Calls Try.prog 34 #[.agg #[.int .i64 b, .int .i64 n, .int .i64 d, .int .i64 t]] w fun e w' => e = .returned (.bool q) ∧ Below w.heap.size w w' := by
  have e1 : decide (t < n) = false := by simp; omega
  have e2 : decide (4 < n - b) = false := by rw [h6.out]; rfl
  have e3 : IntKind.i64.wrap (n - b) = 0 := by rw [h6.out]; rfl
  have e4 : n - b ≤ 0 := by rw [h6.out]; omega
  go_enter Try.func34, Try.ntmps34
  go_wp2_with (first | (go_at_call 67; refine (inR_yes _ _ _ _ (by omega) (by omega)).mono ?_; rintro e w' ⟨rfl, rfl⟩) | (go_at_call 67; refine (inR_no _ _ _ _ (by omega)).mono ?_; rintro e w' ⟨rfl, rfl⟩))
  go_quiet (first | (go_at_call 67; exact quietL (inR_yes _ _ _ _ (by omega) (by omega))) | (go_at_call 67; exact quietL (inR_no _ _ _ _ (by omega))))
  go_wp2
  go_ret
  exact ⟨rfl, by first | exact (Below.refl _ _).alloc (Nat.le_refl _) _ | exact belowN ((Below.refl _ _).alloc (Nat.le_refl _) _) _⟩
set_option maxHeartbeats 400000 in
theorem winI_k1no (b n d t : Int) (w : World) (h1 : 0 ≤ t) (h2 : t ≤ 60) (h3 : 0 ≤ b) (h4 : b ≤ n) (h5 : n ≤ t) (h6 : Hid (n - b = 1)) (h : d < 0 ∨ 1 < d) :
    Calls Try.prog 34 #[.agg #[.int .i64 b, .int .i64 n, .int .i64 d, .int .i64 t]] w fun e w' => e = .returned (.bool false) ∧ Below w.heap.size w w' := by
  have e1 : decide (t < n) = false := by simp; omega
  have e2 : decide (4 < n - b) = false := by rw [h6.out]; rfl
  have e3 : IntKind.i64.wrap (n - b) = 1 := by rw [h6.out]; rfl
  have e4 : n - b ≤ 1 := by rw [h6.out]; omega
  go_enter Try.func34, Try.ntmps34
  go_wp2_with (first | (go_at_call 67; refine (inR_yes _ _ _ _ (by omega) (by omega)).mono ?_; rintro e w' ⟨rfl, rfl⟩) | (go_at_call 67; refine (inR_no _ _ _ _ (by omega)).mono ?_; rintro e w' ⟨rfl, rfl⟩))
  go_quiet (first | (go_at_call 67; exact quietL (inR_yes _ _ _ _ (by omega) (by omega))) | (go_at_call 67; exact quietL (inR_no _ _ _ _ (by omega))))
  go_wp2
  go_ret
  exact ⟨rfl, by first | exact (Below.refl _ _).alloc (Nat.le_refl _) _ | exact belowN ((Below.refl _ _).alloc (Nat.le_refl _) _) _⟩
set_option maxHeartbeats 400000 in
theorem winI_k1 (b n d t : Int) (w : World) (h1 : 0 ≤ t) (h2 : t ≤ 60) (h3 : 0 ≤ b) (h4 : b ≤ n) (h5 : n ≤ t) (h6 : Hid (n - b = 1)) (h7 : 0 ≤ d) (h8 : d ≤ 1) (q : Bool) (e5 : (bits .and .i64 d 1 == 0) = q) :
    Calls Try.prog 34 #[.agg #[.int .i64 b, .int .i64 n, .int .i64 d, .int .i64 t]] w fun e w' => e = .returned (.bool q) ∧ Below w.heap.size w w' := by
  have e1 : decide (t < n) = false := by simp; omega
  have e2 : decide (4 < n - b) = false := by rw [h6.out]; rfl
  have e3 : IntKind.i64.wrap (n - b) = 1 := by rw [h6.out]; rfl
  have e4 : n - b ≤ 1 := by rw [h6.out]; omega
  go_enter Try.func34, Try.ntmps34
  go_wp2_with (first | (go_at_call 67; refine (inR_yes _ _ _ _ (by omega) (by omega)).mono ?_; rintro e w' ⟨rfl, rfl⟩) | (go_at_call 67; refine (inR_no _ _ _ _ (by omega)).mono ?_; rintro e w' ⟨rfl, rfl⟩))
  go_quiet (first | (go_at_call 67; exact quietL (inR_yes _ _ _ _ (by omega) (by omega))) | (go_at_call 67; exact quietL (inR_no _ _ _ _ (by omega))))
  go_wp2
  go_ret
  exact ⟨rfl, by first | exact (Below.refl _ _).alloc (Nat.le_refl _) _ | exact belowN ((Below.refl _ _).alloc (Nat.le_refl _) _) _⟩
set_option maxHeartbeats 400000 in
theorem winI_k2no (b n d t : Int) (w : World) (h1 : 0 ≤ t) (h2 : t ≤ 60) (h3 : 0 ≤ b) (h4 : b ≤ n) (h5 : n ≤ t) (h6 : Hid (n - b = 2)) (h : d < 0 ∨ 3 < d) :
    Calls Try.prog 34 #[.agg #[.int .i64 b, .int .i64 n, .int .i64 d, .int .i64 t]] w fun e w' => e = .returned (.bool false) ∧ Below w.heap.size w w' := by
  have e1 : decide (t < n) = false := by simp; omega
  have e2 : decide (4 < n - b) = false := by rw [h6.out]; rfl
  have e3 : IntKind.i64.wrap (n - b) = 2 := by rw [h6.out]; rfl
  have e4 : n - b ≤ 2 := by rw [h6.out]; omega
  go_enter Try.func34, Try.ntmps34
  go_wp2_with (first | (go_at_call 67; refine (inR_yes _ _ _ _ (by omega) (by omega)).mono ?_; rintro e w' ⟨rfl, rfl⟩) | (go_at_call 67; refine (inR_no _ _ _ _ (by omega)).mono ?_; rintro e w' ⟨rfl, rfl⟩))
  go_quiet (first | (go_at_call 67; exact quietL (inR_yes _ _ _ _ (by omega) (by omega))) | (go_at_call 67; exact quietL (inR_no _ _ _ _ (by omega))))
  go_wp2
  go_ret
  exact ⟨rfl, by first | exact (Below.refl _ _).alloc (Nat.le_refl _) _ | exact belowN ((Below.refl _ _).alloc (Nat.le_refl _) _) _⟩
set_option maxHeartbeats 400000 in
theorem winI_k2 (b n d t : Int) (w : World) (h1 : 0 ≤ t) (h2 : t ≤ 60) (h3 : 0 ≤ b) (h4 : b ≤ n) (h5 : n ≤ t) (h6 : Hid (n - b = 2)) (h7 : 0 ≤ d) (h8 : d ≤ 3) (q : Bool) (e5 : (bits .and .i64 d 1 == 0) = q) :
    Calls Try.prog 34 #[.agg #[.int .i64 b, .int .i64 n, .int .i64 d, .int .i64 t]] w fun e w' => e = .returned (.bool q) ∧ Below w.heap.size w w' := by
  have e1 : decide (t < n) = false := by simp; omega
  have e2 : decide (4 < n - b) = false := by rw [h6.out]; rfl
  have e3 : IntKind.i64.wrap (n - b) = 2 := by rw [h6.out]; rfl
  have e4 : n - b ≤ 2 := by rw [h6.out]; omega
  go_enter Try.func34, Try.ntmps34
  go_wp2_with (first | (go_at_call 67; refine (inR_yes _ _ _ _ (by omega) (by omega)).mono ?_; rintro e w' ⟨rfl, rfl⟩) | (go_at_call 67; refine (inR_no _ _ _ _ (by omega)).mono ?_; rintro e w' ⟨rfl, rfl⟩))
  go_quiet (first | (go_at_call 67; exact quietL (inR_yes _ _ _ _ (by omega) (by omega))) | (go_at_call 67; exact quietL (inR_no _ _ _ _ (by omega))))
  go_wp2
  go_ret
  exact ⟨rfl, by first | exact (Below.refl _ _).alloc (Nat.le_refl _) _ | exact belowN ((Below.refl _ _).alloc (Nat.le_refl _) _) _⟩
set_option maxHeartbeats 400000 in
theorem winI_k3no (b n d t : Int) (w : World) (h1 : 0 ≤ t) (h2 : t ≤ 60) (h3 : 0 ≤ b) (h4 : b ≤ n) (h5 : n ≤ t) (h6 : Hid (n - b = 3)) (h : d < 0 ∨ 7 < d) :
    Calls Try.prog 34 #[.agg #[.int .i64 b, .int .i64 n, .int .i64 d, .int .i64 t]] w fun e w' => e = .returned (.bool false) ∧ Below w.heap.size w w' := by
  have e1 : decide (t < n) = false := by simp; omega
  have e2 : decide (4 < n - b) = false := by rw [h6.out]; rfl
  have e3 : IntKind.i64.wrap (n - b) = 3 := by rw [h6.out]; rfl
  have e4 : n - b ≤ 3 := by rw [h6.out]; omega
  go_enter Try.func34, Try.ntmps34
  go_wp2_with (first | (go_at_call 67; refine (inR_yes _ _ _ _ (by omega) (by omega)).mono ?_; rintro e w' ⟨rfl, rfl⟩) | (go_at_call 67; refine (inR_no _ _ _ _ (by omega)).mono ?_; rintro e w' ⟨rfl, rfl⟩))
  go_quiet (first | (go_at_call 67; exact quietL (inR_yes _ _ _ _ (by omega) (by omega))) | (go_at_call 67; exact quietL (inR_no _ _ _ _ (by omega))))
  go_wp2
  go_ret
  exact ⟨rfl, by first | exact (Below.refl _ _).alloc (Nat.le_refl _) _ | exact belowN ((Below.refl _ _).alloc (Nat.le_refl _) _) _⟩
set_option maxHeartbeats 400000 in
theorem winI_k3 (b n d t : Int) (w : World) (h1 : 0 ≤ t) (h2 : t ≤ 60) (h3 : 0 ≤ b) (h4 : b ≤ n) (h5 : n ≤ t) (h6 : Hid (n - b = 3)) (h7 : 0 ≤ d) (h8 : d ≤ 7) (q : Bool) (e5 : (bits .and .i64 d 1 == 0) = q) :
    Calls Try.prog 34 #[.agg #[.int .i64 b, .int .i64 n, .int .i64 d, .int .i64 t]] w fun e w' => e = .returned (.bool q) ∧ Below w.heap.size w w' := by
  have e1 : decide (t < n) = false := by simp; omega
  have e2 : decide (4 < n - b) = false := by rw [h6.out]; rfl
  have e3 : IntKind.i64.wrap (n - b) = 3 := by rw [h6.out]; rfl
  have e4 : n - b ≤ 3 := by rw [h6.out]; omega
  go_enter Try.func34, Try.ntmps34
  go_wp2_with (first | (go_at_call 67; refine (inR_yes _ _ _ _ (by omega) (by omega)).mono ?_; rintro e w' ⟨rfl, rfl⟩) | (go_at_call 67; refine (inR_no _ _ _ _ (by omega)).mono ?_; rintro e w' ⟨rfl, rfl⟩))
  go_quiet (first | (go_at_call 67; exact quietL (inR_yes _ _ _ _ (by omega) (by omega))) | (go_at_call 67; exact quietL (inR_no _ _ _ _ (by omega))))
  go_wp2
  go_ret
  exact ⟨rfl, by first | exact (Below.refl _ _).alloc (Nat.le_refl _) _ | exact belowN ((Below.refl _ _).alloc (Nat.le_refl _) _) _⟩
set_option maxHeartbeats 400000 in
theorem winI_k4no (b n d t : Int) (w : World) (h1 : 0 ≤ t) (h2 : t ≤ 60) (h3 : 0 ≤ b) (h4 : b ≤ n) (h5 : n ≤ t) (h6 : Hid (n - b = 4)) (h : d < 0 ∨ 15 < d) :
    Calls Try.prog 34 #[.agg #[.int .i64 b, .int .i64 n, .int .i64 d, .int .i64 t]] w fun e w' => e = .returned (.bool false) ∧ Below w.heap.size w w' := by
  have e1 : decide (t < n) = false := by simp; omega
  have e2 : decide (4 < n - b) = false := by rw [h6.out]; rfl
  have e3 : IntKind.i64.wrap (n - b) = 4 := by rw [h6.out]; rfl
  have e4 : n - b ≤ 4 := by rw [h6.out]; omega
  go_enter Try.func34, Try.ntmps34
  go_wp2_with (first | (go_at_call 67; refine (inR_yes _ _ _ _ (by omega) (by omega)).mono ?_; rintro e w' ⟨rfl, rfl⟩) | (go_at_call 67; refine (inR_no _ _ _ _ (by omega)).mono ?_; rintro e w' ⟨rfl, rfl⟩))
  go_quiet (first | (go_at_call 67; exact quietL (inR_yes _ _ _ _ (by omega) (by omega))) | (go_at_call 67; exact quietL (inR_no _ _ _ _ (by omega))))
  go_wp2
  go_ret
  exact ⟨rfl, by first | exact (Below.refl _ _).alloc (Nat.le_refl _) _ | exact belowN ((Below.refl _ _).alloc (Nat.le_refl _) _) _⟩
set_option maxHeartbeats 400000 in
theorem winI_k4 (b n d t : Int) (w : World) (h1 : 0 ≤ t) (h2 : t ≤ 60) (h3 : 0 ≤ b) (h4 : b ≤ n) (h5 : n ≤ t) (h6 : Hid (n - b = 4)) (h7 : 0 ≤ d) (h8 : d ≤ 15) (q : Bool) (e5 : (bits .and .i64 d 1 == 0) = q) :
    Calls Try.prog 34 #[.agg #[.int .i64 b, .int .i64 n, .int .i64 d, .int .i64 t]] w fun e w' => e = .returned (.bool q) ∧ Below w.heap.size w w' := by
  have e1 : decide (t < n) = false := by simp; omega
  have e2 : decide (4 < n - b) = false := by rw [h6.out]; rfl
  have e3 : IntKind.i64.wrap (n - b) = 4 := by rw [h6.out]; rfl
  have e4 : n - b ≤ 4 := by rw [h6.out]; omega
  go_enter Try.func34, Try.ntmps34
  go_wp2_with (first | (go_at_call 67; refine (inR_yes _ _ _ _ (by omega) (by omega)).mono ?_; rintro e w' ⟨rfl, rfl⟩) | (go_at_call 67; refine (inR_no _ _ _ _ (by omega)).mono ?_; rintro e w' ⟨rfl, rfl⟩))
  go_quiet (first | (go_at_call 67; exact quietL (inR_yes _ _ _ _ (by omega) (by omega))) | (go_at_call 67; exact quietL (inR_no _ _ _ _ (by omega))))
  go_wp2
  go_ret
  exact ⟨rfl, by first | exact (Below.refl _ _).alloc (Nat.le_refl _) _ | exact belowN ((Below.refl _ _).alloc (Nat.le_refl _) _) _⟩
set_option maxHeartbeats 400000 in
theorem winS_t (b n d t : Int) (w : World) (h : t < 0 ∨ 60 < t) :
    Calls Try.prog 32 #[.agg #[.int .i64 b, .int .i64 n, .int .i64 d, .int .i64 t]] w fun e w' => e = .returned (.bool false) ∧ Below w.heap.size w w' := by
  go_enter Try.func32, Try.ntmps32
  go_wp2_with (first | (go_at_call 59; refine (l1In_yes _ _ _ _ (by omega) (by omega)).mono ?_; rintro e w' ⟨rfl, rfl⟩) | (go_at_call 59; refine (l1In_no _ _ _ _ (by omega)).mono ?_; rintro e w' ⟨rfl, rfl⟩))
  go_quiet (first | (go_at_call 59; exact quietL (l1In_yes _ _ _ _ (by omega) (by omega))) | (go_at_call 59; exact quietL (l1In_no _ _ _ _ (by omega))))
  go_wp2
  go_ret
  exact ⟨rfl, by first | exact (Below.refl _ _).alloc (Nat.le_refl _) _ | exact belowN ((Below.refl _ _).alloc (Nat.le_refl _) _) _⟩
set_option maxHeartbeats 400000 in
theorem winS_n (b n d t : Int) (w : World) (h1 : 0 ≤ t) (h2 : t ≤ 60) (h : n < 0 ∨ t < n) :
    Calls Try.prog 32 #[.agg #[.int .i64 b, .int .i64 n, .int .i64 d, .int .i64 t]] w fun e w' => e = .returned (.bool false) ∧ Below w.heap.size w w' := by
  go_enter Try.func32, Try.ntmps32
  go_wp2_with (first | (go_at_call 59; refine (l1In_yes _ _ _ _ (by omega) (by omega)).mono ?_; rintro e w' ⟨rfl, rfl⟩) | (go_at_call 59; refine (l1In_no _ _ _ _ (by omega)).mono ?_; rintro e w' ⟨rfl, rfl⟩))
  go_quiet (first | (go_at_call 59; exact quietL (l1In_yes _ _ _ _ (by omega) (by omega))) | (go_at_call 59; exact quietL (l1In_no _ _ _ _ (by omega))))
  go_wp2
  go_ret
  exact ⟨rfl, by first | exact (Below.refl _ _).alloc (Nat.le_refl _) _ | exact belowN ((Below.refl _ _).alloc (Nat.le_refl _) _) _⟩
set_option maxHeartbeats 400000 in
theorem winS_b (b n d t : Int) (w : World) (h1 : 0 ≤ t) (h2 : t ≤ 60) (h0 : 0 ≤ n) (h5 : n ≤ t) (h : b < 0 ∨ n < b) :
    Calls Try.prog 32 #[.agg #[.int .i64 b, .int .i64 n, .int .i64 d, .int .i64 t]] w fun e w' => e = .returned (.bool false) ∧ Below w.heap.size w w' := by
  go_enter Try.func32, Try.ntmps32
  go_wp2_with (first | (go_at_call 59; refine (l1In_yes _ _ _ _ (by omega) (by omega)).mono ?_; rintro e w' ⟨rfl, rfl⟩) | (go_at_call 59; refine (l1In_no _ _ _ _ (by omega)).mono ?_; rintro e w' ⟨rfl, rfl⟩))
  go_quiet (first | (go_at_call 59; exact quietL (l1In_yes _ _ _ _ (by omega) (by omega))) | (go_at_call 59; exact quietL (l1In_no _ _ _ _ (by omega))))
  go_wp2
  go_ret
  exact ⟨rfl, by first | exact (Below.refl _ _).alloc (Nat.le_refl _) _ | exact belowN ((Below.refl _ _).alloc (Nat.le_refl _) _) _⟩
set_option maxHeartbeats 400000 in
theorem winS_w (b n d t : Int) (w : World) (h1 : 0 ≤ t) (h2 : t ≤ 60) (h3 : 0 ≤ b) (h4 : b ≤ n) (h5 : n ≤ t) (h : 4 < n - b) :
    Calls Try.prog 32 #[.agg #[.int .i64 b, .int .i64 n, .int .i64 d, .int .i64 t]] w fun e w' => e = .returned (.bool false) ∧ Below w.heap.size w w' := by
  have e1 : decide (t < n) = false := by simp; omega
  have e2 : decide (4 < n - b) = true := by simp; omega
  have e4 : decide (n - b ≤ 4) = false := by simp; omega
  have e3 : IntKind.i64.wrap (n - b) = n - b := IntWalk.i64_in _ (by omega)
  go_enter Try.func32, Try.ntmps32
  go_wp2_with (first | (go_at_call 59; refine (l1In_yes _ _ _ _ (by omega) (by omega)).mono ?_; rintro e w' ⟨rfl, rfl⟩) | (go_at_call 59; refine (l1In_no _ _ _ _ (by omega)).mono ?_; rintro e w' ⟨rfl, rfl⟩))
  go_quiet (first | (go_at_call 59; exact quietL (l1In_yes _ _ _ _ (by omega) (by omega))) | (go_at_call 59; exact quietL (l1In_no _ _ _ _ (by omega))))
  go_wp2
  go_ret
  exact ⟨rfl, by first | exact (Below.refl _ _).alloc (Nat.le_refl _) _ | exact belowN ((Below.refl _ _).alloc (Nat.le_refl _) _) _⟩
set_option maxHeartbeats 400000 in
theorem winS_k0no (b n d t : Int) (w : World) (h1 : 0 ≤ t) (h2 : t ≤ 60) (h3 : 0 ≤ b) (h4 : b ≤ n) (h5 : n ≤ t) (h6 : Hid (n - b = 0)) (h : d < 0 ∨ 0 < d) :
    Calls Try.prog 32 #[.agg #[.int .i64 b, .int .i64 n, .int .i64 d, .int .i64 t]] w fun e w' => e = .returned (.bool false) ∧ Below w.heap.size w w' := by
  have e1 : decide (t < n) = false := by simp; omega
  have e2 : decide (4 < n - b) = false := by rw [h6.out]; rfl
  have e3 : IntKind.i64.wrap (n - b) = 0 := by rw [h6.out]; rfl
  have e4 : n - b ≤ 0 := by rw [h6.out]; omega
  have e6 : decide (n - b ≤ 4) = true := by rw [h6.out]; rfl
  go_enter Try.func32, Try.ntmps32
  go_wp2_with (first | (go_at_call 59; refine (l1In_yes _ _ _ _ (by omega) (by omega)).mono ?_; rintro e w' ⟨rfl, rfl⟩) | (go_at_call 59; refine (l1In_no _ _ _ _ (by omega)).mono ?_; rintro e w' ⟨rfl, rfl⟩))
  go_quiet (first | (go_at_call 59; exact quietL (l1In_yes _ _ _ _ (by omega) (by omega))) | (go_at_call 59; exact quietL (l1In_no _ _ _ _ (by omega))))
  go_wp2
  go_ret
  exact ⟨rfl, by first | exact (Below.refl _ _).alloc (Nat.le_refl _) _ | exact belowN ((Below.refl _ _).alloc (Nat.le_refl _) _) _⟩
set_option maxHeartbeats 400000 in
theorem winS_k0 (b n d t : Int) (w : World) (h1 : 0 ≤ t) (h2 : t ≤ 60) (h3 : 0 ≤ b) (h4 : b ≤ n) (h5 : n ≤ t) (h6 : Hid (n - b = 0)) (h7 : 0 ≤ d) (h8 : d ≤ 0) (q : Bool) (e5 : (bits .and .i64 d 1 == 0) = q) :
    Calls Try.prog 32 #[.agg #[.int .i64 b, .int .i64 n, .int .i64 d, .int .i64 t]] w fun e w' => e = .returned (.bool q) ∧ Below w.heap.size w w' := by
  have e1 : decide (t < n) = false := by simp; omega
  have e2 : decide (4 < n - b) = false := by rw [h6.out]; rfl
  have e3 : IntKind.i64.wrap (n - b) = 0 := by rw [h6.out]; rfl
  have e4 : n - b ≤ 0 := by rw [h6.out]; omega
  have e6 : decide (n - b ≤ 4) = true := by rw [h6.out]; rfl
  go_enter Try.func32, Try.ntmps32
  go_wp2_with (first | (go_at_call 59; refine (l1In_yes _ _ _ _ (by omega) (by omega)).mono ?_; rintro e w' ⟨rfl, rfl⟩) | (go_at_call 59; refine (l1In_no _ _ _ _ (by omega)).mono ?_; rintro e w' ⟨rfl, rfl⟩))
  go_quiet (first | (go_at_call 59; exact quietL (l1In_yes _ _ _ _ (by omega) (by omega))) | (go_at_call 59; exact quietL (l1In_no _ _ _ _ (by omega))))
  go_wp2
  go_ret
  exact ⟨rfl, by first | exact (Below.refl _ _).alloc (Nat.le_refl _) _ | exact belowN ((Below.refl _ _).alloc (Nat.le_refl _) _) _⟩
set_option maxHeartbeats 400000 in
theorem winS_k1no (b n d t : Int) (w : World) (h1 : 0 ≤ t) (h2 : t ≤ 60) (h3 : 0 ≤ b) (h4 : b ≤ n) (h5 : n ≤ t) (h6 : Hid (n - b = 1)) (h : d < 0 ∨ 1 < d) :
    Calls Try.prog 32 #[.agg #[.int .i64 b, .int .i64 n, .int .i64 d, .int .i64 t]] w fun e w' => e = .returned (.bool false) ∧ Below w.heap.size w w' := by
  have e1 : decide (t < n) = false := by simp; omega
  have e2 : decide (4 < n - b) = false := by rw [h6.out]; rfl
  have e3 : IntKind.i64.wrap (n - b) = 1 := by rw [h6.out]; rfl
  have e4 : n - b ≤ 1 := by rw [h6.out]; omega
  have e6 : decide (n - b ≤ 4) = true := by rw [h6.out]; rfl
  go_enter Try.func32, Try.ntmps32
  go_wp2_with (first | (go_at_call 59; refine (l1In_yes _ _ _ _ (by omega) (by omega)).mono ?_; rintro e w' ⟨rfl, rfl⟩) | (go_at_call 59; refine (l1In_no _ _ _ _ (by omega)).mono ?_; rintro e w' ⟨rfl, rfl⟩))
  go_quiet (first | (go_at_call 59; exact quietL (l1In_yes _ _ _ _ (by omega) (by omega))) | (go_at_call 59; exact quietL (l1In_no _ _ _ _ (by omega))))
  go_wp2
  go_ret
  exact ⟨rfl, by first | exact (Below.refl _ _).alloc (Nat.le_refl _) _ | exact belowN ((Below.refl _ _).alloc (Nat.le_refl _) _) _⟩
set_option maxHeartbeats 400000 in
theorem winS_k1 (b n d t : Int) (w : World) (h1 : 0 ≤ t) (h2 : t ≤ 60) (h3 : 0 ≤ b) (h4 : b ≤ n) (h5 : n ≤ t) (h6 : Hid (n - b = 1)) (h7 : 0 ≤ d) (h8 : d ≤ 1) (q : Bool) (e5 : (bits .and .i64 d 1 == 0) = q) :
    Calls Try.prog 32 #[.agg #[.int .i64 b, .int .i64 n, .int .i64 d, .int .i64 t]] w fun e w' => e = .returned (.bool q) ∧ Below w.heap.size w w' := by
  have e1 : decide (t < n) = false := by simp; omega
  have e2 : decide (4 < n - b) = false := by rw [h6.out]; rfl
  have e3 : IntKind.i64.wrap (n - b) = 1 := by rw [h6.out]; rfl
  have e4 : n - b ≤ 1 := by rw [h6.out]; omega
  have e6 : decide (n - b ≤ 4) = true := by rw [h6.out]; rfl
  go_enter Try.func32, Try.ntmps32
  go_wp2_with (first | (go_at_call 59; refine (l1In_yes _ _ _ _ (by omega) (by omega)).mono ?_; rintro e w' ⟨rfl, rfl⟩) | (go_at_call 59; refine (l1In_no _ _ _ _ (by omega)).mono ?_; rintro e w' ⟨rfl, rfl⟩))
  go_quiet (first | (go_at_call 59; exact quietL (l1In_yes _ _ _ _ (by omega) (by omega))) | (go_at_call 59; exact quietL (l1In_no _ _ _ _ (by omega))))
  go_wp2
  go_ret
  exact ⟨rfl, by first | exact (Below.refl _ _).alloc (Nat.le_refl _) _ | exact belowN ((Below.refl _ _).alloc (Nat.le_refl _) _) _⟩
set_option maxHeartbeats 400000 in
theorem winS_k2no (b n d t : Int) (w : World) (h1 : 0 ≤ t) (h2 : t ≤ 60) (h3 : 0 ≤ b) (h4 : b ≤ n) (h5 : n ≤ t) (h6 : Hid (n - b = 2)) (h : d < 0 ∨ 3 < d) :
    Calls Try.prog 32 #[.agg #[.int .i64 b, .int .i64 n, .int .i64 d, .int .i64 t]] w fun e w' => e = .returned (.bool false) ∧ Below w.heap.size w w' := by
  have e1 : decide (t < n) = false := by simp; omega
  have e2 : decide (4 < n - b) = false := by rw [h6.out]; rfl
  have e3 : IntKind.i64.wrap (n - b) = 2 := by rw [h6.out]; rfl
  have e4 : n - b ≤ 2 := by rw [h6.out]; omega
  have e6 : decide (n - b ≤ 4) = true := by rw [h6.out]; rfl
  go_enter Try.func32, Try.ntmps32
  go_wp2_with (first | (go_at_call 59; refine (l1In_yes _ _ _ _ (by omega) (by omega)).mono ?_; rintro e w' ⟨rfl, rfl⟩) | (go_at_call 59; refine (l1In_no _ _ _ _ (by omega)).mono ?_; rintro e w' ⟨rfl, rfl⟩))
  go_quiet (first | (go_at_call 59; exact quietL (l1In_yes _ _ _ _ (by omega) (by omega))) | (go_at_call 59; exact quietL (l1In_no _ _ _ _ (by omega))))
  go_wp2
  go_ret
  exact ⟨rfl, by first | exact (Below.refl _ _).alloc (Nat.le_refl _) _ | exact belowN ((Below.refl _ _).alloc (Nat.le_refl _) _) _⟩
set_option maxHeartbeats 400000 in
theorem winS_k2 (b n d t : Int) (w : World) (h1 : 0 ≤ t) (h2 : t ≤ 60) (h3 : 0 ≤ b) (h4 : b ≤ n) (h5 : n ≤ t) (h6 : Hid (n - b = 2)) (h7 : 0 ≤ d) (h8 : d ≤ 3) (q : Bool) (e5 : (bits .and .i64 d 1 == 0) = q) :
    Calls Try.prog 32 #[.agg #[.int .i64 b, .int .i64 n, .int .i64 d, .int .i64 t]] w fun e w' => e = .returned (.bool q) ∧ Below w.heap.size w w' := by
  have e1 : decide (t < n) = false := by simp; omega
  have e2 : decide (4 < n - b) = false := by rw [h6.out]; rfl
  have e3 : IntKind.i64.wrap (n - b) = 2 := by rw [h6.out]; rfl
  have e4 : n - b ≤ 2 := by rw [h6.out]; omega
  have e6 : decide (n - b ≤ 4) = true := by rw [h6.out]; rfl
  go_enter Try.func32, Try.ntmps32
  go_wp2_with (first | (go_at_call 59; refine (l1In_yes _ _ _ _ (by omega) (by omega)).mono ?_; rintro e w' ⟨rfl, rfl⟩) | (go_at_call 59; refine (l1In_no _ _ _ _ (by omega)).mono ?_; rintro e w' ⟨rfl, rfl⟩))
  go_quiet (first | (go_at_call 59; exact quietL (l1In_yes _ _ _ _ (by omega) (by omega))) | (go_at_call 59; exact quietL (l1In_no _ _ _ _ (by omega))))
  go_wp2
  go_ret
  exact ⟨rfl, by first | exact (Below.refl _ _).alloc (Nat.le_refl _) _ | exact belowN ((Below.refl _ _).alloc (Nat.le_refl _) _) _⟩
set_option maxHeartbeats 400000 in
theorem winS_k3no (b n d t : Int) (w : World) (h1 : 0 ≤ t) (h2 : t ≤ 60) (h3 : 0 ≤ b) (h4 : b ≤ n) (h5 : n ≤ t) (h6 : Hid (n - b = 3)) (h : d < 0 ∨ 7 < d) :
    Calls Try.prog 32 #[.agg #[.int .i64 b, .int .i64 n, .int .i64 d, .int .i64 t]] w fun e w' => e = .returned (.bool false) ∧ Below w.heap.size w w' := by
  have e1 : decide (t < n) = false := by simp; omega
  have e2 : decide (4 < n - b) = false := by rw [h6.out]; rfl
  have e3 : IntKind.i64.wrap (n - b) = 3 := by rw [h6.out]; rfl
  have e4 : n - b ≤ 3 := by rw [h6.out]; omega
  have e6 : decide (n - b ≤ 4) = true := by rw [h6.out]; rfl
  go_enter Try.func32, Try.ntmps32
  go_wp2_with (first | (go_at_call 59; refine (l1In_yes _ _ _ _ (by omega) (by omega)).mono ?_; rintro e w' ⟨rfl, rfl⟩) | (go_at_call 59; refine (l1In_no _ _ _ _ (by omega)).mono ?_; rintro e w' ⟨rfl, rfl⟩))
  go_quiet (first | (go_at_call 59; exact quietL (l1In_yes _ _ _ _ (by omega) (by omega))) | (go_at_call 59; exact quietL (l1In_no _ _ _ _ (by omega))))
  go_wp2
  go_ret
  exact ⟨rfl, by first | exact (Below.refl _ _).alloc (Nat.le_refl _) _ | exact belowN ((Below.refl _ _).alloc (Nat.le_refl _) _) _⟩
set_option maxHeartbeats 400000 in
theorem winS_k3 (b n d t : Int) (w : World) (h1 : 0 ≤ t) (h2 : t ≤ 60) (h3 : 0 ≤ b) (h4 : b ≤ n) (h5 : n ≤ t) (h6 : Hid (n - b = 3)) (h7 : 0 ≤ d) (h8 : d ≤ 7) (q : Bool) (e5 : (bits .and .i64 d 1 == 0) = q) :
    Calls Try.prog 32 #[.agg #[.int .i64 b, .int .i64 n, .int .i64 d, .int .i64 t]] w fun e w' => e = .returned (.bool q) ∧ Below w.heap.size w w' := by
  have e1 : decide (t < n) = false := by simp; omega
  have e2 : decide (4 < n - b) = false := by rw [h6.out]; rfl
  have e3 : IntKind.i64.wrap (n - b) = 3 := by rw [h6.out]; rfl
  have e4 : n - b ≤ 3 := by rw [h6.out]; omega
  have e6 : decide (n - b ≤ 4) = true := by rw [h6.out]; rfl
  go_enter Try.func32, Try.ntmps32
  go_wp2_with (first | (go_at_call 59; refine (l1In_yes _ _ _ _ (by omega) (by omega)).mono ?_; rintro e w' ⟨rfl, rfl⟩) | (go_at_call 59; refine (l1In_no _ _ _ _ (by omega)).mono ?_; rintro e w' ⟨rfl, rfl⟩))
  go_quiet (first | (go_at_call 59; exact quietL (l1In_yes _ _ _ _ (by omega) (by omega))) | (go_at_call 59; exact quietL (l1In_no _ _ _ _ (by omega))))
  go_wp2
  go_ret
  exact ⟨rfl, by first | exact (Below.refl _ _).alloc (Nat.le_refl _) _ | exact belowN ((Below.refl _ _).alloc (Nat.le_refl _) _) _⟩
set_option maxHeartbeats 400000 in
theorem winS_k4no (b n d t : Int) (w : World) (h1 : 0 ≤ t) (h2 : t ≤ 60) (h3 : 0 ≤ b) (h4 : b ≤ n) (h5 : n ≤ t) (h6 : Hid (n - b = 4)) (h : d < 0 ∨ 15 < d) :
    Calls Try.prog 32 #[.agg #[.int .i64 b, .int .i64 n, .int .i64 d, .int .i64 t]] w fun e w' => e = .returned (.bool false) ∧ Below w.heap.size w w' := by
  have e1 : decide (t < n) = false := by simp; omega
  have e2 : decide (4 < n - b) = false := by rw [h6.out]; rfl
  have e3 : IntKind.i64.wrap (n - b) = 4 := by rw [h6.out]; rfl
  have e4 : n - b ≤ 4 := by rw [h6.out]; omega
  have e6 : decide (n - b ≤ 4) = true := by rw [h6.out]; rfl
  go_enter Try.func32, Try.ntmps32
  go_wp2_with (first | (go_at_call 59; refine (l1In_yes _ _ _ _ (by omega) (by omega)).mono ?_; rintro e w' ⟨rfl, rfl⟩) | (go_at_call 59; refine (l1In_no _ _ _ _ (by omega)).mono ?_; rintro e w' ⟨rfl, rfl⟩))
  go_quiet (first | (go_at_call 59; exact quietL (l1In_yes _ _ _ _ (by omega) (by omega))) | (go_at_call 59; exact quietL (l1In_no _ _ _ _ (by omega))))
  go_wp2
  go_ret
  exact ⟨rfl, by first | exact (Below.refl _ _).alloc (Nat.le_refl _) _ | exact belowN ((Below.refl _ _).alloc (Nat.le_refl _) _) _⟩
set_option maxHeartbeats 400000 in
theorem winS_k4 (b n d t : Int) (w : World) (h1 : 0 ≤ t) (h2 : t ≤ 60) (h3 : 0 ≤ b) (h4 : b ≤ n) (h5 : n ≤ t) (h6 : Hid (n - b = 4)) (h7 : 0 ≤ d) (h8 : d ≤ 15) (q : Bool) (e5 : (bits .and .i64 d 1 == 0) = q) :
    Calls Try.prog 32 #[.agg #[.int .i64 b, .int .i64 n, .int .i64 d, .int .i64 t]] w fun e w' => e = .returned (.bool q) ∧ Below w.heap.size w w' := by
  have e1 : decide (t < n) = false := by simp; omega
  have e2 : decide (4 < n - b) = false := by rw [h6.out]; rfl
  have e3 : IntKind.i64.wrap (n - b) = 4 := by rw [h6.out]; rfl
  have e4 : n - b ≤ 4 := by rw [h6.out]; omega
  have e6 : decide (n - b ≤ 4) = true := by rw [h6.out]; rfl
  go_enter Try.func32, Try.ntmps32
  go_wp2_with (first | (go_at_call 59; refine (l1In_yes _ _ _ _ (by omega) (by omega)).mono ?_; rintro e w' ⟨rfl, rfl⟩) | (go_at_call 59; refine (l1In_no _ _ _ _ (by omega)).mono ?_; rintro e w' ⟨rfl, rfl⟩))
  go_quiet (first | (go_at_call 59; exact quietL (l1In_yes _ _ _ _ (by omega) (by omega))) | (go_at_call 59; exact quietL (l1In_no _ _ _ _ (by omega))))
  go_wp2
  go_ret
  exact ⟨rfl, by first | exact (Below.refl _ _).alloc (Nat.le_refl _) _ | exact belowN ((Below.refl _ _).alloc (Nat.le_refl _) _) _⟩
theorem winI_any (b n d t : Int) (w : World) : Calls Try.prog 34 #[win b n d t] w fun e w' => e = .returned (.bool (winB b n d t)) ∧ Bel w w' := by
  by_cases ht : t < 0 ∨ 60 < t
  · rw [winB_no (by omega)]; exact winI_t b n d t w ht
  by_cases hb : b < 0 ∨ n < b
  · rw [winB_no (by omega)]; exact winI_b b n d t w (by omega) (by omega) hb
  by_cases hn : t < n
  · rw [winB_no (by omega)]; exact winI_n b n d t w (by omega) (by omega) (by omega) (by omega) hn
  by_cases hw : 4 < n - b
  · rw [winB_no (by omega)]; exact winI_w b n d t w (by omega) (by omega) (by omega) (by omega) (by omega) hw
  have hk : n - b = 0 ∨ n - b = 1 ∨ n - b = 2 ∨ n - b = 3 ∨ n - b = 4 := by omega
  rcases hk with hk | hk | hk | hk | hk
  · by_cases hd : d < 0 ∨ 0 < d
    · rw [winB_no (by rw [hk, show ((0 : Int).toNat) = 0 from rfl]; omega)]; exact winI_k0no b n d t w (by omega) (by omega) (by omega) (by omega) (by omega) (Lib.hid hk) hd
    · rw [winB_in (by rw [hk, show ((0 : Int).toNat) = 0 from rfl]; omega)]; exact winI_k0 b n d t w (by omega) (by omega) (by omega) (by omega) (by omega) (Lib.hid hk) (by omega) (by omega) _ rfl
  · by_cases hd : d < 0 ∨ 1 < d
    · rw [winB_no (by rw [hk, show ((1 : Int).toNat) = 1 from rfl]; omega)]; exact winI_k1no b n d t w (by omega) (by omega) (by omega) (by omega) (by omega) (Lib.hid hk) hd
    · rw [winB_in (by rw [hk, show ((1 : Int).toNat) = 1 from rfl]; omega)]; exact winI_k1 b n d t w (by omega) (by omega) (by omega) (by omega) (by omega) (Lib.hid hk) (by omega) (by omega) _ rfl
  · by_cases hd : d < 0 ∨ 3 < d
    · rw [winB_no (by rw [hk, show ((2 : Int).toNat) = 2 from rfl]; omega)]; exact winI_k2no b n d t w (by omega) (by omega) (by omega) (by omega) (by omega) (Lib.hid hk) hd
    · rw [winB_in (by rw [hk, show ((2 : Int).toNat) = 2 from rfl]; omega)]; exact winI_k2 b n d t w (by omega) (by omega) (by omega) (by omega) (by omega) (Lib.hid hk) (by omega) (by omega) _ rfl
  · by_cases hd : d < 0 ∨ 7 < d
    · rw [winB_no (by rw [hk, show ((3 : Int).toNat) = 3 from rfl]; omega)]; exact winI_k3no b n d t w (by omega) (by omega) (by omega) (by omega) (by omega) (Lib.hid hk) hd
    · rw [winB_in (by rw [hk, show ((3 : Int).toNat) = 3 from rfl]; omega)]; exact winI_k3 b n d t w (by omega) (by omega) (by omega) (by omega) (by omega) (Lib.hid hk) (by omega) (by omega) _ rfl
  · by_cases hd : d < 0 ∨ 15 < d
    · rw [winB_no (by rw [hk, show ((4 : Int).toNat) = 4 from rfl]; omega)]; exact winI_k4no b n d t w (by omega) (by omega) (by omega) (by omega) (by omega) (Lib.hid hk) hd
    · rw [winB_in (by rw [hk, show ((4 : Int).toNat) = 4 from rfl]; omega)]; exact winI_k4 b n d t w (by omega) (by omega) (by omega) (by omega) (by omega) (Lib.hid hk) (by omega) (by omega) _ rfl
theorem winS_any (b n d t : Int) (w : World) : Calls Try.prog 32 #[win b n d t] w fun e w' => e = .returned (.bool (winB b n d t)) ∧ Bel w w' := by
  by_cases ht : t < 0 ∨ 60 < t
  · rw [winB_no (by omega)]; exact winS_t b n d t w ht
  by_cases hn : n < 0 ∨ t < n
  · rw [winB_no (by omega)]; exact winS_n b n d t w (by omega) (by omega) hn
  by_cases hb : b < 0 ∨ n < b
  · rw [winB_no (by omega)]; exact winS_b b n d t w (by omega) (by omega) (by omega) (by omega) hb
  by_cases hw : 4 < n - b
  · rw [winB_no (by omega)]; exact winS_w b n d t w (by omega) (by omega) (by omega) (by omega) (by omega) hw
  have hk : n - b = 0 ∨ n - b = 1 ∨ n - b = 2 ∨ n - b = 3 ∨ n - b = 4 := by omega
  rcases hk with hk | hk | hk | hk | hk
  · by_cases hd : d < 0 ∨ 0 < d
    · rw [winB_no (by rw [hk, show ((0 : Int).toNat) = 0 from rfl]; omega)]; exact winS_k0no b n d t w (by omega) (by omega) (by omega) (by omega) (by omega) (Lib.hid hk) hd
    · rw [winB_in (by rw [hk, show ((0 : Int).toNat) = 0 from rfl]; omega)]; exact winS_k0 b n d t w (by omega) (by omega) (by omega) (by omega) (by omega) (Lib.hid hk) (by omega) (by omega) _ rfl
  · by_cases hd : d < 0 ∨ 1 < d
    · rw [winB_no (by rw [hk, show ((1 : Int).toNat) = 1 from rfl]; omega)]; exact winS_k1no b n d t w (by omega) (by omega) (by omega) (by omega) (by omega) (Lib.hid hk) hd
    · rw [winB_in (by rw [hk, show ((1 : Int).toNat) = 1 from rfl]; omega)]; exact winS_k1 b n d t w (by omega) (by omega) (by omega) (by omega) (by omega) (Lib.hid hk) (by omega) (by omega) _ rfl
  · by_cases hd : d < 0 ∨ 3 < d
    · rw [winB_no (by rw [hk, show ((2 : Int).toNat) = 2 from rfl]; omega)]; exact winS_k2no b n d t w (by omega) (by omega) (by omega) (by omega) (by omega) (Lib.hid hk) hd
    · rw [winB_in (by rw [hk, show ((2 : Int).toNat) = 2 from rfl]; omega)]; exact winS_k2 b n d t w (by omega) (by omega) (by omega) (by omega) (by omega) (Lib.hid hk) (by omega) (by omega) _ rfl
  · by_cases hd : d < 0 ∨ 7 < d
    · rw [winB_no (by rw [hk, show ((3 : Int).toNat) = 3 from rfl]; omega)]; exact winS_k3no b n d t w (by omega) (by omega) (by omega) (by omega) (by omega) (Lib.hid hk) hd
    · rw [winB_in (by rw [hk, show ((3 : Int).toNat) = 3 from rfl]; omega)]; exact winS_k3 b n d t w (by omega) (by omega) (by omega) (by omega) (by omega) (Lib.hid hk) (by omega) (by omega) _ rfl
  · by_cases hd : d < 0 ∨ 15 < d
    · rw [winB_no (by rw [hk, show ((4 : Int).toNat) = 4 from rfl]; omega)]; exact winS_k4no b n d t w (by omega) (by omega) (by omega) (by omega) (by omega) (Lib.hid hk) hd
    · rw [winB_in (by rw [hk, show ((4 : Int).toNat) = 4 from rfl]; omega)]; exact winS_k4 b n d t w (by omega) (by omega) (by omega) (by omega) (by omega) (Lib.hid hk) (by omega) (by omega) _ rfl
end Go.Proofs.Ytchodlfkoafeaaa
