/-
  Formats and manifests: contracts of isFormat, l14Range, ContainsFunc over hashes, IsValidManifest, of the program and of the reference. No condition.
-/
import Derived.Test.YtjaagabbbnokdaaVec
namespace Go.Proofs.Ytjaagabbbnokdaa
open Go.ChangeShapes Go.WideShapes Go.ChangeAt Go.RowKit
set_option linter.unusedVariables false
set_option maxRecDepth 100000

def inB (n lo hi : Int) : Bool := decide (lo ≤ n ∧ n ≤ hi)
theorem inB_facts {n lo hi : Int} (h : inB n lo hi = true) : lo ≤ n ∧ n ≤ hi := of_decide_eq_true h
theorem inRB (n lo hi : Int) (w : World) : Calls Try.prog 52 #[.int .i64 n, .int .i64 lo, .int .i64 hi] w fun e w' => e = .returned (.bool (inB n lo hi)) ∧ w = w' := by
  by_cases h : lo ≤ n ∧ n ≤ hi
  · rw [show inB n lo hi = true from decide_eq_true h]; exact inR_yes n lo hi w h.1 h.2
  · rw [show inB n lo hi = false from decide_eq_false h]; exact inR_no n lo hi w (by omega)
theorem l1InB (n lo hi : Int) (w : World) : Calls Try.prog 47 #[.int .i64 n, .int .i64 lo, .int .i64 hi] w fun e w' => e = .returned (.bool (inB n lo hi)) ∧ w = w' := by
  by_cases h : lo ≤ n ∧ n ≤ hi
  · rw [show inB n lo hi = true from decide_eq_true h]; exact l1In_yes n lo hi w h.1 h.2
  · rw [show inB n lo hi = false from decide_eq_false h]; exact l1In_no n lo hi w (by omega)
def fmtB (g s d : Int) : Bool := inB g 0 1000000000000 && inB s 1 8 && inB d 1 16
theorem fmtB_facts {g s d : Int} (h : fmtB g s d = true) : (0 ≤ g ∧ g ≤ 1000000000000) ∧ (1 ≤ s ∧ s ≤ 8) ∧ (1 ≤ d ∧ d ≤ 16) := by
  unfold fmtB at h
  rw [Bool.and_eq_true, Bool.and_eq_true] at h
  exact ⟨inB_facts h.1.1, inB_facts h.1.2, inB_facts h.2⟩
set_option maxHeartbeats 400000 in
theorem fmtI (g s d : Int) (w : World) : Calls Try.prog 51 #[.int .i64 g, .int .i64 s, .int .i64 d] w fun e w' => e = .returned (.bool (fmtB g s d)) ∧ w = w' := by
  have HF : Hid (fmtB g s d = (inB g 0 1000000000000 && inB s 1 8 && inB d 1 16)) := rfl
  go_enter Try.func51, Try.ntmps51
  go_wp2_with fail
  refine (inRB _ _ _ _).mono ?_
  rintro e w1 ⟨rfl, rfl⟩
  cases h1 : inB g 0 1000000000000
  · go_wp2
    go_ret
    exact ⟨by rw [HF.out, h1]; rfl, rfl⟩
  go_wp2_with fail
  refine (inRB _ _ _ _).mono ?_
  rintro e w1 ⟨rfl, rfl⟩
  cases h2 : inB s 1 8
  · go_wp2
    go_ret
    exact ⟨by rw [HF.out, h1, h2]; rfl, rfl⟩
  go_wp2_with fail
  refine (inRB _ _ _ _).mono ?_
  rintro e w1 ⟨rfl, rfl⟩
  go_wp2
  go_ret
  exact ⟨by rw [HF.out, h1, h2]; rfl, rfl⟩
set_option maxHeartbeats 400000 in
theorem fmtS (g s d : Int) (w : World) : Calls Try.prog 46 #[.int .i64 g, .int .i64 s, .int .i64 d] w fun e w' => e = .returned (.bool (fmtB g s d)) ∧ w = w' := by
  have HF : Hid (fmtB g s d = (inB g 0 1000000000000 && inB s 1 8 && inB d 1 16)) := rfl
  go_enter Try.func46, Try.ntmps46
  go_wp2_with fail
  refine (l1InB _ _ _ _).mono ?_
  rintro e w1 ⟨rfl, rfl⟩
  cases h1 : inB g 0 1000000000000
  · go_wp2
    go_ret
    exact ⟨by rw [HF.out, h1]; rfl, rfl⟩
  go_wp2_with fail
  refine (l1InB _ _ _ _).mono ?_
  rintro e w1 ⟨rfl, rfl⟩
  cases h2 : inB s 1 8
  · go_wp2
    go_ret
    exact ⟨by rw [HF.out, h1, h2]; rfl, rfl⟩
  go_wp2_with fail
  refine (l1InB _ _ _ _).mono ?_
  rintro e w1 ⟨rfl, rfl⟩
  go_wp2
  go_ret
  exact ⟨by rw [HF.out, h1, h2]; rfl, rfl⟩

def maniB (a b c d m : Int) (xs : List Int) : Bool := inB a 0 7 && fmtB b c d && ((xs.length : Int) == c) && inB m 0 2147483646 && xs.all grB
end Go.Proofs.Ytjaagabbbnokdaa
