/-
  The program's ShouldReport: a contract for small numbers; the plain law of reports in an interval; a valid decoder's report is valid.
-/
import Derived.Test.YtjaagabbbnokdaaTB
import Derived.Test.YtjaagabbbnokdaaTA
namespace Go.Proofs.Ytjaagabbbnokdaa
open Go.ChangeShapes Go.WideShapes Go.ChangeAt Go.RowKit
set_option linter.unusedVariables false
set_option maxRecDepth 100000

set_option maxHeartbeats 1000000 in
theorem shrI (s g t : Int) (q : Bool) (w : World) (hs : 0 ≤ s ∧ s ≤ 1000) (hg : 0 ≤ g ∧ g ≤ 1000) (ht : 0 ≤ t ∧ t ≤ 1000) :
    Calls Try.prog 40 #[.int .i64 s, .int .i64 g, .int .i64 t, .bool q] w fun e w' => e = .returned (.bool (q && ((t + s + g) % 3 == 0))) ∧ w = w' := by
  have n1 : ¬ s < 0 := by omega
  have n2 : ¬ g < 0 := by omega
  have n3 : ¬ t < 0 := by omega
  have hb := Int.emod_nonneg (t + s + g) (show (3 : Int) ≠ 0 by decide)
  go_enter Try.func40, Try.ntmps40
  cases q
  · go_wp2
    go_ret
    exact ⟨rfl, rfl⟩
  · go_wp2
    go_ret
    exact ⟨rfl, rfl⟩

/-- How many of the first k times are times of a report. -/
def cntR (b : Int) : Nat → Int
  | 0 => 0
  | k + 1 => if ((b + (k : Int)) % 3 == 0) = true then cntR b k + 1 else cntR b k
theorem cntR_bd (b : Int) : ∀ k, 0 ≤ cntR b k ∧ cntR b k ≤ k
  | 0 => by simp [cntR]
  | k + 1 => by
    have := cntR_bd b k
    unfold cntR
    split <;> omega
theorem cntR_three (b : Int) : cntR b 3 = 1 := by
  simp only [cntR, beq_iff_eq]
  split <;> split <;> split <;> omega

theorem mf_ok {s a b c : Int} {n : Nat} {m : List (List Int)} (hs : 0 ≤ s ∧ s ≤ 7) (h : decB a b c (n : Int) m = true) : fbB s a (missZ a b c (n : Int) m) = true ∧ mfB s a b c (n : Int) m = true := by
  obtain ⟨f1, f2, f3, f4⟩ := decB_facts h
  obtain ⟨g1, g2, g3⟩ := fmtB_facts f1
  obtain ⟨c', hc, c40, m40, hR⟩ := basB_facts f2
  have hml : (m.length : Int) ≤ b := by
    rcases Nat.eq_zero_or_pos m.length with h0 | h0
    · omega
    · have h1 := hR.at_le (m.length - 1) (by omega)
      have h2 := List.all_eq_true.1 f4 (rw_ m (m.length - 1)) (rw_mem (by omega))
      unfold ldB at h2
      rw [leadV_row hR (show m.length - 1 < m.length by omega)] at h2
      simp only [Bool.not_eq_true', decide_eq_false_iff_not] at h2
      omega
  have e : missZ a b c (n : Int) m = b - (m.length : Int) := by unfold missZ; rw [if_pos h]
  have e1 : fbB s a (missZ a b c (n : Int) m) = true := by rw [e]; exact fbB_yes (by omega)
  exact ⟨e1, by unfold mfB; rw [h, e1]; rfl⟩
end Go.Proofs.Ytjaagabbbnokdaa
