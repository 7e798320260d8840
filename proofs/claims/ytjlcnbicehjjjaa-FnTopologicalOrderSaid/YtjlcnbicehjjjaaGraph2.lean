/-
  Graphs: contracts of hasNode, l21Less and IsValidGraph, of the program and of the reference. No condition.
-/
import Derived.Test.YtjlcnbicehjjjaaCmp
import Derived.Test.YtjlcnbicehjjjaaBq
namespace Go.Proofs.Ytjlcnbicehjjjaa
open Go.ChangeShapes Go.WideShapes Go.ChangeAt Go.RowKit
set_option linter.unusedVariables false
set_option maxRecDepth 100000

def inE (n lo hi : Int) : Bool := decide (lo ≤ n ∧ n ≤ hi)
theorem inRE (n lo hi : Int) (q : Bool) (w : World) (h : inE n lo hi = q) : Calls Try.prog 53 #[.int .i64 n, .int .i64 lo, .int .i64 hi] w fun e w' => e = .returned (.bool q) ∧ w = w' := by
  subst h
  by_cases h : lo ≤ n ∧ n ≤ hi
  · rw [show inE n lo hi = true from decide_eq_true h]; exact inR_yes n lo hi w h.1 h.2
  · rw [show inE n lo hi = false from decide_eq_false h]; exact inR_no n lo hi w (by omega)
theorem l1InE (n lo hi : Int) (q : Bool) (w : World) (h : inE n lo hi = q) : Calls Try.prog 50 #[.int .i64 n, .int .i64 lo, .int .i64 hi] w fun e w' => e = .returned (.bool q) ∧ w = w' := by
  subst h
  by_cases h : lo ≤ n ∧ n ≤ hi
  · rw [show inE n lo hi = true from decide_eq_true h]; exact l1In_yes n lo hi w h.1 h.2
  · rw [show inE n lo hi = false from decide_eq_false h]; exact l1In_no n lo hi w (by omega)
/-- Is the edge number k in order, in a graph whose last node is hi? -/
def edP (hi : Int) (fs : List Tr) (k : Nat) : Bool := match fs[k]? with
  | none => false
  | some f => inE f.1 0 hi && inE f.2.1 0 hi && !(f.1 == f.2.1) && inE f.2.2 1 8 && (match k with
    | 0 => true
    | j + 1 => match fs[j]? with
      | none => false
      | some g => lessEd g f)
def graphB (s : Int) (fs : List Tr) : Bool := inE s 1 8 && decide (fs.length ≤ 20) && (List.range fs.length).all (edP (s - 1) fs)
theorem compEd_lit (x0 y0 z0 x y z : Int) (w : World) : Calls Try.prog 112 #[.agg #[.int .i64 x0, .int .i64 y0, .int .i64 z0], .agg #[.int .i64 x, .int .i64 y, .int .i64 z]] w fun e w' => e = .returned (.int .i64 (compEd (x0, y0, z0) (x, y, z))) ∧ Bel w w' := compEdI (x0, y0, z0) (x, y, z) w
set_option maxHeartbeats 400000 in
theorem hasNodeI (s n : Int) (v : Value) (q : Bool) (w : World) (h : inE n 0 (s - 1) = q) (h1 : 1 ≤ s) (h2 : s ≤ 8) : Calls Try.prog 111 #[.agg #[.int .i64 s, v], .int .i64 n] w fun e w' => e = .returned (.bool q) ∧ Bel w w' := by
  have HH := Lib.hid h
  clear h
  go_enter Try.func111, Try.ntmps111
  go_wp2_with fail
  refine (inRE n 0 (s - 1) q _ HH.out).mono ?_
  rintro e w1 ⟨rfl, rfl⟩
  go_wp2
  go_ret
  exact ⟨rfl, (Bel.refl _).alloc _⟩
set_option maxHeartbeats 400000 in
theorem lessEdS (x1 y1 z1 x2 y2 z2 : Int) (q : Bool) (w : World) (h : lessEd (x1, y1, z1) (x2, y2, z2) = q) : Calls Try.prog 107 #[.agg #[.int .i64 x1, .int .i64 y1, .int .i64 z1], .agg #[.int .i64 x2, .int .i64 y2, .int .i64 z2]] w fun e w' => e = .returned (.bool q) ∧ Bel w w' := by
  subst h
  have HL : Hid (lessEd (x1, y1, z1) (x2, y2, z2) = decide (x1 < x2 ∨ x1 = x2 ∧ y1 < y2)) := rfl
  by_cases h1 : x1 < x2
  · go_enter Try.func107, Try.ntmps107
    go_wp2
    go_ret
    exact ⟨by rw [HL.out, decide_eq_true (.inl h1)]; rfl, ((Bel.refl _).alloc _).alloc _⟩
  · have h1' : decide (x1 < x2) = false := by simpa using h1
    cases h2 : (x1 == x2)
    · have h3 : ¬ (x1 < x2 ∨ x1 = x2 ∧ y1 < y2) := by
        have := beq_eq_false_iff_ne.1 h2
        omega
      have HN := Lib.hid h3
      clear h3 h1
      go_enter Try.func107, Try.ntmps107
      go_wp2
      go_ret
      exact ⟨by rw [HL.out, decide_eq_false HN.out]; rfl, ((Bel.refl _).alloc _).alloc _⟩
    · have h3 : decide (x1 < x2 ∨ x1 = x2 ∧ y1 < y2) = decide (y1 < y2) := by
        have := beq_iff_eq.1 h2
        by_cases h4 : y1 < y2 <;> simp [h4] <;> omega
      have HN := Lib.hid h3
      clear h3 h1
      go_enter Try.func107, Try.ntmps107
      go_wp2
      go_ret
      exact ⟨by rw [HL.out, HN.out]; rfl, ((Bel.refl _).alloc _).alloc _⟩
end Go.Proofs.Ytjlcnbicehjjjaa
