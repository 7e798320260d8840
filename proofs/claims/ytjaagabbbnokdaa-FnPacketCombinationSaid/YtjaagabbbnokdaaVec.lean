/-
  Valid vectors and hash keys: contracts of IsValidVector, IsValidHashKey, of the program and of the reference. No condition.
-/
import Derived.Test.YtjaagabbbnokdaaField
import Derived.Test.YtjaagabbbnokdaaSl2
namespace Go.Proofs.Ytjaagabbbnokdaa
open Go.ChangeShapes Go.WideShapes Go.ChangeAt Go.RowKit
set_option linter.unusedVariables false
set_option maxRecDepth 100000

theorem all_step {α : Type} {p : α → Bool} {xs : List α} {k : Nat} {x : α} (hx : xs[k]? = some x) (h : (xs.take k).all p = true) (hp : p x = true) : (xs.take (k + 1)).all p = true := by
  obtain ⟨hk, rfl⟩ := List.getElem?_eq_some_iff.1 hx
  rw [List.take_succ_eq_append_getElem hk, List.all_append, h]
  simp [hp]
theorem all_fail {α : Type} {p : α → Bool} {xs : List α} {k : Nat} {x : α} (hx : xs[k]? = some x) (hp : p x = false) : xs.all p = false := by
  rw [List.all_eq_false]
  exact ⟨x, List.mem_of_getElem? hx, by simp [hp]⟩
theorem all_end {α : Type} {p : α → Bool} {xs : List α} (h : (xs.take xs.length).all p = true) : xs.all p = true := by
  rwa [List.take_length] at h

/-- A valid vector. -/
def vecB (xs : List Int) : Bool := xs.all elB && decide (xs.length ≤ 40)
theorem vecB_no {xs : List Int} (h : xs.all elB = false) : vecB xs = false := by unfold vecB; rw [h]; rfl
theorem vecB_all {xs : List Int} (h : xs.all elB = true) : vecB xs = decide (xs.length ≤ 40) := by unfold vecB; rw [h]; rfl
theorem vecB_facts {xs : List Int} (h : vecB xs = true) : (∀ x ∈ xs, 0 ≤ x ∧ x ≤ 1018) ∧ xs.length ≤ 40 := by
  unfold vecB at h
  rw [Bool.and_eq_true, decide_eq_true_eq] at h
  exact ⟨fun x hx => elB_facts (List.all_eq_true.1 h.1 x hx), h.2⟩
/-- A valid hash key. -/
def genB (g : Int) : Bool := grB g && !(g == 1)
def hkB (xs : List Int) : Bool := xs.all genB && decide (1 ≤ xs.length ∧ xs.length ≤ 16)
theorem hkB_no {xs : List Int} (h : xs.all genB = false) : hkB xs = false := by unfold hkB; rw [h]; rfl
theorem hkB_len {xs : List Int} (h : xs.length < 1 ∨ 16 < xs.length) : hkB xs = false := by unfold hkB; rw [decide_eq_false (by omega), Bool.and_false]
theorem hkB_yes {xs : List Int} (h : xs.all genB = true) (h2 : 1 ≤ xs.length ∧ xs.length ≤ 16) : hkB xs = true := by unfold hkB; rw [h, decide_eq_true h2]; rfl
theorem hkB_facts {xs : List Int} (h : hkB xs = true) : (∀ g ∈ xs, grB g = true ∧ (g == 1) = false) ∧ 1 ≤ xs.length ∧ xs.length ≤ 16 := by
  unfold hkB at h
  rw [Bool.and_eq_true, decide_eq_true_eq] at h
  refine ⟨fun g hg => ?_, h.2⟩
  have := List.all_eq_true.1 h.1 g hg
  unfold genB at this
  rw [Bool.and_eq_true] at this
  exact ⟨this.1, by simpa using this.2⟩
set_option maxHeartbeats 400000 in
theorem vecI (v : Value) (xs : List Int) (w : World) (hv : RI w v xs) : Calls Try.prog 100 #[v] w fun e w' => e = .returned (.bool (vecB xs)) ∧ w = w' := by
  obtain ⟨A, c, rfl, h2, h3, hA⟩ := hv
  go_enter Try.func100, Try.ntmps100
  go_wp2
  go_loopg [7] xs.length (fun f i wr => ∃ k : Nat, k + f = xs.length ∧ i = .int .i64 k ∧ wr = w ∧ Hid ((xs.take k).all elB = true))
  case atStart => exact ⟨0, by omega, rfl, rfl, by show _ = _; simp⟩
  case round =>
    obtain ⟨k, hk, rfl, rfl, HK⟩ := hrel
    have hk2 : k ≤ xs.length := by omega
    have HG := Lib.hid hk
    clear hk
    by_cases hlt : k < xs.length
    · obtain ⟨b1, o1, rfl, hb1, hc1⟩ := hA (by omega)
      have g1 := hc1 k (xs[k]'hlt) (List.getElem?_eq_getElem hlt)
      clear hc1 hA
      have hx : Hid (xs[k]? = some (xs[k]'hlt)) := List.getElem?_eq_getElem hlt
      generalize xs[k]'hlt = x at *
      have i0 : (0 : Int) ≤ (k : Int) := by omega
      have i1 : (k : Int) < (xs.length : Int) := by omega
      go_wp2_with fail
      refine (elI x _).mono ?_
      rintro e w1 ⟨rfl, rfl⟩
      cases he : elB x
      · have HF := Lib.hid (vecB_no (all_fail hx.out he))
        clear he
        go_wp2
        go_ret
        exact ⟨by rw [HF.out]; rfl, rfl⟩
      · have HF := Lib.hid (all_step hx.out HK.out he)
        clear he
        go_wp2
        go_roundg (xs.length - (k + 1))
        case measure => have := HG.out; omega
        case rel => exact ⟨k + 1, by omega, by go_num, rfl, HF⟩
    · obtain rfl : k = xs.length := by omega
      have i1 : ¬ (xs.length : Int) < (xs.length : Int) := by omega
      have HF := Lib.hid (vecB_all (all_end HK.out))
      go_wp2
      go_ret
      exact ⟨by rw [HF.out]; simp; omega, rfl⟩
set_option maxHeartbeats 400000 in
theorem vecS (v : Value) (xs : List Int) (w : World) (hv : RI w v xs) : Calls Try.prog 97 #[v] w fun e w' => e = .returned (.bool (vecB xs)) ∧ w = w' := by
  obtain ⟨A, c, rfl, h2, h3, hA⟩ := hv
  go_enter Try.func97, Try.ntmps97
  go_wp2
  go_loopg [3] xs.length (fun f i wr => ∃ k : Nat, k + f = xs.length ∧ i = .int .i64 k ∧ wr = w ∧ Hid ((xs.take k).all elB = true))
  case atStart => exact ⟨0, by omega, rfl, rfl, by show _ = _; simp⟩
  case round =>
    obtain ⟨k, hk, rfl, rfl, HK⟩ := hrel
    have hk2 : k ≤ xs.length := by omega
    have HG := Lib.hid hk
    clear hk
    by_cases hlt : k < xs.length
    · obtain ⟨b1, o1, rfl, hb1, hc1⟩ := hA (by omega)
      have g1 := hc1 k (xs[k]'hlt) (List.getElem?_eq_getElem hlt)
      clear hc1 hA
      have hx : Hid (xs[k]? = some (xs[k]'hlt)) := List.getElem?_eq_getElem hlt
      generalize xs[k]'hlt = x at *
      have i0 : (0 : Int) ≤ (k : Int) := by omega
      have i1 : (k : Int) < (xs.length : Int) := by omega
      go_wp2_with fail
      refine (elS x _).mono ?_
      rintro e w1 ⟨rfl, rfl⟩
      cases he : elB x
      · have HF := Lib.hid (vecB_no (all_fail hx.out he))
        clear he
        go_wp2
        go_ret
        exact ⟨by rw [HF.out]; rfl, rfl⟩
      · have HF := Lib.hid (all_step hx.out HK.out he)
        clear he
        go_wp2
        go_roundg (xs.length - (k + 1))
        case measure => have := HG.out; omega
        case rel => exact ⟨k + 1, by omega, by go_num, rfl, HF⟩
    · obtain rfl : k = xs.length := by omega
      have i1 : ¬ (xs.length : Int) < (xs.length : Int) := by omega
      have HF := Lib.hid (vecB_all (all_end HK.out))
      go_wp2
      go_ret
      exact ⟨by rw [HF.out]; simp; omega, rfl⟩
end Go.Proofs.Ytjaagabbbnokdaa
