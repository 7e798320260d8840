/-
  l21Has, slices.Index and slices.Contains at ints: contracts. No condition.
-/
import Derived.Test.YtjlcnbicehjjjaaSl3
namespace Go.Proofs.Ytjlcnbicehjjjaa
open Go.ChangeShapes Go.WideShapes Go.ChangeAt Go.RowKit
set_option linter.unusedVariables false
set_option maxRecDepth 100000

def hasB (xs : List Int) (x : Int) : Bool := xs.any (fun y => y == x)
/-- The first place of x in xs, -1 if there is none. -/
def posZ (xs : List Int) (x : Int) : Int := match xs.findIdx? (fun y => y == x) with
  | some i => (i : Int)
  | none => -1
theorem has_at {xs : List Int} {k : Nat} {x : Int} (h : xs[k]? = some x) : hasB xs x = true := by
  simp only [hasB, List.any_eq_true]
  exact ⟨x, List.mem_of_getElem? h, by simp⟩
theorem has_none {xs : List Int} {x : Int} (h : ∀ j : Nat, j < xs.length → xs[j]? ≠ some x) : hasB xs x = false := by
  rw [Bool.eq_false_iff]
  intro h2
  simp only [hasB, List.any_eq_true] at h2
  obtain ⟨y, hy, he⟩ := h2
  have he : y = x := by simpa using he
  subst he
  obtain ⟨j, hj⟩ := List.mem_iff_getElem?.1 hy
  exact h j (List.getElem?_eq_some_iff.1 hj).1 hj
theorem pos_at {xs : List Int} {k : Nat} {x : Int} (h : xs[k]? = some x) (hb : ∀ j : Nat, j < k → xs[j]? ≠ some x) : posZ xs x = (k : Int) := by
  obtain ⟨hl, he⟩ := List.getElem?_eq_some_iff.1 h
  have : xs.findIdx? (fun y => y == x) = some k := by
    rw [List.findIdx?_eq_some_iff_getElem]
    refine ⟨hl, by simp [he], fun j hj => ?_⟩
    have := hb j hj
    rw [List.getElem?_eq_getElem (by omega)] at this
    simp at this
    simp [this]
  simp [posZ, this]
theorem pos_none {xs : List Int} {x : Int} (hb : ∀ j : Nat, j < xs.length → xs[j]? ≠ some x) : posZ xs x = -1 := by
  have : xs.findIdx? (fun y => y == x) = none := by
    rw [List.findIdx?_eq_none_iff]
    intro y hy
    obtain ⟨j, hj⟩ := List.mem_iff_getElem?.1 hy
    have := hb j (List.getElem?_eq_some_iff.1 hj).1
    rw [hj] at this
    simpa using this
  simp [posZ, this]
theorem pos_has (xs : List Int) (x : Int) : decide (0 ≤ posZ xs x) = hasB xs x := by
  cases h : xs.findIdx? (fun y => y == x) with
  | none =>
    have h2 := List.findIdx?_eq_none_iff.1 h
    have : hasB xs x = false := by
      rw [hasB, List.any_eq_false]
      intro y hy
      simpa using h2 y hy
    rw [this]; simp [posZ, h]
  | some i =>
    obtain ⟨hl, hp, _⟩ := List.findIdx?_eq_some_iff_getElem.1 h
    have : hasB xs x = true := by
      rw [hasB, List.any_eq_true]
      exact ⟨_, List.getElem_mem hl, hp⟩
    rw [this]; simp [posZ, h]

set_option maxHeartbeats 1000000 in
theorem posI (x : Int) (v : Value) (xs : List Int) (w : World) (hv : RI w v xs) :
    Calls Try.prog 114 #[v, .int .i64 x] w fun e w' => e = .returned (.int .i64 (posZ xs x)) ∧ w = w' := by
  obtain ⟨A, c, rfl, h1, h2, hA⟩ := hv
  go_enter Try.func114, Try.ntmps114
  go_wp2
  go_loopg [8] xs.length (fun f i wr => ∃ k : Nat, k + f = xs.length ∧ i = .int .i64 k ∧ w = wr ∧ Hid (∀ j : Nat, j < k → xs[j]? ≠ some x))
  case atStart => exact ⟨0, by omega, rfl, rfl, fun j hj => absurd hj (by omega)⟩
  case round =>
    obtain ⟨k, hk, rfl, rfl, HB⟩ := hrel
    have hk2 : k ≤ xs.length := by omega
    have HK := Lib.hid hk
    clear hk
    by_cases hlt : k < xs.length
    · obtain ⟨b1, o1, rfl, _, hc1⟩ := hA (by omega)
      have hx : Hid (xs[k]? = some (xs[k]'hlt)) := List.getElem?_eq_getElem hlt
      have g1 := hc1 k _ hx.out
      generalize xs[k]'hlt = y at *
      clear hc1 hA
      have i0 : (0 : Int) ≤ (k : Int) := by omega
      have i1 : (k : Int) < (xs.length : Int) := by omega
      cases hq : (x == y)
      · have HN : Hid (∀ j : Nat, j < k + 1 → xs[j]? ≠ some x) := fun j hj => by
          by_cases e : j = k
          · subst e; rw [hx.out]; intro e; injection e with e; subst e; simp at hq
          · exact HB.out j (by omega)
        go_wp2
        go_roundg (xs.length - (k + 1))
        case measure => have := HK.out; omega
        case rel => exact ⟨k + 1, by omega, by go_num, rfl, HN⟩
      · have HN : Hid (posZ xs x = (k : Int)) := pos_at (by rw [hx.out]; have : x = y := by simpa using hq
                                                            rw [this]) HB.out
        go_wp2
        go_ret
        exact ⟨by rw [HN.out]; rfl, rfl⟩
    · obtain rfl : k = xs.length := by omega
      have i1 : ¬ (xs.length : Int) < (xs.length : Int) := by omega
      have HN : Hid (posZ xs x = -1) := pos_none HB.out
      go_wp2
      go_ret
      exact ⟨by rw [HN.out]; rfl, rfl⟩
set_option maxHeartbeats 1000000 in
theorem hasI (x : Int) (v : Value) (xs : List Int) (w : World) (hv : RI w v xs) :
    Calls Try.prog 94 #[v, .int .i64 x] w fun e w' => e = .returned (.bool (hasB xs x)) ∧ w = w' := by
  have HP := Lib.hid (pos_has xs x)
  go_enter Try.func94, Try.ntmps94
  go_wp2_with fail
  refine (posI x v xs _ hv).mono ?_
  rintro e w1 ⟨rfl, rfl⟩
  go_wp2
  go_ret
  exact ⟨by rw [← HP.out]; rfl, rfl⟩
end Go.Proofs.Ytjlcnbicehjjjaa
