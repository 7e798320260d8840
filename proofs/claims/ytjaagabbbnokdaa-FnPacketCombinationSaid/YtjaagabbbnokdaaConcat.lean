/-
  Slices of slices of ints: a word for reading them; the contract of slices.Concat. Condition: at most 2^40 elements in all.
-/
import Derived.Test.YtjaagabbbnokdaaGrow
import Derived.Test.YtjaagabbbnokdaaApp
namespace Go.Proofs.Ytjaagabbbnokdaa
open Go.ChangeShapes Go.WideShapes Go.ChangeAt Go.RowKit
set_option linter.unusedVariables false
set_option maxRecDepth 100000

/-- A slice of slices of ints that reads as xss. -/
def RII (w : World) (v : Value) (xss : List (List Int)) : Prop :=
  ∃ A c, v = .slice A xss.length c ∧ xss.length ≤ c ∧ c ≤ 9223372036854775807 ∧
    (0 < xss.length → ∃ b off, A = some ⟨b, off, none⟩ ∧ b < w.heap.size ∧ ∀ j xs, xss[j]? = some xs → ∃ u, w.cell? ⟨b, off + j, none⟩ = some u ∧ RI w u xs)
theorem RII.keep {w w' : World} {v : Value} {xss : List (List Int)} (h : RII w v xss) (k : Bel w w') : RII w' v xss := by
  obtain ⟨A, c, hv, h1, h2, h3⟩ := h
  refine ⟨A, c, hv, h1, h2, fun h0 => ?_⟩
  obtain ⟨b, off, hA, hb, hc⟩ := h3 h0
  refine ⟨b, off, hA, Nat.lt_of_lt_of_le hb k.size, fun j xs hx => ?_⟩
  obtain ⟨u, hu, hr⟩ := hc j xs hx
  exact ⟨u, k.cell1 hb hu, hr.keep k⟩
theorem RII.nil (w : World) : RII w (.slice none 0 0) [] := ⟨none, 0, rfl, by simp, by omega, fun h => absurd h (by simp)⟩

/-- How many numbers the first k slices hold. -/
def sumL (xss : List (List Int)) (k : Nat) : Nat := ((xss.take k).flatten).length
theorem sumL_step {xss : List (List Int)} {k : Nat} {xs : List Int} (h : xss[k]? = some xs) : sumL xss (k + 1) = sumL xss k + xs.length := by
  obtain ⟨hk, rfl⟩ := List.getElem?_eq_some_iff.1 h
  unfold sumL
  rw [List.take_succ_eq_append_getElem hk, List.flatten_append, List.length_append]
  simp
theorem flat_step {xss : List (List Int)} {k : Nat} {xs : List Int} (h : xss[k]? = some xs) : (xss.take (k + 1)).flatten = (xss.take k).flatten ++ xs := by
  obtain ⟨hk, rfl⟩ := List.getElem?_eq_some_iff.1 h
  rw [List.take_succ_eq_append_getElem hk, List.flatten_append]
  simp
theorem sumL_le (xss : List (List Int)) (k : Nat) : sumL xss k ≤ xss.flatten.length := by
  unfold sumL
  conv => rhs; rw [← List.take_append_drop k xss, List.flatten_append, List.length_append]
  omega

set_option maxHeartbeats 1000000 in
theorem concatI (v : Value) (xss : List (List Int)) (w : World) (hv : RII w v xss) (hn : xss.flatten.length ≤ 1099511627776) :
    Calls Try.prog 67 #[v] w fun e w' => ∃ v', e = .returned v' ∧ OI w' w.heap.size v' xss.flatten ∧ Bel w w' := by
  obtain ⟨A, c, rfl, h1, h2, hA⟩ := id hv
  go_enter Try.func67, Try.ntmps67
  go_wp2
  go_loopg [3, 11] xss.length (fun f m i wr => ∃ k : Nat, k + f = xss.length ∧ i = .int .i64 k ∧ m = .int .i64 (sumL xss k : Int) ∧ wr = w)
  case atStart => exact ⟨0, by omega, rfl, rfl, rfl⟩
  case round =>
    obtain ⟨k, hk, rfl, rfl, rfl⟩ := hrel
    have hk2 : k ≤ xss.length := by omega
    have HK := Lib.hid hk
    clear hk
    by_cases hlt : k < xss.length
    · obtain ⟨b1, o1, rfl, z1, hc1⟩ := hA (by omega)
      have hx : xss[k]? = some (xss[k]'hlt) := List.getElem?_eq_getElem hlt
      obtain ⟨u, g1, hr⟩ := hc1 k _ hx
      have HS := Lib.hid (sumL_step hx)
      have q1 := sumL_le xss k
      have q2 := sumL_le xss (k + 1)
      rw [sumL_step hx] at q2
      clear hc1 hA hx
      generalize xss[k]'hlt = xs at *
      obtain ⟨B, d, rfl, _, _, _⟩ := hr
      have i0 : (0 : Int) ≤ (k : Int) := by omega
      have i1 : (k : Int) < (xss.length : Int) := by omega
      have i2 : decide ((sumL xss k : Int) + (xs.length : Int) < 0) = false := by simp; omega
      go_wp2
      go_roundg (xss.length - (k + 1))
      case measure => have := HK.out; omega
      case rel => exact ⟨k + 1, by omega, by go_num, by rw [HS.out]; go_num, rfl⟩
    · obtain rfl : k = xss.length := by omega
      have i1 : ¬ (xss.length : Int) < (xss.length : Int) := by omega
      have q1 := sumL_le xss xss.length
      obtain ⟨wo, rfl⟩ : ∃ wo : World, wo = wr := ⟨_, rfl⟩
      go_wp2_with fail
      refine (growNil (sumL xss xss.length) _ (by omega)).mono ?_
      rintro e w1 ⟨v1, rfl, O1, hb1⟩
      go_wp2
      go_loopg [6, 27] xss.length (fun f o i w2 => ∃ k : Nat, k + f = xss.length ∧ i = .int .i64 k ∧ OI w2 wo.heap.size o (xss.take k).flatten ∧ Bel wo w2)
      case atStart => exact ⟨0, by omega, rfl, by simpa using O1, hb1⟩
      case round =>
        obtain ⟨k, hk, rfl, O2, Y2⟩ := hrel
        have hk2 : k ≤ xss.length := by omega
        have HK2 := Lib.hid hk
        clear hk
        by_cases hlt : k < xss.length
        · obtain ⟨b1, o1, rfl, z1, hc1⟩ := hA (by omega)
          have hx : xss[k]? = some (xss[k]'hlt) := List.getElem?_eq_getElem hlt
          obtain ⟨u, g1, hr⟩ := hc1 k _ hx
          have HS := Lib.hid (flat_step hx)
          have q1 := sumL_le xss k
          have q2 := sumL_le xss (k + 1)
          rw [sumL_step hx] at q2
          unfold sumL at q1 q2
          clear hc1 hA hx
          generalize xss[k]'hlt = xs at *
          replace g1 := Y2.cell1 z1 g1
          replace hr := hr.keep Y2
          have i0 : (0 : Int) ≤ (k : Int) := by omega
          have i1 : (k : Int) < (xss.length : Int) := by omega
          have y2 := Y2.size
          go_wp2_with (at_builtin; refine wpList_appI _ rfl _ _ rfl wo.heap.size _ _ _ _ rfl rfl O2 hr (by omega) y2 ?_; intro v3 w3 O3 hG)
          have hne : ∀ q, u6.ownBlock = some q → wo.heap.size ≤ q := fun q hq => (O2.block q hq).1
          have Y3 : Bel wo w3 := Y2.grown hG hne
          clear hG hne O2
          go_wp2
          go_roundg (xss.length - (k + 1))
          case measure => have := HK2.out; omega
          case rel => exact ⟨k + 1, by omega, by go_num, by rw [HS.out]; exact O3, Y3⟩
        · obtain rfl : k = xss.length := by omega
          have i1 : ¬ (xss.length : Int) < (xss.length : Int) := by omega
          go_wp2
          go_ret
          exact ⟨_, rfl, by rw [List.take_length] at O2; exact O2, Y2⟩
end Go.Proofs.Ytjaagabbbnokdaa
