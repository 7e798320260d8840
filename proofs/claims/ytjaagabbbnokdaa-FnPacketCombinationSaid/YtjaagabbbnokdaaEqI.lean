/-
  Equality of slices of ints: contracts of slices.Equal and of the reference's EqualInts. No condition.
-/
import Derived.Test.YtjaagabbbnokdaaSl3
namespace Go.Proofs.Ytjaagabbbnokdaa
open Go.ChangeShapes Go.WideShapes Go.ChangeAt Go.RowKit
set_option linter.unusedVariables false
set_option maxRecDepth 100000

set_option maxHeartbeats 400000 in
theorem sEqI (v u : Value) (xs ys : List Int) (w : World) (hv : RI w v xs) (hu : RI w u ys) :
    Calls Try.prog 91 #[v, u] w fun e w' => e = .returned (.bool (decide (xs = ys))) ∧ Bel w w' := by
  obtain ⟨A, c, rfl, h1, h2, hA⟩ := hv
  obtain ⟨B, d, rfl, h3, h4, hB⟩ := hu
  by_cases hlen : xs.length = ys.length
  · have hne : ((xs.length : Int) != (ys.length : Int)) = false := by simp [hlen]
    have hle : xs.length ≤ ys.length := by omega
    have HL := Lib.hid hlen
    clear hlen
    go_enter Try.func91, Try.ntmps91
    go_wp2
    go_loopw [13] (fun i wr => ∃ k : Nat, k ≤ xs.length ∧ i = .int .i64 k ∧ (∃ n, wr = w.drewN n) ∧ Hid (∀ j, j < k → xs[j]? = ys[j]?)) (fun i _ => xs.length - (intOf i).toNat)
    case atStart => exact ⟨0, Nat.zero_le _, rfl, ⟨0, rfl⟩, Lib.hid (fun j hj => absurd hj (by omega))⟩
    case round =>
      obtain ⟨k, hk, rfl, ⟨n, rfl⟩, HK⟩ := hrel
      by_cases hlt : k < xs.length
      · obtain ⟨b1, o1, rfl, _, hc1⟩ := hA (by omega)
        obtain ⟨b2, o2, rfl, _, hc2⟩ := hB (by omega)
        have g1 := hc1 k (xs[k]'hlt) (List.getElem?_eq_getElem hlt)
        have g2 := hc2 k (ys[k]'(by omega)) (List.getElem?_eq_getElem (by omega))
        clear hc1 hc2
        have hx : Hid (xs[k]? = some (xs[k]'hlt)) := List.getElem?_eq_getElem hlt
        have hy : Hid (ys[k]? = some (ys[k]'(by omega))) := List.getElem?_eq_getElem (by omega)
        generalize xs[k]'hlt = x at *
        generalize ys[k]'(by omega) = y at *
        have i0 : (0 : Int) ≤ (k : Int) := by omega
        have i1 : (k : Int) < (xs.length : Int) := by omega
        have i2 : (k : Int) < (ys.length : Int) := by omega
        by_cases hxy : x = y
        · subst hxy
          go_wp2
          go_quiet (fail)
          go_wp2
          go_roundw
          case rel =>
            refine ⟨k + 1, by omega, by go_num, ⟨_, rfl⟩, Lib.hid (fun j hj => ?_)⟩
            by_cases h : j = k
            · subst h; rw [hx.out, hy.out]
            · exact HK.out j (by omega)
          case measure => simp [intOf]; omega
        · have hb : (x != y) = true := by simpa using hxy
          have HX := Lib.hid hxy
          clear hxy
          go_wp2
          go_quiet (fail)
          go_wp2
          go_ret
          have hd : ¬ xs = ys := by
            intro he
            rw [he] at hx
            have := hx.out.symm.trans hy.out
            injection this with this
            exact HX.out this
          exact ⟨by rw [decide_eq_false hd]; rfl, by repeat (first | exact Bel.refl _ | apply Bel.drewN)⟩
      · have i1 : ¬ (k : Int) < (xs.length : Int) := by omega
        go_wp2
        go_ret
        have hd : xs = ys := by
          have hl := HL.out
          apply List.ext_getElem?
          intro j
          by_cases hj : j < k
          · exact HK.out j hj
          · rw [List.getElem?_eq_none (by omega), List.getElem?_eq_none (by omega)]
        exact ⟨by rw [decide_eq_true hd]; rfl, by repeat (first | exact Bel.refl _ | apply Bel.drewN)⟩
  · have hne : ((xs.length : Int) != (ys.length : Int)) = true := by
      rw [bne_iff_ne]; omega
    have HL := Lib.hid hlen
    clear hlen
    go_enter Try.func91, Try.ntmps91
    go_wp2
    go_ret
    have hd : ¬ xs = ys := fun he => HL.out (by rw [he])
    exact ⟨by rw [decide_eq_false hd]; rfl, Bel.refl _⟩
set_option maxHeartbeats 400000 in
theorem sEqS (v u : Value) (xs ys : List Int) (w : World) (hv : RI w v xs) (hu : RI w u ys) :
    Calls Try.prog 133 #[v, u] w fun e w' => e = .returned (.bool (decide (xs = ys))) ∧ Bel w w' := by
  obtain ⟨A, c, rfl, h1, h2, hA⟩ := hv
  obtain ⟨B, d, rfl, h3, h4, hB⟩ := hu
  by_cases hlen : xs.length = ys.length
  · have hne : ((xs.length : Int) != (ys.length : Int)) = false := by simp [hlen]
    have hle : xs.length ≤ ys.length := by omega
    have HL := Lib.hid hlen
    clear hlen
    go_enter Try.func133, Try.ntmps133
    go_wp2
    go_loopw [5] (fun i wr => ∃ k : Nat, k ≤ xs.length ∧ i = .int .i64 k ∧ (∃ n, wr = w.drewN n) ∧ Hid (∀ j, j < k → xs[j]? = ys[j]?)) (fun i _ => xs.length - (intOf i).toNat)
    case atStart => exact ⟨0, Nat.zero_le _, rfl, ⟨0, rfl⟩, Lib.hid (fun j hj => absurd hj (by omega))⟩
    case round =>
      obtain ⟨k, hk, rfl, ⟨n, rfl⟩, HK⟩ := hrel
      by_cases hlt : k < xs.length
      · obtain ⟨b1, o1, rfl, _, hc1⟩ := hA (by omega)
        obtain ⟨b2, o2, rfl, _, hc2⟩ := hB (by omega)
        have g1 := hc1 k (xs[k]'hlt) (List.getElem?_eq_getElem hlt)
        have g2 := hc2 k (ys[k]'(by omega)) (List.getElem?_eq_getElem (by omega))
        clear hc1 hc2
        have hx : Hid (xs[k]? = some (xs[k]'hlt)) := List.getElem?_eq_getElem hlt
        have hy : Hid (ys[k]? = some (ys[k]'(by omega))) := List.getElem?_eq_getElem (by omega)
        generalize xs[k]'hlt = x at *
        generalize ys[k]'(by omega) = y at *
        have i0 : (0 : Int) ≤ (k : Int) := by omega
        have i1 : (k : Int) < (xs.length : Int) := by omega
        have i2 : (k : Int) < (ys.length : Int) := by omega
        by_cases hxy : x = y
        · subst hxy
          go_wp2
          go_quiet (fail)
          go_wp2
          go_roundw
          case rel =>
            refine ⟨k + 1, by omega, by go_num, ⟨_, rfl⟩, Lib.hid (fun j hj => ?_)⟩
            by_cases h : j = k
            · subst h; rw [hx.out, hy.out]
            · exact HK.out j (by omega)
          case measure => simp [intOf]; omega
        · have hb : (x != y) = true := by simpa using hxy
          have HX := Lib.hid hxy
          clear hxy
          go_wp2
          go_quiet (fail)
          go_wp2
          go_ret
          have hd : ¬ xs = ys := by
            intro he
            rw [he] at hx
            have := hx.out.symm.trans hy.out
            injection this with this
            exact HX.out this
          exact ⟨by rw [decide_eq_false hd]; rfl, by repeat (first | exact Bel.refl _ | apply Bel.drewN)⟩
      · have i1 : ¬ (k : Int) < (xs.length : Int) := by omega
        go_wp2
        go_ret
        have hd : xs = ys := by
          have hl := HL.out
          apply List.ext_getElem?
          intro j
          by_cases hj : j < k
          · exact HK.out j hj
          · rw [List.getElem?_eq_none (by omega), List.getElem?_eq_none (by omega)]
        exact ⟨by rw [decide_eq_true hd]; rfl, by repeat (first | exact Bel.refl _ | apply Bel.drewN)⟩
  · have hne : ((xs.length : Int) != (ys.length : Int)) = true := by
      rw [bne_iff_ne]; omega
    have HL := Lib.hid hlen
    clear hlen
    go_enter Try.func133, Try.ntmps133
    go_wp2
    go_ret
    have hd : ¬ xs = ys := fun he => HL.out (by rw [he])
    exact ⟨by rw [decide_eq_false hd]; rfl, Bel.refl _⟩
end Go.Proofs.Ytjaagabbbnokdaa
