/-
  Contracts of DegreesNeeded, of the program and of the reference. No condition.
-/
import Derived.Test.YtchodlfkoafeaaaFb2
namespace Go.Proofs.Ytchodlfkoafeaaa
open Go.ChangeShapes Go.WideShapes Go.ChangeAt Go.RowKit
set_option linter.unusedVariables false
set_option maxRecDepth 100000

set_option maxHeartbeats 4000000 in
theorem degI (g z : Int) (v u : Value) (fs : List Tr) (sinks : List Int) (w : World) (hv : RT w v fs) (hu : RI w u sinks) :
    Calls Try.prog 25 #[.agg #[v], .int .i64 g, u, .int .i64 z] w fun e w' => e = .returned (.int .i64 (degZ fs g z sinks sinks.length)) ∧ Bel w w' := by
  obtain ⟨A, c, rfl, h1, h2, hA⟩ := id hv
  obtain ⟨B, d, rfl, h3, h4, hB⟩ := id hu
  go_enter Try.func25, Try.ntmps25
  go_wp2
  go_loopg [9, 16] sinks.length (fun f m i wr => ∃ k : Nat, k + f = sinks.length ∧ i = .int .i64 k ∧ m = .int .i64 (degZ fs g z sinks k) ∧ Blk wr w.heap.size 40 #[.slice A fs.length c] ∧ Bel w wr)
  case atStart => exact ⟨0, by omega, rfl, rfl, Blk.new w _ _, (Bel.refl _).alloc _⟩
  case round =>
    obtain ⟨k, hk, rfl, rfl, X, Y⟩ := hrel
    have hk2 : k ≤ sinks.length := by omega
    have HK := Lib.hid hk
    clear hk
    obtain ⟨cc, _, zz⟩ := X.facts
    have r1 := cc 0
    simp at r1
    clear cc
    by_cases hlt : k < sinks.length
    · obtain ⟨b2, o2, rfl, z2, hc2⟩ := hB (by omega)
      have hx : sinks[k]? = some (sinks[k]'hlt) := List.getElem?_eq_getElem hlt
      have g2 := Y.cell1 z2 (hc2 k _ hx)
      have HS := Lib.hid (degZ_step (fs := fs) (g := g) (size := z) hx)
      clear hc2 hB hx
      generalize sinks[k]'hlt = s at *
      have i0 : (0 : Int) ≤ (k : Int) := by omega
      have i1 : (k : Int) < (sinks.length : Int) := by omega
      go_wp2_with fail
      refine (entI g s _ fs _ (hv.keep Y)).mono ?_
      rintro e w1 ⟨rfl, hb1⟩
      replace X := hb1.keep X
      replace Y := Y.trans hb1
      clear r1 g2 hb1 zz
      rcases idx_cases (entB g s) fs with ⟨hi, hf⟩ | ⟨q, ff, hi, hq, hf⟩
      · have HM := Lib.hid (missZ_none (z := z) hf)
        rw [hi]
        clear hi hf
        by_cases h0 : k = 0
        · have hk0 : ((k : Int) == 0) = true := beq_iff_eq.2 (by omega)
          have HN : Hid (degZ fs g z sinks (k + 1) = z) := by show _ = _; rw [HS.out, HM.out, if_pos (.inl h0)]
          clear h0 HS HM
          generalize degZ fs g z sinks k = dz at *
          go_wp2
          go_roundg (sinks.length - (k + 1))
          case measure => have := HK.out; omega
          case rel => exact ⟨k + 1, by omega, by go_num, by rw [HN.out], X, Y⟩
        · have hk0 : ((k : Int) == 0) = false := beq_eq_false_iff_ne.2 (by omega)
          by_cases hgt : degZ fs g z sinks k < z
          · have HN : Hid (degZ fs g z sinks (k + 1) = z) := by show _ = _; rw [HS.out, HM.out, if_pos (.inr hgt)]
            clear h0 HS HM
            generalize degZ fs g z sinks k = dz at *
            go_wp2
            go_roundg (sinks.length - (k + 1))
            case measure => have := HK.out; omega
            case rel => exact ⟨k + 1, by omega, by go_num, by rw [HN.out], X, Y⟩
          · have HN : Hid (degZ fs g z sinks (k + 1) = degZ fs g z sinks k) := by show _ = _; rw [HS.out, HM.out, if_neg (by omega)]
            have hgt2 : decide (degZ fs g z sinks k < z) = false := by simpa using hgt
            clear h0 HS HM hgt
            rw [← HN.out] at hgt2 ⊢
            generalize hdz : degZ fs g z sinks (k + 1) = dz at *
            have HDZ := Lib.hid hdz
            clear hdz HN
            go_wp2
            go_roundg (sinks.length - (k + 1))
            case measure => have := HK.out; omega
            case rel => exact ⟨k + 1, by omega, by go_num, by rw [HDZ.out], X, Y⟩
      · have hql : q < fs.length := (List.getElem?_eq_some_iff.1 hq).1
        obtain ⟨b1, o1, rfl, z1, hc1⟩ := hA (by omega)
        have g3 := Y.cell1 z1 (hc1 q ff hq).2.2
        have HM := Lib.hid (missZ_some (z := z) hf)
        rw [hi]
        obtain ⟨cc, _, zz⟩ := X.facts
        have r1 := cc 0
        simp at r1
        clear cc
        clear hi hf hc1 hA hq
        obtain ⟨f1, f2, f3⟩ := ff
        dsimp only at *
        have j0 : (0 : Int) ≤ (q : Int) := by omega
        have j1 : (q : Int) < (fs.length : Int) := by omega
        have j2 : decide ((0 : Int) ≤ (q : Int)) = true := by simp
        by_cases h0 : k = 0
        · have hk0 : ((k : Int) == 0) = true := beq_iff_eq.2 (by omega)
          have HN : Hid (degZ fs g z sinks (k + 1) = f3) := by show _ = _; rw [HS.out, HM.out, if_pos (.inl h0)]
          clear h0 HS HM
          generalize degZ fs g z sinks k = dz at *
          go_wp2
          go_roundg (sinks.length - (k + 1))
          case measure => have := HK.out; omega
          case rel => exact ⟨k + 1, by omega, by go_num, by rw [HN.out], X, Y⟩
        · have hk0 : ((k : Int) == 0) = false := beq_eq_false_iff_ne.2 (by omega)
          by_cases hgt : degZ fs g z sinks k < f3
          · have HN : Hid (degZ fs g z sinks (k + 1) = f3) := by show _ = _; rw [HS.out, HM.out, if_pos (.inr hgt)]
            clear h0 HS HM
            generalize degZ fs g z sinks k = dz at *
            go_wp2
            go_roundg (sinks.length - (k + 1))
            case measure => have := HK.out; omega
            case rel => exact ⟨k + 1, by omega, by go_num, by rw [HN.out], X, Y⟩
          · have HN : Hid (degZ fs g z sinks (k + 1) = degZ fs g z sinks k) := by show _ = _; rw [HS.out, HM.out, if_neg (by omega)]
            have hgt2 : decide (degZ fs g z sinks k < f3) = false := by simpa using hgt
            clear h0 HS HM hgt
            rw [← HN.out] at hgt2 ⊢
            generalize hdz : degZ fs g z sinks (k + 1) = dz at *
            have HDZ := Lib.hid hdz
            clear hdz HN
            go_wp2
            go_roundg (sinks.length - (k + 1))
            case measure => have := HK.out; omega
            case rel => exact ⟨k + 1, by omega, by go_num, by rw [HDZ.out], X, Y⟩
    · obtain rfl : k = sinks.length := by omega
      have i1 : ¬ (sinks.length : Int) < (sinks.length : Int) := by omega
      go_wp2
      go_ret
      exact ⟨rfl, Y⟩
end Go.Proofs.Ytchodlfkoafeaaa
