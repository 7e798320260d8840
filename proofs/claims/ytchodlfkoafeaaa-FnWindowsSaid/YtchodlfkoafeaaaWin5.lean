/-
  Contracts of NextToSend, of the program and of the reference. No condition.
-/
import Derived.Test.YtchodlfkoafeaaaWin4
namespace Go.Proofs.Ytchodlfkoafeaaa
open Go.ChangeShapes Go.WideShapes Go.ChangeAt Go.RowKit
set_option linter.unusedVariables false
set_option maxRecDepth 100000

def nextZ (xs : List Int) (q : Int) : Int := if xs.length = 0 ∨ q < 0 then -1 else (xs[(q % (xs.length : Int)).toNat]?).getD 0

set_option maxHeartbeats 1000000 in
theorem nextI_any (b n d t q : Int) (w : World) : Calls Try.prog 36 #[win b n d t, .int .i64 q] w fun e w' => e = .returned (.int .i64 (nextZ (activeL b n d t) q)) ∧ Bel w w' := by
  have hlen := activeL_len b n d t
  have HI := Lib.hid (fun w => actI_any b n d t w)
  generalize activeL b n d t = xs at *
  by_cases hno : xs.length = 0 ∨ q < 0
  · have hz : Hid (nextZ xs q = -1) := if_pos hno
    by_cases h0 : xs.length = 0
    · have hb : ((xs.length : Int) == 0) = true := by simp [h0]
      clear hno h0
      go_enter Try.func36, Try.ntmps36
      go_wp2_with fail
      refine (HI.out _).mono ?_
      rintro e w1 ⟨v, rfl, O1, hb1⟩
      obtain ⟨A, c, rfl, _, _, _⟩ := O1.reads
      go_wp2
      go_ret
      exact ⟨by rw [hz.out]; rfl, ((Bel.refl _).alloc _).trans hb1⟩
    · have hb : ((xs.length : Int) == 0) = false := beq_eq_false_iff_ne.2 (by omega)
      have hq : q < 0 := by omega
      clear hno
      go_enter Try.func36, Try.ntmps36
      go_wp2_with fail
      refine (HI.out _).mono ?_
      rintro e w1 ⟨v, rfl, O1, hb1⟩
      obtain ⟨A, c, rfl, _, _, _⟩ := O1.reads
      go_wp2
      go_ret
      exact ⟨by rw [hz.out]; rfl, ((Bel.refl _).alloc _).trans hb1⟩
  · have hz : Hid (nextZ xs q = (xs[(q % (xs.length : Int)).toNat]?).getD 0) := if_neg hno
    have hb : ((xs.length : Int) == 0) = false := beq_eq_false_iff_ne.2 (by omega)
    have hq : 0 ≤ q := by omega
    have hp : 0 < xs.length := by omega
    have hq2 : decide (q < 0) = false := by simp; omega
    have e1 : 0 ≤ q % (xs.length : Int) := Int.emod_nonneg _ (by omega)
    have e2 : q % (xs.length : Int) < xs.length := Int.emod_lt_of_pos _ (by omega)
    clear hno
    go_enter Try.func36, Try.ntmps36
    go_wp2_with fail
    refine (HI.out _).mono ?_
    rintro e w1 ⟨v, rfl, O1, hb1⟩
    obtain ⟨A, c, rfl, _, _, hA⟩ := O1.reads
    obtain ⟨g, off, rfl, _, hc⟩ := hA hp
    have hj : (q % (xs.length : Int)).toNat < xs.length := by omega
    have r1 := hc _ _ (List.getElem?_eq_getElem hj)
    clear hc hA
    have hx : Hid (xs[(q % (xs.length : Int)).toNat]? = some (xs[(q % (xs.length : Int)).toNat]'hj)) := List.getElem?_eq_getElem hj
    generalize xs[(q % (xs.length : Int)).toNat]'hj = x at *
    go_wp2
    go_ret
    exact ⟨by rw [hz.out, hx.out]; rfl, ((Bel.refl _).alloc _).trans hb1⟩
end Go.Proofs.Ytchodlfkoafeaaa
