/-
  Decimal numerals: plain words for the reference's FormatInt.
-/
import Derived.Lib.ItoaNum
namespace Go.Proofs.YtgdainjconfnfaaDoor
set_option linter.unusedVariables false

/-- The digits of x, none for 0. -/
def digZ (x : Nat) : List UInt8 := if x = 0 then [] else Lib.decDigits x
theorem digZ_zero : digZ 0 = [] := rfl
theorem digZ_step {x : Nat} (h : x ≠ 0) : digZ x = digZ (x / 10) ++ [UInt8.ofNat (48 + x % 10)] := by
  unfold digZ
  rw [if_neg h]
  by_cases h1 : x < 10
  · rw [Lib.decDigits, dif_pos h1, show x / 10 = 0 by omega, if_pos rfl, show x % 10 = x by omega]
    rfl
  · rw [Lib.decDigits, dif_neg h1, if_neg (by omega)]
/-- One round of the loop: the last digit goes ahead of what is there. -/
theorem digZ_round {n x : Nat} {s : List UInt8} (hx : x ≠ 0) (h : digZ x ++ s = Lib.decDigits n) : digZ (x / 10) ++ (UInt8.ofNat (48 + x % 10) :: s) = Lib.decDigits n := by
  rw [← h, digZ_step hx]
  simp
theorem digZ_start {n : Nat} (h : n ≠ 0) : digZ n ++ [] = Lib.decDigits n := by unfold digZ; rw [if_neg h, List.append_nil]
theorem digZ_end {n : Nat} {s : List UInt8} (h : digZ 0 ++ s = Lib.decDigits n) : s = Lib.decDigits n := h
theorem tdiv_abs (x : Int) : (x.tdiv 10).natAbs = x.natAbs / 10 := by rw [Int.natAbs_tdiv]; rfl
theorem tmod_abs (x : Int) : (x.tmod 10).natAbs = x.natAbs % 10 := by rw [Int.natAbs_tmod]; rfl
end Go.Proofs.YtgdainjconfnfaaDoor
