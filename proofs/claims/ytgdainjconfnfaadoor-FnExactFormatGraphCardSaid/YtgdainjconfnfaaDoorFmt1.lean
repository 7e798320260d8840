/-
  The reference's FormatInt: a contract for every int.
-/
import Derived.Test.YtgdainjconfnfaaDoorWords
import Derived.Deep.LoopGhost
import Derived.Lib.SlBytesRow
import Derived.Lib.ItoaMem
import Derived.Lib.ItoaLen
import Derived.Test.YtgdainjconfnfaaDoorFmt0
namespace Go.Proofs.YtgdainjconfnfaaDoor
open Go.ChangeShapes Go.WideShapes Go.ChangeAt Go.RowKit
set_option linter.unusedVariables false
set_option maxRecDepth 100000

theorem itoa0 : Lib.itoa 0 = [48] := by
  unfold Lib.itoa
  rw [if_neg (by decide)]
  exact Lib.decDigits_one (by decide)
theorem digRun (w : World) (T : TypeId) (z : Int) (h0 : 0 ≤ z) (h1 : z < 10) :
    (convert 39 9 (.slice (some ⟨w.heap.size, 0, none⟩) 1 1)).run Tryd.prog (w.alloc (.cells #[.int .u8 (48 + z)] T)) = .ok (.string ⟨#[UInt8.ofNat (48 + z.toNat)]⟩) (w.alloc (.cells #[.int .u8 (48 + z)] T)) := by
  refine Lib.run_convert_whole (P := Tryd.prog) (w.alloc (.cells #[.int .u8 (48 + z)] T)) 39 5 9 (by kernel_rfl) (by kernel_rfl) (by kernel_rfl) w.heap.size 0 ⟨#[UInt8.ofNat (48 + z.toNat)]⟩ ?_ 1
  intro i hi
  have hi1 : i < 1 := hi
  obtain rfl : i = 0 := by omega
  rw [World.cell?_alloc_new]
  have hz : (((⟨#[UInt8.ofNat (48 + z.toNat)]⟩ : ByteArray)[0]'hi).toNat : Int) = 48 + z := by
    show ((UInt8.ofNat (48 + z.toNat)).toNat : Int) = 48 + z
    rw [UInt8.toNat_ofNat']
    omega
  rw [hz]
  rfl
theorem catB (b : UInt8) (l : List UInt8) : (⟨#[b]⟩ : ByteArray) ++ ⟨l.toArray⟩ = ⟨(b :: l).toArray⟩ := by
  apply ByteArray.ext
  rw [ByteArray.data_append]
  simp
theorem catB1 (k : Nat) (l : List UInt8) : (⟨#[48 + UInt8.ofNat k]⟩ : ByteArray) ++ ⟨l.toArray⟩ = ⟨(UInt8.ofNat (48 + k) :: l).toArray⟩ := by
  rw [show (48 : UInt8) + UInt8.ofNat k = UInt8.ofNat (48 + k) from (UInt8.ofNat_add 48 k).symm]
  exact catB _ _
theorem digRun0 (w : World) (T : TypeId) :
    (convert 39 9 (.slice (some ⟨w.heap.size, 0, none⟩) 1 1)).run Tryd.prog (w.alloc (.cells #[.int .u8 48] T)) = .ok (.string ⟨#[48]⟩) (w.alloc (.cells #[.int .u8 48] T)) := digRun w T 0 (by omega) (by omega)
set_option maxHeartbeats 2000000 in
theorem fmtIS (n : Int) (w : World) (h0 : -9223372036854775808 ≤ n) (h1 : n ≤ 9223372036854775807) :
    Calls Tryd.prog 10 #[.int .i64 n] w fun e w' => e = .returned (.string ⟨(Lib.itoa n).toArray⟩) ∧ Bel w w' := by
  by_cases hz : n = 0
  · subst hz
    go_enter Tryd.func10, Tryd.ntmps10
    go_wp2
    go_ret
    exact ⟨by rw [itoa0]; rfl, Bel.refl _⟩
  have hz2 : (n == 0) = false := by simpa using hz
  go_enter Tryd.func10, Tryd.ntmps10
  go_wp2
  go_loopg [3, 4, 5] n.natAbs (fun f s x d wr => ∃ (xi : Int) (l : List UInt8), f = xi.natAbs ∧ x = .int .i64 xi ∧ s = .string ⟨l.toArray⟩ ∧ Hid (digZ xi.natAbs ++ l = Lib.decDigits n.natAbs) ∧ Hid ((0 ≤ n → 0 ≤ xi) ∧ (n < 0 → xi ≤ 0)) ∧ (-9223372036854775808 ≤ xi ∧ xi ≤ 9223372036854775807) ∧ Bel w wr)
  case atStart => exact ⟨n, [], rfl, rfl, rfl, Lib.hid (digZ_start (by omega)), Lib.hid ⟨fun h => h, fun h => by omega⟩, ⟨h0, h1⟩, Bel.refl _⟩
  case round =>
    obtain ⟨xi, l, hf, rfl, rfl, HL, HS, ⟨x0, x1⟩, Y⟩ := hrel
    have HF := Lib.hid hf
    clear hf
    have hlen : l.length ≤ 20 := by
      have := congrArg List.length HL.out
      rw [List.length_append, Lib.decDigits_length] at this
      have := Lib.nDigits_le20 n.natAbs (by omega)
      omega
    by_cases hx : xi = 0
    · subst hx
      have HE : Hid (l = Lib.decDigits n.natAbs) := Lib.hid (digZ_end HL.out)
      by_cases hn : n < 0
      · go_wp2
        go_ret
        refine ⟨?_, Y⟩
        rw [HE.out]
        have := Lib.itoa_neg n.natAbs (by omega)
        rw [show -(n.natAbs : Int) = n by omega] at this
        rw [this]
        rfl
      · have hn0 : 0 ≤ n := by omega
        go_wp2
        go_ret
        refine ⟨?_, Y⟩
        rw [HE.out]
        have := Lib.itoa_nonneg n.natAbs
        rw [show (n.natAbs : Int) = n by omega] at this
        rw [this]
        rfl
    · have hne : (xi != 0) = true := by simpa using hx
      by_cases hp : 0 < xi
      · have htm : xi.tmod 10 = xi % 10 := Int.tmod_eq_emod_of_nonneg (by omega)
        have htd : xi.tdiv 10 = xi / 10 := Int.tdiv_eq_ediv_of_nonneg (by omega)
        have hcv := digRun wr 5 (xi % 10) (by omega) (by omega)
        have m0 : 0 ≤ xi % 10 := by omega
        have m1 : xi % 10 < 10 := by omega
        have HN : Hid ((xi / 10).natAbs = xi.natAbs / 10 ∧ (xi % 10).toNat = xi.natAbs % 10) := Lib.hid ⟨by omega, by omega⟩
        go_wp2
        go_roundg (xi / 10).natAbs
        case measure => have := HF.out; have := HN.out; omega
        case rel =>
          have HNo := HN.out
          exact ⟨xi / 10, UInt8.ofNat (48 + xi.natAbs % 10) :: l, rfl, by go_num, by rw [← HNo.2]; exact congrArg Value.string (catB1 _ _), Lib.hid (by rw [HNo.1]; exact digZ_round (by omega) HL.out), Lib.hid ⟨fun h => by have := HS.out.1 h; omega, fun h => by have := HS.out.2 h; omega⟩, ⟨by omega, by omega⟩, Y.alloc _⟩
      · have hmn : (xi.tmod 10).natAbs = xi.natAbs % 10 := tmod_abs xi
        have hms : xi.tmod 10 ≤ 0 := by
          have h2 : xi.tmod 10 = -((-xi).tmod 10) := by rw [Int.neg_tmod]; omega
          have h3 : (-xi).tmod 10 = (-xi) % 10 := Int.tmod_eq_emod_of_nonneg (by omega)
          omega
        have HN : Hid ((xi.tdiv 10).natAbs = xi.natAbs / 10 ∧ (-(xi.tmod 10)).toNat = xi.natAbs % 10) := Lib.hid ⟨tdiv_abs xi, by omega⟩
        have hcv := digRun wr 5 (-(xi.tmod 10)) (by omega) (by omega)
        have m0 : 0 ≤ -(xi.tmod 10) := by omega
        have m1 : -(xi.tmod 10) < 10 := by omega
        clear hmn
        have q0 : -9223372036854775808 ≤ xi.tdiv 10 ∧ xi.tdiv 10 ≤ 0 := by
          have h2 : xi.tdiv 10 = -((-xi).tdiv 10) := by rw [Int.neg_tdiv]; omega
          have h3 : (-xi).tdiv 10 = (-xi) / 10 := Int.tdiv_eq_ediv_of_nonneg (by omega)
          omega
        by_cases hm : xi.tmod 10 < 0
        · clear hms
          go_wp2
          go_roundg (xi.tdiv 10).natAbs
          case measure => have := HF.out; have := HN.out; omega
          case rel =>
            have HNo := HN.out
            exact ⟨xi.tdiv 10, UInt8.ofNat (48 + xi.natAbs % 10) :: l, rfl, by go_num, by rw [← HNo.2]; exact congrArg Value.string (catB1 _ _), Lib.hid (by rw [HNo.1]; exact digZ_round (by omega) HL.out), Lib.hid ⟨fun h => by have := HS.out.1 h; omega, fun h => by have := HS.out.2 h; omega⟩, ⟨by omega, by omega⟩, Y.alloc _⟩
        · have hm0 : xi.tmod 10 = 0 := by omega
          have hcv := digRun0 wr 5
          clear hms
          go_wp2
          go_roundg (xi.tdiv 10).natAbs
          case measure => have := HF.out; have := HN.out; omega
          case rel =>
            have HNo := HN.out
            exact ⟨xi.tdiv 10, UInt8.ofNat (48 + xi.natAbs % 10) :: l, rfl, by go_num, by rw [← HNo.2, hm0]; exact congrArg Value.string (catB _ _), Lib.hid (by rw [HNo.1]; exact digZ_round (by omega) HL.out), Lib.hid ⟨fun h => by have := HS.out.1 h; omega, fun h => by have := HS.out.2 h; omega⟩, ⟨by omega, by omega⟩, Y.alloc _⟩
end Go.Proofs.YtgdainjconfnfaaDoor
