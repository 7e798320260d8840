/-
  RandomNumber and RandomVector: contracts of the program's functions and of the reference's. Condition: a limit from 1 to 10^12.
-/
import Derived.Test.YtjlcnbicehjjjaaMac
import Derived.Test.YtjlcnbicehjjjaaMx1
import Derived.Deep.RegionLaw
namespace Go.Proofs.Ytjlcnbicehjjjaa
open Go.ChangeShapes Go.WideShapes Go.ChangeAt Go.RowKit
set_option linter.unusedVariables false
set_option maxRecDepth 100000

def rndZ (s i l : Int) : Int := khZ s [i, 71] * khZ s [i, 71] % 2147483647 % l
theorem rndZ_bd (s i l : Int) (hl : 1 ≤ l) : 0 ≤ rndZ s i l ∧ rndZ s i l < l := ⟨Int.emod_nonneg _ (by omega), Int.emod_lt_of_pos _ (by omega)⟩
theorem khZ_bd (s : Int) (xs : List Int) : 0 ≤ khZ s xs ∧ khZ s xs < 2147483647 := hsh_bd _
theorem sq_bd {h : Int} (hb : 0 ≤ h ∧ h < 2147483647) : 0 ≤ h * h ∧ h * h ≤ 4611686014132420609 := by
  refine ⟨Int.mul_nonneg hb.1 hb.1, ?_⟩
  have := Int.mul_le_mul (show h ≤ 2147483647 by omega) (show h ≤ 2147483647 by omega) hb.1 (by omega)
  omega
set_option maxHeartbeats 1000000 in
theorem rndI (s i l : Int) (w : World) (hs : -9223372036854775808 ≤ s ∧ s ≤ 9223372036854775807) (hi : -9223372036854775808 ≤ i ∧ i ≤ 9223372036854775807) (hl : 1 ≤ l ∧ l ≤ 1000000000000) :
    Calls Try.prog 55 #[.int .i64 s, .int .i64 i, .int .i64 l] w fun e w' => e = .returned (.int .i64 (rndZ s i l)) ∧ Bel w w' := by
  have HR : Hid (rndZ s i l = khZ s [i, 71] * khZ s [i, 71] % 2147483647 % l) := rfl
  have O := OI.lit (w := w.alloc (.cells #[.int .i64 i, .int .i64 71] 3)) (base := w.heap.size) (g := w.heap.size) (xs := [i, 71]) (Blk.new w _ _) (Nat.le_refl _) (by simp)
  have Y : Bel w (w.alloc (.cells #[.int .i64 i, .int .i64 71] 3)) := (Bel.refl _).alloc _
  have hkb := khZ_bd s [i, 71]
  have hsq := sq_bd hkb
  have HO := Lib.hid O.reads
  clear O
  go_enter Try.func55, Try.ntmps55
  go_wp2_with fail
  refine (inR_yes l 1 1000000000000 _ hl.1 hl.2).mono ?_
  rintro e w1 ⟨rfl, rfl⟩
  go_wp2_with fail
  refine (khI s _ [i, 71] _ HO.out (by simp) hs (fun x hx => by simp at hx; rcases hx with rfl | rfl <;> omega)).mono ?_
  rintro e w2 ⟨rfl, hb2⟩
  generalize khZ s [i, 71] = h at *
  have Y2 := Y.trans hb2
  obtain ⟨z, hz⟩ : ∃ z, z = h * h := ⟨_, rfl⟩
  rw [← hz] at hsq
  have hm1 : 0 ≤ z % 2147483647 ∧ z % 2147483647 < 2147483647 := ⟨Int.emod_nonneg _ (by omega), Int.emod_lt_of_pos _ (by omega)⟩
  have hw : wrap64 (h * h) = z := by rw [← hz]; unfold wrap64; omega
  go_wp2
  go_ret
  refine ⟨?_, Y2⟩
  rw [HR.out, ← hz]
  rfl
set_option maxHeartbeats 1000000 in
theorem rndS (s i l : Int) (w : World) (hs : -9223372036854775808 ≤ s ∧ s ≤ 9223372036854775807) (hi : -9223372036854775808 ≤ i ∧ i ≤ 9223372036854775807) (hl : 1 ≤ l ∧ l ≤ 1000000000000) :
    Calls Try.prog 52 #[.int .i64 s, .int .i64 i, .int .i64 l] w fun e w' => e = .returned (.int .i64 (rndZ s i l)) ∧ Bel w w' := by
  have HR : Hid (rndZ s i l = khZ s [i, 71] * khZ s [i, 71] % 2147483647 % l) := rfl
  have O := OI.lit (w := w.alloc (.cells #[.int .i64 i, .int .i64 71] 3)) (base := w.heap.size) (g := w.heap.size) (xs := [i, 71]) (Blk.new w _ _) (Nat.le_refl _) (by simp)
  have Y : Bel w (w.alloc (.cells #[.int .i64 i, .int .i64 71] 3)) := (Bel.refl _).alloc _
  have hkb := khZ_bd s [i, 71]
  have hsq := sq_bd hkb
  have HO := Lib.hid O.reads
  clear O
  go_enter Try.func52, Try.ntmps52
  go_wp2_with fail
  refine (l1In_yes l 1 1000000000000 _ hl.1 hl.2).mono ?_
  rintro e w1 ⟨rfl, rfl⟩
  go_wp2_with fail
  refine (khS s _ [i, 71] _ HO.out (by simp) hs (fun x hx => by simp at hx; rcases hx with rfl | rfl <;> omega)).mono ?_
  rintro e w2 ⟨rfl, hb2⟩
  generalize khZ s [i, 71] = h at *
  have Y2 := Y.trans hb2
  obtain ⟨z, hz⟩ : ∃ z, z = h * h := ⟨_, rfl⟩
  rw [← hz] at hsq
  have hm1 : 0 ≤ z % 2147483647 ∧ z % 2147483647 < 2147483647 := ⟨Int.emod_nonneg _ (by omega), Int.emod_lt_of_pos _ (by omega)⟩
  have hw : wrap64 (h * h) = z := by rw [← hz]; unfold wrap64; omega
  go_wp2
  go_ret
  refine ⟨?_, Y2⟩
  rw [HR.out, ← hz]
  rfl
end Go.Proofs.Ytjlcnbicehjjjaa
