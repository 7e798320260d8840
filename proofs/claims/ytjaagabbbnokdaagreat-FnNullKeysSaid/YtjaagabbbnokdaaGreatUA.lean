/-
  RandomNumber and RandomVector: contracts of the program's functions and of the reference's. Condition: a limit from 1 to 10^12.
  RandomVector: contracts of the program's function and of the reference's. Condition: a width from 1 to 40.
-/
import Derived.Test.YtjaagabbbnokdaaGreatTC
import Derived.Test.YtjaagabbbnokdaaGreatMx1
import Derived.Deep.RegionLaw
import Derived.Test.YtjaagabbbnokdaaGreatTA
namespace Go.Proofs.YtjaagabbbnokdaaGreat
open Go.ChangeShapes Go.WideShapes Go.ChangeAt Go.RowKit
set_option linter.unusedVariables false
set_option maxRecDepth 100000

def rndZ (s i l : Int) : Int := khZ s [i, 71] * khZ s [i, 71] % 2147483647 % l
theorem rndZ_bd (s i l : Int) (hl : 1 ≤ l) : 0 ≤ rndZ s i l ∧ rndZ s i l < l := ⟨Int.emod_nonneg _ (by omega), Int.emod_lt_of_pos _ (by omega)⟩
theorem khZ_bd (s : Int) (xs : List Int) : 0 ≤ khZ s xs ∧ khZ s xs < 2147483647 := hsh_bd _
theorem sq_bd {h : Int} (hb : 0 ≤ h ∧ h < 2147483647) : 0 ≤ h * h ∧ h * h ≤ 4611686014132420609 := by
  refine ⟨Int.mul_nonneg hb.1 hb.1, ?_⟩
  have := Int.mul_le_mul (show h ≤ 2147483647 by omega) (show h ≤ 2147483647 by omega) hb.1 (by omega)
  omega
set_option maxHeartbeats 1000000 in
theorem rndI (s i l : Int) (w : World) (hs : -9223372036854775808 ≤ s ∧ s ≤ 9223372036854775807) (hi : -9223372036854775808 ≤ i ∧ i ≤ 9223372036854775807) (hl : 1 ≤ l ∧ l ≤ 1000000000000) :
    Calls Tryz.prog 81 #[.int .i64 s, .int .i64 i, .int .i64 l] w fun e w' => e = .returned (.int .i64 (rndZ s i l)) ∧ Bel w w' := by
  have HR : Hid (rndZ s i l = khZ s [i, 71] * khZ s [i, 71] % 2147483647 % l) := rfl
  have O := OI.lit (w := w.alloc (.cells #[.int .i64 i, .int .i64 71] 3)) (base := w.heap.size) (g := w.heap.size) (xs := [i, 71]) (Blk.new w _ _) (Nat.le_refl _) (by simp)
  have Y : Bel w (w.alloc (.cells #[.int .i64 i, .int .i64 71] 3)) := (Bel.refl _).alloc _
  have hkb := khZ_bd s [i, 71]
  have hsq := sq_bd hkb
  have HO := Lib.hid O.reads
  clear O
  go_enter Tryz.func81, Tryz.ntmps81
  go_wp2_with fail
  refine (inR_yes l 1 1000000000000 _ hl.1 hl.2).mono ?_
  rintro e w1 ⟨rfl, rfl⟩
  go_wp2_with fail
  refine (khI s _ [i, 71] _ HO.out (by simp) hs (fun x hx => by simp at hx; rcases hx with rfl | rfl <;> omega)).mono ?_
  rintro e w2 ⟨rfl, hb2⟩
  generalize khZ s [i, 71] = h at *
  have Y2 := Y.trans hb2
  obtain ⟨z, hz⟩ : ∃ z, z = h * h := ⟨_, rfl⟩
  rw [← hz] at hsq
  have hm1 : 0 ≤ z % 2147483647 ∧ z % 2147483647 < 2147483647 := ⟨Int.emod_nonneg _ (by omega), Int.emod_lt_of_pos _ (by omega)⟩
  have hw : wrap64 (h * h) = z := by rw [← hz]; unfold wrap64; omega
  go_wp2
  go_ret
  refine ⟨?_, Y2⟩
  rw [HR.out, ← hz]
  rfl
set_option maxHeartbeats 1000000 in
theorem rndS (s i l : Int) (w : World) (hs : -9223372036854775808 ≤ s ∧ s ≤ 9223372036854775807) (hi : -9223372036854775808 ≤ i ∧ i ≤ 9223372036854775807) (hl : 1 ≤ l ∧ l ≤ 1000000000000) :
    Calls Tryz.prog 75 #[.int .i64 s, .int .i64 i, .int .i64 l] w fun e w' => e = .returned (.int .i64 (rndZ s i l)) ∧ Bel w w' := by
  have HR : Hid (rndZ s i l = khZ s [i, 71] * khZ s [i, 71] % 2147483647 % l) := rfl
  have O := OI.lit (w := w.alloc (.cells #[.int .i64 i, .int .i64 71] 3)) (base := w.heap.size) (g := w.heap.size) (xs := [i, 71]) (Blk.new w _ _) (Nat.le_refl _) (by simp)
  have Y : Bel w (w.alloc (.cells #[.int .i64 i, .int .i64 71] 3)) := (Bel.refl _).alloc _
  have hkb := khZ_bd s [i, 71]
  have hsq := sq_bd hkb
  have HO := Lib.hid O.reads
  clear O
  go_enter Tryz.func75, Tryz.ntmps75
  go_wp2_with fail
  refine (l1In_yes l 1 1000000000000 _ hl.1 hl.2).mono ?_
  rintro e w1 ⟨rfl, rfl⟩
  go_wp2_with fail
  refine (khS s _ [i, 71] _ HO.out (by simp) hs (fun x hx => by simp at hx; rcases hx with rfl | rfl <;> omega)).mono ?_
  rintro e w2 ⟨rfl, hb2⟩
  generalize khZ s [i, 71] = h at *
  have Y2 := Y.trans hb2
  obtain ⟨z, hz⟩ : ∃ z, z = h * h := ⟨_, rfl⟩
  rw [← hz] at hsq
  have hm1 : 0 ≤ z % 2147483647 ∧ z % 2147483647 < 2147483647 := ⟨Int.emod_nonneg _ (by omega), Int.emod_lt_of_pos _ (by omega)⟩
  have hw : wrap64 (h * h) = z := by rw [← hz]; unfold wrap64; omega
  go_wp2
  go_ret
  refine ⟨?_, Y2⟩
  rw [HR.out, ← hz]
  rfl
end Go.Proofs.YtjaagabbbnokdaaGreat

namespace Go.Proofs.YtjaagabbbnokdaaGreat
open Go.ChangeShapes Go.WideShapes Go.ChangeAt Go.RowKit
set_option linter.unusedVariables false
set_option maxRecDepth 100000

def rvR (s : Int) (n : Nat) : List Int := (List.range n).map fun (i : Nat) => rndZ s (i : Int) 1019
def rvZ (s : Int) (n : Nat) : List Int := if lead (rvR s n) < (rvR s n).length then rvR s n else (rvR s n).set 0 1
theorem rvR_len (s : Int) (n : Nat) : (rvR s n).length = n := by simp [rvR]
theorem rvR_at (s : Int) {n i : Nat} (h : i < n) : (rvR s n)[i]? = some (rndZ s (i : Int) 1019) := by simp [rvR, h]
theorem rvR_row (s : Int) (n : Nat) : Row n (rvR s n) := ⟨rvR_len s n, fun x hx => by
  obtain ⟨i, _, rfl⟩ := List.mem_map.1 hx
  have := rndZ_bd s (i : Int) 1019 (by omega)
  omega⟩
theorem rvZ_row (s : Int) (n : Nat) : Row n (rvZ s n) := by
  unfold rvZ
  split
  · exact rvR_row s n
  · refine ⟨by rw [List.length_set]; exact rvR_len s n, fun x hx => ?_⟩
    rcases List.mem_or_eq_of_mem_set hx with h | h
    · exact (rvR_row s n).2 x h
    · omega
theorem rvZ_yes {s : Int} {n : Nat} (h : lead (rvR s n) < (rvR s n).length) : rvZ s n = rvR s n := if_pos h
theorem rvZ_no {s : Int} {n : Nat} (h : ¬ lead (rvR s n) < (rvR s n).length) : rvZ s n = (rvR s n).set 0 1 := if_neg h
set_option maxHeartbeats 1000000 in
theorem rvI (s : Int) (n : Nat) (w : World) (hs : -9223372036854775808 ≤ s ∧ s ≤ 9223372036854775807) (h1 : 1 ≤ n) (h4 : n ≤ 40) :
    Calls Tryz.prog 40 #[.int .i64 s, .int .i64 (n : Int)] w fun e w' => ∃ r, e = .returned r ∧ OI w' w.heap.size r (rvZ s n) ∧ Bel w w' := by
  have HS := Lib.hid hs
  have hmk := mkInts n (by omega)
  have O := OI.made w n (by omega)
  have Y : Bel w (w.alloc (.cells (madeCells #[.int .i64 0] n) 3)) := (Bel.refl w).alloc _
  have HL : Hid ((rvR s n).length = (List.replicate n (0 : Int)).length) := Lib.hid (by rw [rvR_len]; simp)
  have HRL := Lib.hid (rvR_len s n)
  have hz := mixK_zero (List.replicate n (0 : Int)) (rvR s n)
  rw [← hz] at O
  clear hs hz
  generalize madeCells #[.int .i64 0] n = C at *
  go_enter Tryz.func40, Tryz.ntmps40
  go_wp2_with fail
  refine (inR_yes (n : Int) 1 40 _ (by omega) (by omega)).mono ?_
  rintro e w1 ⟨rfl, rfl⟩
  go_wp2
  clear hmk
  go_loopg [14] n (fun f i wr => ∃ k : Nat, k + f = n ∧ i = .int .i64 k ∧ OI wr w.heap.size (.slice (some ⟨w.heap.size, 0, none⟩) n n) (mixK (List.replicate n (0 : Int)) (rvR s n) k) ∧ Bel w wr)
  case atStart => exact ⟨0, by omega, rfl, O, Y⟩
  case round =>
    clear O Y
    obtain ⟨k, hk, rfl, O, Y⟩ := hrel
    have hk2 : k ≤ n := by omega
    have HK := Lib.hid hk
    clear hk
    by_cases hlt : k < n
    · have i0 : (0 : Int) ≤ (k : Int) := by omega
      have i1 : (k : Int) < (n : Int) := by omega
      have HST := Lib.hid (mixK_step HL.out (rvR_at s hlt))
      go_wp2_with fail
      refine (rndI s (k : Int) 1019 _ HS.out (by omega) (by omega)).mono ?_
      rintro e w2 ⟨rfl, hb2⟩
      have O2 := O.keep hb2
      have Y2 := Y.trans hb2
      have O3 := O2.store (i := k) hlt (rndZ s (k : Int) 1019)
      rw [HST.out] at O3
      obtain ⟨g', cap', e', _, zg, _, _, fz, cs⟩ := O2.cells (by rw [mixK_len HL.out]; simp; omega)
      injection e' with e1 e2 e3
      injection e1 with e1
      injection e1 with e1
      subst e1
      clear e2 e3 O2
      have f1 := fz k
      have c1 := cs k _ ((mixK_at HL.out (by simp; exact hlt)).trans (show (List.replicate n (0 : Int))[k]? = some 0 by simp [hlt]))
      have Y3 := Y2.setCell (p := ⟨w.heap.size, k, none⟩) (Nat.le_refl _) (.int .i64 (rndZ s (k : Int) 1019))
      clear cs fz
      generalize rndZ s (k : Int) 1019 = z at *
      go_wp2
      go_roundg (n - (k + 1))
      case measure => have := HK.out; omega
      case rel => exact ⟨k + 1, by omega, by go_num, O3, Y3⟩
    · obtain rfl : k = n := by omega
      have i1 : ¬ (k : Int) < (k : Int) := by omega
      have HA := Lib.hid (mixK_all HL.out)
      rw [List.length_replicate] at HA
      rw [HA.out] at O
      go_wp2_with fail
      have RR := O.reads
      refine (leadI _ (rvR s k) _ (by exact RR)).mono ?_
      rintro e w2 ⟨rfl, rfl⟩
      by_cases hin : lead (rvR s k) < (rvR s k).length
      · have hld : decide ((lead (rvR s k) : Int) < 0) = false := decide_eq_false (by omega)
        rw [leadV_yes hin]
        have HY := Lib.hid (rvZ_yes hin)
        go_wp2
        go_ret
        exact ⟨_, rfl, by rw [HY.out]; exact O, Y⟩
      · rw [leadV_no hin]
        have HY := Lib.hid (rvZ_no hin)
        have O3 := O.store (i := 0) (by omega) 1
        obtain ⟨g', cap', e', _, zg, _, _, fz, cs⟩ := O.cells (by rw [HRL.out]; omega)
        injection e' with e1 e2 e3
        injection e1 with e1
        injection e1 with e1
        subst e1
        have f1 := fz 0
        have c1 := cs 0 _ (rvR_at s (by omega))
        have i5 : (0 : Int) < (k : Int) := by omega
        have Y3 := Y.setCell (p := ⟨w.heap.size, 0, none⟩) (Nat.le_refl _) (.int .i64 1)
        clear cs fz e2 e3 hin
        go_wp2
        go_ret
        exact ⟨_, rfl, by rw [HY.out]; exact O3, Y3⟩
set_option maxHeartbeats 1000000 in
theorem rvS (s : Int) (n : Nat) (w : World) (hs : -9223372036854775808 ≤ s ∧ s ≤ 9223372036854775807) (h1 : 1 ≤ n) (h4 : n ≤ 40) :
    Calls Tryz.prog 33 #[.int .i64 s, .int .i64 (n : Int)] w fun e w' => ∃ r, e = .returned r ∧ OI w' w.heap.size r (rvZ s n) ∧ Bel w w' := by
  have HS := Lib.hid hs
  have HRL := Lib.hid (rvR_len s n)
  have Y0 : Bel w (w.alloc (.cells #[] 3)) := (Bel.refl _).alloc _
  clear hs
  go_enter Tryz.func33, Tryz.ntmps33
  go_wp2
  go_loopg [5, 6] n (fun f o i wr => ∃ k : Nat, k + f = n ∧ i = .int .i64 k ∧ OI wr w.heap.size o ((rvR s n).take k) ∧ Bel w wr)
  case atStart => exact ⟨0, by omega, rfl, OI.empty w, Y0⟩
  case round =>
    clear Y0
    obtain ⟨k, hk, rfl, O, Y⟩ := hrel
    have hk2 : k ≤ n := by omega
    have HK := Lib.hid hk
    clear hk
    by_cases hlt : k < n
    · have i0 : (0 : Int) ≤ (k : Int) := by omega
      have i1 : (k : Int) < (n : Int) := by omega
      have HT := Lib.hid (take_snoc (rvR_at s hlt))
      have hlen : ((rvR s n).take k).length ≤ 40 := by rw [List.length_take]; omega
      go_wp2_with fail
      refine (l1In_yes (n : Int) 1 40 _ (by omega) (by omega)).mono ?_
      rintro e w1 ⟨rfl, rfl⟩
      go_wp2_with fail
      refine (rndS s (k : Int) 1019 _ HS.out (by omega) (by omega)).mono ?_
      rintro e w2 ⟨rfl, hb2⟩
      have O2 := O.keep hb2
      have Y2 := Y.trans hb2
      have y2 := Y2.size
      generalize rndZ s (k : Int) 1019 = z at *
      go_wp2_with (at_builtin; refine wpList_appI _ rfl _ _ rfl w.heap.size _ _ _ [z] rfl rfl (O2.keep ((Bel.refl _).alloc _)) (RI.lit1 _ _ _) (by simp only [List.length_cons, List.length_nil]; omega) (by simp only [World.size_alloc]; omega) ?_)
      intro v4 w4 O4 hG
      have Y4 : Bel w w4 := (Y2.alloc _).grown hG (fun p hp => (O2.block p hp).1)
      rw [← HT.out] at O4
      clear hG
      go_wp2
      go_roundg (n - (k + 1))
      case measure => have := HK.out; omega
      case rel => exact ⟨k + 1, by omega, by go_num, O4, Y4⟩
    · obtain rfl : n = k := by omega
      have i1 : ¬ (n : Int) < (n : Int) := by omega
      have HTK : Hid ((rvR s n).take n = rvR s n) := Lib.hid (List.take_of_length_le (by rw [HRL.out]; exact Nat.le_refl _))
      rw [HTK.out] at O
      obtain ⟨g, cap, ev, g1, g2, g3, g4, fz, cs⟩ := O.cells (by rw [HRL.out]; omega)
      rw [HRL.out] at ev
      subst ev
      have RR := Lib.hid (show RI wr (.slice (some ⟨g, 0, none⟩) n cap) (rvR s n) from O.reads)
      have f1 := fz 0
      have c1 := cs 0 _ (rvR_at s (by omega))
      have i5 : (0 : Int) < (n : Int) := by omega
      clear cs fz
      go_wp2_with fail
      refine (leadS _ (rvR s n) _ RR.out).mono ?_
      rintro e w2 ⟨rfl, rfl⟩
      by_cases hin : lead (rvR s n) < (rvR s n).length
      · have hld : decide ((lead (rvR s n) : Int) < 0) = false := decide_eq_false (by omega)
        rw [leadV_yes hin]
        have HY := Lib.hid (rvZ_yes hin)
        clear hin
        go_wp2
        go_ret
        exact ⟨_, rfl, by rw [HY.out]; exact O, Y⟩
      · rw [leadV_no hin]
        have HY := Lib.hid (rvZ_no hin)
        have O3 := O.store (i := 0) (by omega) 1
        have Y3 := Y.setCell (p := ⟨g, 0, none⟩) g1 (.int .i64 1)
        clear hin
        go_wp2
        go_ret
        exact ⟨_, rfl, by rw [HY.out]; exact O3, Y3⟩
end Go.Proofs.YtjaagabbbnokdaaGreat
