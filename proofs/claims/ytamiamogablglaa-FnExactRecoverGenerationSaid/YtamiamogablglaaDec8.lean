/-
  CountDecoded: contracts of the program's function and of the reference's. No condition.
-/
import Derived.Test.YtamiamogablglaaDec7
namespace Go.Proofs.Ytamiamogablglaa
open Go.ChangeShapes Go.WideShapes Go.ChangeAt Go.RowKit
set_option linter.unusedVariables false
set_option maxRecDepth 100000

/-- How many of the numbers below n meet p. -/
def cntN (p : Nat → Bool) : Nat → Nat
  | 0 => 0
  | k + 1 => cntN p k + (if p k = true then 1 else 0)
theorem cntN_le (p : Nat → Bool) : ∀ k, cntN p k ≤ k
  | 0 => Nat.le_refl _
  | k + 1 => by have := cntN_le p k; unfold cntN; split <;> omega
theorem cntN_yes {p : Nat → Bool} {k : Nat} (h : p k = true) : cntN p (k + 1) = cntN p k + 1 := by show cntN p k + (if p k = true then 1 else 0) = _; rw [if_pos h]
theorem cntN_no {p : Nat → Bool} {k : Nat} (h : p k = false) : cntN p (k + 1) = cntN p k := by show cntN p k + (if p k = true then 1 else 0) = _; rw [if_neg (by rw [h]; decide)]; rfl
theorem cntN_zero {p : Nat → Bool} (h : ∀ k, p k = false) : ∀ n, cntN p n = 0
  | 0 => rfl
  | n + 1 => by rw [cntN_no (h n)]; exact cntN_zero h n
def cntZ (a b c d : Int) (m : List (List Int)) : Nat := if decB a b c d m = true then cntN (fun i => (dsymZ a b c d m (i : Int)).isSome) b.toNat else 0
theorem cntZ_impl (a b c d : Int) (m : List (List Int)) : cntZ a b c d m = cntN (fun i => (dsymZ a b c d m (i : Int)).isSome) (min b 8).toNat := by
  unfold cntZ
  split
  · rename_i h
    obtain ⟨_, f2, _⟩ := fmtB_facts (decB_facts h).1
    rw [show min b 8 = b by omega]
  · rename_i h
    rw [cntN_zero (fun k => by rw [dsymZ_no (fun q => h q.1)]; rfl)]

set_option maxHeartbeats 2000000 in
theorem cntI (a b c d : Int) (v : Value) (m : List (List Int)) (w : World) (hv : RII w v m) (hb : -9223372036854775808 ≤ b ∧ b ≤ 9223372036854775807) :
    Calls Try.prog 28 #[.agg #[.int .i64 a, .int .i64 b, .int .i64 c, .int .i64 d, v]] w fun e w' => e = .returned (.int .i64 (cntZ a b c d m : Int)) ∧ Bel w w' := by
  have HM := Lib.hid (cntZ_impl a b c d m)
  obtain ⟨A, cp, rfl, h2, h3, hA⟩ := id hv
  have X := Blk.new w 31 #[.int .i64 a, .int .i64 b, .int .i64 c, .int .i64 d, .slice A m.length cp]
  have Y : Bel w (w.alloc (.cells #[.int .i64 a, .int .i64 b, .int .i64 c, .int .i64 d, .slice A m.length cp] 31)) := (Bel.refl _).alloc _
  obtain ⟨n, hn⟩ : ∃ n : Nat, n = (min b 8).toNat := ⟨_, rfl⟩
  have HN := Lib.hid hn
  have n8 : n ≤ 8 := by omega
  obtain ⟨q, hq⟩ : ∃ q : Int, q = min b 8 := ⟨_, rfl⟩
  have HQ : Hid (q = min b 8) := hq
  have q2 : (q : Int) ≤ 8 := by omega
  have HR : Hid (∀ k : Nat, ((k : Int) < q ↔ k < n)) := Lib.hid (fun k => by omega)
  rw [← hn] at HM
  clear hn hq
  go_enter Try.func28, Try.ntmps28
  go_wp2
  rw [← HQ.out]
  go_loopg [3, 10] n (fun f o i wr => ∃ k : Nat, k + f = n ∧ i = .int .i64 k ∧ o = .int .i64 (cntN (fun i => (dsymZ a b c d m (i : Int)).isSome) k : Int) ∧ Blk wr w.heap.size 31 #[.int .i64 a, .int .i64 b, .int .i64 c, .int .i64 d, .slice A m.length cp] ∧ Bel w wr)
  case atStart => exact ⟨0, by omega, rfl, rfl, X, Y⟩
  case round =>
    clear X Y
    obtain ⟨k, hk, rfl, rfl, X, Y⟩ := hrel
    have hk2 : k ≤ n := by omega
    have HK := Lib.hid hk
    clear hk
    have hc := cntN_le (fun i => (dsymZ a b c d m (i : Int)).isSome) k
    obtain ⟨cc, _, zx⟩ := X.facts
    by_cases hlt : k < n
    · have i1 : (k : Int) < q := (HR.out k).2 hlt
      go_wp2_with fail
      refine (dsymI a b c d (k : Int) _ m _ (hv.keep Y)).mono ?_
      rintro e w1 ⟨r, rfl, Or, hb1⟩
      have X1 := hb1.keep X
      have Y1 := Y.trans hb1
      cases p : (dsymZ a b c d m (k : Int)).isSome
      · have HC := Lib.hid (cntN_no (p := fun i => (dsymZ a b c d m (i : Int)).isSome) (k := k) p)
        go_wp2
        go_roundg (n - (k + 1))
        case measure => have := HK.out; omega
        case rel => exact ⟨k + 1, by omega, by go_num, by rw [HC.out], X1, Y1⟩
      · have HC := Lib.hid (cntN_yes (p := fun i => (dsymZ a b c d m (i : Int)).isSome) (k := k) p)
        go_wp2
        go_roundg (n - (k + 1))
        case measure => have := HK.out; omega
        case rel => exact ⟨k + 1, by omega, by go_num, by rw [HC.out]; go_num, X1, Y1⟩
    · obtain rfl : k = n := by omega
      have i1 : ¬ (k : Int) < q := fun h => hlt ((HR.out k).1 h)
      clear hlt
      go_wp2
      go_ret
      exact ⟨by rw [HM.out]; rfl, Y⟩
set_option maxHeartbeats 2000000 in
theorem cntS (a b c d : Int) (v : Value) (m : List (List Int)) (w : World) (hv : RII w v m) (hb : -9223372036854775808 ≤ b ∧ b ≤ 9223372036854775807) :
    Calls Try.prog 27 #[.agg #[.int .i64 a, .int .i64 b, .int .i64 c, .int .i64 d, v]] w fun e w' => e = .returned (.int .i64 (cntZ a b c d m : Int)) ∧ Bel w w' := by
  have HM : Hid (cntZ a b c d m = if decB a b c d m = true then cntN (fun i => (dsymZ a b c d m (i : Int)).isSome) b.toNat else 0) := rfl
  obtain ⟨A, cp, rfl, h2, h3, hA⟩ := id hv
  have X := Blk.new w 31 #[.int .i64 a, .int .i64 b, .int .i64 c, .int .i64 d, .slice A m.length cp]
  have Y : Bel w (w.alloc (.cells #[.int .i64 a, .int .i64 b, .int .i64 c, .int .i64 d, .slice A m.length cp] 31)) := (Bel.refl _).alloc _
  have DC := Lib.hid (fun (W : World) (h : Bel w W) => decS a b c d _ m W (hv.keep h))
  cases q1 : decB a b c d m
  · rw [q1] at DC
    obtain ⟨cc, _, zx⟩ := X.facts
    go_enter Try.func27, Try.ntmps27
    go_wp2
    refine wp_loop_rounds 1 ?_
    rw [rounds_succ]
    by_cases hb0 : (0 : Int) < b
    · go_wp2_with fail
      refine (DC.out _ Y).mono ?_
      rintro e w1 ⟨rfl, hb1⟩
      go_wp2
      go_ret
      exact ⟨by rw [HM.out, q1]; rfl, Y.trans hb1⟩
    · have hd : decide ((0 : Int) < b) = false := decide_eq_false hb0
      go_wp2
      go_ret
      exact ⟨by rw [HM.out, q1]; rfl, Y⟩
  rw [q1] at DC
  obtain ⟨_, f2, _⟩ := fmtB_facts (decB_facts q1).1
  rw [q1, if_pos rfl] at HM
  obtain ⟨n, rfl⟩ : ∃ n : Nat, b = (n : Int) := Int.eq_ofNat_of_zero_le (by omega)
  rw [Int.toNat_natCast] at HM
  go_enter Try.func27, Try.ntmps27
  go_wp2
  go_loopg [3, 4] n (fun f o i wr => ∃ k : Nat, k + f = n ∧ i = .int .i64 k ∧ o = .int .i64 (cntN (fun i => (dsymZ a (n : Int) c d m (i : Int)).isSome) k : Int) ∧ Blk wr w.heap.size 31 #[.int .i64 a, .int .i64 (n : Int), .int .i64 c, .int .i64 d, .slice A m.length cp] ∧ Bel w wr)
  case atStart => exact ⟨0, by omega, rfl, rfl, X, Y⟩
  case round =>
    clear X Y q1
    obtain ⟨k, hk, rfl, rfl, X, Y⟩ := hrel
    have hk2 : k ≤ n := by omega
    have HK := Lib.hid hk
    clear hk
    have hc := cntN_le (fun i => (dsymZ a (n : Int) c d m (i : Int)).isSome) k
    obtain ⟨cc, _, zx⟩ := X.facts
    by_cases hlt : k < n
    · have i1 : (k : Int) < (n : Int) := by omega
      go_wp2_with fail
      refine (DC.out _ Y).mono ?_
      rintro e w0 ⟨rfl, hb0⟩
      have X0 := hb0.keep X
      have Y0 := Y.trans hb0
      clear cc
      obtain ⟨cc, _, zx0⟩ := X0.facts
      go_wp2_with fail
      refine (dsymS a (n : Int) c d (k : Int) _ m _ (hv.keep Y0)).mono ?_
      rintro e w1 ⟨r, rfl, Or, hb1⟩
      have X1 := hb1.keep X0
      have Y1 := Y0.trans hb1
      cases p : (dsymZ a (n : Int) c d m (k : Int)).isSome
      · have HC := Lib.hid (cntN_no (p := fun i => (dsymZ a (n : Int) c d m (i : Int)).isSome) (k := k) p)
        go_wp2
        go_roundg (n - (k + 1))
        case measure => have := HK.out; omega
        case rel => exact ⟨k + 1, by omega, by go_num, by rw [HC.out], X1, Y1⟩
      · have HC := Lib.hid (cntN_yes (p := fun i => (dsymZ a (n : Int) c d m (i : Int)).isSome) (k := k) p)
        go_wp2
        go_roundg (n - (k + 1))
        case measure => have := HK.out; omega
        case rel => exact ⟨k + 1, by omega, by go_num, by rw [HC.out]; go_num, X1, Y1⟩
    · obtain rfl : k = n := by omega
      have i1 : ¬ (k : Int) < (k : Int) := by omega
      have hd : decide ((k : Int) < (k : Int)) = false := decide_eq_false i1
      go_wp2
      go_ret
      exact ⟨by rw [HM.out]; rfl, Y⟩
end Go.Proofs.Ytamiamogablglaa
