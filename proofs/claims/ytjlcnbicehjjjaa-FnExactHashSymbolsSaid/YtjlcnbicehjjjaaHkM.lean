/-
  Marks in hash keys: contracts of the laws' helpers markHashKey, heldHashKey. Nothing else of the program is run here.
-/
import Derived.Test.YtjlcnbicehjjjaaOwn
namespace Go.Proofs.Ytjlcnbicehjjjaa
open Go.ChangeShapes Go.WideShapes Go.ChangeAt Go.RowKit
set_option linter.unusedVariables false
set_option maxRecDepth 100000

set_option maxHeartbeats 1000000 in
theorem mkHkey (v : Value) (k : Int) (xs : List Int) (lo hi : Nat) (w : World) (h : Loc lo hi (fun u => OIn u lo hi v xs) w) (h0 : 0 ≤ k) (hk : k + xs.length ≤ 4611686018427387904) :
    Calls Try.prog 13 #[.agg #[v], .int .i64 k] w fun e w' => e = .returned (.int .i64 (k + xs.length)) ∧ Loc lo hi (fun u => OIn u lo hi v (marks k xs.length)) w' ∧ Mid lo hi w w' := by
  have Y : Bel w (w.alloc (.cells #[v] 24)) := (Bel.refl _).alloc _
  have hl := h.1
  have hh := h.2.1
  have H1 := Lib.hid (h.keep Y).out
  obtain ⟨A, c, rfl, _, _, _⟩ := h.out.1.reads
  clear h
  go_enter Try.func13, Try.ntmps13
  go_wp2_with fail
  refine (mkIn _ k xs lo hi _ H1.out hl (Nat.le_trans hh Y.size) h0 hk).mono ?_
  rintro e w1 ⟨rfl, L1, M1⟩
  go_wp2
  go_ret
  exact ⟨rfl, L1, (Mid.ofBel Y).trans M1⟩
set_option maxHeartbeats 1000000 in
theorem hdHkey (v : Value) (k : Int) (n : Nat) (w : World) (h : RI w v (marks k n)) (h0 : 0 ≤ k) (hk : k + n ≤ 4611686018427387904) :
    Calls Try.prog 14 #[.agg #[v], .int .i64 k] w fun e w' => e = .returned (.int .i64 (k + n)) ∧ Bel w w' := by
  have Y : Bel w (w.alloc (.cells #[v] 24)) := (Bel.refl _).alloc _
  have H1 := Lib.hid (h.keep Y)
  obtain ⟨A, c, rfl, _, _, _⟩ := h
  have hd : decide (k + (n : Int) < 0) = false := by simp; omega
  go_enter Try.func14, Try.ntmps14
  go_wp2_with fail
  refine (heldInts _ k n _ H1.out h0 hk).mono ?_
  rintro e w1 ⟨rfl, rfl⟩
  go_wp2
  go_ret
  exact ⟨rfl, Y⟩
end Go.Proofs.Ytjlcnbicehjjjaa
