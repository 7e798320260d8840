/-
  toSendWindow, eqSendWindow: their contracts. No condition.
-/
import Derived.Test.YtelioajodmgkdaaWindow
import Derived.Test.YtelioajodmgkdaaWords
namespace Go.Proofs.Ytelioajodmgkdaa
open Go.ChangeShapes Go.WideShapes Go.ChangeAt Go.RowKit
set_option linter.unusedVariables false

set_option maxHeartbeats 400000 in
theorem toWin_any (b n d t : Int) (w : World) : Calls Try.prog 19 #[win b n d t] w fun e w' => e = .returned (win b n d t) ∧ Bel w w' := by
  go_enter Try.func19, Try.ntmps19
  go_wp2
  refine bodyPost_ret (v := win b n d t) (by simp [results, Try.results19, go_sem]) rfl ⟨rfl, ?_⟩
  repeat (first | exact Bel.refl _ | apply Bel.alloc)
set_option maxHeartbeats 400000 in
theorem eqWin_same (b n d t : Int) (w : World) : Calls Try.prog 25 #[win b n d t, win b n d t] w fun e w' => e = .returned (.bool true) ∧ Bel w w' := by
  go_enter Try.func25, Try.ntmps25
  go_wp2
  go_ret
  exact ⟨rfl, ((Bel.refl _).alloc _).alloc _⟩
end Go.Proofs.Ytelioajodmgkdaa
