/-
  The laws' helpers for hash keys: contracts of szHashKey, toHashKey, eqHashKey. Condition of toHashKey: at most 2^20 elements.
-/
import Derived.Test.YtapjnaebdmdefaaVec
namespace Go.Proofs.Ytapjnaebdmdefaa
open Go.ChangeShapes Go.WideShapes Go.ChangeAt Go.RowKit
set_option linter.unusedVariables false
set_option maxRecDepth 100000

theorem OI.setFar {w : World} {base : Nat} {v : Value} {xs : List Int} (h : OI w base v xs) {p : Addr} (hp : p.block < base) (u : Value) : OI (w.setCell p u) base v xs := by
  obtain ⟨hl, h | ⟨g, cap, cur, hv, hb, hh, h1, h2, h3, h4⟩⟩ := h
  · exact ⟨hl, .inl h⟩
  · exact ⟨hl, .inr ⟨g, cap, cur, hv, hb, (Below.heap_setCell w p u g (by omega)).trans hh, h1, h2, h3, h4⟩⟩

set_option maxHeartbeats 400000 in
theorem szHk_ok (v : Value) (xs : List Int) (l : Int) (w : World) (hv : RI w v xs) (h0 : (xs.length : Int) ≤ l) (h1 : l ≤ 1048576) :
    Calls Try.prog 50 #[.agg #[v], .int .i64 l] w fun e w' => e = .returned (.int .i64 (l - xs.length)) ∧ Bel w w' := by
  have hd : decide (l - (xs.length : Int) < 0) = false := by simp; omega
  go_enter Try.func50, Try.ntmps50
  go_wp2_with fail
  refine (szI_ok v xs l _ (hv.keep ((Bel.refl _).alloc _)) h0 h1).mono ?_
  rintro e w1 ⟨rfl, rfl⟩
  go_wp2
  go_ret
  exact ⟨rfl, (Bel.refl _).alloc _⟩
set_option maxHeartbeats 400000 in
theorem szHk_no (v : Value) (xs : List Int) (l : Int) (w : World) (hv : RI w v xs) (h0 : l < (xs.length : Int)) (h1 : 0 ≤ l) (h2 : l ≤ 1048576) :
    Calls Try.prog 50 #[.agg #[v], .int .i64 l] w fun e w' => e = .returned (.int .i64 (-1)) ∧ Bel w w' := by
  go_enter Try.func50, Try.ntmps50
  go_wp2_with fail
  refine (szI_no v xs l _ (hv.keep ((Bel.refl _).alloc _)) h0 h1 h2).mono ?_
  rintro e w1 ⟨rfl, rfl⟩
  go_wp2
  go_ret
  exact ⟨rfl, (Bel.refl _).alloc _⟩
set_option maxHeartbeats 400000 in
theorem toHk (v : Value) (xs : List Int) (w : World) (hv : RI w v xs) (hn : xs.length ≤ 1048576) :
    Calls Try.prog 52 #[.agg #[v]] w fun e w' => ∃ v', e = .returned (.agg #[v']) ∧ OI w' w.heap.size v' xs ∧ Bel w w' := by
  go_enter Try.func52, Try.ntmps52
  go_wp2_with fail
  refine (toInts v xs _ (hv.keep ((((Bel.refl _).alloc _).alloc _).alloc _)) hn).mono ?_
  rintro e w1 ⟨u, rfl, O1, hb1⟩
  obtain ⟨c1, f1, z1⟩ := (hb1.keep ((Blk.new2 w _ _ _).alloc _)).facts
  obtain ⟨c2, f2, z2⟩ := (hb1.keep (Blk.new3 w _ _ _ _)).facts
  have Y1 : Bel w w1 := ((((Bel.refl _).alloc _).alloc _).alloc _).trans hb1
  obtain ⟨A, c, rfl, _, _, _⟩ := O1.reads
  go_wp2
  refine bodyPost_ret (v := .agg #[.slice A xs.length c]) (by simp [results, Try.results52, go_sem, c1]) rfl ⟨_, rfl, ?_, ?_⟩
  · simp at O1
    exact ((O1.setFar (p := ⟨w.heap.size + 2, 0, none⟩) (by simp) _).setFar (p := ⟨w.heap.size + 1, 0, none⟩) (by simp) _).low (by omega)
  · exact (Y1.setCell (p := ⟨w.heap.size + 2, 0, none⟩) (by simp) _).setCell (p := ⟨w.heap.size + 1, 0, none⟩) (by simp) _
set_option maxHeartbeats 400000 in
theorem eqHk (v u : Value) (xs ys : List Int) (w : World) (hv : RI w v xs) (hu : RI w u ys) :
    Calls Try.prog 54 #[.agg #[v], .agg #[u]] w fun e w' => e = .returned (.bool (decide (xs = ys))) ∧ Bel w w' := by
  go_enter Try.func54, Try.ntmps54
  go_wp2_with fail
  refine (eqInts_any v u xs ys _ (hv.keep (((Bel.refl _).alloc _).alloc _)) (hu.keep (((Bel.refl _).alloc _).alloc _))).mono ?_
  rintro e w1 ⟨rfl, hb1⟩
  cases hq : decide (xs = ys)
  all_goals
    go_wp2
    go_ret
    exact ⟨by rw [hq]; rfl, (((Bel.refl _).alloc _).alloc _).trans hb1⟩
end Go.Proofs.Ytapjnaebdmdefaa
