/-
  Vectors in new memory: make, a store, cuts of a slice; contracts of slices.Clone, UnitVector of the program and of the reference. Conditions: at most 2^20 elements; UnitVector: the index lies in a width of at most 40.
-/
import Derived.Test.YtjlcnbicehjjjaaMx3
import Derived.Test.YtjlcnbicehjjjaaMani2
import Derived.Laws.Cover3
namespace Go.Proofs.Ytjlcnbicehjjjaa
open Go.ChangeShapes Go.WideShapes Go.ChangeAt Go.RowKit
set_option linter.unusedVariables false
set_option maxRecDepth 100000

theorem OI.made (w : World) (n : Nat) (hn : n ≤ 1099511627776) : OI (w.alloc (.cells (madeCells #[.int .i64 0] n) 3)) w.heap.size (.slice (some ⟨w.heap.size, 0, none⟩) n n) (List.replicate n 0) := by
  refine ⟨by simp, .inr ⟨w.heap.size, n, _, by simp, Nat.le_refl _, Blk.new w _ _, by simp, by unfold maxLen; omega, by rw [size_madeCells]; omega, ?_⟩⟩
  rw [toList_madeCells_one]
  simp
theorem OI.store {w : World} {base g n cap i : Nat} {xs : List Int} (h : OI w base (.slice (some ⟨g, 0, none⟩) n cap) xs) (hi : i < n) (x : Int) : OI (w.setCell ⟨g, i, none⟩ (.int .i64 x)) base (.slice (some ⟨g, 0, none⟩) n cap) (xs.set i x) := by
  obtain ⟨hl, ⟨e9, h0⟩ | ⟨g', cap', cur, e9, hb, hh, h1, h2, h3, h4⟩⟩ := h
  · cases e9
  · injection e9 with e1 e2 e3
    injection e1 with e1
    injection e1 with e1
    subst e1 e3
    unfold OI
    rw [List.length_set]
    refine ⟨by simp, .inr ⟨g, cap, cur.setIfInBounds i (.int .i64 x), by rw [e2], hb, Blk.set hh i _, h1, h2, by simpa using h3, ?_⟩⟩
    rw [Array.toList_setIfInBounds, List.take_set, h4, List.map_set]
theorem OI.cells {w : World} {base : Nat} {v : Value} {xs : List Int} (h : OI w base v xs) (h0 : 0 < xs.length) :
    ∃ g cap, v = .slice (some ⟨g, 0, none⟩) xs.length cap ∧ base ≤ g ∧ g < w.heap.size ∧ xs.length ≤ cap ∧ cap ≤ 9223372036854775807 ∧ (∀ i, w.frozen? ⟨g, i, none⟩ = false) ∧ ∀ i x, xs[i]? = some x → w.cell? ⟨g, i, none⟩ = some (.int .i64 x) := by
  obtain ⟨hl, ⟨e9, h9⟩ | ⟨g, cap, cur, rfl, hb, hh, h1, h2, h3, h4⟩⟩ := id h
  · omega
  · refine ⟨g, cap, rfl, hb, Blk.lt hh, h1, by unfold maxLen at h2; omega, (Blk.facts hh).2.1, fun i x hx => ?_⟩
    obtain ⟨A, c, e, q1, q2, q3⟩ := h.reads
    injection e with e1 e2 e3
    obtain ⟨b, off, hA, _, hc⟩ := q3 h0
    rw [hA] at e1
    injection e1 with e1
    injection e1 with e1 e4
    subst e1 e4
    have := hc i x hx
    rwa [Nat.zero_add] at this
theorem RI.take {w : World} {A : Option Addr} {n c : Nat} {xs : List Int} {t : Nat} (h : RI w (.slice A n c) xs) (ht : t ≤ n) : RI w (.slice A t c) (xs.take t) := by
  obtain ⟨B, d, e, h1, h2, h3⟩ := h
  injection e with e1 e2 e3
  subst e1 e3
  have hl : (xs.take t).length = t := by rw [List.length_take]; omega
  refine ⟨A, c, by rw [hl], by omega, h2, fun h0 => ?_⟩
  obtain ⟨b, off, hA, hb, hc⟩ := h3 (by omega)
  refine ⟨b, off, hA, hb, fun j x hx => hc j x ?_⟩
  rw [List.getElem?_take] at hx
  split at hx
  · exact hx
  · cases hx
theorem RI.drop {w : World} {b off n c : Nat} {xs : List Int} {t : Nat} (h : RI w (.slice (some ⟨b, off, none⟩) n c) xs) (ht : t < n) : RI w (.slice (some ⟨b, off + t, none⟩) (n - t) (c - t)) (xs.drop t) := by
  obtain ⟨B, d, e, h1, h2, h3⟩ := h
  injection e with e1 e2 e3
  subst e3
  have hl : (xs.drop t).length = n - t := by rw [List.length_drop, e2]
  refine ⟨_, c - t, by rw [hl], by omega, by omega, fun h0 => ?_⟩
  obtain ⟨b', off', hA, hb, hc⟩ := h3 (by omega)
  rw [hA] at e1
  injection e1 with e1
  injection e1 with e1 e4
  subst e1 e4
  refine ⟨b, off + t, rfl, hb, fun j x hx => ?_⟩
  rw [List.getElem?_drop] at hx
  have := hc (t + j) x hx
  rwa [← Nat.add_assoc] at this

theorem eqNil (a : Option Addr) (l c : Nat) (w : World) : (binOp .eql 22 (.slice a l c) (.slice none 0 0)).run Try.prog w = .ok (.bool a.isNone) w := by simp only [binOp]; simp [run_equal_slice_nil w 22 3 a l c Try.underlying22]
set_option maxHeartbeats 1000000 in
theorem cloneI (v : Value) (xs : List Int) (w : World) (hv : RI w v xs) (hn : xs.length ≤ 1048576) :
    Calls Try.prog 61 #[v] w fun e w' => ∃ r, e = .returned r ∧ OI w' w.heap.size r xs ∧ Bel w w' := by
  obtain ⟨A, c, rfl, h1, h2, hA⟩ := id hv
  cases A with
  | none =>
    have e : xs = [] := by
      cases xs with
      | nil => rfl
      | cons x xs => obtain ⟨b, o, e, _⟩ := hA (by simp); cases e
    subst e
    have q := eqNil none 0 c w
    go_enter Try.func61, Try.ntmps61
    go_wp2
    go_ret
    exact ⟨_, rfl, OI.nil _ _, Bel.refl _⟩
  | some ad =>
    have Y0 : Bel w (w.alloc (.cells #[] 3)) := (Bel.refl _).alloc _
    have hv1 := hv.keep Y0
    have q := eqNil (some ad) xs.length c w
    go_enter Try.func61, Try.ntmps61
    go_wp2_with (at_builtin; refine wpList_appI _ rfl _ _ rfl w.heap.size _ _ [] xs rfl rfl (OI.empty w) hv1 (by simp only [List.length_nil]; omega) (by simp only [World.size_alloc]; omega) ?_)
    intro v2 w2 O2 hG
    have Y2 : Bel w w2 := Y0.grown hG (fun p hp => ((OI.empty w).block p hp).1)
    go_wp2
    go_ret
    exact ⟨_, rfl, O2, Y2⟩

def unitV (n i : Nat) : List Int := (List.replicate n 0).set i 1
theorem unitV_len (n i : Nat) : (unitV n i).length = n := by simp [unitV]
theorem unitV_at {n i k : Nat} (hk : k < n) : (unitV n i)[k]? = some (if k = i then 1 else 0) := by
  unfold unitV
  by_cases e : k = i
  · subst e; simp [hk]
  · rw [List.getElem?_set_ne (Ne.symm e), if_neg e]; simp [hk]
end Go.Proofs.Ytjlcnbicehjjjaa
