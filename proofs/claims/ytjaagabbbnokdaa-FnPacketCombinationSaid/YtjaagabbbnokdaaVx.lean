/-
  Vectors in new memory: make, a store, cuts of a slice; contracts of slices.Clone, UnitVector of the program and of the reference. Conditions: at most 2^20 elements; UnitVector: the index lies in a width of at most 40.
-/
import Derived.Test.YtjaagabbbnokdaaMx3
import Derived.Test.YtjaagabbbnokdaaMani2
import Derived.Laws.Cover3
namespace Go.Proofs.Ytjaagabbbnokdaa
open Go.ChangeShapes Go.WideShapes Go.ChangeAt Go.RowKit
set_option linter.unusedVariables false
set_option maxRecDepth 100000

theorem OI.made (w : World) (n : Nat) (hn : n ≤ 1099511627776) : OI (w.alloc (.cells (madeCells #[.int .i64 0] n) 3)) w.heap.size (.slice (some ⟨w.heap.size, 0, none⟩) n n) (List.replicate n 0) := by
  refine ⟨by simp, .inr ⟨w.heap.size, n, _, by simp, Nat.le_refl _, Blk.new w _ _, by simp, by unfold maxLen; omega, by rw [size_madeCells]; omega, ?_⟩⟩
  rw [toList_madeCells_one]
  simp
theorem OI.store {w : World} {base g n cap i : Nat} {xs : List Int} (h : OI w base (.slice (some ⟨g, 0, none⟩) n cap) xs) (hi : i < n) (x : Int) : OI (w.setCell ⟨g, i, none⟩ (.int .i64 x)) base (.slice (some ⟨g, 0, none⟩) n cap) (xs.set i x) := by
  obtain ⟨hl, ⟨e9, h0⟩ | ⟨g', cap', cur, e9, hb, hh, h1, h2, h3, h4⟩⟩ := h
  · cases e9
  · injection e9 with e1 e2 e3
    injection e1 with e1
    injection e1 with e1
    subst e1 e3
    unfold OI
    rw [List.length_set]
    refine ⟨by simp, .inr ⟨g, cap, cur.setIfInBounds i (.int .i64 x), by rw [e2], hb, Blk.set hh i _, h1, h2, by simpa using h3, ?_⟩⟩
    rw [Array.toList_setIfInBounds, List.take_set, h4, List.map_set]
theorem OI.cells {w : World} {base : Nat} {v : Value} {xs : List Int} (h : OI w base v xs) (h0 : 0 < xs.length) :
    ∃ g cap, v = .slice (some ⟨g, 0, none⟩) xs.length cap ∧ base ≤ g ∧ g < w.heap.size ∧ xs.length ≤ cap ∧ cap ≤ 9223372036854775807 ∧ (∀ i, w.frozen? ⟨g, i, none⟩ = false) ∧ ∀ i x, xs[i]? = some x → w.cell? ⟨g, i, none⟩ = some (.int .i64 x) := by
  obtain ⟨hl, ⟨e9, h9⟩ | ⟨g, cap, cur, rfl, hb, hh, h1, h2, h3, h4⟩⟩ := id h
  · omega
  · refine ⟨g, cap, rfl, hb, Blk.lt hh, h1, by unfold maxLen at h2; omega, (Blk.facts hh).2.1, fun i x hx => ?_⟩
    obtain ⟨A, c, e, q1, q2, q3⟩ := h.reads
    injection e with e1 e2 e3
    obtain ⟨b, off, hA, _, hc⟩ := q3 h0
    rw [hA] at e1
    injection e1 with e1
    injection e1 with e1 e4
    subst e1 e4
    have := hc i x hx
    rwa [Nat.zero_add] at this
theorem RI.take {w : World} {A : Option Addr} {n c : Nat} {xs : List Int} {t : Nat} (h : RI w (.slice A n c) xs) (ht : t ≤ n) : RI w (.slice A t c) (xs.take t) := by
  obtain ⟨B, d, e, h1, h2, h3⟩ := h
  injection e with e1 e2 e3
  subst e1 e3
  have hl : (xs.take t).length = t := by rw [List.length_take]; omega
  refine ⟨A, c, by rw [hl], by omega, h2, fun h0 => ?_⟩
  obtain ⟨b, off, hA, hb, hc⟩ := h3 (by omega)
  refine ⟨b, off, hA, hb, fun j x hx => hc j x ?_⟩
  rw [List.getElem?_take] at hx
  split at hx
  · exact hx
  · cases hx
theorem RI.drop {w : World} {b off n c : Nat} {xs : List Int} {t : Nat} (h : RI w (.slice (some ⟨b, off, none⟩) n c) xs) (ht : t < n) : RI w (.slice (some ⟨b, off + t, none⟩) (n - t) (c - t)) (xs.drop t) := by
  obtain ⟨B, d, e, h1, h2, h3⟩ := h
  injection e with e1 e2 e3
  subst e3
  have hl : (xs.drop t).length = n - t := by rw [List.length_drop, e2]
  refine ⟨_, c - t, by rw [hl], by omega, by omega, fun h0 => ?_⟩
  obtain ⟨b', off', hA, hb, hc⟩ := h3 (by omega)
  rw [hA] at e1
  injection e1 with e1
  injection e1 with e1 e4
  subst e1 e4
  refine ⟨b, off + t, rfl, hb, fun j x hx => ?_⟩
  rw [List.getElem?_drop] at hx
  have := hc (t + j) x hx
  rwa [← Nat.add_assoc] at this

theorem eqNil (a : Option Addr) (l c : Nat) (w : World) : (binOp .eql 59 (.slice a l c) (.slice none 0 0)).run Try.prog w = .ok (.bool a.isNone) w := by simp only [binOp]; simp [run_equal_slice_nil w 59 3 a l c Try.underlying59]
set_option maxHeartbeats 1000000 in
theorem cloneI (v : Value) (xs : List Int) (w : World) (hv : RI w v xs) (hn : xs.length ≤ 1048576) :
    Calls Try.prog 140 #[v] w fun e w' => ∃ r, e = .returned r ∧ OI w' w.heap.size r xs ∧ Bel w w' := by
  obtain ⟨A, c, rfl, h1, h2, hA⟩ := id hv
  cases A with
  | none =>
    have e : xs = [] := by
      cases xs with
      | nil => rfl
      | cons x xs => obtain ⟨b, o, e, _⟩ := hA (by simp); cases e
    subst e
    have q := eqNil none 0 c w
    go_enter Try.func140, Try.ntmps140
    go_wp2
    go_ret
    exact ⟨_, rfl, OI.nil _ _, Bel.refl _⟩
  | some ad =>
    have Y0 : Bel w (w.alloc (.cells #[] 3)) := (Bel.refl _).alloc _
    have hv1 := hv.keep Y0
    have q := eqNil (some ad) xs.length c w
    go_enter Try.func140, Try.ntmps140
    go_wp2_with (at_builtin; refine wpList_appI _ rfl _ _ rfl w.heap.size _ _ [] xs rfl rfl (OI.empty w) hv1 (by simp only [List.length_nil]; omega) (by simp only [World.size_alloc]; omega) ?_)
    intro v2 w2 O2 hG
    have Y2 : Bel w w2 := Y0.grown hG (fun p hp => ((OI.empty w).block p hp).1)
    go_wp2
    go_ret
    exact ⟨_, rfl, O2, Y2⟩

def unitV (n i : Nat) : List Int := (List.replicate n 0).set i 1
theorem unitV_len (n i : Nat) : (unitV n i).length = n := by simp [unitV]
theorem unitV_at {n i k : Nat} (hk : k < n) : (unitV n i)[k]? = some (if k = i then 1 else 0) := by
  unfold unitV
  by_cases e : k = i
  · subst e; simp [hk]
  · rw [List.getElem?_set_ne (Ne.symm e), if_neg e]; simp [hk]
set_option maxHeartbeats 1000000 in
theorem unitI (n i : Nat) (w : World) (hn : n ≤ 40) (hi : i < n) :
    Calls Try.prog 68 #[.int .i64 (n : Int), .int .i64 (i : Int)] w fun e w' => ∃ r, e = .returned r ∧ OI w' w.heap.size r (unitV n i) ∧ Bel w w' := by
  have q1 : inB (n : Int) 0 40 = true := decide_eq_true (by omega)
  have q2 : inB (i : Int) 0 ((n : Int) - 1) = true := decide_eq_true (by omega)
  have hmk := mkInts n (by omega)
  have O := OI.made w n (by omega)
  have O1 := O.store hi 1
  have X := Blk.new w 3 (madeCells #[.int .i64 0] n)
  have Y : Bel w ((w.alloc (.cells (madeCells #[.int .i64 0] n) 3)).setCell ⟨w.heap.size, i, none⟩ (.int .i64 1)) := ((Bel.refl w).alloc _).setCell (Nat.le_refl _) _
  obtain ⟨cc, ff, _⟩ := X.facts
  have ci : ∃ u, (w.alloc (.cells (madeCells #[.int .i64 0] n) 3)).cell? ⟨w.heap.size, i, none⟩ = some u := ⟨_, (cc i).trans (Array.getElem?_eq_getElem (by rw [size_madeCells]; exact hi))⟩
  obtain ⟨u, ci⟩ := ci
  have fi := ff i
  clear cc ff X O
  have HO : Hid (OI ((w.alloc (.cells (madeCells #[.int .i64 0] n) 3)).setCell ⟨w.heap.size, i, none⟩ (.int .i64 1)) w.heap.size (.slice (some ⟨w.heap.size, 0, none⟩) n n) (unitV n i)) := O1
  clear O1
  generalize madeCells #[.int .i64 0] n = C at *
  have ew : (w.alloc (.cells C 3)).setCell ⟨w.heap.size, i, none⟩ (.int .i64 1) = w.alloc (.cells (C.setIfInBounds i (.int .i64 1)) 3) := World.setCell_alloc_at C 3 w.heap.size i (.int .i64 1) rfl
  have HO2 := Lib.hid (ew ▸ HO.out)
  have HY2 := Lib.hid (ew ▸ Y)
  clear ew HO Y
  have i0 : (0 : Int) ≤ (i : Int) := by omega
  have i1 : (i : Int) < (n : Int) := by omega
  go_enter Try.func68, Try.ntmps68
  go_wp2_with fail
  refine (inRB _ _ _ _).mono ?_
  rintro e w1 ⟨rfl, rfl⟩
  rw [q1]
  go_wp2_with fail
  refine (inRB _ _ _ _).mono ?_
  rintro e w1 ⟨rfl, rfl⟩
  rw [q2]
  go_wp2
  go_ret
  exact ⟨_, rfl, HO2.out, HY2.out⟩
set_option maxHeartbeats 1000000 in
theorem unitS (n i : Nat) (w : World) (hn : n ≤ 40) (hi : i < n) :
    Calls Try.prog 110 #[.int .i64 (n : Int), .int .i64 (i : Int)] w fun e w' => ∃ r, e = .returned r ∧ OI w' w.heap.size r (unitV n i) ∧ Bel w w' := by
  have q1 : inB (n : Int) 0 40 = true := decide_eq_true (by omega)
  have q2 : inB (i : Int) 0 ((n : Int) - 1) = true := decide_eq_true (by omega)
  have Y0 : Bel w (w.alloc (.cells #[] 3)) := (Bel.refl _).alloc _
  go_enter Try.func110, Try.ntmps110
  go_wp2_with fail
  refine (l1InB _ _ _ _).mono ?_
  rintro e w1 ⟨rfl, rfl⟩
  rw [q1]
  go_wp2_with fail
  refine (l1InB _ _ _ _).mono ?_
  rintro e w1 ⟨rfl, rfl⟩
  rw [q2]
  clear q1 q2
  go_wp2
  go_loopg [5, 6] n (fun f o j wr => ∃ k : Nat, k + f = n ∧ j = .int .i64 k ∧ OI wr w.heap.size o ((unitV n i).take k) ∧ Bel w wr)
  case atStart => exact ⟨0, by omega, rfl, OI.empty w, Y0⟩
  case round =>
    obtain ⟨k, hk, rfl, O, Y⟩ := hrel
    have hk2 : k ≤ n := by omega
    have HK := Lib.hid hk
    clear hk Y0
    by_cases hlt : k < n
    · have HS := Lib.hid (take_snoc (unitV_at (i := i) hlt))
      have hlen : ((unitV n i).take k).length ≤ 40 := by rw [List.length_take, unitV_len]; omega
      have i1 : (k : Int) < (n : Int) := by omega
      have y2 := Y.size
      by_cases hki : k = i
      · have hb : ((k : Int) == (i : Int)) = true := by simp; omega
        rw [if_pos hki] at HS
        clear hki
        go_wp2_with (at_builtin; refine wpList_appI _ rfl _ _ rfl w.heap.size _ _ _ [1] rfl rfl (O.keep ((Bel.refl _).alloc _)) (RI.lit1 _ _ _) (by simp only [List.length_cons, List.length_nil]; omega) (by simp only [World.size_alloc]; omega) ?_)
        intro v2 w2 O2 hG
        have Y2 : Bel w w2 := (Y.alloc _).grown hG (fun p hp => (O.block p hp).1)
        rw [← HS.out] at O2
        clear hG
        go_wp2
        go_roundg (n - (k + 1))
        case measure => have := HK.out; omega
        case rel => exact ⟨k + 1, by omega, by go_num, O2, Y2⟩
      · have hb : ((k : Int) == (i : Int)) = false := beq_eq_false_iff_ne.2 (by omega)
        rw [if_neg hki] at HS
        clear hki
        go_wp2_with (at_builtin; refine wpList_appI _ rfl _ _ rfl w.heap.size _ _ _ [0] rfl rfl (O.keep ((Bel.refl _).alloc _)) (RI.lit1 _ _ _) (by simp only [List.length_cons, List.length_nil]; omega) (by simp only [World.size_alloc]; omega) ?_)
        intro v2 w2 O2 hG
        have Y2 : Bel w w2 := (Y.alloc _).grown hG (fun p hp => (O.block p hp).1)
        rw [← HS.out] at O2
        clear hG
        go_wp2
        go_roundg (n - (k + 1))
        case measure => have := HK.out; omega
        case rel => exact ⟨k + 1, by omega, by go_num, O2, Y2⟩
    · obtain rfl : k = n := by omega
      have i1 : ¬ (k : Int) < (k : Int) := by omega
      have HE : Hid ((unitV k i).take k = unitV k i) := Lib.hid (List.take_of_length_le (by rw [unitV_len]; exact Nat.le_refl _))
      rw [HE.out] at O
      go_wp2
      go_ret
      exact ⟨_, rfl, O, Y⟩
end Go.Proofs.Ytjaagabbbnokdaa
