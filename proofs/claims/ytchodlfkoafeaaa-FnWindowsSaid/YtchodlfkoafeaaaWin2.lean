/-
  Contracts of IsFinished, NewSendWindow, StartGeneration, of the program and of the reference. No condition.
-/
import Derived.Test.YtchodlfkoafeaaaWinLow
import Derived.RegionTactic
import Derived.Deep.RegionHeld3
namespace Go.Proofs.Ytchodlfkoafeaaa
open Go.ChangeShapes Go.WideShapes Go.ChangeAt Go.RowKit
set_option linter.unusedVariables false
set_option maxRecDepth 100000

theorem winB_facts {b n d t : Int} (h : winB b n d t = true) : (0 ≤ t ∧ t ≤ 60 ∧ 0 ≤ b ∧ b ≤ n ∧ n ≤ t ∧ n - b ≤ 4) ∧ (0 ≤ d ∧ d ≤ 2 ^ (n - b).toNat - 1) ∧ (bits .and .i64 d 1 == 0) = true := by
  unfold winB at h
  rw [Bool.and_eq_true, decide_eq_true_eq] at h
  exact ⟨⟨h.1.1, h.1.2.1, h.1.2.2.1, h.1.2.2.2.1, h.1.2.2.2.2.1, h.1.2.2.2.2.2.1⟩, h.1.2.2.2.2.2.2, h.2⟩

def finB (b n d t : Int) : Bool := winB b n d t && (b == t)
set_option maxHeartbeats 400000 in
theorem finI_any (b n d t : Int) (w : World) : Calls Try.prog 39 #[win b n d t] w fun e w' => e = .returned (.bool (finB b n d t)) ∧ Bel w w' := by
  cases hv : winB b n d t
  all_goals
    go_enter Try.func39, Try.ntmps39
    go_wp2_with fail
    refine (winI_any b n d t _).mono ?_
    rintro e w1 ⟨rfl, hb1⟩
    obtain ⟨c1, _, _⟩ := hb1.box
    rw [hv]
    go_wp2
    go_ret
    exact ⟨by simp [finB, hv], ((Bel.refl _).alloc _).trans hb1⟩
def newT (t : Int) : Int := if 0 ≤ t ∧ t ≤ 60 then t else 0
set_option maxHeartbeats 400000 in
theorem newS_any (t : Int) (w : World) : Calls Try.prog 91 #[.int .i64 t] w fun e w' => e = .returned (win 0 0 0 (newT t)) ∧ Bel w w' := by
  by_cases h : 0 ≤ t ∧ t ≤ 60
  · have hn : Hid (newT t = t) := if_pos h
    obtain ⟨h1, h2⟩ := h
    go_enter Try.func91, Try.ntmps91
    go_wp2_with (go_at_call 59; refine (l1In_yes _ _ _ _ (by omega) (by omega)).mono ?_; rintro e w' ⟨rfl, rfl⟩)
    refine bodyPost_ret (v := win 0 0 0 t) (by simp [results, Try.results91, go_sem]) rfl ⟨by rw [hn.out], ?_⟩
    repeat (first | exact Bel.refl _ | apply Bel.alloc)
  · have hn : Hid (newT t = 0) := if_neg h
    have h0 : t < 0 ∨ 60 < t := by omega
    clear h
    go_enter Try.func91, Try.ntmps91
    go_wp2_with (go_at_call 59; refine (l1In_no _ _ _ _ (by omega)).mono ?_; rintro e w' ⟨rfl, rfl⟩)
    refine bodyPost_ret (v := win 0 0 0 0) (by simp [results, Try.results91, go_sem]) rfl ⟨by rw [hn.out], ?_⟩
    repeat (first | exact Bel.refl _ | apply Bel.alloc)
/-- What StartGeneration returns. -/
def startB (b n d t : Int) : Bool := winB b n d t && !(n == t) && !(n - b == 4)
def startV (b n d t : Int) : Value := .tuple #[win b (if startB b n d t then n + 1 else n) d t, .int .i64 (if startB b n d t then n else 0), .bool (startB b n d t)]
theorem startV_no {b n d t : Int} (h : startB b n d t = false) : startV b n d t = .tuple #[win b n d t, .int .i64 0, .bool false] := by unfold startV; rw [h]; rfl
theorem startV_yes {b n d t : Int} (h : startB b n d t = true) : startV b n d t = .tuple #[win b (n + 1) d t, .int .i64 n, .bool true] := by unfold startV; rw [h]; rfl
set_option maxHeartbeats 400000 in
theorem startI_inv (b n d t : Int) (w : World) (hv : winB b n d t = false) : Calls Try.prog 31 #[win b n d t] w fun e w' => e = .returned (.tuple #[win b n d t, .int .i64 0, .bool false]) ∧ Bel w w' := by
  go_enter Try.func31, Try.ntmps31
  go_wp2_with fail
  refine (winI_any b n d t _).mono ?_
  rintro e w1 ⟨rfl, hb1⟩
  obtain ⟨c1, g1, z1⟩ := (hb1.keep ((Blk.new w _ _).alloc _)).facts
  obtain ⟨c2, g2, z2⟩ := (hb1.keep (Blk.new2 w _ _ _)).facts
  have hb : Bel w w1 := (((Bel.refl _).alloc _).alloc _).trans hb1
  rw [hv]
  go_wp2
  refine bodyPost_ret (v := .tuple #[win b n d t, .int .i64 0, .bool false]) (by simp [results, Try.results31, go_sem, c2]) rfl ⟨rfl, ?_⟩
  repeat (first | exact hb | (refine Bel.setCell ?_ (by simp) _))
set_option maxHeartbeats 400000 in
theorem startI_end (b n d t : Int) (w : World) (hv : winB b n d t = true) (e1 : (n == t) = true) : Calls Try.prog 31 #[win b n d t] w fun e w' => e = .returned (.tuple #[win b n d t, .int .i64 0, .bool false]) ∧ Bel w w' := by
  obtain ⟨⟨h1, h2, h3, h4, h5, h6⟩, _, _⟩ := winB_facts hv
  go_enter Try.func31, Try.ntmps31
  go_wp2_with fail
  refine (winI_any b n d t _).mono ?_
  rintro e w1 ⟨rfl, hb1⟩
  obtain ⟨c1, g1, z1⟩ := (hb1.keep ((Blk.new w _ _).alloc _)).facts
  obtain ⟨c2, g2, z2⟩ := (hb1.keep (Blk.new2 w _ _ _)).facts
  have hb : Bel w w1 := (((Bel.refl _).alloc _).alloc _).trans hb1
  rw [hv]
  go_wp2
  refine bodyPost_ret (v := .tuple #[win b n d t, .int .i64 0, .bool false]) (by simp [results, Try.results31, go_sem, c2]) rfl ⟨rfl, ?_⟩
  repeat (first | exact hb | (refine Bel.setCell ?_ (by simp) _))
set_option maxHeartbeats 400000 in
theorem startI_full (b n d t : Int) (w : World) (hv : winB b n d t = true) (e1 : (n == t) = false) (e2 : (n - b == 4) = true) : Calls Try.prog 31 #[win b n d t] w fun e w' => e = .returned (.tuple #[win b n d t, .int .i64 0, .bool false]) ∧ Bel w w' := by
  obtain ⟨⟨h1, h2, h3, h4, h5, h6⟩, _, _⟩ := winB_facts hv
  go_enter Try.func31, Try.ntmps31
  go_wp2_with fail
  refine (winI_any b n d t _).mono ?_
  rintro e w1 ⟨rfl, hb1⟩
  obtain ⟨c1, g1, z1⟩ := (hb1.keep ((Blk.new w _ _).alloc _)).facts
  obtain ⟨c2, g2, z2⟩ := (hb1.keep (Blk.new2 w _ _ _)).facts
  have hb : Bel w w1 := (((Bel.refl _).alloc _).alloc _).trans hb1
  rw [hv]
  go_wp2
  refine bodyPost_ret (v := .tuple #[win b n d t, .int .i64 0, .bool false]) (by simp [results, Try.results31, go_sem, c2]) rfl ⟨rfl, ?_⟩
  repeat (first | exact hb | (refine Bel.setCell ?_ (by simp) _))
set_option maxHeartbeats 1000000 in
theorem startI_yes (b n d t : Int) (w : World) (hv : winB b n d t = true) (e1 : (n == t) = false) (e2 : (n - b == 4) = false) : Calls Try.prog 31 #[win b n d t] w fun e w' => e = .returned (.tuple #[win b (n + 1) d t, .int .i64 n, .bool true]) ∧ Bel w w' := by
  obtain ⟨⟨h1, h2, h3, h4, h5, h6⟩, _, _⟩ := winB_facts hv
  go_enter Try.func31, Try.ntmps31
  go_wp2_with fail
  refine (winI_any b n d t _).mono ?_
  rintro e w1 ⟨rfl, hb1⟩
  have B1 := hb1.keep ((Blk.new w _ _).alloc _)
  have B2 := hb1.keep (Blk.new2 w _ _ _)
  obtain ⟨c1, g1, z1⟩ := B1.facts
  obtain ⟨c2, g2, z2⟩ := B2.facts
  have hb : Bel w w1 := (((Bel.refl _).alloc _).alloc _).trans hb1
  rw [hv]
  go_wp2
  have B3 := B1.set 1 (.int .i64 (n + 1))
  have B4 := B2.far (p := ⟨w.heap.size, 1, none⟩) (by simp) (.int .i64 (n + 1))
  have hb3 : Bel w (w1.setCell ⟨w.heap.size, 1, none⟩ (.int .i64 (n + 1))) := hb.setCell (Nat.le_refl _) _
  clear hv hb1 B1 B2 c1 g1 z1 c2 g2 z2 hb
  generalize w1.setCell ⟨w.heap.size, 1, none⟩ (.int .i64 (n + 1)) = w2 at *
  obtain ⟨c1, g1, z1⟩ := B3.facts
  obtain ⟨c2, g2, z2⟩ := B4.facts
  clear B3 B4
  have r0 := c1 0
  have r1 := c1 1
  have r2 := c1 2
  have r3 := c1 3
  simp at r0 r1 r2 r3
  go_region_held3 (fun w' => w'.cell? ⟨w.heap.size, 0, none⟩ = some (.int .i64 b) ∧ w'.cell? ⟨w.heap.size, 1, none⟩ = some (.int .i64 (n + 1)) ∧ w'.cell? ⟨w.heap.size, 2, none⟩ = some (.int .i64 d) ∧ w'.cell? ⟨w.heap.size, 3, none⟩ = some (.int .i64 t)) (go_keep) (fail)
  go_wp2
  refine bodyPost_ret (v := .tuple #[win b (n + 1) d t, .int .i64 n, .bool true]) (by simp [results, Try.results31, go_sem, c2, IntWalk.i64_in n (by omega)]) rfl ⟨rfl, ?_⟩
  repeat (first | exact hb3 | (refine Bel.setCell ?_ (by simp) _) | apply Bel.alloc | apply Bel.drew | apply Bel.drewN)
theorem startI_any (b n d t : Int) (w : World) : Calls Try.prog 31 #[win b n d t] w fun e w' => e = .returned (startV b n d t) ∧ Bel w w' := by
  cases hv : winB b n d t
  · rw [startV_no (by simp [startB, hv])]; exact startI_inv b n d t w hv
  cases e1 : (n == t)
  · cases e2 : (n - b == 4)
    · rw [startV_yes (by simp [startB, hv, e1, e2])]; exact startI_yes b n d t w hv e1 e2
    · rw [startV_no (by simp only [startB, hv, e1, e2]; rfl)]; exact startI_full b n d t w hv e1 e2
  · rw [startV_no (by simp only [startB, hv, e1]; rfl)]; exact startI_end b n d t w hv e1
set_option maxHeartbeats 400000 in
theorem startS_inv (b n d t : Int) (w : World) (hv : winB b n d t = false) : Calls Try.prog 93 #[win b n d t] w fun e w' => e = .returned (.tuple #[win b n d t, .int .i64 0, .bool false]) ∧ Bel w w' := by
  go_enter Try.func93, Try.ntmps93
  go_wp2_with fail
  refine (winS_any b n d t _).mono ?_
  rintro e w1 ⟨rfl, hb1⟩
  obtain ⟨c1, g1, z1⟩ := (hb1.keep ((Blk.new w _ _).alloc _)).facts
  obtain ⟨c2, g2, z2⟩ := (hb1.keep (Blk.new2 w _ _ _)).facts
  have hb : Bel w w1 := (((Bel.refl _).alloc _).alloc _).trans hb1
  rw [hv]
  go_wp2
  refine bodyPost_ret (v := .tuple #[win b n d t, .int .i64 0, .bool false]) (by simp [results, Try.results93, go_sem, c2]) rfl ⟨rfl, ?_⟩
  repeat (first | exact hb | (refine Bel.setCell ?_ (by simp) _))
set_option maxHeartbeats 400000 in
theorem startS_end (b n d t : Int) (w : World) (hv : winB b n d t = true) (e1 : (n == t) = true) : Calls Try.prog 93 #[win b n d t] w fun e w' => e = .returned (.tuple #[win b n d t, .int .i64 0, .bool false]) ∧ Bel w w' := by
  obtain ⟨⟨h1, h2, h3, h4, h5, h6⟩, _, _⟩ := winB_facts hv
  go_enter Try.func93, Try.ntmps93
  go_wp2_with fail
  refine (winS_any b n d t _).mono ?_
  rintro e w1 ⟨rfl, hb1⟩
  obtain ⟨c1, g1, z1⟩ := (hb1.keep ((Blk.new w _ _).alloc _)).facts
  obtain ⟨c2, g2, z2⟩ := (hb1.keep (Blk.new2 w _ _ _)).facts
  have hb : Bel w w1 := (((Bel.refl _).alloc _).alloc _).trans hb1
  rw [hv]
  go_wp2
  refine bodyPost_ret (v := .tuple #[win b n d t, .int .i64 0, .bool false]) (by simp [results, Try.results93, go_sem, c2]) rfl ⟨rfl, ?_⟩
  repeat (first | exact hb | (refine Bel.setCell ?_ (by simp) _))
set_option maxHeartbeats 400000 in
theorem startS_full (b n d t : Int) (w : World) (hv : winB b n d t = true) (e1 : (n == t) = false) (e2 : (n - b == 4) = true) : Calls Try.prog 93 #[win b n d t] w fun e w' => e = .returned (.tuple #[win b n d t, .int .i64 0, .bool false]) ∧ Bel w w' := by
  obtain ⟨⟨h1, h2, h3, h4, h5, h6⟩, _, _⟩ := winB_facts hv
  go_enter Try.func93, Try.ntmps93
  go_wp2_with fail
  refine (winS_any b n d t _).mono ?_
  rintro e w1 ⟨rfl, hb1⟩
  obtain ⟨c1, g1, z1⟩ := (hb1.keep ((Blk.new w _ _).alloc _)).facts
  obtain ⟨c2, g2, z2⟩ := (hb1.keep (Blk.new2 w _ _ _)).facts
  have hb : Bel w w1 := (((Bel.refl _).alloc _).alloc _).trans hb1
  rw [hv]
  go_wp2
  refine bodyPost_ret (v := .tuple #[win b n d t, .int .i64 0, .bool false]) (by simp [results, Try.results93, go_sem, c2]) rfl ⟨rfl, ?_⟩
  repeat (first | exact hb | (refine Bel.setCell ?_ (by simp) _))
set_option maxHeartbeats 1000000 in
theorem startS_yes (b n d t : Int) (w : World) (hv : winB b n d t = true) (e1 : (n == t) = false) (e2 : (n - b == 4) = false) : Calls Try.prog 93 #[win b n d t] w fun e w' => e = .returned (.tuple #[win b (n + 1) d t, .int .i64 n, .bool true]) ∧ Bel w w' := by
  obtain ⟨⟨h1, h2, h3, h4, h5, h6⟩, _, _⟩ := winB_facts hv
  go_enter Try.func93, Try.ntmps93
  go_wp2_with fail
  refine (winS_any b n d t _).mono ?_
  rintro e w1 ⟨rfl, hb1⟩
  have B1 := hb1.keep ((Blk.new w _ _).alloc _)
  have B2 := hb1.keep (Blk.new2 w _ _ _)
  obtain ⟨c1, g1, z1⟩ := B1.facts
  obtain ⟨c2, g2, z2⟩ := B2.facts
  have hb : Bel w w1 := (((Bel.refl _).alloc _).alloc _).trans hb1
  rw [hv]
  go_wp2
  have B3 := B1.alloc (.cells #[.int .i64 b, .int .i64 (n + 1), .int .i64 d, .int .i64 t] 61)
  have B4 := B2.alloc (.cells #[.int .i64 b, .int .i64 (n + 1), .int .i64 d, .int .i64 t] 61)
  have B5 := Blk.new w1 61 #[.int .i64 b, .int .i64 (n + 1), .int .i64 d, .int .i64 t]
  have hb3 : Bel w (w1.alloc (.cells #[.int .i64 b, .int .i64 (n + 1), .int .i64 d, .int .i64 t] 61)) := hb.alloc _
  clear hv hb1 B1 B2 c1 g1 c2 g2 hb
  generalize w1.alloc (.cells #[.int .i64 b, .int .i64 (n + 1), .int .i64 d, .int .i64 t] 61) = w2 at *
  generalize w1.heap.size = g at *
  obtain ⟨c1, g1, z3⟩ := B3.facts
  obtain ⟨c2, g2, z4⟩ := B4.facts
  obtain ⟨c3, g3, z5⟩ := B5.facts
  clear B3 B4 B5
  have r0 := c3 0
  have r1 := c3 1
  have r2 := c3 2
  have r3 := c3 3
  have r4 := c1 1
  simp at r0 r1 r2 r3 r4
  have ne1 : g ≠ w.heap.size + 1 := by omega
  have ne2 : w.heap.size + 1 ≠ g := by omega
  go_region_held3 (fun w' => w'.cell? ⟨g, 0, none⟩ = some (.int .i64 b) ∧ w'.cell? ⟨g, 1, none⟩ = some (.int .i64 (n + 1)) ∧ w'.cell? ⟨g, 2, none⟩ = some (.int .i64 d) ∧ w'.cell? ⟨g, 3, none⟩ = some (.int .i64 t) ∧ w'.cell? ⟨w.heap.size, 1, none⟩ = some (.int .i64 n)) (go_keep) (fail)
  go_wp2
  refine bodyPost_ret (v := .tuple #[win b (n + 1) d t, .int .i64 n, .bool true]) (by simp [results, Try.results93, go_sem, c2]) rfl ⟨rfl, ?_⟩
  repeat (first | exact hb3 | (refine Bel.setCell ?_ (by simp) _) | apply Bel.alloc | apply Bel.drew | apply Bel.drewN)
theorem startS_any (b n d t : Int) (w : World) : Calls Try.prog 93 #[win b n d t] w fun e w' => e = .returned (startV b n d t) ∧ Bel w w' := by
  cases hv : winB b n d t
  · rw [startV_no (by simp [startB, hv])]; exact startS_inv b n d t w hv
  cases e1 : (n == t)
  · cases e2 : (n - b == 4)
    · rw [startV_yes (by simp [startB, hv, e1, e2])]; exact startS_yes b n d t w hv e1 e2
    · rw [startV_no (by simp only [startB, hv, e1, e2]; rfl)]; exact startS_full b n d t w hv e1 e2
  · rw [startV_no (by simp only [startB, hv, e1]; rfl)]; exact startS_end b n d t w hv e1
end Go.Proofs.Ytchodlfkoafeaaa
