/-
  FindCollision: contracts of the program's function and of the reference's. No condition.
-/
import Derived.Test.YtjlcnbicehjjjaaLog2
import Derived.Test.YtjlcnbicehjjjaaVx
import Derived.StillTailTactics
namespace Go.Proofs.Ytjlcnbicehjjjaa
open Go.ChangeShapes Go.WideShapes Go.ChangeAt Go.RowKit
set_option linter.unusedVariables false
set_option maxRecDepth 100000

def fcolB (gs xs : List Int) : Bool := hkB gs && vecB xs && !((xs.length : Int) != (gs.length : Int)) && !(decide ((xs.length : Int) < 2))
def fcolX (gs xs : List Int) : List Int := (xs.set 0 ((xs.getD 0 0 + (logZ (gs.getD 0 0) (gs.getD 1 0) : Int)) % 1019)).set 1 (sfZ (xs.getD 1 0) 1)
def fcolZ (gs xs : List Int) : List Int := if fcolB gs xs = true then fcolX gs xs else []
theorem fcol_no {gs xs : List Int} (h : fcolB gs xs = false) : fcolZ gs xs = [] := by unfold fcolZ; rw [h]; rfl
theorem fcol_yes {gs xs : List Int} (h : fcolB gs xs = true) : fcolZ gs xs = fcolX gs xs := by unfold fcolZ; rw [h]; rfl
theorem fcol_len (gs xs : List Int) : (fcolZ gs xs).length ≤ 40 := by
  cases q : fcolB gs xs
  · rw [fcol_no q]; simp
  · rw [fcol_yes q]
    unfold fcolX
    rw [List.length_set, List.length_set]
    unfold fcolB at q
    rw [Bool.and_eq_true, Bool.and_eq_true, Bool.and_eq_true] at q
    exact (vecB_facts q.1.1.2).2
theorem stillW {P : Program} {f : FuncId} {args : Array Value} {w : World} {v : Value} (h : Calls P f args w fun e w' => e = .returned v ∧ w = w') : Calls P f args w fun e w'' => e = .returned v ∧ w'' = w :=
  h.mono fun _ _ ⟨a, b⟩ => ⟨a, b.symm⟩
theorem getD_at {xs : List Int} {i : Nat} (h : i < xs.length) : xs[i]? = some (xs.getD i 0) := by simp [List.getD, h]
set_option maxHeartbeats 4000000 in
theorem fcoI (v u : Value) (gs xs : List Int) (w : World) (hv : RI w v gs) (hu : RI w u xs) :
    Calls Try.prog 19 #[.agg #[v], u] w fun e w' => ∃ r, e = .returned (.tuple #[r, .bool (fcolB gs xs)]) ∧ OI w' w.heap.size r (fcolZ gs xs) ∧ Bel w w' := by
  have HM : Hid (fcolB gs xs = (hkB gs && vecB xs && !((xs.length : Int) != (gs.length : Int)) && !(decide ((xs.length : Int) < 2)))) := rfl
  obtain ⟨A, c, rfl, h2, h3, hA⟩ := id hv
  obtain ⟨B, d, rfl, h4, h5, hB⟩ := id hu
  have X := Blk.new w 24 #[.slice A gs.length c]
  have Y : Bel w (w.alloc (.cells #[.slice A gs.length c] 24)) := (Bel.refl _).alloc _
  obtain ⟨cx, _, zx⟩ := X.facts
  have HNO := fun (h : fcolB gs xs = false) => Lib.hid (fcol_no h)
  go_enter Try.func19, Try.ntmps19
  go_wp2_with fail
  refine (hkI _ gs _ (hv.keep Y)).mono ?_
  rintro e w1 ⟨rfl, hb1⟩
  have X1 := hb1.keep X
  have Y1 := Y.trans hb1
  clear cx zx
  obtain ⟨cx, _, zx⟩ := X1.facts
  cases q1 : hkB gs
  · have HQ : Hid (fcolB gs xs = false) := Lib.hid (by rw [HM.out, q1]; rfl)
    have HN := HNO HQ.out
    clear q1
    go_wp2
    refine bodyPost_ret (v := .tuple #[.slice none 0 0, .bool false]) (by simp [results, Try.results19, go_sem]) rfl ⟨_, by rw [HQ.out], by rw [HN.out]; exact OI.nil _ _, Y1⟩
  go_wp2_with fail
  refine (vecI _ xs _ (hu.keep Y1)).mono ?_
  rintro e w2 ⟨rfl, rfl⟩
  cases q2 : vecB xs
  · have HQ : Hid (fcolB gs xs = false) := Lib.hid (by rw [HM.out, q2]; simp)
    have HN := HNO HQ.out
    clear q2 q1
    go_wp2
    refine bodyPost_ret (v := .tuple #[.slice none 0 0, .bool false]) (by simp [results, Try.results19, go_sem]) rfl ⟨_, by rw [HQ.out], by rw [HN.out]; exact OI.nil _ _, Y1⟩
  cases q3 : ((xs.length : Int) != (gs.length : Int))
  case true =>
    have HQ : Hid (fcolB gs xs = false) := Lib.hid (by rw [HM.out, q3]; simp)
    have HN := HNO HQ.out
    clear q2 q1
    go_wp2
    refine bodyPost_ret (v := .tuple #[.slice none 0 0, .bool false]) (by simp [results, Try.results19, go_sem]) rfl ⟨_, by rw [HQ.out], by rw [HN.out]; exact OI.nil _ _, Y1⟩
  cases q4 : decide ((xs.length : Int) < 2)
  case true =>
    have HQ : Hid (fcolB gs xs = false) := Lib.hid (by rw [HM.out, q4]; simp)
    have HN := HNO HQ.out
    have q5 := of_decide_eq_true q4
    clear q2 q1 q4
    go_wp2
    refine bodyPost_ret (v := .tuple #[.slice none 0 0, .bool false]) (by simp [results, Try.results19, go_sem]) rfl ⟨_, by rw [HQ.out], by rw [HN.out]; exact OI.nil _ _, Y1⟩
  have HQ : Hid (fcolB gs xs = true) := Lib.hid (by rw [HM.out, q1, q2, q3, q4]; rfl)
  have HN := Lib.hid (fcol_yes HQ.out)
  have q5 : ¬ (xs.length : Int) < 2 := of_decide_eq_false q4
  have hlen : xs.length = gs.length := by simp at q3; omega
  obtain ⟨b1, o1, rfl, z1, hc1⟩ := hA (by omega)
  obtain ⟨b2, o2, rfl, z2, hc2⟩ := hB (by omega)
  have e0 := getD_at (show 0 < gs.length by omega)
  have e1 := getD_at (show 1 < gs.length by omega)
  have e2 := getD_at (show 0 < xs.length by omega)
  have e3 := getD_at (show 1 < xs.length by omega)
  have g0 := hc1 0 _ e0
  have g1 := hc1 1 _ e1
  have x0 := hc2 0 _ e2
  have x1 := hc2 1 _ e3
  rw [Nat.add_zero] at g0 x0
  have k0 := (hkB_facts q1).1 _ (List.mem_of_getElem? e0)
  have k1 := (hkB_facts q1).1 _ (List.mem_of_getElem? e1)
  have n0 := (vecB_facts q2).1 _ (List.mem_of_getElem? e2)
  have n1 := (vecB_facts q2).1 _ (List.mem_of_getElem? e3)
  have hx40 := (vecB_facts q2).2
  have hgl : 2 ≤ gs.length := by omega
  have HFX : Hid (fcolX gs xs = (xs.set 0 ((xs.getD 0 0 + (logZ (gs.getD 0 0) (gs.getD 1 0) : Int)) % 1019)).set 1 (sfZ (xs.getD 1 0) 1)) := rfl
  generalize gs.getD 0 0 = ga at *
  generalize gs.getD 1 0 = gb at *
  generalize xs.getD 0 0 = xa at *
  generalize xs.getD 1 0 = xb at *
  have hga : ga ≠ 1 := ne_of_beq_false k0.2
  have lf := logZ_facts k0.1 hga k1.1
  have HLG := Lib.hid (fun W => logI ga gb W k0.1 hga k1.1)
  generalize logZ ga gb = L at *
  have HAD := Lib.hid (fun W => adfI xa (L : Int) W (elB_yes n0) (elB_yes (by omega)))
  have HSU := Lib.hid (fun W => sufI xb 1 W (elB_yes n1) (by decide))
  have HXE := Lib.hid (by simpa using e3 : (xs.set 0 ((xa + (L : Int)) % 1019))[1]? = some xb)
  have HE2 := Lib.hid e2
  have HE3 := Lib.hid e3
  have hx2 : 2 ≤ xs.length := by omega
  have q6 : ((xs.length : Int) != (gs.length : Int)) = false := q3
  have q7 : ¬ (xs.length : Int) < 2 := q5
  have HLN := Lib.hid hlen
  clear hlen q3 q5 q1 q2 q4 k0 k1 n0 n1 lf hga e0 e1 e2 e3 hc1 hc2 hA hB HM HNO h2 h3
  go_wp2_with fail
  refine (cloneI _ xs _ (hu.keep Y1) (by omega)).mono ?_
  rintro e w3 ⟨r3, rfl, O3, hb3⟩
  have X3 := hb3.keep X1
  have Y3 := Y1.trans hb3
  obtain ⟨g, cap, er, hg1, hg2, _, _, fz, cs⟩ := O3.cells (by omega)
  subst er
  have s31 := Y1.size
  have hxg : w.heap.size ≠ g := by have := X1.lt; omega
  have gne1 : b1 ≠ g := by omega
  have r0 := cs 0 _ HE2.out
  have r1 := cs 1 _ HE3.out
  have fz0 := fz 0
  have Yd := (Bel.refl w3).drew
  have O4 := O3.store (i := 0) (by omega) ((xa + (L : Int)) % 1019)
  clear cx zx fz cs
  obtain ⟨cx, _, zx⟩ := X3.facts
  have rx : w3.cell? ⟨w.heap.size, 0, none⟩ = some (.slice (some ⟨b1, o1, none⟩) gs.length c) := cx 0
  have ga3 := Y3.cell1 z1 g0
  have gb3 := Y3.cell1 z1 g1
  have xa3 := Y3.cell1 z2 x0
  have xb3 := Y3.cell1 z2 x1
  have i0 : (0 : Int) < (xs.length : Int) := by omega
  have i1 : (1 : Int) < (xs.length : Int) := by omega
  have i2 : (0 : Int) < (gs.length : Int) := by omega
  have i3 : (1 : Int) < (gs.length : Int) := by omega
  have j0 : 0 < xs.length := by omega
  have j1 : 1 < xs.length := by omega
  have j2 : 0 < gs.length := by omega
  have j3 : 1 < gs.length := by omega
  have Y4 := Y3.setCell (p := ⟨g, 0, none⟩) (by dsimp only; omega) (.int .i64 ((xa + (L : Int)) % 1019))
  have xb4 := Y4.cell1 z2 x1
  obtain ⟨y, hy⟩ : ∃ y, y = (xa + (L : Int)) % 1019 := ⟨_, rfl⟩
  rw [← hy] at O4 Y4 HAD HXE HFX xb4
  clear cx hy g0 g1 x0 x1
  go_wp2_with fail
  refine wp_region_still_tail 15 (by kernel_rfl) (by kernel_rfl) ?_
  simp only [List.take_succ_cons, List.take_zero, List.drop_succ_cons, List.drop_zero]
  repeat (first | still_step | (still_call (stillW (HLG.out _))) | (still_call (stillW (HAD.out _))))
  refine wpStill_nil ?_
  obtain ⟨g', cap', e', _, _, _, _, fy, cy⟩ := O4.cells (by rw [List.length_set]; omega)
  rw [List.length_set] at e'
  injection e' with e1 e2 e3
  injection e1 with e1
  injection e1 with e1
  subst e1
  have q1 := cy 1 _ HXE.out
  have fq1 := fy 1
  have q1d : (w3.setCell ⟨g, 0, none⟩ (.int .i64 y)).drew.cell? ⟨g, 1, none⟩ = some (.int .i64 xb) := q1
  have fq1d : (w3.setCell ⟨g, 0, none⟩ (.int .i64 y)).drew.frozen? ⟨g, 1, none⟩ = false := fq1
  have xb4d : (w3.setCell ⟨g, 0, none⟩ (.int .i64 y)).drew.cell? ⟨b2, o2 + 1, none⟩ = some (.int .i64 xb) := xb4
  have O5 := O4.store (i := 1) (by omega) (sfZ xb 1)
  have Y5 := Y4.setCell (p := ⟨g, 1, none⟩) (by dsimp only; omega) (.int .i64 (sfZ xb 1))
  generalize sfZ xb 1 = z at *
  clear fy cy e2 e3 O4 Y4
  go_wp2_with fail
  refine (HSU.out _).mono ?_
  rintro e w5 ⟨rfl, rfl⟩
  go_wp2
  refine bodyPost_ret (v := .tuple #[.slice (some ⟨g, 0, none⟩) xs.length cap, .bool true]) (by simp [results, Try.results19, go_sem]) rfl ⟨_, by rw [HQ.out], by rw [HN.out, HFX.out]; exact O5.low (by omega), Y5.drew⟩
set_option maxHeartbeats 4000000 in
theorem fcoS (v u : Value) (gs xs : List Int) (w : World) (hv : RI w v gs) (hu : RI w u xs) :
    Calls Try.prog 16 #[.agg #[v], u] w fun e w' => ∃ r, e = .returned (.tuple #[r, .bool (fcolB gs xs)]) ∧ OI w' w.heap.size r (fcolZ gs xs) ∧ Bel w w' := by
  have HM : Hid (fcolB gs xs = (hkB gs && vecB xs && !((xs.length : Int) != (gs.length : Int)) && !(decide ((xs.length : Int) < 2)))) := rfl
  obtain ⟨A, c, rfl, h2, h3, hA⟩ := id hv
  obtain ⟨B, d, rfl, h4, h5, hB⟩ := id hu
  have X := Blk.new w 24 #[.slice A gs.length c]
  have Y : Bel w (w.alloc (.cells #[.slice A gs.length c] 24)) := (Bel.refl _).alloc _
  obtain ⟨cx, _, zx⟩ := X.facts
  have HNO := fun (h : fcolB gs xs = false) => Lib.hid (fcol_no h)
  go_enter Try.func16, Try.ntmps16
  go_wp2_with fail
  refine (hkS _ gs _ (hv.keep Y)).mono ?_
  rintro e w1 ⟨rfl, hb1⟩
  have X1 := hb1.keep X
  have Y1 := Y.trans hb1
  clear cx zx
  obtain ⟨cx, _, zx⟩ := X1.facts
  cases q1 : hkB gs
  · have HQ : Hid (fcolB gs xs = false) := Lib.hid (by rw [HM.out, q1]; rfl)
    have HN := HNO HQ.out
    clear q1
    have E1 := OI.empty w1
    rw [← HN.out] at E1
    go_wp2
    refine bodyPost_ret (v := .tuple #[.slice (some ⟨w1.heap.size, 0, none⟩) 0 0, .bool false]) (by simp [results, Try.results16, go_sem]) rfl ⟨_, by rw [HQ.out], E1.low Y1.size, Y1.alloc _⟩
  go_wp2_with fail
  refine (vecS _ xs _ (hu.keep Y1)).mono ?_
  rintro e w2 ⟨rfl, rfl⟩
  cases q2 : vecB xs
  · have HQ : Hid (fcolB gs xs = false) := Lib.hid (by rw [HM.out, q2]; simp)
    have HN := HNO HQ.out
    clear q2 q1
    have E1 := OI.empty w1
    rw [← HN.out] at E1
    go_wp2
    refine bodyPost_ret (v := .tuple #[.slice (some ⟨w1.heap.size, 0, none⟩) 0 0, .bool false]) (by simp [results, Try.results16, go_sem]) rfl ⟨_, by rw [HQ.out], E1.low Y1.size, Y1.alloc _⟩
  cases q3 : ((xs.length : Int) != (gs.length : Int))
  case true =>
    have HQ : Hid (fcolB gs xs = false) := Lib.hid (by rw [HM.out, q3]; simp)
    have HN := HNO HQ.out
    clear q2 q1
    have E1 := OI.empty w1
    rw [← HN.out] at E1
    go_wp2
    refine bodyPost_ret (v := .tuple #[.slice (some ⟨w1.heap.size, 0, none⟩) 0 0, .bool false]) (by simp [results, Try.results16, go_sem]) rfl ⟨_, by rw [HQ.out], E1.low Y1.size, Y1.alloc _⟩
  cases q4 : decide ((xs.length : Int) < 2)
  case true =>
    have HQ : Hid (fcolB gs xs = false) := Lib.hid (by rw [HM.out, q4]; simp)
    have HN := HNO HQ.out
    have q5 := of_decide_eq_true q4
    clear q2 q1 q4
    have E1 := OI.empty w1
    rw [← HN.out] at E1
    go_wp2
    refine bodyPost_ret (v := .tuple #[.slice (some ⟨w1.heap.size, 0, none⟩) 0 0, .bool false]) (by simp [results, Try.results16, go_sem]) rfl ⟨_, by rw [HQ.out], E1.low Y1.size, Y1.alloc _⟩
  have HQ : Hid (fcolB gs xs = true) := Lib.hid (by rw [HM.out, q1, q2, q3, q4]; rfl)
  have HN := Lib.hid (fcol_yes HQ.out)
  have q5 : ¬ (xs.length : Int) < 2 := of_decide_eq_false q4
  have hlen : xs.length = gs.length := by simp at q3; omega
  obtain ⟨b1, o1, rfl, z1, hc1⟩ := hA (by omega)
  obtain ⟨b2, o2, rfl, z2, hc2⟩ := hB (by omega)
  have e0 := getD_at (show 0 < gs.length by omega)
  have e1 := getD_at (show 1 < gs.length by omega)
  have e2 := getD_at (show 0 < xs.length by omega)
  have e3 := getD_at (show 1 < xs.length by omega)
  have g0 := hc1 0 _ e0
  have g1 := hc1 1 _ e1
  have x0 := hc2 0 _ e2
  have x1 := hc2 1 _ e3
  rw [Nat.add_zero] at g0 x0
  have k0 := (hkB_facts q1).1 _ (List.mem_of_getElem? e0)
  have k1 := (hkB_facts q1).1 _ (List.mem_of_getElem? e1)
  have n0 := (vecB_facts q2).1 _ (List.mem_of_getElem? e2)
  have n1 := (vecB_facts q2).1 _ (List.mem_of_getElem? e3)
  have hx40 := (vecB_facts q2).2
  have hgl : 2 ≤ gs.length := by omega
  have HFX : Hid (fcolX gs xs = (xs.set 0 ((xs.getD 0 0 + (logZ (gs.getD 0 0) (gs.getD 1 0) : Int)) % 1019)).set 1 (sfZ (xs.getD 1 0) 1)) := rfl
  generalize gs.getD 0 0 = ga at *
  generalize gs.getD 1 0 = gb at *
  generalize xs.getD 0 0 = xa at *
  generalize xs.getD 1 0 = xb at *
  have hga : ga ≠ 1 := ne_of_beq_false k0.2
  have lf := logZ_facts k0.1 hga k1.1
  have HLG := Lib.hid (fun W => logS ga gb W k0.1 hga k1.1)
  generalize logZ ga gb = L at *
  have HAD := Lib.hid (fun W => adfS xa (L : Int) W (elB_yes n0) (elB_yes (by omega)))
  have HSU := Lib.hid (fun W => sufS xb 1 W (elB_yes n1) (by decide))
  have HXE := Lib.hid (by simpa using e3 : (xs.set 0 ((xa + (L : Int)) % 1019))[1]? = some xb)
  have HE2 := Lib.hid e2
  have HE3 := Lib.hid e3
  have hx2 : 2 ≤ xs.length := by omega
  have q6 : ((xs.length : Int) != (gs.length : Int)) = false := q3
  have q7 : ¬ (xs.length : Int) < 2 := q5
  have HLN := Lib.hid hlen
  clear hlen q3 q5 q1 q2 q4 k0 k1 n0 n1 lf hga e0 e1 e2 e3 hc1 hc2 hA hB HM HNO h2 h3
  have RU := Lib.hid ((hu.keep Y1).keep ((Bel.refl w1).alloc (.cells #[] 3)))
  have E0 := OI.empty w1
  go_wp2_with (at_builtin; refine wpList_appI _ rfl _ _ rfl w1.heap.size _ _ [] xs rfl rfl E0 RU.out (by simp only [List.length_nil]; omega) (by simp only [World.size_alloc]; omega) ?_)
  intro r3 w3 O3 hG3
  have hb3 : Bel w1 w3 := ((Bel.refl w1).alloc _).grown hG3 (fun p hp => (E0.block p hp).1)
  have X3 := hb3.keep X1
  have Y3 := Y1.trans hb3
  clear hG3
  obtain ⟨g, cap, er, hg1, hg2, _, _, fz, cs⟩ := O3.cells (by omega)
  subst er
  have s31 := Y1.size
  have hxg : w.heap.size ≠ g := by have := X1.lt; omega
  have gne1 : b1 ≠ g := by omega
  have r0 := cs 0 _ HE2.out
  have r1 := cs 1 _ HE3.out
  have fz0 := fz 0
  have Yd := (Bel.refl w3).drew
  have O4 := O3.store (i := 0) (by omega) ((xa + (L : Int)) % 1019)
  clear cx zx fz cs
  obtain ⟨cx, _, zx⟩ := X3.facts
  have rx : w3.cell? ⟨w.heap.size, 0, none⟩ = some (.slice (some ⟨b1, o1, none⟩) gs.length c) := cx 0
  have ga3 := Y3.cell1 z1 g0
  have gb3 := Y3.cell1 z1 g1
  have xa3 := Y3.cell1 z2 x0
  have xb3 := Y3.cell1 z2 x1
  have i0 : (0 : Int) < (xs.length : Int) := by omega
  have i1 : (1 : Int) < (xs.length : Int) := by omega
  have i2 : (0 : Int) < (gs.length : Int) := by omega
  have i3 : (1 : Int) < (gs.length : Int) := by omega
  have j0 : 0 < xs.length := by omega
  have j1 : 1 < xs.length := by omega
  have j2 : 0 < gs.length := by omega
  have j3 : 1 < gs.length := by omega
  have Y4 := Y3.setCell (p := ⟨g, 0, none⟩) (by dsimp only; omega) (.int .i64 ((xa + (L : Int)) % 1019))
  have xb4 := Y4.cell1 z2 x1
  obtain ⟨y, hy⟩ : ∃ y, y = (xa + (L : Int)) % 1019 := ⟨_, rfl⟩
  rw [← hy] at O4 Y4 HAD HXE HFX xb4
  clear cx hy g0 g1 x0 x1
  go_wp2_with fail
  refine wp_region_still_tail 15 (by kernel_rfl) (by kernel_rfl) ?_
  simp only [List.take_succ_cons, List.take_zero, List.drop_succ_cons, List.drop_zero]
  repeat (first | still_step | (still_call (stillW (HLG.out _))) | (still_call (stillW (HAD.out _))))
  refine wpStill_nil ?_
  obtain ⟨g', cap', e', _, _, _, _, fy, cy⟩ := O4.cells (by rw [List.length_set]; omega)
  rw [List.length_set] at e'
  injection e' with e1 e2 e3
  injection e1 with e1
  injection e1 with e1
  subst e1
  have q1 := cy 1 _ HXE.out
  have fq1 := fy 1
  have q1d : (w3.setCell ⟨g, 0, none⟩ (.int .i64 y)).drew.cell? ⟨g, 1, none⟩ = some (.int .i64 xb) := q1
  have fq1d : (w3.setCell ⟨g, 0, none⟩ (.int .i64 y)).drew.frozen? ⟨g, 1, none⟩ = false := fq1
  have xb4d : (w3.setCell ⟨g, 0, none⟩ (.int .i64 y)).drew.cell? ⟨b2, o2 + 1, none⟩ = some (.int .i64 xb) := xb4
  have O5 := O4.store (i := 1) (by omega) (sfZ xb 1)
  have Y5 := Y4.setCell (p := ⟨g, 1, none⟩) (by dsimp only; omega) (.int .i64 (sfZ xb 1))
  generalize sfZ xb 1 = z at *
  clear fy cy e2 e3 O4 Y4
  go_wp2_with fail
  refine (HSU.out _).mono ?_
  rintro e w5 ⟨rfl, rfl⟩
  go_wp2
  refine bodyPost_ret (v := .tuple #[.slice (some ⟨g, 0, none⟩) xs.length cap, .bool true]) (by simp [results, Try.results16, go_sem]) rfl ⟨_, by rw [HQ.out], by rw [HN.out, HFX.out]; exact O5.low (by omega), Y5.drew⟩
end Go.Proofs.Ytjlcnbicehjjjaa
