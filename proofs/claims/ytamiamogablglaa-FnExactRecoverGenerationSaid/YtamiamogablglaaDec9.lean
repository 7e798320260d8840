/-
  DecodedSymbol's length; MakeFeedback: contracts of the program's function and of the reference's. No condition.
-/
import Derived.Test.YtamiamogablglaaDec8
import Derived.Test.YtamiamogablglaaMarkM
import Derived.Test.YtamiamogablglaaFbValid
import Derived.Deep.RegionHeld3
namespace Go.Proofs.Ytamiamogablglaa
open Go.ChangeShapes Go.WideShapes Go.ChangeAt Go.RowKit
set_option linter.unusedVariables false
set_option maxRecDepth 100000

theorem dsymZ_len (a b c d : Int) (m : List (List Int)) (i : Int) : ((dsymZ a b c d m i).getD []).length ≤ 40 := by
  unfold dsymZ
  split
  · rename_i h
    cases hf : m.find? (symF b.toNat i.toNat) with
    | none => simp
    | some r =>
      have hm : r ∈ m := List.mem_of_find?_eq_some hf
      obtain ⟨k, hk⟩ := List.mem_iff_getElem?.1 hm
      have := (dec_row h.1 hk).2.2
      simp only [Option.map_some, Option.getD_some, List.length_drop]
      omega
  · simp
def mfB (s a b c d : Int) (m : List (List Int)) : Bool := decB a b c d m && fbB s a (missZ a b c d m)
def mfZ (s a b c d : Int) (m : List (List Int)) (x : Int) : Int := if mfB s a b c d m = true then x else 0
theorem missZ_bd (a b c d : Int) (m : List (List Int)) : -40 ≤ missZ a b c d m ∧ missZ a b c d m ≤ 40 := by
  unfold missZ
  split
  · rename_i h
    obtain ⟨_, f2, _⟩ := fmtB_facts (decB_facts h).1
    obtain ⟨_, _, _, f5, _⟩ := basB_facts (decB_facts h).2.1
    omega
  · omega

set_option maxHeartbeats 2000000 in
theorem mfI (s a b c d : Int) (v : Value) (m : List (List Int)) (w : World) (hv : RII w v m) :
    Calls Try.prog 25 #[.int .i64 s, .agg #[.int .i64 a, .int .i64 b, .int .i64 c, .int .i64 d, v]] w fun e w' => e = .returned (.tuple #[.agg #[.int .i64 (mfZ s a b c d m s), .int .i64 (mfZ s a b c d m a), .int .i64 (mfZ s a b c d m (missZ a b c d m))], .bool (mfB s a b c d m)]) ∧ Bel w w' := by
  have HM : Hid (mfB s a b c d m = (decB a b c d m && fbB s a (missZ a b c d m))) := rfl
  have HZ : Hid (∀ x, mfZ s a b c d m x = if mfB s a b c d m = true then x else 0) := Lib.hid (fun _ => rfl)
  have HMI := Lib.hid (fun (W : World) (h : Bel w W) => missI a b c d v m W (hv.keep h))
  have HDI := Lib.hid (fun (W : World) (h : Bel w W) => decI a b c d v m W (hv.keep h))
  obtain ⟨A, cp, rfl, h2, h3, hA⟩ := id hv
  generalize missZ a b c d m = z at *
  have X := (Blk.new w 31 #[.int .i64 a, .int .i64 b, .int .i64 c, .int .i64 d, .slice A m.length cp]).alloc (.cells #[.int .i64 0, .int .i64 0, .int .i64 0] 37)
  have R := Blk.new2 w (.cells #[.int .i64 a, .int .i64 b, .int .i64 c, .int .i64 d, .slice A m.length cp] 31) 37 #[.int .i64 0, .int .i64 0, .int .i64 0]
  have Y : Bel w ((w.alloc (.cells #[.int .i64 a, .int .i64 b, .int .i64 c, .int .i64 d, .slice A m.length cp] 31)).alloc (.cells #[.int .i64 0, .int .i64 0, .int .i64 0] 37)) := ((Bel.refl _).alloc _).alloc _
  go_enter Try.func25, Try.ntmps25
  go_wp2
  obtain ⟨cx, _, zx⟩ := X.facts
  have d0 := cx 0
  have d1 := cx 1
  have d2 := cx 2
  have d3 := cx 3
  have d4 := cx 4
  simp only [Array.getElem?_eq_getElem, List.size_toArray, List.length_cons, List.length_nil, Nat.reduceAdd, Nat.reduceLT, List.getElem_toArray, List.getElem_cons_zero, List.getElem_cons_succ] at d0 d1 d2 d3 d4
  clear cx
  go_region_held3 (fun w' => w'.cell? ⟨w.heap.size, 0, none⟩ = some (.int .i64 a) ∧ w'.cell? ⟨w.heap.size, 1, none⟩ = some (.int .i64 b) ∧ w'.cell? ⟨w.heap.size, 2, none⟩ = some (.int .i64 c) ∧ w'.cell? ⟨w.heap.size, 3, none⟩ = some (.int .i64 d) ∧ w'.cell? ⟨w.heap.size, 4, none⟩ = some (.slice A m.length cp)) (first | exact ⟨e0, e1, e2, e3, e4⟩ | exact ⟨d0, d1, d2, d3, d4⟩ | (have X9 := ((X3.far (p := ⟨w.heap.size + 1 + 1, 0, none⟩) (by dsimp only; omega) (.int .i64 s)).far (p := ⟨w.heap.size + 1 + 1, 1, none⟩) (by dsimp only; omega) (.int .i64 a)).far (p := ⟨w.heap.size + 1 + 1, 2, none⟩) (by dsimp only; omega) (.int .i64 z); exact ⟨X9.facts.1 0, X9.facts.1 1, X9.facts.1 2, X9.facts.1 3, X9.facts.1 4⟩) | (have X9 := X3.alloc (.cells #[.int .i64 s, .int .i64 a, .int .i64 z] 37); exact ⟨X9.facts.1 0, X9.facts.1 1, X9.facts.1 2, X9.facts.1 3, X9.facts.1 4⟩) | (have X9 := X3.alloc (.cells #[.int .i64 0, .int .i64 0, .int .i64 0] 37); exact ⟨X9.facts.1 0, X9.facts.1 1, X9.facts.1 2, X9.facts.1 3, X9.facts.1 4⟩) | go_keep) (first | (go_at_call 21; refine (HMI.out _ ?_).mono ?_; (repeat (first | with_reducible exact Bel.refl _ | apply Bel.alloc | apply Bel.drew)); rintro e wT ⟨rfl, hbT⟩; (first | (have X3 := hbT.keep (X.alloc (.cells #[.int .i64 0, .int .i64 0, .int .i64 0] 37)); have G3 : Blk wT (w.heap.size + 2) 37 #[.int .i64 0, .int .i64 0, .int .i64 0] := hbT.keep (Blk.new3 w _ _ _ _); obtain ⟨cG3, fG3, zG3⟩ := G3.facts) | have X3 := hbT.keep X); have e0 := X3.facts.1 0; have e1 := X3.facts.1 1; have e2 := X3.facts.1 2; have e3 := X3.facts.1 3; have e4 := X3.facts.1 4))
  all_goals (
    first
    | (have GF := Blk.new wT 37 #[.int .i64 s, .int .i64 a, .int .i64 z]
       have XF := X3.alloc (.cells #[.int .i64 s, .int .i64 a, .int .i64 z] 37)
       have RF := (hbT.keep R).alloc (.cells #[.int .i64 s, .int .i64 a, .int .i64 z] 37)
       have YF := ((Y.drew).trans hbT).alloc (.cells #[.int .i64 s, .int .i64 a, .int .i64 z] 37)
       clear hbT X3 e0 e1 e2 e3 e4
       generalize wT.alloc (.cells #[.int .i64 s, .int .i64 a, .int .i64 z] 37) = wF at *
       generalize wT.heap.size = pB at *)
    | (have GF : Blk (((wT.setCell ⟨w.heap.size + 1 + 1, 0, none⟩ (.int .i64 s)).setCell ⟨w.heap.size + 1 + 1, 1, none⟩ (.int .i64 a)).setCell ⟨w.heap.size + 1 + 1, 2, none⟩ (.int .i64 z)) (w.heap.size + 1 + 1) 37 #[.int .i64 s, .int .i64 a, .int .i64 z] := ((G3.set 0 (.int .i64 s)).set 1 (.int .i64 a)).set 2 (.int .i64 z)
       have XF := ((X3.far (p := ⟨w.heap.size + 1 + 1, 0, none⟩) (by dsimp only; omega) (.int .i64 s)).far (p := ⟨w.heap.size + 1 + 1, 1, none⟩) (by dsimp only; omega) (.int .i64 a)).far (p := ⟨w.heap.size + 1 + 1, 2, none⟩) (by dsimp only; omega) (.int .i64 z)
       have RF := (((hbT.keep (R.alloc (.cells #[.int .i64 0, .int .i64 0, .int .i64 0] 37))).far (p := ⟨w.heap.size + 1 + 1, 0, none⟩) (by dsimp only; omega) (.int .i64 s)).far (p := ⟨w.heap.size + 1 + 1, 1, none⟩) (by dsimp only; omega) (.int .i64 a)).far (p := ⟨w.heap.size + 1 + 1, 2, none⟩) (by dsimp only; omega) (.int .i64 z)
       have YF := ((((Y.alloc (.cells #[.int .i64 0, .int .i64 0, .int .i64 0] 37)).drew.trans hbT).setCell (p := ⟨w.heap.size + 1 + 1, 0, none⟩) (by dsimp only; omega) (.int .i64 s)).setCell (p := ⟨w.heap.size + 1 + 1, 1, none⟩) (by dsimp only; omega) (.int .i64 a)).setCell (p := ⟨w.heap.size + 1 + 1, 2, none⟩) (by dsimp only; omega) (.int .i64 z)
       clear hbT X3 e0 e1 e2 e3 e4 G3 cG3 fG3 zG3
       generalize (((wT.setCell ⟨w.heap.size + 1 + 1, 0, none⟩ (.int .i64 s)).setCell ⟨w.heap.size + 1 + 1, 1, none⟩ (.int .i64 a)).setCell ⟨w.heap.size + 1 + 1, 2, none⟩ (.int .i64 z)) = wF at *
       generalize w.heap.size + 1 + 1 = pB at *)
    clear d0 d1 d2 d3 d4 zx
    have HD2 := Lib.hid (HDI.out wF YF)
    obtain ⟨cx, _, zx⟩ := XF.facts
    go_wp2_with fail
    refine HD2.out.mono ?_
    rintro e w1 ⟨rfl, hb1⟩
    have X1 := hb1.keep XF
    have G1 := hb1.keep GF
    have R1 := hb1.keep RF
    have Y1 := YF.trans hb1
    clear cx
    obtain ⟨cg, _, zg⟩ := G1.facts
    obtain ⟨cr, fr, zr⟩ := R1.facts
    cases q1 : decB a b c d m
    · have HN : Hid (mfB s a b c d m = false) := Lib.hid (by rw [HM.out, q1]; rfl)
      clear q1
      go_wp2
      refine bodyPost_ret (v := .tuple #[.agg #[.int .i64 0, .int .i64 0, .int .i64 0], .bool false]) (by simp [results, Try.results25, go_sem, cr]) rfl ⟨by rw [HZ.out, HZ.out, HZ.out, HN.out]; rfl, ?_⟩
      repeat (first | exact Y1 | (refine Bel.setCell ?_ (by simp) _))
    go_wp2_with fail
    refine (fbI_any s a z _).mono ?_
    rintro e w2 ⟨rfl, hb2⟩
    have G2 := hb2.keep G1
    have R2 := hb2.keep R1
    have Y2 := Y1.trans hb2
    clear cg cr fr
    obtain ⟨cg, _, zg2⟩ := G2.facts
    obtain ⟨cr, fr, zr2⟩ := R2.facts
    cases q2 : fbB s a z
    · have HN : Hid (mfB s a b c d m = false) := Lib.hid (by rw [HM.out, q1, q2]; rfl)
      clear q1 q2
      go_wp2
      refine bodyPost_ret (v := .tuple #[.agg #[.int .i64 0, .int .i64 0, .int .i64 0], .bool false]) (by simp [results, Try.results25, go_sem, cr]) rfl ⟨by rw [HZ.out, HZ.out, HZ.out, HN.out]; rfl, ?_⟩
      repeat (first | exact Y2 | (refine Bel.setCell ?_ (by simp) _))
    · have HN : Hid (mfB s a b c d m = true) := Lib.hid (by rw [HM.out, q1, q2]; rfl)
      clear q1 q2
      go_wp2
      refine bodyPost_ret (v := .tuple #[.agg #[.int .i64 s, .int .i64 a, .int .i64 z], .bool true]) (by simp [results, Try.results25, go_sem, cr]) rfl ⟨by rw [HZ.out, HZ.out, HZ.out, HN.out]; rfl, ?_⟩
      repeat (first | exact Y2 | (refine Bel.setCell ?_ (by simp) _)))
set_option maxHeartbeats 2000000 in
theorem mfS (s a b c d : Int) (v : Value) (m : List (List Int)) (w : World) (hv : RII w v m) :
    Calls Try.prog 24 #[.int .i64 s, .agg #[.int .i64 a, .int .i64 b, .int .i64 c, .int .i64 d, v]] w fun e w' => e = .returned (.tuple #[.agg #[.int .i64 (mfZ s a b c d m s), .int .i64 (mfZ s a b c d m a), .int .i64 (mfZ s a b c d m (missZ a b c d m))], .bool (mfB s a b c d m)]) ∧ Bel w w' := by
  have HM : Hid (mfB s a b c d m = (decB a b c d m && fbB s a (missZ a b c d m))) := rfl
  have HZ : Hid (∀ x, mfZ s a b c d m x = if mfB s a b c d m = true then x else 0) := Lib.hid (fun _ => rfl)
  have HMI := Lib.hid (fun (W : World) (h : Bel w W) => missS a b c d v m W (hv.keep h))
  have HDI := Lib.hid (fun (W : World) (h : Bel w W) => decS a b c d v m W (hv.keep h))
  obtain ⟨A, cp, rfl, h2, h3, hA⟩ := id hv
  generalize missZ a b c d m = z at *
  have X := (Blk.new w 31 #[.int .i64 a, .int .i64 b, .int .i64 c, .int .i64 d, .slice A m.length cp]).alloc (.cells #[.int .i64 0, .int .i64 0, .int .i64 0] 37)
  have R := Blk.new2 w (.cells #[.int .i64 a, .int .i64 b, .int .i64 c, .int .i64 d, .slice A m.length cp] 31) 37 #[.int .i64 0, .int .i64 0, .int .i64 0]
  have Y : Bel w ((w.alloc (.cells #[.int .i64 a, .int .i64 b, .int .i64 c, .int .i64 d, .slice A m.length cp] 31)).alloc (.cells #[.int .i64 0, .int .i64 0, .int .i64 0] 37)) := ((Bel.refl _).alloc _).alloc _
  go_enter Try.func24, Try.ntmps24
  go_wp2
  obtain ⟨cx, _, zx⟩ := X.facts
  have d0 := cx 0
  have d1 := cx 1
  have d2 := cx 2
  have d3 := cx 3
  have d4 := cx 4
  simp only [Array.getElem?_eq_getElem, List.size_toArray, List.length_cons, List.length_nil, Nat.reduceAdd, Nat.reduceLT, List.getElem_toArray, List.getElem_cons_zero, List.getElem_cons_succ] at d0 d1 d2 d3 d4
  clear cx
  go_region_held3 (fun w' => w'.cell? ⟨w.heap.size, 0, none⟩ = some (.int .i64 a) ∧ w'.cell? ⟨w.heap.size, 1, none⟩ = some (.int .i64 b) ∧ w'.cell? ⟨w.heap.size, 2, none⟩ = some (.int .i64 c) ∧ w'.cell? ⟨w.heap.size, 3, none⟩ = some (.int .i64 d) ∧ w'.cell? ⟨w.heap.size, 4, none⟩ = some (.slice A m.length cp)) (first | exact ⟨e0, e1, e2, e3, e4⟩ | exact ⟨d0, d1, d2, d3, d4⟩ | (have X9 := ((X3.far (p := ⟨w.heap.size + 1 + 1, 0, none⟩) (by dsimp only; omega) (.int .i64 s)).far (p := ⟨w.heap.size + 1 + 1, 1, none⟩) (by dsimp only; omega) (.int .i64 a)).far (p := ⟨w.heap.size + 1 + 1, 2, none⟩) (by dsimp only; omega) (.int .i64 z); exact ⟨X9.facts.1 0, X9.facts.1 1, X9.facts.1 2, X9.facts.1 3, X9.facts.1 4⟩) | (have X9 := X3.alloc (.cells #[.int .i64 s, .int .i64 a, .int .i64 z] 37); exact ⟨X9.facts.1 0, X9.facts.1 1, X9.facts.1 2, X9.facts.1 3, X9.facts.1 4⟩) | (have X9 := X3.alloc (.cells #[.int .i64 0, .int .i64 0, .int .i64 0] 37); exact ⟨X9.facts.1 0, X9.facts.1 1, X9.facts.1 2, X9.facts.1 3, X9.facts.1 4⟩) | go_keep) (first | (go_at_call 20; refine (HMI.out _ ?_).mono ?_; (repeat (first | with_reducible exact Bel.refl _ | apply Bel.alloc | apply Bel.drew)); rintro e wT ⟨rfl, hbT⟩; (first | (have X3 := hbT.keep (X.alloc (.cells #[.int .i64 0, .int .i64 0, .int .i64 0] 37)); have G3 : Blk wT (w.heap.size + 2) 37 #[.int .i64 0, .int .i64 0, .int .i64 0] := hbT.keep (Blk.new3 w _ _ _ _); obtain ⟨cG3, fG3, zG3⟩ := G3.facts) | have X3 := hbT.keep X); have e0 := X3.facts.1 0; have e1 := X3.facts.1 1; have e2 := X3.facts.1 2; have e3 := X3.facts.1 3; have e4 := X3.facts.1 4))
  all_goals (
    first
    | (have GF := Blk.new wT 37 #[.int .i64 s, .int .i64 a, .int .i64 z]
       have XF := X3.alloc (.cells #[.int .i64 s, .int .i64 a, .int .i64 z] 37)
       have RF := (hbT.keep R).alloc (.cells #[.int .i64 s, .int .i64 a, .int .i64 z] 37)
       have YF := ((Y.drew).trans hbT).alloc (.cells #[.int .i64 s, .int .i64 a, .int .i64 z] 37)
       clear hbT X3 e0 e1 e2 e3 e4
       generalize wT.alloc (.cells #[.int .i64 s, .int .i64 a, .int .i64 z] 37) = wF at *
       generalize wT.heap.size = pB at *)
    | (have GF : Blk (((wT.setCell ⟨w.heap.size + 1 + 1, 0, none⟩ (.int .i64 s)).setCell ⟨w.heap.size + 1 + 1, 1, none⟩ (.int .i64 a)).setCell ⟨w.heap.size + 1 + 1, 2, none⟩ (.int .i64 z)) (w.heap.size + 1 + 1) 37 #[.int .i64 s, .int .i64 a, .int .i64 z] := ((G3.set 0 (.int .i64 s)).set 1 (.int .i64 a)).set 2 (.int .i64 z)
       have XF := ((X3.far (p := ⟨w.heap.size + 1 + 1, 0, none⟩) (by dsimp only; omega) (.int .i64 s)).far (p := ⟨w.heap.size + 1 + 1, 1, none⟩) (by dsimp only; omega) (.int .i64 a)).far (p := ⟨w.heap.size + 1 + 1, 2, none⟩) (by dsimp only; omega) (.int .i64 z)
       have RF := (((hbT.keep (R.alloc (.cells #[.int .i64 0, .int .i64 0, .int .i64 0] 37))).far (p := ⟨w.heap.size + 1 + 1, 0, none⟩) (by dsimp only; omega) (.int .i64 s)).far (p := ⟨w.heap.size + 1 + 1, 1, none⟩) (by dsimp only; omega) (.int .i64 a)).far (p := ⟨w.heap.size + 1 + 1, 2, none⟩) (by dsimp only; omega) (.int .i64 z)
       have YF := ((((Y.alloc (.cells #[.int .i64 0, .int .i64 0, .int .i64 0] 37)).drew.trans hbT).setCell (p := ⟨w.heap.size + 1 + 1, 0, none⟩) (by dsimp only; omega) (.int .i64 s)).setCell (p := ⟨w.heap.size + 1 + 1, 1, none⟩) (by dsimp only; omega) (.int .i64 a)).setCell (p := ⟨w.heap.size + 1 + 1, 2, none⟩) (by dsimp only; omega) (.int .i64 z)
       clear hbT X3 e0 e1 e2 e3 e4 G3 cG3 fG3 zG3
       generalize (((wT.setCell ⟨w.heap.size + 1 + 1, 0, none⟩ (.int .i64 s)).setCell ⟨w.heap.size + 1 + 1, 1, none⟩ (.int .i64 a)).setCell ⟨w.heap.size + 1 + 1, 2, none⟩ (.int .i64 z)) = wF at *
       generalize w.heap.size + 1 + 1 = pB at *)
    clear d0 d1 d2 d3 d4 zx
    have HD2 := Lib.hid (HDI.out wF YF)
    obtain ⟨cx, _, zx⟩ := XF.facts
    go_wp2_with fail
    refine HD2.out.mono ?_
    rintro e w1 ⟨rfl, hb1⟩
    have X1 := hb1.keep XF
    have G1 := hb1.keep GF
    have R1 := hb1.keep RF
    have Y1 := YF.trans hb1
    clear cx
    obtain ⟨cg, _, zg⟩ := G1.facts
    obtain ⟨cr, fr, zr⟩ := R1.facts
    cases q1 : decB a b c d m
    · have HN : Hid (mfB s a b c d m = false) := Lib.hid (by rw [HM.out, q1]; rfl)
      clear q1
      go_wp2
      refine bodyPost_ret (v := .tuple #[.agg #[.int .i64 0, .int .i64 0, .int .i64 0], .bool false]) (by simp [results, Try.results24, go_sem, cr]) rfl ⟨by rw [HZ.out, HZ.out, HZ.out, HN.out]; rfl, ?_⟩
      repeat (first | exact Y1 | (refine Bel.setCell ?_ (by simp) _))
    go_wp2_with fail
    refine (fbS_any s a z _).mono ?_
    rintro e w2 ⟨rfl, hb2⟩
    have G2 := hb2.keep G1
    have R2 := hb2.keep R1
    have Y2 := Y1.trans hb2
    clear cg cr fr
    obtain ⟨cg, _, zg2⟩ := G2.facts
    obtain ⟨cr, fr, zr2⟩ := R2.facts
    cases q2 : fbB s a z
    · have HN : Hid (mfB s a b c d m = false) := Lib.hid (by rw [HM.out, q1, q2]; rfl)
      clear q1 q2
      go_wp2
      refine bodyPost_ret (v := .tuple #[.agg #[.int .i64 0, .int .i64 0, .int .i64 0], .bool false]) (by simp [results, Try.results24, go_sem, cr]) rfl ⟨by rw [HZ.out, HZ.out, HZ.out, HN.out]; rfl, ?_⟩
      repeat (first | exact Y2 | (refine Bel.setCell ?_ (by simp) _))
    · have HN : Hid (mfB s a b c d m = true) := Lib.hid (by rw [HM.out, q1, q2]; rfl)
      clear q1 q2
      go_wp2
      refine bodyPost_ret (v := .tuple #[.agg #[.int .i64 s, .int .i64 a, .int .i64 z], .bool true]) (by simp [results, Try.results24, go_sem, cr]) rfl ⟨by rw [HZ.out, HZ.out, HZ.out, HN.out]; rfl, ?_⟩
      repeat (first | exact Y2 | (refine Bel.setCell ?_ (by simp) _)))
end Go.Proofs.Ytamiamogablglaa
