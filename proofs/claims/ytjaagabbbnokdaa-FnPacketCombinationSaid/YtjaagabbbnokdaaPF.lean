/-
  DecodedSymbol, CountDecoded: contracts of the program's functions and of the reference's. No condition.
  CountDecoded: contracts of the program's function and of the reference's. No condition.
  Contracts of IsValidFeedback, of the program and of the reference, and of toFeedback. No condition.
  DecodedSymbol's length; MakeFeedback: contracts of the program's function and of the reference's. No condition.
  RecoverGeneration: contracts of the program's function and of the reference's. No condition.
-/
import Derived.Test.YtjaagabbbnokdaaMx6
import Derived.Test.YtjaagabbbnokdaaVx
import Derived.Deep.RegionHeld3
import Derived.Deep.RegionLaw
import Derived.Test.YtjaagabbbnokdaaWords
import Derived.Test.YtjaagabbbnokdaaPA
namespace Go.Proofs.Ytjaagabbbnokdaa
open Go.ChangeShapes Go.WideShapes Go.ChangeAt Go.RowKit
set_option linter.unusedVariables false
set_option maxRecDepth 100000

def symF (s i : Nat) (r : List Int) : Bool := decide (r.take s = unitV s i)
/-- The symbol with number i, if the decoder holds it. -/
def dsymZ (a b c d : Int) (m : List (List Int)) (i : Int) : Option (List Int) := if decB a b c d m = true ∧ inB i 0 (b - 1) = true then (m.find? (symF b.toNat i.toNat)).map (fun r => r.drop b.toNat) else none
theorem dsymZ_no {a b c d : Int} {m : List (List Int)} {i : Int} (h : ¬ (decB a b c d m = true ∧ inB i 0 (b - 1) = true)) : dsymZ a b c d m i = none := if_neg h
theorem dsymZ_yes {a c d : Int} {s j : Nat} {m : List (List Int)} (h1 : decB a (s : Int) c d m = true) (h2 : inB (j : Int) 0 ((s : Int) - 1) = true) : dsymZ a (s : Int) c d m (j : Int) = (m.find? (symF s j)).map (fun r => r.drop s) := by
  unfold dsymZ; rw [if_pos ⟨h1, h2⟩]; rfl
theorem find_hit {α : Type} {p : α → Bool} {m : List α} {k : Nat} {r : α} (hx : m[k]? = some r) (hn : (m.take k).all (fun x => !(p x)) = true) (hp : p r = true) : m.find? p = some r := by
  obtain ⟨hk, rfl⟩ := List.getElem?_eq_some_iff.1 hx
  conv => lhs; rw [← List.take_append_drop k m]
  rw [List.find?_append]
  have h1 : (m.take k).find? p = none := by
    rw [List.find?_eq_none]
    intro x hx2
    have := List.all_eq_true.1 hn x hx2
    simpa using this
  rw [h1, List.drop_eq_getElem_cons hk, List.find?_cons, hp]
  rfl
theorem find_miss {α : Type} {p : α → Bool} {m : List α} (hn : m.all (fun x => !(p x)) = true) : m.find? p = none := by
  rw [List.find?_eq_none]
  intro x hx
  have := List.all_eq_true.1 hn x hx
  simpa using this
theorem dec_row {a b c d : Int} {m : List (List Int)} (h : decB a b c d m = true) {k : Nat} {r : List Int} (hx : m[k]? = some r) : (r.length : Int) = b + c ∧ Row r.length r ∧ r.length ≤ 40 := by
  obtain ⟨f1, f2, f3, f4⟩ := decB_facts h
  obtain ⟨n, e, hn, _, hR⟩ := basB_facts f2
  have := hR.mtx r (List.mem_of_getElem? hx)
  refine ⟨by rw [this.1, ← f3, e], by rw [this.1]; exact this, by rw [this.1]; exact hn⟩

end Go.Proofs.Ytjaagabbbnokdaa

namespace Go.Proofs.Ytjaagabbbnokdaa
open Go.ChangeShapes Go.WideShapes Go.ChangeAt Go.RowKit
set_option linter.unusedVariables false
set_option maxRecDepth 100000

/-- How many of the numbers below n meet p. -/
def cntN (p : Nat → Bool) : Nat → Nat
  | 0 => 0
  | k + 1 => cntN p k + (if p k = true then 1 else 0)
theorem cntN_le (p : Nat → Bool) : ∀ k, cntN p k ≤ k
  | 0 => Nat.le_refl _
  | k + 1 => by have := cntN_le p k; unfold cntN; split <;> omega
theorem cntN_yes {p : Nat → Bool} {k : Nat} (h : p k = true) : cntN p (k + 1) = cntN p k + 1 := by show cntN p k + (if p k = true then 1 else 0) = _; rw [if_pos h]
theorem cntN_no {p : Nat → Bool} {k : Nat} (h : p k = false) : cntN p (k + 1) = cntN p k := by show cntN p k + (if p k = true then 1 else 0) = _; rw [if_neg (by rw [h]; decide)]; rfl
theorem cntN_zero {p : Nat → Bool} (h : ∀ k, p k = false) : ∀ n, cntN p n = 0
  | 0 => rfl
  | n + 1 => by rw [cntN_no (h n)]; exact cntN_zero h n
def cntZ (a b c d : Int) (m : List (List Int)) : Nat := if decB a b c d m = true then cntN (fun i => (dsymZ a b c d m (i : Int)).isSome) b.toNat else 0
theorem cntZ_impl (a b c d : Int) (m : List (List Int)) : cntZ a b c d m = cntN (fun i => (dsymZ a b c d m (i : Int)).isSome) (min b 8).toNat := by
  unfold cntZ
  split
  · rename_i h
    obtain ⟨_, f2, _⟩ := fmtB_facts (decB_facts h).1
    rw [show min b 8 = b by omega]
  · rename_i h
    rw [cntN_zero (fun k => by rw [dsymZ_no (fun q => h q.1)]; rfl)]

end Go.Proofs.Ytjaagabbbnokdaa

namespace Go.Proofs.Ytjaagabbbnokdaa
open Go.ChangeShapes Go.WideShapes Go.ChangeAt Go.RowKit
set_option linter.unusedVariables false

abbrev fbk (s g m : Int) : Value := .agg #[.int .i64 s, .int .i64 g, .int .i64 m]
def fbB (s g m : Int) : Bool := decide (0 ≤ s ∧ s ≤ 7 ∧ 0 ≤ g ∧ g ≤ 1000000000000 ∧ 0 ≤ m ∧ m ≤ 8)
theorem fbB_no {s g m : Int} (h : ¬ (0 ≤ s ∧ s ≤ 7 ∧ 0 ≤ g ∧ g ≤ 1000000000000 ∧ 0 ≤ m ∧ m ≤ 8)) : fbB s g m = false := decide_eq_false h
theorem fbB_yes {s g m : Int} (h : 0 ≤ s ∧ s ≤ 7 ∧ 0 ≤ g ∧ g ≤ 1000000000000 ∧ 0 ≤ m ∧ m ≤ 8) : fbB s g m = true := decide_eq_true h
theorem fbB_facts {s g m : Int} (h : fbB s g m = true) : 0 ≤ s ∧ s ≤ 7 ∧ 0 ≤ g ∧ g ≤ 1000000000000 ∧ 0 ≤ m ∧ m ≤ 8 := of_decide_eq_true h
set_option maxHeartbeats 400000 in
theorem fbI_any (s g m : Int) (w : World) : Calls Try.prog 44 #[fbk s g m] w fun e w' => e = .returned (.bool (fbB s g m)) ∧ Bel w w' := by
  by_cases h1 : s < 0 ∨ 7 < s
  · rw [fbB_no (by omega)]
    go_enter Try.func44, Try.ntmps44
    go_wp2_with fail
    refine (inR_no _ _ _ _ (by omega)).mono ?_
    rintro e w1 ⟨rfl, rfl⟩
    go_wp2
    go_ret
    exact ⟨rfl, (Bel.refl _).alloc _⟩
  by_cases h2 : g < 0 ∨ 1000000000000 < g
  · rw [fbB_no (by omega)]
    go_enter Try.func44, Try.ntmps44
    go_wp2_with fail
    refine (inR_yes _ _ _ _ (by omega) (by omega)).mono ?_
    rintro e w1 ⟨rfl, rfl⟩
    go_wp2_with fail
    refine (inR_no _ _ _ _ (by omega)).mono ?_
    rintro e w1 ⟨rfl, rfl⟩
    go_wp2
    go_ret
    exact ⟨rfl, (Bel.refl _).alloc _⟩
  by_cases h3 : m < 0 ∨ 8 < m
  · rw [fbB_no (by omega)]
    go_enter Try.func44, Try.ntmps44
    go_wp2_with fail
    refine (inR_yes _ _ _ _ (by omega) (by omega)).mono ?_
    rintro e w1 ⟨rfl, rfl⟩
    go_wp2_with fail
    refine (inR_yes _ _ _ _ (by omega) (by omega)).mono ?_
    rintro e w1 ⟨rfl, rfl⟩
    go_wp2_with fail
    refine (inR_no _ _ _ _ (by omega)).mono ?_
    rintro e w1 ⟨rfl, rfl⟩
    go_wp2
    go_ret
    exact ⟨rfl, (Bel.refl _).alloc _⟩
  · rw [fbB_yes (by omega)]
    go_enter Try.func44, Try.ntmps44
    go_wp2_with fail
    refine (inR_yes _ _ _ _ (by omega) (by omega)).mono ?_
    rintro e w1 ⟨rfl, rfl⟩
    go_wp2_with fail
    refine (inR_yes _ _ _ _ (by omega) (by omega)).mono ?_
    rintro e w1 ⟨rfl, rfl⟩
    go_wp2_with fail
    refine (inR_yes _ _ _ _ (by omega) (by omega)).mono ?_
    rintro e w1 ⟨rfl, rfl⟩
    go_wp2
    go_ret
    exact ⟨rfl, (Bel.refl _).alloc _⟩
end Go.Proofs.Ytjaagabbbnokdaa

namespace Go.Proofs.Ytjaagabbbnokdaa
open Go.ChangeShapes Go.WideShapes Go.ChangeAt Go.RowKit
set_option linter.unusedVariables false
set_option maxRecDepth 100000

theorem dsymZ_len (a b c d : Int) (m : List (List Int)) (i : Int) : ((dsymZ a b c d m i).getD []).length ≤ 40 := by
  unfold dsymZ
  split
  · rename_i h
    cases hf : m.find? (symF b.toNat i.toNat) with
    | none => simp
    | some r =>
      have hm : r ∈ m := List.mem_of_find?_eq_some hf
      obtain ⟨k, hk⟩ := List.mem_iff_getElem?.1 hm
      have := (dec_row h.1 hk).2.2
      simp only [Option.map_some, Option.getD_some, List.length_drop]
      omega
  · simp
def mfB (s a b c d : Int) (m : List (List Int)) : Bool := decB a b c d m && fbB s a (missZ a b c d m)
def mfZ (s a b c d : Int) (m : List (List Int)) (x : Int) : Int := if mfB s a b c d m = true then x else 0
theorem missZ_bd (a b c d : Int) (m : List (List Int)) : -40 ≤ missZ a b c d m ∧ missZ a b c d m ≤ 40 := by
  unfold missZ
  split
  · rename_i h
    obtain ⟨_, f2, _⟩ := fmtB_facts (decB_facts h).1
    obtain ⟨_, _, _, f5, _⟩ := basB_facts (decB_facts h).2.1
    omega
  · omega

set_option maxHeartbeats 2000000 in
theorem mfI (s a b c d : Int) (v : Value) (m : List (List Int)) (w : World) (hv : RII w v m) :
    Calls Try.prog 42 #[.int .i64 s, .agg #[.int .i64 a, .int .i64 b, .int .i64 c, .int .i64 d, v]] w fun e w' => e = .returned (.tuple #[.agg #[.int .i64 (mfZ s a b c d m s), .int .i64 (mfZ s a b c d m a), .int .i64 (mfZ s a b c d m (missZ a b c d m))], .bool (mfB s a b c d m)]) ∧ Bel w w' := by
  have HM : Hid (mfB s a b c d m = (decB a b c d m && fbB s a (missZ a b c d m))) := rfl
  have HZ : Hid (∀ x, mfZ s a b c d m x = if mfB s a b c d m = true then x else 0) := Lib.hid (fun _ => rfl)
  have HMI := Lib.hid (fun (W : World) (h : Bel w W) => missI a b c d v m W (hv.keep h))
  have HDI := Lib.hid (fun (W : World) (h : Bel w W) => decI a b c d v m W (hv.keep h))
  obtain ⟨A, cp, rfl, h2, h3, hA⟩ := id hv
  generalize missZ a b c d m = z at *
  have X := (Blk.new w 73 #[.int .i64 a, .int .i64 b, .int .i64 c, .int .i64 d, .slice A m.length cp]).alloc (.cells #[.int .i64 0, .int .i64 0, .int .i64 0] 77)
  have R := Blk.new2 w (.cells #[.int .i64 a, .int .i64 b, .int .i64 c, .int .i64 d, .slice A m.length cp] 73) 77 #[.int .i64 0, .int .i64 0, .int .i64 0]
  have Y : Bel w ((w.alloc (.cells #[.int .i64 a, .int .i64 b, .int .i64 c, .int .i64 d, .slice A m.length cp] 73)).alloc (.cells #[.int .i64 0, .int .i64 0, .int .i64 0] 77)) := ((Bel.refl _).alloc _).alloc _
  go_enter Try.func42, Try.ntmps42
  go_wp2
  obtain ⟨cx, _, zx⟩ := X.facts
  have d0 := cx 0
  have d1 := cx 1
  have d2 := cx 2
  have d3 := cx 3
  have d4 := cx 4
  simp only [Array.getElem?_eq_getElem, List.size_toArray, List.length_cons, List.length_nil, Nat.reduceAdd, Nat.reduceLT, List.getElem_toArray, List.getElem_cons_zero, List.getElem_cons_succ] at d0 d1 d2 d3 d4
  clear cx
  go_region_held3 (fun w' => w'.cell? ⟨w.heap.size, 0, none⟩ = some (.int .i64 a) ∧ w'.cell? ⟨w.heap.size, 1, none⟩ = some (.int .i64 b) ∧ w'.cell? ⟨w.heap.size, 2, none⟩ = some (.int .i64 c) ∧ w'.cell? ⟨w.heap.size, 3, none⟩ = some (.int .i64 d) ∧ w'.cell? ⟨w.heap.size, 4, none⟩ = some (.slice A m.length cp)) (first | exact ⟨e0, e1, e2, e3, e4⟩ | exact ⟨d0, d1, d2, d3, d4⟩ | (have X9 := ((X3.far (p := ⟨w.heap.size + 1 + 1, 0, none⟩) (by dsimp only; omega) (.int .i64 s)).far (p := ⟨w.heap.size + 1 + 1, 1, none⟩) (by dsimp only; omega) (.int .i64 a)).far (p := ⟨w.heap.size + 1 + 1, 2, none⟩) (by dsimp only; omega) (.int .i64 z); exact ⟨X9.facts.1 0, X9.facts.1 1, X9.facts.1 2, X9.facts.1 3, X9.facts.1 4⟩) | (have X9 := X3.alloc (.cells #[.int .i64 s, .int .i64 a, .int .i64 z] 77); exact ⟨X9.facts.1 0, X9.facts.1 1, X9.facts.1 2, X9.facts.1 3, X9.facts.1 4⟩) | (have X9 := X3.alloc (.cells #[.int .i64 0, .int .i64 0, .int .i64 0] 77); exact ⟨X9.facts.1 0, X9.facts.1 1, X9.facts.1 2, X9.facts.1 3, X9.facts.1 4⟩) | go_keep) (first | (go_at_call 93; refine (HMI.out _ ?_).mono ?_; (repeat (first | with_reducible exact Bel.refl _ | apply Bel.alloc | apply Bel.drew)); rintro e wT ⟨rfl, hbT⟩; (first | (have X3 := hbT.keep (X.alloc (.cells #[.int .i64 0, .int .i64 0, .int .i64 0] 77)); have G3 : Blk wT (w.heap.size + 2) 77 #[.int .i64 0, .int .i64 0, .int .i64 0] := hbT.keep (Blk.new3 w _ _ _ _); obtain ⟨cG3, fG3, zG3⟩ := G3.facts) | have X3 := hbT.keep X); have e0 := X3.facts.1 0; have e1 := X3.facts.1 1; have e2 := X3.facts.1 2; have e3 := X3.facts.1 3; have e4 := X3.facts.1 4))
  all_goals (
    first
    | (have GF := Blk.new wT 77 #[.int .i64 s, .int .i64 a, .int .i64 z]
       have XF := X3.alloc (.cells #[.int .i64 s, .int .i64 a, .int .i64 z] 77)
       have RF := (hbT.keep R).alloc (.cells #[.int .i64 s, .int .i64 a, .int .i64 z] 77)
       have YF := ((Y.drew).trans hbT).alloc (.cells #[.int .i64 s, .int .i64 a, .int .i64 z] 77)
       clear hbT X3 e0 e1 e2 e3 e4
       generalize wT.alloc (.cells #[.int .i64 s, .int .i64 a, .int .i64 z] 77) = wF at *
       generalize wT.heap.size = pB at *)
    | (have GF : Blk (((wT.setCell ⟨w.heap.size + 1 + 1, 0, none⟩ (.int .i64 s)).setCell ⟨w.heap.size + 1 + 1, 1, none⟩ (.int .i64 a)).setCell ⟨w.heap.size + 1 + 1, 2, none⟩ (.int .i64 z)) (w.heap.size + 1 + 1) 77 #[.int .i64 s, .int .i64 a, .int .i64 z] := ((G3.set 0 (.int .i64 s)).set 1 (.int .i64 a)).set 2 (.int .i64 z)
       have XF := ((X3.far (p := ⟨w.heap.size + 1 + 1, 0, none⟩) (by dsimp only; omega) (.int .i64 s)).far (p := ⟨w.heap.size + 1 + 1, 1, none⟩) (by dsimp only; omega) (.int .i64 a)).far (p := ⟨w.heap.size + 1 + 1, 2, none⟩) (by dsimp only; omega) (.int .i64 z)
       have RF := (((hbT.keep (R.alloc (.cells #[.int .i64 0, .int .i64 0, .int .i64 0] 77))).far (p := ⟨w.heap.size + 1 + 1, 0, none⟩) (by dsimp only; omega) (.int .i64 s)).far (p := ⟨w.heap.size + 1 + 1, 1, none⟩) (by dsimp only; omega) (.int .i64 a)).far (p := ⟨w.heap.size + 1 + 1, 2, none⟩) (by dsimp only; omega) (.int .i64 z)
       have YF := ((((Y.alloc (.cells #[.int .i64 0, .int .i64 0, .int .i64 0] 77)).drew.trans hbT).setCell (p := ⟨w.heap.size + 1 + 1, 0, none⟩) (by dsimp only; omega) (.int .i64 s)).setCell (p := ⟨w.heap.size + 1 + 1, 1, none⟩) (by dsimp only; omega) (.int .i64 a)).setCell (p := ⟨w.heap.size + 1 + 1, 2, none⟩) (by dsimp only; omega) (.int .i64 z)
       clear hbT X3 e0 e1 e2 e3 e4 G3 cG3 fG3 zG3
       generalize (((wT.setCell ⟨w.heap.size + 1 + 1, 0, none⟩ (.int .i64 s)).setCell ⟨w.heap.size + 1 + 1, 1, none⟩ (.int .i64 a)).setCell ⟨w.heap.size + 1 + 1, 2, none⟩ (.int .i64 z)) = wF at *
       generalize w.heap.size + 1 + 1 = pB at *)
    clear d0 d1 d2 d3 d4 zx
    have HD2 := Lib.hid (HDI.out wF YF)
    obtain ⟨cx, _, zx⟩ := XF.facts
    go_wp2_with fail
    refine HD2.out.mono ?_
    rintro e w1 ⟨rfl, hb1⟩
    have X1 := hb1.keep XF
    have G1 := hb1.keep GF
    have R1 := hb1.keep RF
    have Y1 := YF.trans hb1
    clear cx
    obtain ⟨cg, _, zg⟩ := G1.facts
    obtain ⟨cr, fr, zr⟩ := R1.facts
    cases q1 : decB a b c d m
    · have HN : Hid (mfB s a b c d m = false) := Lib.hid (by rw [HM.out, q1]; rfl)
      clear q1
      go_wp2
      refine bodyPost_ret (v := .tuple #[.agg #[.int .i64 0, .int .i64 0, .int .i64 0], .bool false]) (by simp [results, Try.results42, go_sem, cr]) rfl ⟨by rw [HZ.out, HZ.out, HZ.out, HN.out]; rfl, ?_⟩
      repeat (first | exact Y1 | (refine Bel.setCell ?_ (by simp) _))
    go_wp2_with fail
    refine (fbI_any s a z _).mono ?_
    rintro e w2 ⟨rfl, hb2⟩
    have G2 := hb2.keep G1
    have R2 := hb2.keep R1
    have Y2 := Y1.trans hb2
    clear cg cr fr
    obtain ⟨cg, _, zg2⟩ := G2.facts
    obtain ⟨cr, fr, zr2⟩ := R2.facts
    cases q2 : fbB s a z
    · have HN : Hid (mfB s a b c d m = false) := Lib.hid (by rw [HM.out, q1, q2]; rfl)
      clear q1 q2
      go_wp2
      refine bodyPost_ret (v := .tuple #[.agg #[.int .i64 0, .int .i64 0, .int .i64 0], .bool false]) (by simp [results, Try.results42, go_sem, cr]) rfl ⟨by rw [HZ.out, HZ.out, HZ.out, HN.out]; rfl, ?_⟩
      repeat (first | exact Y2 | (refine Bel.setCell ?_ (by simp) _))
    · have HN : Hid (mfB s a b c d m = true) := Lib.hid (by rw [HM.out, q1, q2]; rfl)
      clear q1 q2
      go_wp2
      refine bodyPost_ret (v := .tuple #[.agg #[.int .i64 s, .int .i64 a, .int .i64 z], .bool true]) (by simp [results, Try.results42, go_sem, cr]) rfl ⟨by rw [HZ.out, HZ.out, HZ.out, HN.out]; rfl, ?_⟩
      repeat (first | exact Y2 | (refine Bel.setCell ?_ (by simp) _)))
end Go.Proofs.Ytjaagabbbnokdaa

namespace Go.Proofs.Ytjaagabbbnokdaa
open Go.ChangeShapes Go.WideShapes Go.ChangeAt Go.RowKit
set_option linter.unusedVariables false
set_option maxRecDepth 100000

theorem ML.setFar {w : World} {lo : Nat} {v : Value} {xss : List (List Int)} (h : ML w lo v xss) {p : Addr} (hp : p.block < lo) (z : Value) : ML (w.setCell p z) lo v xss := by
  obtain ⟨us, hl, ho, hr⟩ := h
  have hu : ∀ k, lo ≤ k → (w.setCell p z).heap[k]? = w.heap[k]? := fun k h1 => Below.heap_setCell w p z k (by omega)
  refine ⟨us, hl, ?_, fun j u xs q1 q2 => ?_⟩
  · obtain ⟨hl2, h0 | ⟨g, cap, cur, rfl, hb, hh, h1, h2, h3, h4⟩⟩ := ho
    · exact ⟨hl2, .inl h0⟩
    · exact ⟨hl2, .inr ⟨g, cap, cur, rfl, hb, (hu g hb).trans hh, h1, h2, h3, h4⟩⟩
  · obtain ⟨A, c, hv, h1, h2, h3⟩ := hr j u xs q1 q2
    refine ⟨A, c, hv, h1, h2, fun h0 => ?_⟩
    obtain ⟨b, off, hA, hl3, hb, hne, hc⟩ := h3 h0
    refine ⟨b, off, hA, hl3, by simpa [World.setCell] using hb, hne, fun j x hx => ?_⟩
    rw [← hc j x hx]
    exact World.cell?_of_block (hu b hl3)
theorem mono_id {n : Nat} {P : Nat → Nat} (hm : ∀ i j, i < j → j < n → P i < P j) (hb : ∀ i, i < n → P i < n) : ∀ i, i < n → P i = i := by
  have low : ∀ i, i < n → i ≤ P i := by
    intro i
    induction i with
    | zero => intro _; exact Nat.zero_le _
    | succ i ih =>
      intro hi
      have := ih (by omega)
      have := hm i (i + 1) (by omega) hi
      omega
  have high : ∀ d i, i + d + 1 = n → P i ≤ i := by
    intro d
    induction d with
    | zero => intro i hi; have := hb i (by omega); omega
    | succ d ih =>
      intro i hi
      have h1 := ih (i + 1) (by omega)
      have h2 := hm i (i + 1) (by omega) (by omega)
      omega
  intro i hi
  have h1 := low i hi
  have h2 := high (n - i - 1) i (by omega)
  omega
theorem comp_facts {a c d : Int} {s : Nat} {m : List (List Int)} (h : compB a (s : Int) c d m = true) : decB a (s : Int) c d m = true ∧ m.length = s := by
  unfold compB at h
  rw [Bool.and_eq_true] at h
  exact ⟨h.1, by have := h.2; simp at this; omega⟩
theorem comp_take {a c d : Int} {s : Nat} {m : List (List Int)} (h : compB a (s : Int) c d m = true) {i : Nat} (hi : i < s) : (rw_ m i).take s = unitV s i := by
  obtain ⟨h1, h2⟩ := comp_facts h
  obtain ⟨f1, f2, f3, f4⟩ := decB_facts h1
  obtain ⟨_, _, c3⟩ := fmtB_facts f1
  obtain ⟨n, e, hn, _, hR⟩ := basB_facts f2
  have hsn : s ≤ n := by omega
  have lt : ∀ k, k < s → lead (rw_ m k) < s := by
    intro k hk
    have hr := mtx_row hR.mtx (show k < m.length by omega)
    have h5 := List.all_eq_true.1 f4 _ (rw_mem (show k < m.length by omega))
    have h6 := hR.low k (by omega)
    unfold ldB at h5
    rw [leadV_yes (by rw [hr.1]; exact h6)] at h5
    simp at h5
    omega
  have pid := mono_id (n := s) (P := fun i => lead (rw_ m i)) (fun i j hij hj => hR.mono i j hij (by omega)) lt
  have hr := mtx_row hR.mtx (show i < m.length by omega)
  apply List.ext_getElem?
  intro k
  rcases Nat.lt_or_ge k s with hk | hk
  · rw [List.getElem?_take, if_pos hk, unitV_at hk, ent_get (by rw [hr.1]; omega)]
    have h7 : lead (rw_ m k) = k := pid k hk
    by_cases e2 : k = i
    · subst e2
      rw [if_pos rfl]
      have h8 : ent (rw_ m k) (lead (rw_ m k)) = 1 := hR.one k (by omega)
      rw [h7] at h8
      rw [h8]
    · rw [if_neg e2]
      have h8 : ent (rw_ m i) (lead (rw_ m k)) = 0 := hR.col k (by omega) i (by omega) (Ne.symm e2)
      rw [h7] at h8
      rw [h8]
  · rw [List.getElem?_eq_none (by rw [List.length_take]; omega), List.getElem?_eq_none (by rw [unitV_len]; exact hk)]
theorem unitV_inj {s i j : Nat} (hi : i < s) (h : unitV s i = unitV s j) : i = j := by
  have h1 := unitV_at (i := i) hi
  rw [h, unitV_at hi] at h1
  by_cases e : i = j
  · exact e
  · rw [if_neg e, if_pos rfl] at h1; simp at h1
/-- A complete decoder holds every symbol, in order. -/
theorem comp_sym {a c d : Int} {s : Nat} {m : List (List Int)} (h : compB a (s : Int) c d m = true) {i : Nat} (hi : i < s) : dsymZ a (s : Int) c d m (i : Int) = some ((rw_ m i).drop s) := by
  obtain ⟨h1, h2⟩ := comp_facts h
  rw [dsymZ_yes h1 (decide_eq_true (by omega))]
  rw [find_hit (rw_get (show i < m.length by omega)) ?_ ?_]
  · rfl
  · rw [List.all_eq_true]
    intro r hr
    obtain ⟨k, hk⟩ := List.mem_iff_getElem?.1 hr
    rw [List.getElem?_take] at hk
    split at hk
    · rename_i hki
      have e := rw_in hk
      unfold symF
      rw [← e, comp_take h (show k < s by omega)]
      simp only [Bool.not_eq_true', decide_eq_false_iff_not]
      intro e2
      have := unitV_inj (show k < s by omega) e2
      omega
    · cases hk
  · unfold symF
    rw [decide_eq_true_eq]
    exact comp_take h hi
def rgA (a b c d : Int) (m : List (List Int)) : Int := if compB a b c d m = true then a else 0
def rgM (a b c d : Int) (m : List (List Int)) : List (List Int) := if compB a b c d m = true then m.map (fun r => r.drop b.toNat) else []
theorem rg_no {a b c d : Int} {m : List (List Int)} (h : compB a b c d m = false) : rgA a b c d m = 0 ∧ rgM a b c d m = [] := by unfold rgA rgM; rw [h]; exact ⟨rfl, rfl⟩
theorem rg_yes {a c d : Int} {s : Nat} {m : List (List Int)} (h : compB a (s : Int) c d m = true) : rgA a (s : Int) c d m = a ∧ rgM a (s : Int) c d m = m.map (fun r => r.drop s) := by unfold rgA rgM; rw [h]; exact ⟨rfl, rfl⟩
theorem flat_len {m : List (List Int)} {n : Nat} (h : ∀ r ∈ m, r.length ≤ n) : m.flatten.length ≤ m.length * n := by
  induction m with
  | nil => simp
  | cons r m ih =>
    have h1 := ih (fun x hx => h x (List.mem_cons_of_mem _ hx))
    have h2 := h r List.mem_cons_self
    rw [List.flatten_cons, List.length_append, List.length_cons, Nat.add_mul, Nat.one_mul]
    omega
theorem rgM_fl (a b c d : Int) (m : List (List Int)) : flN (rgM a b c d m) ≤ 1600 := by
  unfold rgM
  split
  · rename_i h
    have h1 : decB a b c d m = true := by unfold compB at h; rw [Bool.and_eq_true] at h; exact h.1
    obtain ⟨_, _, _, f5, _⟩ := basB_facts (decB_facts h1).2.1
    have h2 : (m.map (fun r => r.drop b.toNat)).flatten.length ≤ (m.map (fun r => r.drop b.toNat)).length * 40 := by
      apply flat_len
      intro r hr
      obtain ⟨x, hx, rfl⟩ := List.mem_map.1 hr
      obtain ⟨k, hk⟩ := List.mem_iff_getElem?.1 hx
      have := (dec_row h1 hk).2.2
      rw [List.length_drop]
      omega
    rw [List.length_map] at h2
    show (m.map (fun r => r.drop b.toNat)).flatten.length ≤ 1600
    omega
  · show ([] : List (List Int)).flatten.length ≤ 1600
    simp

end Go.Proofs.Ytjaagabbbnokdaa
