/-
  Formats and manifests: contracts of isFormat, l14Range, ContainsFunc over hashes, IsValidManifest, of the program and of the reference. No condition.
-/
import Derived.Test.YtdhglociegpmaaaVec
namespace Go.Proofs.Ytdhglociegpmaaa
open Go.ChangeShapes Go.WideShapes Go.ChangeAt Go.RowKit
set_option linter.unusedVariables false
set_option maxRecDepth 100000

def inB (n lo hi : Int) : Bool := decide (lo ≤ n ∧ n ≤ hi)
theorem inB_facts {n lo hi : Int} (h : inB n lo hi = true) : lo ≤ n ∧ n ≤ hi := of_decide_eq_true h
theorem inRB (n lo hi : Int) (w : World) : Calls Try.prog 73 #[.int .i64 n, .int .i64 lo, .int .i64 hi] w fun e w' => e = .returned (.bool (inB n lo hi)) ∧ w = w' := by
  by_cases h : lo ≤ n ∧ n ≤ hi
  · rw [show inB n lo hi = true from decide_eq_true h]; exact inR_yes n lo hi w h.1 h.2
  · rw [show inB n lo hi = false from decide_eq_false h]; exact inR_no n lo hi w (by omega)
theorem l1InB (n lo hi : Int) (w : World) : Calls Try.prog 70 #[.int .i64 n, .int .i64 lo, .int .i64 hi] w fun e w' => e = .returned (.bool (inB n lo hi)) ∧ w = w' := by
  by_cases h : lo ≤ n ∧ n ≤ hi
  · rw [show inB n lo hi = true from decide_eq_true h]; exact l1In_yes n lo hi w h.1 h.2
  · rw [show inB n lo hi = false from decide_eq_false h]; exact l1In_no n lo hi w (by omega)
def fmtB (g s d : Int) : Bool := inB g 0 1000000000000 && inB s 1 8 && inB d 1 16
theorem fmtB_facts {g s d : Int} (h : fmtB g s d = true) : (0 ≤ g ∧ g ≤ 1000000000000) ∧ (1 ≤ s ∧ s ≤ 8) ∧ (1 ≤ d ∧ d ≤ 16) := by
  unfold fmtB at h
  rw [Bool.and_eq_true, Bool.and_eq_true] at h
  exact ⟨inB_facts h.1.1, inB_facts h.1.2, inB_facts h.2⟩
set_option maxHeartbeats 400000 in
theorem fmtI (g s d : Int) (w : World) : Calls Try.prog 139 #[.int .i64 g, .int .i64 s, .int .i64 d] w fun e w' => e = .returned (.bool (fmtB g s d)) ∧ w = w' := by
  have HF : Hid (fmtB g s d = (inB g 0 1000000000000 && inB s 1 8 && inB d 1 16)) := rfl
  go_enter Try.func139, Try.ntmps139
  go_wp2_with fail
  refine (inRB _ _ _ _).mono ?_
  rintro e w1 ⟨rfl, rfl⟩
  cases h1 : inB g 0 1000000000000
  · go_wp2
    go_ret
    exact ⟨by rw [HF.out, h1]; rfl, rfl⟩
  go_wp2_with fail
  refine (inRB _ _ _ _).mono ?_
  rintro e w1 ⟨rfl, rfl⟩
  cases h2 : inB s 1 8
  · go_wp2
    go_ret
    exact ⟨by rw [HF.out, h1, h2]; rfl, rfl⟩
  go_wp2_with fail
  refine (inRB _ _ _ _).mono ?_
  rintro e w1 ⟨rfl, rfl⟩
  go_wp2
  go_ret
  exact ⟨by rw [HF.out, h1, h2]; rfl, rfl⟩
set_option maxHeartbeats 400000 in
theorem fmtS (g s d : Int) (w : World) : Calls Try.prog 138 #[.int .i64 g, .int .i64 s, .int .i64 d] w fun e w' => e = .returned (.bool (fmtB g s d)) ∧ w = w' := by
  have HF : Hid (fmtB g s d = (inB g 0 1000000000000 && inB s 1 8 && inB d 1 16)) := rfl
  go_enter Try.func138, Try.ntmps138
  go_wp2_with fail
  refine (l1InB _ _ _ _).mono ?_
  rintro e w1 ⟨rfl, rfl⟩
  cases h1 : inB g 0 1000000000000
  · go_wp2
    go_ret
    exact ⟨by rw [HF.out, h1]; rfl, rfl⟩
  go_wp2_with fail
  refine (l1InB _ _ _ _).mono ?_
  rintro e w1 ⟨rfl, rfl⟩
  cases h2 : inB s 1 8
  · go_wp2
    go_ret
    exact ⟨by rw [HF.out, h1, h2]; rfl, rfl⟩
  go_wp2_with fail
  refine (l1InB _ _ _ _).mono ?_
  rintro e w1 ⟨rfl, rfl⟩
  go_wp2
  go_ret
  exact ⟨by rw [HF.out, h1, h2]; rfl, rfl⟩

def maniB (a b c d m : Int) (xs : List Int) : Bool := inB a 0 7 && fmtB b c d && ((xs.length : Int) == c) && inB m 0 2147483646 && xs.all grB
theorem notGr (x : Int) (w : World) : Calls Try.prog 141 #[.int .i64 x] w fun e w' => e = .returned (.bool (!(grB x))) ∧ w = w' := by
  go_enter Try.func141, Try.ntmps141
  go_wp2_with fail
  refine (grI x _).mono ?_
  rintro e w1 ⟨rfl, rfl⟩
  go_wp2
  go_ret
  exact ⟨rfl, rfl⟩
set_option maxHeartbeats 1000000 in
theorem idxGr (v : Value) (xs : List Int) (w : World) (hv : RI w v xs) :
    Calls Try.prog 161 #[v, .func (.func 141) #[] #[]] w fun e w' => (∃ k : Int, e = .returned (.int .i64 k) ∧ (decide (0 ≤ k) = !(xs.all grB))) ∧ w = w' := by
  obtain ⟨A, c, rfl, h1, h2, hA⟩ := hv
  go_enter Try.func161, Try.ntmps161
  go_wp2
  go_loopg [8] xs.length (fun f i wr => ∃ k : Nat, k + f = xs.length ∧ i = .int .i64 k ∧ wr = w ∧ Hid ((xs.take k).all grB = true))
  case atStart => exact ⟨0, by omega, rfl, rfl, by show _ = _; simp⟩
  case round =>
    obtain ⟨k, hk, rfl, rfl, HB⟩ := hrel
    have hk2 : k ≤ xs.length := by omega
    have HK := Lib.hid hk
    clear hk
    by_cases hlt : k < xs.length
    · obtain ⟨b1, o1, rfl, z1, hc1⟩ := hA (by omega)
      have hx : Hid (xs[k]? = some (xs[k]'hlt)) := List.getElem?_eq_getElem hlt
      have g1 := hc1 k _ hx
      generalize xs[k]'hlt = x at *
      clear hc1 hA
      have i0 : (0 : Int) ≤ (k : Int) := by omega
      have i1 : (k : Int) < (xs.length : Int) := by omega
      go_wp2_with fail
      refine (notGr x _).mono ?_
      rintro e w1 ⟨rfl, rfl⟩
      cases hq : grB x
      · have HF := Lib.hid (all_fail (p := grB) hx.out hq)
        clear hq
        go_wp2
        go_ret
        exact ⟨⟨(k : Int), rfl, by rw [HF.out]; simp⟩, rfl⟩
      · have HF := Lib.hid (all_step (p := grB) hx.out HB.out hq)
        clear hq
        go_wp2
        go_roundg (xs.length - (k + 1))
        case measure => have := HK.out; omega
        case rel => exact ⟨k + 1, by omega, by go_num, rfl, HF⟩
    · obtain rfl : k = xs.length := by omega
      have i1 : ¬ (xs.length : Int) < (xs.length : Int) := by omega
      have HF := Lib.hid (all_end HB.out)
      go_wp2
      go_ret
      exact ⟨⟨-1, rfl, by rw [HF.out]; rfl⟩, rfl⟩
set_option maxHeartbeats 400000 in
theorem contGr (v : Value) (xs : List Int) (w : World) (hv : RI w v xs) :
    Calls Try.prog 140 #[v, .func (.func 141) #[] #[]] w fun e w' => e = .returned (.bool (!(xs.all grB))) ∧ w = w' := by
  go_enter Try.func140, Try.ntmps140
  go_wp2_with fail
  refine (idxGr v xs _ hv).mono ?_
  rintro e w1 ⟨⟨k, rfl, hk⟩, rfl⟩
  go_wp2
  go_ret
  exact ⟨by first | rfl | simp [hk], rfl⟩
set_option maxHeartbeats 1000000 in
theorem maniI (a b c d m : Int) (v : Value) (xs : List Int) (w : World) (hv : RI w v xs) :
    Calls Try.prog 89 #[.agg #[.int .i64 a, .int .i64 b, .int .i64 c, .int .i64 d, v, .int .i64 m]] w fun e w' => e = .returned (.bool (maniB a b c d m xs)) ∧ Bel w w' := by
  have HM : Hid (maniB a b c d m xs = (inB a 0 7 && fmtB b c d && ((xs.length : Int) == c) && inB m 0 2147483646 && xs.all grB)) := rfl
  obtain ⟨A, cp, rfl, h1, h2, hA⟩ := id hv
  have Y : Bel w (w.alloc (.cells #[.int .i64 a, .int .i64 b, .int .i64 c, .int .i64 d, .slice A xs.length cp, .int .i64 m] 42)) := (Bel.refl _).alloc _
  go_enter Try.func89, Try.ntmps89
  go_wp2_with fail
  refine (inRB _ _ _ _).mono ?_
  rintro e w1 ⟨rfl, rfl⟩
  cases q1 : inB a 0 7
  · go_wp2
    go_ret
    exact ⟨by rw [HM.out, q1]; rfl, Y⟩
  go_wp2_with fail
  refine (fmtI _ _ _ _).mono ?_
  rintro e w1 ⟨rfl, rfl⟩
  cases q2 : fmtB b c d
  · go_wp2
    go_ret
    exact ⟨by rw [HM.out, q1, q2]; rfl, Y⟩
  cases q3 : ((xs.length : Int) == c)
  · have q3' : ((xs.length : Int) != c) = true := by simp only [bne, q3]; rfl
    have Q3 := Lib.hid q3
    clear q3
    go_wp2
    go_ret
    exact ⟨by rw [HM.out, q1, q2, Q3.out]; rfl, Y⟩
  have q3' : ((xs.length : Int) != c) = false := by simp only [bne, q3]; rfl
  have Q3 := Lib.hid q3
  clear q3
  go_wp2_with fail
  refine (inRB _ _ _ _).mono ?_
  rintro e w1 ⟨rfl, rfl⟩
  cases q4 : inB m 0 2147483646
  · go_wp2
    go_ret
    exact ⟨by rw [HM.out, q1, q2, Q3.out, q4]; rfl, Y⟩
  go_wp2_with fail
  refine (contGr _ xs _ (hv.keep Y)).mono ?_
  rintro e w1 ⟨rfl, rfl⟩
  go_wp2
  go_ret
  exact ⟨by rw [HM.out, q1, q2, Q3.out, q4]; simp, Y⟩
set_option maxHeartbeats 1000000 in
theorem maniS (a b c d m : Int) (v : Value) (xs : List Int) (w : World) (hv : RI w v xs) :
    Calls Try.prog 86 #[.agg #[.int .i64 a, .int .i64 b, .int .i64 c, .int .i64 d, v, .int .i64 m]] w fun e w' => e = .returned (.bool (maniB a b c d m xs)) ∧ Bel w w' := by
  have HM : Hid (maniB a b c d m xs = (inB a 0 7 && fmtB b c d && ((xs.length : Int) == c) && inB m 0 2147483646 && xs.all grB)) := rfl
  obtain ⟨A, cp, rfl, h1, h2, hA⟩ := id hv
  have Y : Bel w (w.alloc (.cells #[.int .i64 a, .int .i64 b, .int .i64 c, .int .i64 d, .slice A xs.length cp, .int .i64 m] 42)) := (Bel.refl _).alloc _
  go_enter Try.func86, Try.ntmps86
  go_wp2_with fail
  refine (l1InB _ _ _ _).mono ?_
  rintro e w1 ⟨rfl, rfl⟩
  cases q1 : inB a 0 7
  · go_wp2
    go_ret
    exact ⟨by rw [HM.out, q1]; rfl, Y⟩
  go_wp2_with fail
  refine (fmtS _ _ _ _).mono ?_
  rintro e w1 ⟨rfl, rfl⟩
  cases q2 : fmtB b c d
  · go_wp2
    go_ret
    exact ⟨by rw [HM.out, q1, q2]; rfl, Y⟩
  cases q3 : ((xs.length : Int) == c)
  · have q3' : ((xs.length : Int) != c) = true := by simp only [bne, q3]; rfl
    have Q3 := Lib.hid q3
    clear q3
    go_wp2
    go_ret
    exact ⟨by rw [HM.out, q1, q2, Q3.out]; rfl, Y⟩
  have q3' : ((xs.length : Int) != c) = false := by simp only [bne, q3]; rfl
  have Q3 := Lib.hid q3
  clear q3
  have Q1 := Lib.hid q1
  have Q2 := Lib.hid q2
  clear q1 q2
  go_wp2
  have X := Blk.new w 42 #[.int .i64 a, .int .i64 b, .int .i64 c, .int .i64 d, .slice A xs.length cp, .int .i64 m]
  go_loopg [3] xs.length (fun f i wr => ∃ k : Nat, k + f = xs.length ∧ i = .int .i64 k ∧ Blk wr w.heap.size 42 #[.int .i64 a, .int .i64 b, .int .i64 c, .int .i64 d, .slice A xs.length cp, .int .i64 m] ∧ Bel w wr ∧ Hid ((xs.take k).all grB = true))
  case atStart => exact ⟨0, by omega, rfl, X, Y, by show _ = _; simp⟩
  case round =>
    clear X Y
    obtain ⟨k, hk, rfl, X, Y, HB⟩ := hrel
    have hk2 : k ≤ xs.length := by omega
    have HK := Lib.hid hk
    clear hk
    obtain ⟨cc, _, _⟩ := X.facts
    have r4 := cc 4
    have r5 := cc 5
    simp at r4 r5
    clear cc
    by_cases hlt : k < xs.length
    · obtain ⟨b1, o1, rfl, z1, hc1⟩ := hA (by omega)
      have hx : Hid (xs[k]? = some (xs[k]'hlt)) := List.getElem?_eq_getElem hlt
      have g1 := Y.cell1 z1 (hc1 k _ hx)
      generalize xs[k]'hlt = x at *
      clear hc1 hA
      have i0 : (0 : Int) ≤ (k : Int) := by omega
      have i1 : (k : Int) < (xs.length : Int) := by omega
      go_wp2_with fail
      refine (grS x _).mono ?_
      rintro e w1 ⟨rfl, rfl⟩
      cases hq : grB x
      · have HF := Lib.hid (all_fail (p := grB) hx.out hq)
        clear hq
        go_wp2
        go_ret
        exact ⟨by rw [HM.out, HF.out]; simp, Y⟩
      · have HF := Lib.hid (all_step (p := grB) hx.out HB.out hq)
        clear hq
        go_wp2
        go_roundg (xs.length - (k + 1))
        case measure => have := HK.out; omega
        case rel => exact ⟨k + 1, by omega, by go_num, X, Y, HF⟩
    · obtain rfl : k = xs.length := by omega
      have i1 : ¬ (xs.length : Int) < (xs.length : Int) := by omega
      have HF := Lib.hid (all_end HB.out)
      go_wp2_with fail
      refine (l1InB _ _ _ _).mono ?_
      rintro e w1 ⟨rfl, rfl⟩
      go_wp2
      go_ret
      exact ⟨by rw [HM.out, Q1.out, Q2.out, Q3.out, HF.out]; simp, Y⟩
end Go.Proofs.Ytdhglociegpmaaa
