/-
  The table of reports: contracts of entry and l17Find, GenerationDone, DegreesNeeded, of the program and of the reference. No condition.
-/
import Derived.Test.YtchodlfkoafeaaaIdx
import Derived.Test.YtchodlfkoafeaaaSl3
namespace Go.Proofs.Ytchodlfkoafeaaa
open Go.ChangeShapes Go.WideShapes Go.ChangeAt Go.RowKit
set_option linter.unusedVariables false
set_option maxRecDepth 100000

def entB (a b : Int) (f : Tr) : Bool := (f.2.1 == a) && (f.1 == b)
set_option maxHeartbeats 400000 in
theorem entC (a b : Int) (q0 q1 : Addr) (f : Tr) (w : World) (h0 : w.cell? q0 = some (.int .i64 a)) (h1 : w.cell? q1 = some (.int .i64 b)) (l0 : q0.block < w.heap.size) (l1 : q1.block < w.heap.size) :
    Calls Try.prog 78 #[.agg #[.int .i64 f.1, .int .i64 f.2.1, .int .i64 f.2.2], .pointer (some q0), .pointer (some q1)] w fun e w' => e = .returned (.bool (entB a b f)) ∧ Bel w w' := by
  obtain ⟨x, y, z⟩ := f
  dsimp only
  have c0 : ∀ o, (w.alloc o).cell? q0 = some (.int .i64 a) := fun o => (World.cell?_alloc_lt w o q0 l0).trans h0
  have c1 : ∀ o, (w.alloc o).cell? q1 = some (.int .i64 b) := fun o => (World.cell?_alloc_lt w o q1 l1).trans h1
  clear h0 h1 l0 l1
  cases e1 : (y == a)
  · have HB : Hid (entB a b (x, y, z) = false) := by show _ = _; simp only [entB, e1]; rfl
    go_enter Try.func78, Try.ntmps78
    go_wp2
    go_ret
    exact ⟨by rw [HB.out]; rfl, (Bel.refl _).alloc _⟩
  · have HB : Hid (entB a b (x, y, z) = (x == b)) := by show _ = _; simp only [entB, e1]; rfl
    go_enter Try.func78, Try.ntmps78
    go_wp2
    go_ret
    exact ⟨by rw [HB.out]; rfl, (Bel.refl _).alloc _⟩
set_option maxHeartbeats 400000 in
theorem entI (a b : Int) (v : Value) (fs : List Tr) (w : World) (hv : RT w v fs) :
    Calls Try.prog 61 #[.agg #[v], .int .i64 a, .int .i64 b] w fun e w' => e = .returned (.int .i64 (idxZ (entB a b) fs)) ∧ Bel w w' := by
  have hmf : ∀ (fn : Fn) (first cap : Array Value) (w : World), (Instr.makeFunc fn first cap).run Try.prog w = .ok (.func fn first cap) w := fun _ _ _ _ => rfl
  have X1 := ((Blk.new2 w (.cells #[v] 40) 3 #[.int .i64 a]).alloc (.cells #[.int .i64 b] 3))
  have X2 := (Blk.new3 w (.cells #[v] 40) (.cells #[.int .i64 a] 3) 3 #[.int .i64 b])
  have Y : Bel w (((w.alloc (.cells #[v] 40)).alloc (.cells #[.int .i64 a] 3)).alloc (.cells #[.int .i64 b] 3)) := (((Bel.refl _).alloc _).alloc _).alloc _
  go_enter Try.func61, Try.ntmps61
  go_wp2_with fail
  refine (idxFb v fs (entB a b) _ _ _ (hv.keep Y) ?_).mono ?_
  · intro f W hW
    have Z1 := hW.keep X1
    have Z2 := hW.keep X2
    obtain ⟨c1, _, l1⟩ := Z1.facts
    obtain ⟨c2, _, l2⟩ := Z2.facts
    exact entC a b _ _ f W (c1 0) (c2 0) l1 l2
  · rintro e w1 ⟨rfl, hb1⟩
    clear X1 X2
    go_wp2
    go_ret
    exact ⟨rfl, Y.trans hb1⟩
theorem idx_cases {α : Type} (p : α → Bool) (fs : List α) : (idxZ p fs = -1 ∧ fs.find? p = none) ∨ ∃ (k : Nat) (f : α), idxZ p fs = (k : Int) ∧ fs[k]? = some f ∧ fs.find? p = some f := by
  unfold idxZ
  cases h : fs.findIdx? p with
  | none =>
    left
    refine ⟨rfl, ?_⟩
    rw [List.find?_eq_none]
    rw [List.findIdx?_eq_none_iff] at h
    intro x hx
    simp [h x hx]
  | some k =>
    right
    have h2 := h
    rw [List.findIdx?_eq_some_iff_getElem] at h2
    obtain ⟨hk, hp, hj⟩ := h2
    refine ⟨k, fs[k], rfl, List.getElem?_eq_getElem hk, ?_⟩
    rw [List.find?_eq_some_iff_getElem]
    exact ⟨hp, k, hk, rfl, fun j hjk => by simp [hj j hjk]⟩
/-- Has the sink reported that nothing is missing? -/
def doneP (fs : List Tr) (g s : Int) : Bool := match fs.find? (entB g s) with
  | some f => f.2.2 == 0
  | none => false
theorem doneP_none {fs : List Tr} {g s : Int} (h : fs.find? (entB g s) = none) : doneP fs g s = false := by simp [doneP, h]
theorem doneP_some {fs : List Tr} {g s : Int} {f : Tr} (h : fs.find? (entB g s) = some f) : doneP fs g s = (f.2.2 == 0) := by simp [doneP, h]
/-- What is known to be missing at a sink. -/
def missZ (fs : List Tr) (g size s : Int) : Int := match fs.find? (entB g s) with
  | some f => f.2.2
  | none => size
theorem missZ_none {fs : List Tr} {g z s : Int} (h : fs.find? (entB g s) = none) : missZ fs g z s = z := by simp [missZ, h]
theorem missZ_some {fs : List Tr} {g z s : Int} {f : Tr} (h : fs.find? (entB g s) = some f) : missZ fs g z s = f.2.2 := by simp [missZ, h]
/-- The most that is missing at the first k sinks. -/
def degZ (fs : List Tr) (g size : Int) (sinks : List Int) : Nat → Int
  | 0 => 0
  | k + 1 => if k = 0 ∨ degZ fs g size sinks k < missZ fs g size (sinks.getD k 0) then missZ fs g size (sinks.getD k 0) else degZ fs g size sinks k
theorem degZ_step {fs : List Tr} {g size : Int} {sinks : List Int} {k : Nat} {s : Int} (h : sinks[k]? = some s) :
    degZ fs g size sinks (k + 1) = if k = 0 ∨ degZ fs g size sinks k < missZ fs g size s then missZ fs g size s else degZ fs g size sinks k := by simp [degZ, List.getD, h]
theorem all_fail' {α : Type} {p : α → Bool} {xs : List α} {k : Nat} {x : α} (hx : xs[k]? = some x) (hp : p x = false) : xs.all p = false := by
  rw [List.all_eq_false]
  exact ⟨x, List.mem_of_getElem? hx, by simp [hp]⟩
set_option maxHeartbeats 2000000 in
theorem doneI (g : Int) (v u : Value) (fs : List Tr) (sinks : List Int) (w : World) (hv : RT w v fs) (hu : RI w u sinks) :
    Calls Try.prog 28 #[.agg #[v], .int .i64 g, u] w fun e w' => e = .returned (.bool (sinks.all (doneP fs g))) ∧ Bel w w' := by
  obtain ⟨A, c, rfl, h1, h2, hA⟩ := id hv
  obtain ⟨B, d, rfl, h3, h4, hB⟩ := id hu
  go_enter Try.func28, Try.ntmps28
  go_wp2
  go_loopg [12] sinks.length (fun f i wr => ∃ k : Nat, k + f = sinks.length ∧ i = .int .i64 k ∧ Blk wr w.heap.size 40 #[.slice A fs.length c] ∧ Bel w wr ∧ Hid ((sinks.take k).all (doneP fs g) = true))
  case atStart => exact ⟨0, by omega, rfl, Blk.new w _ _, (Bel.refl _).alloc _, by show _ = _; simp⟩
  case round =>
    obtain ⟨k, hk, rfl, X, Y, HB⟩ := hrel
    have hk2 : k ≤ sinks.length := by omega
    have HK := Lib.hid hk
    clear hk
    obtain ⟨cc, _, zz⟩ := X.facts
    have r1 := cc 0
    simp at r1
    clear cc
    by_cases hlt : k < sinks.length
    · obtain ⟨b2, o2, rfl, z2, hc2⟩ := hB (by omega)
      have hx : Hid (sinks[k]? = some (sinks[k]'hlt)) := List.getElem?_eq_getElem hlt
      have g2 := Y.cell1 z2 (hc2 k _ hx)
      clear hc2 hB
      generalize sinks[k]'hlt = s at *
      have i0 : (0 : Int) ≤ (k : Int) := by omega
      have i1 : (k : Int) < (sinks.length : Int) := by omega
      go_wp2_with fail
      refine (entI g s _ fs _ (hv.keep Y)).mono ?_
      rintro e w1 ⟨rfl, hb1⟩
      replace X := hb1.keep X
      replace Y := Y.trans hb1
      clear r1 g2 hb1 zz
      obtain ⟨cc, _, zz⟩ := X.facts
      have r1 := cc 0
      simp at r1
      clear cc
      rcases idx_cases (entB g s) fs with ⟨hi, hf⟩ | ⟨q, ff, hi, hq, hf⟩
      · have HF := Lib.hid (all_fail' (p := doneP fs g) hx.out (doneP_none hf))
        rw [hi]
        clear hi hf
        go_wp2
        go_ret
        exact ⟨by rw [HF.out]; rfl, Y⟩
      · have hql : q < fs.length := (List.getElem?_eq_some_iff.1 hq).1
        obtain ⟨b1, o1, rfl, z1, hc1⟩ := hA (by omega)
        have g3 := Y.cell1 z1 (hc1 q ff hq).2.2
        have HD := Lib.hid (doneP_some hf)
        rw [hi]
        clear hi hf hc1 hA hq
        obtain ⟨f1, f2, f3⟩ := ff
        dsimp only at *
        have j0 : (0 : Int) ≤ (q : Int) := by omega
        have j1 : (q : Int) < (fs.length : Int) := by omega
        have j2 : decide ((q : Int) < 0) = false := by simp
        cases hz : (f3 == 0)
        · have HF := Lib.hid (all_fail' (p := doneP fs g) hx.out (by rw [HD.out, hz]))
          have hz2 : (f3 != 0) = true := by simp only [bne, hz]; rfl
          clear hz
          go_wp2
          go_ret
          exact ⟨by rw [HF.out]; rfl, Y⟩
        · have HF := Lib.hid (all_step' (p := doneP fs g) hx.out HB.out (by rw [HD.out, hz]))
          have hz2 : (f3 != 0) = false := by simp only [bne, hz]; rfl
          clear hz
          go_wp2
          go_roundg (sinks.length - (k + 1))
          case measure => have := HK.out; omega
          case rel => exact ⟨k + 1, by omega, by go_num, X, Y, HF⟩
    · obtain rfl : k = sinks.length := by omega
      have i1 : ¬ (sinks.length : Int) < (sinks.length : Int) := by omega
      have HF : Hid (sinks.all (doneP fs g) = true) := by
        have h := HB.out
        rw [List.take_length] at h
        exact h
      go_wp2
      go_ret
      exact ⟨by rw [HF.out]; rfl, Y⟩
end Go.Proofs.Ytchodlfkoafeaaa
