/-
  Contracts of EdgeBetween, of the program and of the reference. No condition.
-/
import Derived.Test.YtlofaknehjbdeaaIdx
namespace Go.Proofs.Ytlofaknehjbdeaa
open Go.ChangeShapes Go.WideShapes Go.ChangeAt Go.RowKit
set_option linter.unusedVariables false
set_option maxRecDepth 100000

def betB (a b : Int) (f : Tr) : Bool := (f.1 == a) && (f.2.1 == b)
set_option maxHeartbeats 400000 in
theorem betC (a b : Int) (q0 q1 : Addr) (f : Tr) (w : World) (h0 : w.cell? q0 = some (.int .i64 a)) (h1 : w.cell? q1 = some (.int .i64 b)) (l0 : q0.block < w.heap.size) (l1 : q1.block < w.heap.size) :
    Calls Try.prog 80 #[.agg #[.int .i64 f.1, .int .i64 f.2.1, .int .i64 f.2.2], .pointer (some q0), .pointer (some q1)] w fun e w' => e = .returned (.bool (betB a b f)) ∧ Bel w w' := by
  obtain ⟨x, y, z⟩ := f
  dsimp only
  have c0 : ∀ o, (w.alloc o).cell? q0 = some (.int .i64 a) := fun o => (World.cell?_alloc_lt w o q0 l0).trans h0
  have c1 : ∀ o, (w.alloc o).cell? q1 = some (.int .i64 b) := fun o => (World.cell?_alloc_lt w o q1 l1).trans h1
  clear h0 h1 l0 l1
  cases e1 : (x == a)
  · have HB : Hid (betB a b (x, y, z) = false) := by show _ = _; simp only [betB, e1]; rfl
    go_enter Try.func80, Try.ntmps80
    go_wp2
    go_ret
    exact ⟨by rw [HB.out]; rfl, (Bel.refl _).alloc _⟩
  · have HB : Hid (betB a b (x, y, z) = (y == b)) := by show _ = _; simp only [betB, e1]; rfl
    go_enter Try.func80, Try.ntmps80
    go_wp2
    go_ret
    exact ⟨by rw [HB.out]; rfl, (Bel.refl _).alloc _⟩
set_option maxHeartbeats 400000 in
theorem betI (s a b : Int) (v : Value) (fs : List Tr) (w : World) (hv : RT w v fs) :
    Calls Try.prog 42 #[.agg #[.int .i64 s, v], .int .i64 a, .int .i64 b] w fun e w' => e = .returned (.int .i64 (idxZ (betB a b) fs)) ∧ Bel w w' := by
  have hmf : ∀ (fn : Fn) (first cap : Array Value) (w : World), (Instr.makeFunc fn first cap).run Try.prog w = .ok (.func fn first cap) w := fun _ _ _ _ => rfl
  have X1 := ((Blk.new2 w (.cells #[.int .i64 s, v] 64) 3 #[.int .i64 a]).alloc (.cells #[.int .i64 b] 3))
  have X2 := (Blk.new3 w (.cells #[.int .i64 s, v] 64) (.cells #[.int .i64 a] 3) 3 #[.int .i64 b])
  have Y : Bel w (((w.alloc (.cells #[.int .i64 s, v] 64)).alloc (.cells #[.int .i64 a] 3)).alloc (.cells #[.int .i64 b] 3)) := (((Bel.refl _).alloc _).alloc _).alloc _
  go_enter Try.func42, Try.ntmps42
  go_wp2_with fail
  refine (idxEdB v fs (betB a b) _ _ _ (hv.keep Y) ?_).mono ?_
  · intro f W hW
    have Z1 := hW.keep X1
    have Z2 := hW.keep X2
    obtain ⟨c1, _, l1⟩ := Z1.facts
    obtain ⟨c2, _, l2⟩ := Z2.facts
    exact betC a b _ _ f W (c1 0) (c2 0) l1 l2
  · rintro e w1 ⟨rfl, hb1⟩
    clear X1 X2
    go_wp2
    go_ret
    exact ⟨rfl, Y.trans hb1⟩
set_option maxHeartbeats 1000000 in
theorem betS (s a b : Int) (v : Value) (fs : List Tr) (w : World) (hv : RT w v fs) :
    Calls Try.prog 40 #[.agg #[.int .i64 s, v], .int .i64 a, .int .i64 b] w fun e w' => e = .returned (.int .i64 (idxZ (betB a b) fs)) ∧ Bel w w' := by
  obtain ⟨A, c, rfl, h1, h2, hA⟩ := hv
  go_enter Try.func40, Try.ntmps40
  go_wp2
  have X := Blk.new w 64 #[.int .i64 s, .slice A fs.length c]
  have Y : Bel w (w.alloc (.cells #[.int .i64 s, .slice A fs.length c] 64)) := (Bel.refl _).alloc _
  go_loopg [7] fs.length (fun f i wr => ∃ k : Nat, k + f = fs.length ∧ i = .int .i64 k ∧ Blk wr w.heap.size 64 #[.int .i64 s, .slice A fs.length c] ∧ Bel w wr ∧ Hid ((fs.take k).all (fun x => !(betB a b x)) = true))
  case atStart => exact ⟨0, by omega, rfl, X, Y, by show _ = _; simp⟩
  case round =>
    clear X Y
    obtain ⟨k, hk, rfl, X, Y, HB⟩ := hrel
    have hk2 : k ≤ fs.length := by omega
    have HK := Lib.hid hk
    clear hk
    obtain ⟨cc, _, _⟩ := X.facts
    have r1 := cc 1
    simp at r1
    clear cc
    by_cases hlt : k < fs.length
    · obtain ⟨b1, o1, rfl, z1, hc1⟩ := hA (by omega)
      have hx : Hid (fs[k]? = some (fs[k]'hlt)) := List.getElem?_eq_getElem hlt
      obtain ⟨g1, g2, g3⟩ := hc1 k _ hx
      generalize fs[k]'hlt = x at *
      obtain ⟨x, y, z⟩ := x
      dsimp only at *
      replace g1 := Y.cell1 z1 g1
      replace g2 := Y.cell1 z1 g2
      clear hc1 hA g3
      have i0 : (0 : Int) ≤ (k : Int) := by omega
      have i1 : (k : Int) < (fs.length : Int) := by omega
      cases e1 : (x == a)
      · have HF := Lib.hid (all_step' (p := fun x => !(betB a b x)) hx.out HB.out (by simp only [betB, e1]; rfl))
        go_wp2
        go_roundg (fs.length - (k + 1))
        case measure => have := HK.out; omega
        case rel => exact ⟨k + 1, by omega, by go_num, X, Y, HF⟩
      · cases e2 : (y == b)
        · have HF := Lib.hid (all_step' (p := fun x => !(betB a b x)) hx.out HB.out (by simp only [betB, e1, e2]; rfl))
          go_wp2
          go_roundg (fs.length - (k + 1))
          case measure => have := HK.out; omega
          case rel => exact ⟨k + 1, by omega, by go_num, X, Y, HF⟩
        · have HF := Lib.hid (idxZ_at (p := betB a b) hx.out (by simp only [betB, e1, e2]; rfl) HB.out)
          go_wp2
          go_ret
          exact ⟨by rw [HF.out]; rfl, Y⟩
    · obtain rfl : k = fs.length := by omega
      have i1 : ¬ (fs.length : Int) < (fs.length : Int) := by omega
      have HF := Lib.hid (idxZ_none HB.out)
      go_wp2
      go_ret
      exact ⟨by rw [HF.out]; rfl, Y⟩
end Go.Proofs.Ytlofaknehjbdeaa
