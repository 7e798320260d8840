/-
  Library functions: slices.IndexFunc over structs of three ints with any predicate that leaves memory alone, cmp.Compare and cmp.Or at int. No condition.
-/
import Derived.Test.YtchodlfkoafeaaaTriC
namespace Go.Proofs.Ytchodlfkoafeaaa
open Go.ChangeShapes Go.WideShapes Go.ChangeAt Go.RowKit
set_option linter.unusedVariables false
set_option maxRecDepth 100000

/-- The first index at which p holds, from k on; -1 if there is none. -/
def idxZ {α : Type} (p : α → Bool) (fs : List α) : Int := match fs.findIdx? p with
  | some i => (i : Int)
  | none => -1
theorem idxZ_at {α : Type} {p : α → Bool} {fs : List α} {k : Nat} {f : α} (hk : fs[k]? = some f) (hp : p f = true) (hb : (fs.take k).all (fun x => !(p x)) = true) : idxZ p fs = (k : Int) := by
  obtain ⟨hl, rfl⟩ := List.getElem?_eq_some_iff.1 hk
  have : fs.findIdx? p = some k := by
    rw [List.findIdx?_eq_some_iff_getElem]
    refine ⟨hl, hp, fun j hj => ?_⟩
    have := List.all_eq_true.1 hb (fs[j]'(by omega)) (List.mem_of_getElem? (i := j) (by rw [List.getElem?_take, if_pos hj]; exact List.getElem?_eq_getElem _))
    simpa using this
  simp [idxZ, this]
theorem idxZ_none {α : Type} {p : α → Bool} {fs : List α} (hb : (fs.take fs.length).all (fun x => !(p x)) = true) : idxZ p fs = -1 := by
  rw [List.take_length] at hb
  have : fs.findIdx? p = none := by
    rw [List.findIdx?_eq_none_iff]
    intro x hx
    have := List.all_eq_true.1 hb x hx
    simpa using this
  simp [idxZ, this]
theorem all_step' {α : Type} {p : α → Bool} {xs : List α} {k : Nat} {x : α} (hx : xs[k]? = some x) (h : (xs.take k).all p = true) (hp : p x = true) : (xs.take (k + 1)).all p = true := by
  obtain ⟨hk, rfl⟩ := List.getElem?_eq_some_iff.1 hx
  rw [List.take_succ_eq_append_getElem hk, List.all_append, h]
  simp [hp]
set_option maxHeartbeats 1000000 in
theorem idxFb (v : Value) (fs : List Tr) (p : Tr → Bool) (q0 q1 : Addr) (w : World) (hv : RT w v fs)
    (hcall : ∀ (f : Tr) (W : World), Bel w W → Calls Try.prog 78 #[.agg #[.int .i64 f.1, .int .i64 f.2.1, .int .i64 f.2.2], .pointer (some q0), .pointer (some q1)] W fun e W' => e = .returned (.bool (p f)) ∧ Bel W W') :
    Calls Try.prog 77 #[v, .func (.func 78) #[] #[.pointer (some q0), .pointer (some q1)]] w fun e w' => e = .returned (.int .i64 (idxZ p fs)) ∧ Bel w w' := by
  obtain ⟨A, c, rfl, h1, h2, hA⟩ := hv
  have HC := Lib.hid hcall
  clear hcall
  go_enter Try.func77, Try.ntmps77
  go_wp2
  go_loopg [8] fs.length (fun f i wr => ∃ k : Nat, k + f = fs.length ∧ i = .int .i64 k ∧ Bel w wr ∧ Hid ((fs.take k).all (fun x => !(p x)) = true))
  case atStart => exact ⟨0, by omega, rfl, Bel.refl _, by show _ = _; simp⟩
  case round =>
    obtain ⟨k, hk, rfl, Y, HB⟩ := hrel
    have hk2 : k ≤ fs.length := by omega
    have HK := Lib.hid hk
    clear hk
    by_cases hlt : k < fs.length
    · obtain ⟨b1, o1, rfl, z1, hc1⟩ := hA (by omega)
      have hx : Hid (fs[k]? = some (fs[k]'hlt)) := List.getElem?_eq_getElem hlt
      obtain ⟨g1, g2, g3⟩ := hc1 k _ hx
      generalize fs[k]'hlt = x at *
      obtain ⟨x, y, z⟩ := x
      dsimp only at *
      replace g1 := Y.cell1 z1 g1
      replace g2 := Y.cell1 z1 g2
      replace g3 := Y.cell1 z1 g3
      clear hc1 hA
      have i0 : (0 : Int) ≤ (k : Int) := by omega
      have i1 : (k : Int) < (fs.length : Int) := by omega
      go_wp2_with fail
      refine (HC.out (x, y, z) _ Y).mono ?_
      rintro e w1 ⟨rfl, hb1⟩
      cases hq : p (x, y, z)
      · have HF := Lib.hid (all_step' (p := fun x => !(p x)) hx.out HB.out (by simp [hq]))
        clear hq
        go_wp2
        go_roundg (fs.length - (k + 1))
        case measure => have := HK.out; omega
        case rel => exact ⟨k + 1, by omega, by go_num, Y.trans hb1, HF⟩
      · have HF := Lib.hid (idxZ_at hx.out hq HB.out)
        clear hq
        go_wp2
        go_ret
        exact ⟨by rw [HF.out]; rfl, Y.trans hb1⟩
    · obtain rfl : k = fs.length := by omega
      have i1 : ¬ (fs.length : Int) < (fs.length : Int) := by omega
      have HF := Lib.hid (idxZ_none HB.out)
      go_wp2
      go_ret
      exact ⟨by rw [HF.out]; rfl, Y⟩
def cmpZ (a b : Int) : Int := if a < b then -1 else if b < a then 1 else 0
set_option maxHeartbeats 400000 in
theorem cmpC (a b : Int) (w : World) : Calls Try.prog 80 #[.int .i64 a, .int .i64 b] w fun e w' => e = .returned (.int .i64 (cmpZ a b)) ∧ w = w' := by
  by_cases h : a < b
  · have HZ : Hid (cmpZ a b = -1) := if_pos h
    go_enter Try.func80, Try.ntmps80
    go_wp2
    go_ret
    exact ⟨by rw [HZ.out]; rfl, rfl⟩
  by_cases h2 : b < a
  · have HZ : Hid (cmpZ a b = 1) := by show _ = _; unfold cmpZ; rw [if_neg h, if_pos h2]
    go_enter Try.func80, Try.ntmps80
    go_wp2
    go_ret
    exact ⟨by rw [HZ.out]; rfl, rfl⟩
  · have HZ : Hid (cmpZ a b = 0) := by show _ = _; unfold cmpZ; rw [if_neg h, if_neg h2]
    go_enter Try.func80, Try.ntmps80
    go_wp2
    go_ret
    exact ⟨by rw [HZ.out]; rfl, rfl⟩
def orZ (a b : Int) : Int := if a = 0 then b else a
set_option maxHeartbeats 400000 in
theorem orC (a b : Int) (w : World) (g : Nat) (h : Blk w g 3 #[.int .i64 a, .int .i64 b]) :
    Calls Try.prog 79 #[.slice (some ⟨g, 0, none⟩) 2 2] w fun e w' => e = .returned (.int .i64 (orZ a b)) ∧ w = w' := by
  obtain ⟨c, _, _⟩ := h.facts
  have r0 := c 0
  have r1 := c 1
  simp at r0 r1
  clear c h
  by_cases ha : a = 0
  · subst ha
    rw [show orZ 0 b = b from if_pos rfl]
    by_cases hb : b = 0
    · subst hb
      go_enter Try.func79, Try.ntmps79
      go_wp2
      refine wp_loop_rounds 3 ?_
      rw [rounds_succ]
      go_wp2
      rw [rounds_succ]
      go_wp2
      rw [rounds_succ]
      go_wp2
      go_ret
      exact ⟨rfl, rfl⟩
    · have hb2 : (b != 0) = true := by simpa using hb
      clear hb
      go_enter Try.func79, Try.ntmps79
      go_wp2
      refine wp_loop_rounds 3 ?_
      rw [rounds_succ]
      go_wp2
      rw [rounds_succ]
      go_wp2
      go_ret
      exact ⟨rfl, rfl⟩
  · rw [show orZ a b = a from if_neg ha]
    have ha2 : (a != 0) = true := by simpa using ha
    clear ha
    go_enter Try.func79, Try.ntmps79
    go_wp2
    refine wp_loop_rounds 3 ?_
    rw [rounds_succ]
    go_wp2
    go_ret
    exact ⟨rfl, rfl⟩
end Go.Proofs.Ytchodlfkoafeaaa
