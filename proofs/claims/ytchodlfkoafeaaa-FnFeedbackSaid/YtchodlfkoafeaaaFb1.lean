/-
  Equality of slices of reports: contracts of slices.Equal and of EqualFeedback, of the program and of the reference. No condition.
-/
import Derived.Test.YtchodlfkoafeaaaTriC
import Derived.Laws.StructEq
namespace Go.Proofs.Ytchodlfkoafeaaa
open Go.ChangeShapes Go.WideShapes Go.ChangeAt Go.RowKit
set_option linter.unusedVariables false
set_option maxRecDepth 100000

theorem fb_under : Try.prog.underlying 43 = some (.struct (Try.prog.fieldsOf 43)) := by kernel_rfl
theorem fb_stood : Try.prog.stoodInHeld 43 = false := by kernel_rfl
theorem fb_guard : Try.prog.eqGuardType Try.prog.depth 43 = false := by kernel_rfl
theorem neqTri (f g : Tr) (w : World) : (binOp .neq 43 (.agg #[.int .i64 f.1, .int .i64 f.2.1, .int .i64 f.2.2]) (.agg #[.int .i64 g.1, .int .i64 g.2.1, .int .i64 g.2.2])).run Try.prog w = .ok (.bool (!(decide (f = g)))) w := by
  obtain ⟨a, b, c⟩ := f
  obtain ⟨x, y, z⟩ := g
  have h1 := fb_under
  have h2 := fb_stood
  rw [run_neq_struct, run_equalIn_agg _ _ _ _ _ h1 h2]
  simp [go_sem, Try.underlying43, Try.underlying3]
  by_cases e1 : a = x <;> by_cases e2 : b = y <;> by_cases e3 : c = z <;> simp [e1, e2, e3]
theorem guardTri (op : BinOp) (x y : Operand) (f g : Array Value) (w : World) : (eqGuard op 43 x y (.agg f) (.agg g)).run Try.prog w = .ok () w := run_eqGuard_agg w op _ x y f g fb_guard

set_option maxHeartbeats 1000000 in
theorem sEqT (v u : Value) (xs ys : List Tr) (w : World) (hv : RT w v xs) (hu : RT w u ys) :
    Calls Try.prog 60 #[v, u] w fun e w' => e = .returned (.bool (decide (xs = ys))) ∧ Bel w w' := by
  obtain ⟨A, c, rfl, h1, h2, hA⟩ := hv
  obtain ⟨B, d, rfl, h3, h4, hB⟩ := hu
  have hgd := guardTri
  by_cases hlen : xs.length = ys.length
  · have hne : ((xs.length : Int) != (ys.length : Int)) = false := by simp [hlen]
    have hle : xs.length ≤ ys.length := by omega
    have HL := Lib.hid hlen
    clear hlen
    go_enter Try.func60, Try.ntmps60
    go_wp2
    go_loopg [13] xs.length (fun f i wr => ∃ k : Nat, k + f = xs.length ∧ i = .int .i64 k ∧ Bel w wr ∧ Hid (∀ j, j < k → xs[j]? = ys[j]?))
    case atStart => exact ⟨0, by omega, rfl, Bel.refl _, Lib.hid (fun j hj => absurd hj (by omega))⟩
    case round =>
      obtain ⟨k, hk, rfl, Y, HK⟩ := hrel
      have hk2 : k ≤ xs.length := by omega
      have HG := Lib.hid hk
      clear hk
      by_cases hlt : k < xs.length
      · obtain ⟨b1, o1, rfl, z1, hc1⟩ := hA (by omega)
        obtain ⟨b2, o2, rfl, z2, hc2⟩ := hB (by omega)
        have hx : Hid (xs[k]? = some (xs[k]'hlt)) := List.getElem?_eq_getElem hlt
        have hy : Hid (ys[k]? = some (ys[k]'(by omega))) := List.getElem?_eq_getElem (by omega)
        obtain ⟨g1, g2, g3⟩ := hc1 k _ hx
        obtain ⟨k1, k2, k3⟩ := hc2 k _ hy
        generalize xs[k]'hlt = x at *
        generalize ys[k]'(by omega) = y at *
        replace g1 := Y.cell1 z1 g1
        replace g2 := Y.cell1 z1 g2
        replace g3 := Y.cell1 z1 g3
        replace k1 := Y.cell1 z2 k1
        replace k2 := Y.cell1 z2 k2
        replace k3 := Y.cell1 z2 k3
        clear hc1 hc2 hA hB
        have i0 : (0 : Int) ≤ (k : Int) := by omega
        have i1 : (k : Int) < (xs.length : Int) := by omega
        have i2 : (k : Int) < (ys.length : Int) := by omega
        by_cases hxy : x = y
        · have hq : ∀ w : World, (binOp .neq 43 (.agg #[.int .i64 x.1, .int .i64 x.2.1, .int .i64 x.2.2]) (.agg #[.int .i64 y.1, .int .i64 y.2.1, .int .i64 y.2.2])).run Try.prog w = .ok (.bool false) w := fun w => by rw [neqTri, decide_eq_true hxy]; rfl
          have HX := Lib.hid hxy
          clear hxy
          go_wp2
          go_quiet (fail)
          go_wp2
          go_roundg (xs.length - (k + 1))
          case measure => have := HG.out; omega
          case rel => exact ⟨k + 1, by omega, by go_num, Y.drewN _, Lib.hid (fun j hj => if h : j = k then by subst h; rw [hx.out, hy.out, HX.out] else HK.out j (by omega))⟩
        · have hq : ∀ w : World, (binOp .neq 43 (.agg #[.int .i64 x.1, .int .i64 x.2.1, .int .i64 x.2.2]) (.agg #[.int .i64 y.1, .int .i64 y.2.1, .int .i64 y.2.2])).run Try.prog w = .ok (.bool true) w := fun w => by rw [neqTri, decide_eq_false hxy]; rfl
          have HX := Lib.hid hxy
          clear hxy
          go_wp2
          go_quiet (fail)
          go_wp2
          go_ret
          have hd : ¬ xs = ys := by
            intro he
            rw [he] at hx
            have := hx.out.symm.trans hy.out
            injection this with this
            exact HX.out this
          exact ⟨by rw [decide_eq_false hd]; rfl, Y.drewN _⟩
      · obtain rfl : k = xs.length := by omega
        have i1 : ¬ (xs.length : Int) < (xs.length : Int) := by omega
        go_wp2
        go_ret
        have hd : xs = ys := by
          have hl := HL.out
          apply List.ext_getElem?
          intro j
          by_cases hj : j < xs.length
          · exact HK.out j hj
          · rw [List.getElem?_eq_none (by omega), List.getElem?_eq_none (by omega)]
        exact ⟨by rw [decide_eq_true hd]; rfl, Y⟩
  · have hne : ((xs.length : Int) != (ys.length : Int)) = true := by
      rw [bne_iff_ne]; omega
    have HL := Lib.hid hlen
    clear hlen
    go_enter Try.func60, Try.ntmps60
    go_wp2
    go_ret
    have hd : ¬ xs = ys := fun he => HL.out (by rw [he])
    exact ⟨by rw [decide_eq_false hd]; rfl, Bel.refl _⟩
set_option maxHeartbeats 400000 in
theorem eqFbtI (v u : Value) (xs ys : List Tr) (w : World) (hv : RT w v xs) (hu : RT w u ys) :
    Calls Try.prog 24 #[.agg #[v], .agg #[u]] w fun e w' => e = .returned (.bool (decide (xs = ys))) ∧ Bel w w' := by
  go_enter Try.func24, Try.ntmps24
  go_wp2_with fail
  refine (sEqT v u xs ys _ (hv.keep (((Bel.refl _).alloc _).alloc _)) (hu.keep (((Bel.refl _).alloc _).alloc _))).mono ?_
  rintro e w1 ⟨rfl, hb1⟩
  go_wp2
  go_ret
  exact ⟨rfl, (((Bel.refl _).alloc _).alloc _).trans hb1⟩
end Go.Proofs.Ytchodlfkoafeaaa
