/-
  l1Byte, l1Below, l1Once, l1Int, l4Element: weak contracts. Condition: a cursor that can be read.
-/
import Derived.Test.YtchodlfkoafeaaaDrw
import Derived.Deep.QuietTactic
namespace Go.Proofs.Ytchodlfkoafeaaa
open Go.ChangeShapes Go.WideShapes Go.ChangeAt Go.RowKit Go.Joins Go.Deep
set_option linter.unusedVariables false
set_option maxRecDepth 100000

set_option maxHeartbeats 1000000 in
theorem l1ByteS (cb : Nat) (w : World) (hc : Cur w cb) :
    Calls Try.prog 81 #[.pointer (some ⟨cb, 0, none⟩)] w fun e w' => ∃ x : Int, e = .returned (.int .i64 x) ∧ (0 ≤ x ∧ x ≤ 255) ∧ Trn cb w w' := by
  obtain ⟨A, n, c, i, h, X, hi, hn, hnc, hA⟩ := id hc
  obtain ⟨cx, fx, zx⟩ := X.facts
  go_enter Try.func81, Try.ntmps81
  go_wp2
  obtain ⟨g, hg⟩ : ∃ g, g = wrap64 (wrap64 (h * 6364136223846793005) + 1442695040888963407) := ⟨_, rfl⟩
  rw [← hg]
  have X2 : Blk (w.setCell ⟨cb, 2, none⟩ (.int .i64 g)) cb 106 #[.slice A n c, .int .i64 (i : Int), .int .i64 g] := X.set 2 (.int .i64 g)
  have M2 : Mid cb (cb + 1) w (w.setCell ⟨cb, 2, none⟩ (.int .i64 g)) := Mid.set w _ (Nat.le_refl _) (by simp)
  have C2 := hc.setH g
  generalize w.setCell ⟨cb, 2, none⟩ (.int .i64 g) = w2 at *
  clear hg cx fx
  obtain ⟨cx, fx, zx2⟩ := X2.facts
  have r0 : w2.cell? ⟨cb, 0, none⟩ = some (.slice A n c) := cx 0
  have r1 : w2.cell? ⟨cb, 1, none⟩ = some (.int .i64 (i : Int)) := cx 1
  have r2 : w2.cell? ⟨cb, 2, none⟩ = some (.int .i64 g) := cx 2
  clear cx
  by_cases hlt : i < n
  · have HA := Lib.hid hA
    obtain ⟨b, off, rfl, hb, hcl⟩ := hA (by omega)
    obtain ⟨y, hy, hy2⟩ := hcl i hlt
    have g1 := M2.cell (Nat.lt_trans hb zx) (.inl hb) hy
    have i0 : (0 : Int) ≤ (i : Int) := by omega
    have i1 : (i : Int) < (n : Int) := by omega
    have g2 : w2.cell? ⟨b, off + i, none⟩ = some (.int .u8 y) := g1
    have KT : ∀ N : Nat, Trn cb w ((w2.drewN N).setCell ⟨cb, 1, none⟩ (.int .i64 ((i : Int) + 1))) := fun N => by
      have M3 : Mid cb (cb + 1) w ((w2.drewN N).setCell ⟨cb, 1, none⟩ (.int .i64 ((i : Int) + 1))) := M2.trans ((Mid.ofBel ((Bel.refl _).drewN N)).trans (Mid.set _ _ (Nat.le_refl _) (by simp)))
      exact ⟨Cur.of (i := i + 1) ((X2.drewN N).set 1 (.int .i64 ((i : Int) + 1))) (by omega) hn hnc M3 zx HA.out, M3⟩
    clear hcl hA hy g1
    go_quiet (fail)
    go_wp2
    go_quiet (fail)
    go_wp2
    go_quiet (fail)
    go_wp2
    go_ret
    exact ⟨_, rfl, and255 _, (KT _).1, (KT _).2⟩
  · have i1 : ¬ (i : Int) < (n : Int) := by omega
    go_quiet (fail)
    go_wp2
    go_quiet (fail)
    go_wp2
    go_ret
    exact ⟨_, rfl, and255 _, C2.keep (((Bel.refl _).drewN _).drewN _), M2.trans (Mid.ofBel (((Bel.refl _).drewN _).drewN _))⟩
theorem trnQ {P : Program} {f : FuncId} {args : Array Value} {cb : Nat} {w0 w : World} {R : Int → Prop} (h : Calls P f args w fun e w' => ∃ x : Int, e = .returned (.int .i64 x) ∧ R x ∧ Trn cb w w') (t : Trn cb w0 w) :
    Calls P f args w fun e w' => ∃ x : Int, e = .returned (.int .i64 x) ∧ R x ∧ Trn cb w0 w' :=
  h.mono fun _ _ ⟨x, he, hr, k⟩ => ⟨x, he, hr, t.trans k⟩
theorem tmod_bd {a n : Int} (h0 : 0 ≤ a) (hn : 0 < n) : 0 ≤ a % n ∧ a % n < n := ⟨Int.emod_nonneg _ (by omega), Int.emod_lt_of_pos _ hn⟩
set_option maxHeartbeats 1000000 in
/-- A number below n. -/
theorem l1BelowS (cb : Nat) (n : Int) (w : World) (hc : Cur w cb) (hn : 0 < n) (hn2 : n ≤ 1048576) :
    Calls Try.prog 63 #[.pointer (some ⟨cb, 0, none⟩), .int .i64 n] w fun e w' => ∃ x : Int, e = .returned (.int .i64 x) ∧ (0 ≤ x ∧ x < n) ∧ Trn cb w w' := by
  have n0 : ¬ n ≤ 0 := by omega
  go_enter Try.func63, Try.ntmps63
  by_cases h : n ≤ 256
  · go_wp2_with fail
    refine (l1ByteS cb _ hc).mono ?_
    rintro e w1 ⟨x, rfl, ⟨x0, x1⟩, t1⟩
    have hb := tmod_bd x0 hn
    go_wp2
    go_ret
    exact ⟨_, rfl, hb, t1⟩
  · go_wp2_with fail
    refine (l1ByteS cb _ hc).mono ?_
    rintro e w1 ⟨x, rfl, ⟨x0, x1⟩, t1⟩
    go_wp2_with fail
    refine (l1ByteS cb _ t1.1).mono ?_
    rintro e w2 ⟨y, rfl, ⟨y0, y1⟩, t2⟩
    go_wp2_with fail
    refine (l1ByteS cb _ t2.1).mono ?_
    rintro e w3 ⟨z, rfl, ⟨z0, z1⟩, t3⟩
    have hb := tmod_bd (a := x * 65536 + y * 256 + z) (by omega) hn
    go_wp2
    go_ret
    exact ⟨_, rfl, hb, (t1.trans t2).trans t3⟩
/-- A number below n, 0 where n is not above 0. -/
theorem l1Below0 (cb : Nat) (n : Int) (w : World) (hc : Cur w cb) (hn : n ≤ 0) :
    Calls Try.prog 63 #[.pointer (some ⟨cb, 0, none⟩), .int .i64 n] w fun e w' => ∃ x : Int, e = .returned (.int .i64 x) ∧ x = 0 ∧ Trn cb w w' := by
  go_enter Try.func63, Try.ntmps63
  go_wp2
  go_ret
  exact ⟨0, rfl, rfl, hc, Mid.refl _ _ _⟩
theorem l1OnceS (cb : Nat) (n : Int) (w : World) (hc : Cur w cb) (hn : 0 < n) (hn2 : n ≤ 1048576) :
    Calls Try.prog 64 #[.pointer (some ⟨cb, 0, none⟩), .int .i64 n] w fun e w' => ∃ x : Bool, e = .returned (.bool x) ∧ Trn cb w w' := by
  go_enter Try.func64, Try.ntmps64
  go_wp2_with fail
  refine (l1BelowS cb n _ hc hn hn2).mono ?_
  rintro e w1 ⟨x, rfl, hx, t1⟩
  go_wp2
  go_ret
  exact ⟨_, rfl, t1⟩
set_option maxHeartbeats 1000000 in
theorem l1IntS (cb : Nat) (v : Value) (xs : List Int) (w : World) (hc : Cur w cb) (hv : RI w v xs) (h0 : 0 < xs.length) (h1 : xs.length ≤ 1000) (hb : ∀ w', Trn cb w w' → RI w' v xs) :
    Calls Try.prog 76 #[.pointer (some ⟨cb, 0, none⟩), v] w fun e w' => ∃ x : Int, e = .returned (.int .i64 x) ∧ x ∈ xs ∧ Trn cb w w' := by
  obtain ⟨A, c, rfl, h2, h3, hA⟩ := id hv
  go_enter Try.func76, Try.ntmps76
  go_wp2_with fail
  refine (l1BelowS cb (xs.length : Int) _ hc (by omega) (by omega)).mono ?_
  rintro e w1 ⟨x, rfl, ⟨x0, x1⟩, t1⟩
  obtain ⟨k, rfl⟩ := Int.eq_ofNat_of_zero_le x0
  obtain ⟨A2, c2, e2, _, _, hA2⟩ := hb w1 t1
  injection e2 with e21 e22 e23
  subst e21
  subst e23
  obtain ⟨b, off, rfl, z1, hcl⟩ := hA2 h0
  have hk : k < xs.length := by omega
  have g1 := hcl k _ (List.getElem?_eq_getElem hk)
  have hm := List.getElem_mem hk
  generalize xs[k]'hk = y at *
  clear hcl hA hA2
  go_wp2
  go_ret
  exact ⟨_, rfl, hm, t1⟩
end Go.Proofs.Ytchodlfkoafeaaa
