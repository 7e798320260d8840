/-
  The cursor of the draws: weak contracts of l1Byte, l1Below, l1Once, l1Int (the result is in range, only the cursor's own block turns). No condition beyond a cursor that can be read.
-/
import Derived.Test.YtchodlfkoafeaaaMid
import Derived.Test.YtchodlfkoafeaaaBits
import Derived.Test.YtchodlfkoafeaaaOpenS
import Derived.Test.YtchodlfkoafeaaaMl
namespace Go.Proofs.Ytchodlfkoafeaaa
open Go.ChangeShapes Go.WideShapes Go.ChangeAt Go.RowKit Go.Joins Go.Deep
set_option linter.unusedVariables false
set_option maxRecDepth 100000

theorem mask (n : Int) (k : Nat) (m : Int) (h1 : (BitVec.ofInt 64 m).toNat = 2 ^ k - 1) (hk : k ≤ 62) : 0 ≤ bits .and .i64 n m ∧ bits .and .i64 n m ≤ 2 ^ k - 1 := by
  have key : (BitVec.ofInt 64 n &&& BitVec.ofInt 64 m).toNat = (n % ((2 ^ 64 : Nat) : Int)).toNat % 2 ^ k := by
    rw [BitVec.toNat_and, BitVec.toNat_ofInt, h1, Nat.and_two_pow_sub_one_eq_mod]
  show 0 ≤ IntKind.i64.wrap ((BitVec.ofInt 64 n &&& BitVec.ofInt 64 m).toNat : Nat) ∧ IntKind.i64.wrap ((BitVec.ofInt 64 n &&& BitVec.ofInt 64 m).toNat : Nat) ≤ 2 ^ k - 1
  rw [key, IntKind.wrap_i64]
  have h2 : (n % ((2 ^ 64 : Nat) : Int)).toNat % 2 ^ k < 2 ^ k := Nat.mod_lt _ (Nat.two_pow_pos k)
  have h3 : 2 ^ k ≤ 2 ^ 62 := Nat.pow_le_pow_right (by decide) hk
  have h4 : (2 : Int) ^ k = ((2 ^ k : Nat) : Int) := by simp
  rw [h4]
  generalize (n % ((2 ^ 64 : Nat) : Int)).toNat % 2 ^ k = a at *
  generalize 2 ^ k = b at *
  omega
theorem and255 (n : Int) : 0 ≤ bits .and .i64 n 255 ∧ bits .and .i64 n 255 ≤ 255 := mask n 8 255 (by decide) (by decide)
theorem and30 (n : Int) : 0 ≤ bits .and .i64 n 1073741823 ∧ bits .and .i64 n 1073741823 ≤ 1073741823 := mask n 30 1073741823 (by decide) (by decide)

/-- A slice of bytes that can be read. -/
def RB (w : World) (v : Value) (n : Nat) : Prop :=
  ∃ A c, v = .slice A n c ∧ n ≤ c ∧ c ≤ 9223372036854775807 ∧ (0 < n → ∃ b off, A = some ⟨b, off, none⟩ ∧ b < w.heap.size ∧ ∀ j, j < n → ∃ x : Int, w.cell? ⟨b, off + j, none⟩ = some (.int .u8 x) ∧ 0 ≤ x ∧ x ≤ 255)
theorem RB.keep {w w' : World} {v : Value} {n : Nat} (h : RB w v n) (k : Bel w w') : RB w' v n := by
  obtain ⟨A, c, hv, h1, h2, h3⟩ := h
  refine ⟨A, c, hv, h1, h2, fun h0 => ?_⟩
  obtain ⟨b, off, hA, hb, hc⟩ := h3 h0
  refine ⟨b, off, hA, Nat.lt_of_lt_of_le hb k.size, fun j hj => ?_⟩
  obtain ⟨x, hx, hx2⟩ := hc j hj
  exact ⟨x, k.cell1 hb hx, hx2⟩
theorem bounds_u8 {n : Int} (h : (Lit.int .u8 n).wf = true) : 0 ≤ n ∧ n ≤ 255 := by
  simp [Lit.wf, IntKind.min, IntKind.max, IntKind.signed, IntKind.bits] at h
  omega
def IsBytes (W : World) (v : Value) (n : Nat) : Prop := RB W v n
section
variable {H : Type} {enc : TypeId × Value → H} {w : World} {base : Nat} {spare : Nat → Bool} {held : Bool} {r : Reach} {b0 : Nat} {v : Value} {d : DataW H} {p : List MemPlace}
theorem readBytes {fuel : Nat} {cs : List Value} {y : DataW H × List MemPlace} (h : DataW.trod enc Try.prog w base spare held fuel 48 cs = some y) : ∃ v n, cs = [v] ∧ IsBytes w v n := by
  rcases Go.ChangeShapes.open_ints Try.underlying48 Try.underlying5 (by kernel_rfl) h with ⟨hcs, _⟩ | ⟨a, l, c, zs, hcs, _, hl, hm, hz, _, hcell, hwz⟩
  · exact ⟨_, 0, hcs, none, 0, rfl, Nat.le_refl _, by omega, fun h0 => absurd h0 (by omega)⟩
  · have hlz : l ≤ zs.length := by rw [hz]; split <;> omega
    refine ⟨_, l, hcs, ⟨some a, c, rfl, hl, by unfold maxLen at hm; omega, fun h0 => ?_⟩⟩
    obtain ⟨b, off, rfl, hc⟩ := ints_at hcell (by omega)
    refine ⟨b, off, rfl, World.block_lt_of_cell? w _ (hc 0 (by omega)), fun j hj => ⟨zs.getD j 0, hc j (by omega), ?_⟩⟩
    have hmem : zs.getD j 0 ∈ zs := by
      have : zs[j]? = some (zs[j]'(by omega)) := List.getElem?_eq_getElem (by omega)
      simp [List.getD, this]
    exact bounds_u8 (hwz _ hmem)
theorem openBytes (hv : Value.okWide Try.prog w r b0 48 v) (h : DataW.Trod enc Try.prog w base spare held 48 v d p) : ∃ n, IsBytes w v n := by
  obtain ⟨a, l, c, rfl⟩ := okWide_slice Try.underlying48 hv
  obtain ⟨fuel, hf⟩ := h
  obtain ⟨u, xs, hu, hx⟩ := readBytes hf
  simp [Value.cells] at hu
  subst hu
  exact ⟨xs, hx⟩
end
/-- A cursor lies in block cb. -/
def Cur (w : World) (cb : Nat) : Prop :=
  ∃ (A : Option Addr) (n c i : Nat) (h : Int), Blk w cb 106 #[.slice A n c, .int .i64 (i : Int), .int .i64 h] ∧ i ≤ n ∧ n ≤ 1048576 ∧ n ≤ c ∧
    (0 < n → ∃ b off, A = some ⟨b, off, none⟩ ∧ b < cb ∧ ∀ j, j < n → ∃ x : Int, w.cell? ⟨b, off + j, none⟩ = some (.int .u8 x) ∧ 0 ≤ x ∧ x ≤ 255)
theorem Cur.lt {w : World} {cb : Nat} (h : Cur w cb) : cb < w.heap.size := by
  obtain ⟨_, _, _, _, _, X, _⟩ := h
  exact X.lt
theorem Mid.cell {lo hi : Nat} {w w' : World} (m : Mid lo hi w w') {b o : Nat} {x : Value} (hb : b < w.heap.size) (hg : b < lo ∨ hi ≤ b) (hc : w.cell? ⟨b, o, none⟩ = some x) : w'.cell? ⟨b, o, none⟩ = some x := by
  have h := m.block b hb hg
  unfold World.cell? at *
  dsimp only at *
  rw [h]
  exact hc
theorem Cur.of {w w' : World} {cb n c i : Nat} {A : Option Addr} {h : Int} (X : Blk w' cb 106 #[.slice A n c, .int .i64 (i : Int), .int .i64 h]) (h1 : i ≤ n) (h2 : n ≤ 1048576) (h3 : n ≤ c) (m : Mid cb (cb + 1) w w') (hl : cb < w.heap.size)
    (h4 : 0 < n → ∃ b off, A = some ⟨b, off, none⟩ ∧ b < cb ∧ ∀ j, j < n → ∃ x : Int, w.cell? ⟨b, off + j, none⟩ = some (.int .u8 x) ∧ 0 ≤ x ∧ x ≤ 255) : Cur w' cb := by
  refine ⟨A, n, c, i, h, X, h1, h2, h3, fun h0 => ?_⟩
  obtain ⟨b, off, hA, hb, hc⟩ := h4 h0
  refine ⟨b, off, hA, hb, fun j hj => ?_⟩
  obtain ⟨y, hy, hy2⟩ := hc j hj
  exact ⟨y, m.cell (by omega) (.inl (by omega)) hy, hy2⟩
/-- Only other blocks from lo on turned. -/
theorem Cur.mid {lo hi cb : Nat} {w w' : World} (h : Cur w cb) (m : Mid lo hi w w') (hl : cb < lo) : Cur w' cb := by
  have hlt := h.lt
  obtain ⟨A, n, c, i, x, X, h1, h2, h3, h4⟩ := h
  refine ⟨A, n, c, i, x, X.mid m (.inl hl), h1, h2, h3, fun h0 => ?_⟩
  obtain ⟨b, off, hA, hb, hc⟩ := h4 h0
  refine ⟨b, off, hA, hb, fun j hj => ?_⟩
  obtain ⟨y, hy, hy2⟩ := hc j hj
  exact ⟨y, m.cell (by omega) (.inl (by omega)) hy, hy2⟩
theorem Cur.keep {cb : Nat} {w w' : World} (h : Cur w cb) (k : Bel w w') : Cur w' cb := h.mid (Mid.ofBel (lo := cb + 1) (hi := cb + 1) k) (by omega)
theorem Mid.set {lo hi : Nat} (w : World) {p : Addr} (u : Value) (h : lo ≤ p.block) (h2 : p.block < hi) : Mid lo hi w (w.setCell p u) := by
  refine ⟨rfl, rfl, rfl, by simp [World.setCell], fun k hk ho => Below.heap_setCell w p u k (by omega)⟩
/-- Drawn: the cursor stays one, only its block has turned. -/
def Trn (cb : Nat) (w w' : World) : Prop := Cur w' cb ∧ Mid cb (cb + 1) w w'
theorem Trn.trans {cb : Nat} {a b c : World} (h : Trn cb a b) (k : Trn cb b c) : Trn cb a c := ⟨k.1, h.2.trans k.2⟩
theorem Trn.then {cb : Nat} {a b c : World} (h : Trn cb a b) (k : Bel b c) : Trn cb a c := ⟨h.1.keep k, h.2.trans (Mid.ofBel k)⟩
theorem Trn.of {cb : Nat} {a b : World} (h : Cur a cb) (k : Bel a b) : Trn cb a b := ⟨h.keep k, Mid.ofBel k⟩
theorem Bel.trn {a w w' : World} {cb : Nat} (h : Bel a w) (t : Trn cb w w') (hl : a.heap.size ≤ cb) : Bel a w' := h.mid t.2 hl
theorem OI.trn {w w' : World} {base cb : Nat} {v : Value} {xs : List Int} (h : OI w base v xs) (t : Trn cb w w') (hl : cb < base) : OI w' base v xs :=
  h.mid t.2 (fun q hq => .inr (by have := (h.block q hq).1; omega))
theorem Blk.trn {w w' : World} {g cb : Nat} {T : TypeId} {cs : Array Value} (h : Blk w g T cs) (t : Trn cb w w') (hl : cb < g) : Blk w' g T cs := h.mid t.2 (.inr (by omega))
/-- Blocks from base on turn, where base lies behind the first world and the cursor. -/
theorem Trn.row {cb base : Nat} {a w w' : World} {row : Option Nat} (t : Trn cb a w) (hG : w.grownBy w' row) (hr : ∀ q, row = some q → base ≤ q) (hb : a.heap.size ≤ base) (hl : cb < base) : Trn cb a w' := by
  have m : Mid base (w'.heap.size + base + 1) w w' := ⟨hG.os, hG.tape, hG.output, hG.size, fun i hi ho => hG.block i hi (fun e => by have := hr i e.symm; have := hG.size; omega)⟩
  exact ⟨t.1.mid m hl, ⟨hG.os.trans t.2.os, hG.tape.trans t.2.tape, hG.output.trans t.2.output, Nat.le_trans t.2.size hG.size, fun k hk ho => (hG.block k (Nat.lt_of_lt_of_le hk t.2.size) (fun e => by have := hr k e.symm; omega)).trans (t.2.block k hk ho)⟩⟩
/-- An append to a slice of its own behind the cursor. -/
theorem Trn.grown {cb base : Nat} {a w w' : World} {o : Obj} {v : Value} {xs : List Int} (t : Trn cb a w) (O : OI w base v xs) (hG : (w.alloc o).grownBy w' v.ownBlock) (hb : a.heap.size ≤ base) (hl : cb < base) : Trn cb a w' :=
  (t.then ((Bel.refl w).alloc o)).row hG (fun q hq => (O.block q hq).1) hb hl
/-- A store into a block behind the first world and the cursor. -/
theorem Trn.set {cb : Nat} {a w : World} {p : Addr} (t : Trn cb a w) (u : Value) (hb : a.heap.size ≤ p.block) (hl : cb < p.block) : Trn cb a (w.setCell p u) := by
  have m : Mid p.block (p.block + 1) w (w.setCell p u) := Mid.set w u (Nat.le_refl _) (by omega)
  exact ⟨t.1.mid m hl, ⟨m.os.trans t.2.os, m.tape.trans t.2.tape, m.output.trans t.2.output, Nat.le_trans t.2.size m.size, fun k hk ho => (m.block k (Nat.lt_of_lt_of_le hk t.2.size) (.inl (by omega))).trans (t.2.block k hk ho)⟩⟩
theorem Cur.setH {cb : Nat} {w : World} (h : Cur w cb) (x : Int) : Cur (w.setCell ⟨cb, 2, none⟩ (.int .i64 x)) cb := by
  have hlt := h.lt
  obtain ⟨A, n, c, i, y, X, h1, h2, h3, h4⟩ := h
  refine ⟨A, n, c, i, x, X.set 2 _, h1, h2, h3, fun h0 => ?_⟩
  obtain ⟨b, off, hA, hb, hc⟩ := h4 h0
  refine ⟨b, off, hA, hb, fun j hj => ?_⟩
  obtain ⟨z, hz, hz2⟩ := hc j hj
  exact ⟨z, (Mid.set (lo := cb) (hi := cb + 1) w (p := ⟨cb, 2, none⟩) _ (Nat.le_refl _) (by simp)).cell (by omega) (.inl hb) hz, hz2⟩
end Go.Proofs.Ytchodlfkoafeaaa
