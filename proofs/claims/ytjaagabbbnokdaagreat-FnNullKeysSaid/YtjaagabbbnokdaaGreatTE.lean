/-
  How arguments of laws read: one predicate and one opening lemma for each type of argument. Nothing of the program is run here.
  How arguments of laws with slices of ints read. Nothing of the program is run here.
  The cursor of the draws: weak contracts of l1Byte, l1Below, l1Once, l1Int (the result is in range, only the cursor's own block turns). No condition beyond a cursor that can be read.
  l1Byte, l1Below, l1Once, l1Int, l4Element: weak contracts. Condition: a cursor that can be read.
  Draws: l1New, big, at, l5Vector: weak contracts. Condition: at most 2^20 bytes.
-/
import Derived.Test.YtjaagabbbnokdaaGreatInt
import Derived.Deep.Slices
import Derived.Deep.Fields
import Derived.Deep.Matrix
import Derived.Test.YtjaagabbbnokdaaGreatSl
import Derived.Test.YtjaagabbbnokdaaGreatMid
import Derived.Test.YtjaagabbbnokdaaGreatBits
import Derived.Test.YtjaagabbbnokdaaGreatMl
import Derived.Deep.QuietTactic
import Derived.Test.YtjaagabbbnokdaaGreatApp
namespace Go.Proofs.YtjaagabbbnokdaaGreat
open Go.ChangeShapes Go.WideShapes Go.ChangeAt Go.RowKit Go.Joins Go.Deep
set_option linter.unusedVariables false
set_option maxRecDepth 100000

abbrev I64 (x : Int) : Prop := -9223372036854775808 ≤ x ∧ x ≤ 9223372036854775807
def IsI (W : World) (v : Value) (x : Int) : Prop := v = .int .i64 x ∧ I64 x
def IsB (W : World) (v : Value) (x : Bool) : Prop := v = .bool x

section
variable {H : Type} {enc : TypeId × Value → H} {w : World} {base : Nat} {spare : Nat → Bool} {held : Bool} {r : Reach} {b0 : Nat} {v : Value} {d : DataW H} {p : List MemPlace}

theorem openI (hv : Value.okWide Tryz.prog w r b0 3 v) (h : DataW.Trod enc Tryz.prog w base spare held 3 v d p) : ∃ x, IsI w v x := by
  obtain ⟨x, rfl, _, _, wx⟩ := open_int Tryz.underlying3 hv h
  exact ⟨x, rfl, bounds_i64 wx⟩
theorem openB (hv : Value.okWide Tryz.prog w r b0 4 v) (h : DataW.Trod enc Tryz.prog w base spare held 4 v d p) : ∃ x, IsB w v x := by
  obtain ⟨x, rfl, _, _⟩ := open_bool Tryz.underlying4 hv h
  exact ⟨x, rfl⟩
theorem field_int {n : Nat} {v : Value} {y : DataW H × List MemPlace} (h : DataW.trod enc Tryz.prog w base spare held n 3 [v] = some y) : ∃ x : Int, v = .int .i64 x ∧ I64 x := by
  obtain ⟨x, e, _, wx⟩ := DataW.trod_int Tryz.underlying3 h
  simp at e
  exact ⟨x, e, bounds_i64 wx⟩

end
end Go.Proofs.YtjaagabbbnokdaaGreat

namespace Go.Proofs.YtjaagabbbnokdaaGreat
open Go.ChangeShapes Go.WideShapes Go.ChangeAt Go.RowKit Go.Joins Go.Deep
set_option linter.unusedVariables false
set_option maxRecDepth 100000

def IsInts (W : World) (v : Value) (xs : List Int) : Prop := RI W v xs ∧ ∀ x ∈ xs, I64 x

section
variable {H : Type} {enc : TypeId × Value → H} {w : World} {base : Nat} {spare : Nat → Bool} {held : Bool} {r : Reach} {b0 : Nat} {v : Value} {d : DataW H} {p : List MemPlace}

theorem readInts {fuel : Nat} {cs : List Value} {y : DataW H × List MemPlace} (h : DataW.trod enc Tryz.prog w base spare held fuel 47 cs = some y) : ∃ v xs, cs = [v] ∧ IsInts w v xs := by
  rcases open_ints Tryz.underlying47 Tryz.underlying3 (by kernel_rfl) h with ⟨hcs, _⟩ | ⟨a, l, c, zs, hcs, _, hl, hm, hz, _, hcell, hwz⟩
  · exact ⟨_, [], hcs, RI.nil w, fun x hx => by simp at hx⟩
  · have hlz : l ≤ zs.length := by rw [hz]; split <;> omega
    refine ⟨_, zs.take l, hcs, ⟨some a, c, ?_, ?_, ?_, fun h0 => ?_⟩, fun x hx => bounds_i64 (hwz x (List.mem_of_mem_take hx))⟩
    · rw [List.length_take, Nat.min_eq_left hlz]
    · rw [List.length_take, Nat.min_eq_left hlz]; exact hl
    · unfold maxLen at hm; omega
    · rw [List.length_take, Nat.min_eq_left hlz] at h0
      obtain ⟨b, off, rfl, hc⟩ := ints_at hcell (by omega)
      refine ⟨b, off, rfl, World.block_lt_of_cell? w _ (hc 0 (by omega)), fun j x hx => ?_⟩
      have hj : j < l := by
        have := (List.getElem?_eq_some_iff.1 hx).1
        rw [List.length_take] at this
        omega
      rw [hc j (by omega)]
      rw [List.getElem?_take, if_pos hj] at hx
      simp [List.getD, hx]
theorem openInts (hv : Value.okWide Tryz.prog w r b0 47 v) (h : DataW.Trod enc Tryz.prog w base spare held 47 v d p) : ∃ xs, IsInts w v xs := by
  obtain ⟨a, l, c, rfl⟩ := okWide_slice Tryz.underlying47 hv
  obtain ⟨fuel, hf⟩ := h
  obtain ⟨u, xs, hu, hx⟩ := readInts hf
  simp [Value.cells] at hu
  subst hu
  exact ⟨xs, hx⟩
/-- A struct of one field of one cell. -/
theorem open_agg1 {P : Program} {t : TypeId} {f0 : Field} (hs : P.underlying t = some (.struct #[f0])) (hone : oneCellFields P #[f0] = true) (hC : P.cellsOf t = 1)
    (hv : Value.okWide P w r b0 t v) (h : DataW.Trod enc P w base spare held t v d p) :
    ∃ (v0 : Value) (y0 : DataW H × List MemPlace) (n : Nat), v = .agg #[v0] ∧ DataW.trod enc P w base spare held n f0.type [v0] = some y0 := by
  obtain ⟨cs, rfl, hsz⟩ := okWide_struct hs hv
  obtain ⟨l⟩ := cs
  match l, hsz.trans hC with
  | [c0], _ =>
    obtain ⟨fuel, hf⟩ := h
    obtain ⟨xs, n, _, hx, _, hlen, hg⟩ := DataW.trod_struct hs hf
    obtain ⟨o0, k0⟩ := hone_of hone 0 f0 rfl
    match xs, hlen with
    | [y0], _ => exact ⟨c0, y0, n, rfl, by simpa [Value.cells, o0, k0] using hg 0 f0 rfl⟩
theorem field_ints {n : Nat} {v : Value} {y : DataW H × List MemPlace} (h : DataW.trod enc Tryz.prog w base spare held n 47 [v] = some y) : ∃ xs, IsInts w v xs := by
  obtain ⟨u, xs, hu, hx⟩ := readInts h
  simp at hu
  subst hu
  exact ⟨xs, hx⟩

end
end Go.Proofs.YtjaagabbbnokdaaGreat

namespace Go.Proofs.YtjaagabbbnokdaaGreat
open Go.ChangeShapes Go.WideShapes Go.ChangeAt Go.RowKit Go.Joins Go.Deep
set_option linter.unusedVariables false
set_option maxRecDepth 100000

theorem mask (n : Int) (k : Nat) (m : Int) (h1 : (BitVec.ofInt 64 m).toNat = 2 ^ k - 1) (hk : k ≤ 62) : 0 ≤ bits .and .i64 n m ∧ bits .and .i64 n m ≤ 2 ^ k - 1 := by
  have key : (BitVec.ofInt 64 n &&& BitVec.ofInt 64 m).toNat = (n % ((2 ^ 64 : Nat) : Int)).toNat % 2 ^ k := by
    rw [BitVec.toNat_and, BitVec.toNat_ofInt, h1, Nat.and_two_pow_sub_one_eq_mod]
  show 0 ≤ IntKind.i64.wrap ((BitVec.ofInt 64 n &&& BitVec.ofInt 64 m).toNat : Nat) ∧ IntKind.i64.wrap ((BitVec.ofInt 64 n &&& BitVec.ofInt 64 m).toNat : Nat) ≤ 2 ^ k - 1
  rw [key, IntKind.wrap_i64]
  have h2 : (n % ((2 ^ 64 : Nat) : Int)).toNat % 2 ^ k < 2 ^ k := Nat.mod_lt _ (Nat.two_pow_pos k)
  have h3 : 2 ^ k ≤ 2 ^ 62 := Nat.pow_le_pow_right (by decide) hk
  have h4 : (2 : Int) ^ k = ((2 ^ k : Nat) : Int) := by simp
  rw [h4]
  generalize (n % ((2 ^ 64 : Nat) : Int)).toNat % 2 ^ k = a at *
  generalize 2 ^ k = b at *
  omega
theorem and255 (n : Int) : 0 ≤ bits .and .i64 n 255 ∧ bits .and .i64 n 255 ≤ 255 := mask n 8 255 (by decide) (by decide)
theorem and30 (n : Int) : 0 ≤ bits .and .i64 n 1073741823 ∧ bits .and .i64 n 1073741823 ≤ 1073741823 := mask n 30 1073741823 (by decide) (by decide)

/-- A slice of bytes that can be read. -/
def RB (w : World) (v : Value) (n : Nat) : Prop :=
  ∃ A c, v = .slice A n c ∧ n ≤ c ∧ c ≤ 9223372036854775807 ∧ (0 < n → ∃ b off, A = some ⟨b, off, none⟩ ∧ b < w.heap.size ∧ ∀ j, j < n → ∃ x : Int, w.cell? ⟨b, off + j, none⟩ = some (.int .u8 x) ∧ 0 ≤ x ∧ x ≤ 255)
theorem RB.keep {w w' : World} {v : Value} {n : Nat} (h : RB w v n) (k : Bel w w') : RB w' v n := by
  obtain ⟨A, c, hv, h1, h2, h3⟩ := h
  refine ⟨A, c, hv, h1, h2, fun h0 => ?_⟩
  obtain ⟨b, off, hA, hb, hc⟩ := h3 h0
  refine ⟨b, off, hA, Nat.lt_of_lt_of_le hb k.size, fun j hj => ?_⟩
  obtain ⟨x, hx, hx2⟩ := hc j hj
  exact ⟨x, k.cell1 hb hx, hx2⟩
theorem bounds_u8 {n : Int} (h : (Lit.int .u8 n).wf = true) : 0 ≤ n ∧ n ≤ 255 := by
  simp [Lit.wf, IntKind.min, IntKind.max, IntKind.signed, IntKind.bits] at h
  omega
def IsBytes (W : World) (v : Value) (n : Nat) : Prop := RB W v n
section
variable {H : Type} {enc : TypeId × Value → H} {w : World} {base : Nat} {spare : Nat → Bool} {held : Bool} {r : Reach} {b0 : Nat} {v : Value} {d : DataW H} {p : List MemPlace}
theorem readBytes {fuel : Nat} {cs : List Value} {y : DataW H × List MemPlace} (h : DataW.trod enc Tryz.prog w base spare held fuel 37 cs = some y) : ∃ v n, cs = [v] ∧ IsBytes w v n := by
  rcases Go.ChangeShapes.open_ints Tryz.underlying37 Tryz.underlying5 (by kernel_rfl) h with ⟨hcs, _⟩ | ⟨a, l, c, zs, hcs, _, hl, hm, hz, _, hcell, hwz⟩
  · exact ⟨_, 0, hcs, none, 0, rfl, Nat.le_refl _, by omega, fun h0 => absurd h0 (by omega)⟩
  · have hlz : l ≤ zs.length := by rw [hz]; split <;> omega
    refine ⟨_, l, hcs, ⟨some a, c, rfl, hl, by unfold maxLen at hm; omega, fun h0 => ?_⟩⟩
    obtain ⟨b, off, rfl, hc⟩ := ints_at hcell (by omega)
    refine ⟨b, off, rfl, World.block_lt_of_cell? w _ (hc 0 (by omega)), fun j hj => ⟨zs.getD j 0, hc j (by omega), ?_⟩⟩
    have hmem : zs.getD j 0 ∈ zs := by
      have : zs[j]? = some (zs[j]'(by omega)) := List.getElem?_eq_getElem (by omega)
      simp [List.getD, this]
    exact bounds_u8 (hwz _ hmem)
theorem openBytes (hv : Value.okWide Tryz.prog w r b0 37 v) (h : DataW.Trod enc Tryz.prog w base spare held 37 v d p) : ∃ n, IsBytes w v n := by
  obtain ⟨a, l, c, rfl⟩ := okWide_slice Tryz.underlying37 hv
  obtain ⟨fuel, hf⟩ := h
  obtain ⟨u, xs, hu, hx⟩ := readBytes hf
  simp [Value.cells] at hu
  subst hu
  exact ⟨xs, hx⟩
end
/-- A cursor lies in block cb. -/
def Cur (w : World) (cb : Nat) : Prop :=
  ∃ (A : Option Addr) (n c i : Nat) (h : Int), Blk w cb 92 #[.slice A n c, .int .i64 (i : Int), .int .i64 h] ∧ i ≤ n ∧ n ≤ 1048576 ∧ n ≤ c ∧
    (0 < n → ∃ b off, A = some ⟨b, off, none⟩ ∧ b < cb ∧ ∀ j, j < n → ∃ x : Int, w.cell? ⟨b, off + j, none⟩ = some (.int .u8 x) ∧ 0 ≤ x ∧ x ≤ 255)
theorem Cur.lt {w : World} {cb : Nat} (h : Cur w cb) : cb < w.heap.size := by
  obtain ⟨_, _, _, _, _, X, _⟩ := h
  exact X.lt
theorem Mid.cell {lo hi : Nat} {w w' : World} (m : Mid lo hi w w') {b o : Nat} {x : Value} (hb : b < w.heap.size) (hg : b < lo ∨ hi ≤ b) (hc : w.cell? ⟨b, o, none⟩ = some x) : w'.cell? ⟨b, o, none⟩ = some x := by
  have h := m.block b hb hg
  unfold World.cell? at *
  dsimp only at *
  rw [h]
  exact hc
theorem Cur.of {w w' : World} {cb n c i : Nat} {A : Option Addr} {h : Int} (X : Blk w' cb 92 #[.slice A n c, .int .i64 (i : Int), .int .i64 h]) (h1 : i ≤ n) (h2 : n ≤ 1048576) (h3 : n ≤ c) (m : Mid cb (cb + 1) w w') (hl : cb < w.heap.size)
    (h4 : 0 < n → ∃ b off, A = some ⟨b, off, none⟩ ∧ b < cb ∧ ∀ j, j < n → ∃ x : Int, w.cell? ⟨b, off + j, none⟩ = some (.int .u8 x) ∧ 0 ≤ x ∧ x ≤ 255) : Cur w' cb := by
  refine ⟨A, n, c, i, h, X, h1, h2, h3, fun h0 => ?_⟩
  obtain ⟨b, off, hA, hb, hc⟩ := h4 h0
  refine ⟨b, off, hA, hb, fun j hj => ?_⟩
  obtain ⟨y, hy, hy2⟩ := hc j hj
  exact ⟨y, m.cell (by omega) (.inl (by omega)) hy, hy2⟩
/-- Only other blocks from lo on turned. -/
theorem Cur.mid {lo hi cb : Nat} {w w' : World} (h : Cur w cb) (m : Mid lo hi w w') (hl : cb < lo) : Cur w' cb := by
  have hlt := h.lt
  obtain ⟨A, n, c, i, x, X, h1, h2, h3, h4⟩ := h
  refine ⟨A, n, c, i, x, X.mid m (.inl hl), h1, h2, h3, fun h0 => ?_⟩
  obtain ⟨b, off, hA, hb, hc⟩ := h4 h0
  refine ⟨b, off, hA, hb, fun j hj => ?_⟩
  obtain ⟨y, hy, hy2⟩ := hc j hj
  exact ⟨y, m.cell (by omega) (.inl (by omega)) hy, hy2⟩
theorem Cur.keep {cb : Nat} {w w' : World} (h : Cur w cb) (k : Bel w w') : Cur w' cb := h.mid (Mid.ofBel (lo := cb + 1) (hi := cb + 1) k) (by omega)
theorem Mid.set {lo hi : Nat} (w : World) {p : Addr} (u : Value) (h : lo ≤ p.block) (h2 : p.block < hi) : Mid lo hi w (w.setCell p u) := by
  refine ⟨rfl, rfl, rfl, by simp [World.setCell], fun k hk ho => Below.heap_setCell w p u k (by omega)⟩
/-- Drawn: the cursor stays one, only its block has turned. -/
def Trn (cb : Nat) (w w' : World) : Prop := Cur w' cb ∧ Mid cb (cb + 1) w w'
theorem Trn.trans {cb : Nat} {a b c : World} (h : Trn cb a b) (k : Trn cb b c) : Trn cb a c := ⟨k.1, h.2.trans k.2⟩
theorem Trn.then {cb : Nat} {a b c : World} (h : Trn cb a b) (k : Bel b c) : Trn cb a c := ⟨h.1.keep k, h.2.trans (Mid.ofBel k)⟩
theorem Trn.of {cb : Nat} {a b : World} (h : Cur a cb) (k : Bel a b) : Trn cb a b := ⟨h.keep k, Mid.ofBel k⟩
theorem Bel.trn {a w w' : World} {cb : Nat} (h : Bel a w) (t : Trn cb w w') (hl : a.heap.size ≤ cb) : Bel a w' := h.mid t.2 hl
theorem OI.trn {w w' : World} {base cb : Nat} {v : Value} {xs : List Int} (h : OI w base v xs) (t : Trn cb w w') (hl : cb < base) : OI w' base v xs :=
  h.mid t.2 (fun q hq => .inr (by have := (h.block q hq).1; omega))
theorem Blk.trn {w w' : World} {g cb : Nat} {T : TypeId} {cs : Array Value} (h : Blk w g T cs) (t : Trn cb w w') (hl : cb < g) : Blk w' g T cs := h.mid t.2 (.inr (by omega))
/-- Blocks from base on turn, where base lies behind the first world and the cursor. -/
theorem Trn.row {cb base : Nat} {a w w' : World} {row : Option Nat} (t : Trn cb a w) (hG : w.grownBy w' row) (hr : ∀ q, row = some q → base ≤ q) (hb : a.heap.size ≤ base) (hl : cb < base) : Trn cb a w' := by
  have m : Mid base (w'.heap.size + base + 1) w w' := ⟨hG.os, hG.tape, hG.output, hG.size, fun i hi ho => hG.block i hi (fun e => by have := hr i e.symm; have := hG.size; omega)⟩
  exact ⟨t.1.mid m hl, ⟨hG.os.trans t.2.os, hG.tape.trans t.2.tape, hG.output.trans t.2.output, Nat.le_trans t.2.size hG.size, fun k hk ho => (hG.block k (Nat.lt_of_lt_of_le hk t.2.size) (fun e => by have := hr k e.symm; omega)).trans (t.2.block k hk ho)⟩⟩
/-- An append to a slice of its own behind the cursor. -/
theorem Trn.grown {cb base : Nat} {a w w' : World} {o : Obj} {v : Value} {xs : List Int} (t : Trn cb a w) (O : OI w base v xs) (hG : (w.alloc o).grownBy w' v.ownBlock) (hb : a.heap.size ≤ base) (hl : cb < base) : Trn cb a w' :=
  (t.then ((Bel.refl w).alloc o)).row hG (fun q hq => (O.block q hq).1) hb hl
/-- A store into a block behind the first world and the cursor. -/
theorem Trn.set {cb : Nat} {a w : World} {p : Addr} (t : Trn cb a w) (u : Value) (hb : a.heap.size ≤ p.block) (hl : cb < p.block) : Trn cb a (w.setCell p u) := by
  have m : Mid p.block (p.block + 1) w (w.setCell p u) := Mid.set w u (Nat.le_refl _) (by omega)
  exact ⟨t.1.mid m hl, ⟨m.os.trans t.2.os, m.tape.trans t.2.tape, m.output.trans t.2.output, Nat.le_trans t.2.size m.size, fun k hk ho => (m.block k (Nat.lt_of_lt_of_le hk t.2.size) (.inl (by omega))).trans (t.2.block k hk ho)⟩⟩
theorem Cur.setH {cb : Nat} {w : World} (h : Cur w cb) (x : Int) : Cur (w.setCell ⟨cb, 2, none⟩ (.int .i64 x)) cb := by
  have hlt := h.lt
  obtain ⟨A, n, c, i, y, X, h1, h2, h3, h4⟩ := h
  refine ⟨A, n, c, i, x, X.set 2 _, h1, h2, h3, fun h0 => ?_⟩
  obtain ⟨b, off, hA, hb, hc⟩ := h4 h0
  refine ⟨b, off, hA, hb, fun j hj => ?_⟩
  obtain ⟨z, hz, hz2⟩ := hc j hj
  exact ⟨z, (Mid.set (lo := cb) (hi := cb + 1) w (p := ⟨cb, 2, none⟩) _ (Nat.le_refl _) (by simp)).cell (by omega) (.inl hb) hz, hz2⟩
end Go.Proofs.YtjaagabbbnokdaaGreat

namespace Go.Proofs.YtjaagabbbnokdaaGreat
open Go.ChangeShapes Go.WideShapes Go.ChangeAt Go.RowKit Go.Joins Go.Deep
set_option linter.unusedVariables false
set_option maxRecDepth 100000

set_option maxHeartbeats 1000000 in
theorem l1ByteS (cb : Nat) (w : World) (hc : Cur w cb) :
    Calls Tryz.prog 110 #[.pointer (some ⟨cb, 0, none⟩)] w fun e w' => ∃ x : Int, e = .returned (.int .i64 x) ∧ (0 ≤ x ∧ x ≤ 255) ∧ Trn cb w w' := by
  obtain ⟨A, n, c, i, h, X, hi, hn, hnc, hA⟩ := id hc
  obtain ⟨cx, fx, zx⟩ := X.facts
  go_enter Tryz.func110, Tryz.ntmps110
  go_wp2
  obtain ⟨g, hg⟩ : ∃ g, g = wrap64 (wrap64 (h * 6364136223846793005) + 1442695040888963407) := ⟨_, rfl⟩
  rw [← hg]
  have X2 : Blk (w.setCell ⟨cb, 2, none⟩ (.int .i64 g)) cb 92 #[.slice A n c, .int .i64 (i : Int), .int .i64 g] := X.set 2 (.int .i64 g)
  have M2 : Mid cb (cb + 1) w (w.setCell ⟨cb, 2, none⟩ (.int .i64 g)) := Mid.set w _ (Nat.le_refl _) (by simp)
  have C2 := hc.setH g
  generalize w.setCell ⟨cb, 2, none⟩ (.int .i64 g) = w2 at *
  clear hg cx fx
  obtain ⟨cx, fx, zx2⟩ := X2.facts
  have r0 : w2.cell? ⟨cb, 0, none⟩ = some (.slice A n c) := cx 0
  have r1 : w2.cell? ⟨cb, 1, none⟩ = some (.int .i64 (i : Int)) := cx 1
  have r2 : w2.cell? ⟨cb, 2, none⟩ = some (.int .i64 g) := cx 2
  clear cx
  by_cases hlt : i < n
  · have HA := Lib.hid hA
    obtain ⟨b, off, rfl, hb, hcl⟩ := hA (by omega)
    obtain ⟨y, hy, hy2⟩ := hcl i hlt
    have g1 := M2.cell (Nat.lt_trans hb zx) (.inl hb) hy
    have i0 : (0 : Int) ≤ (i : Int) := by omega
    have i1 : (i : Int) < (n : Int) := by omega
    have g2 : w2.cell? ⟨b, off + i, none⟩ = some (.int .u8 y) := g1
    have KT : ∀ N : Nat, Trn cb w ((w2.drewN N).setCell ⟨cb, 1, none⟩ (.int .i64 ((i : Int) + 1))) := fun N => by
      have M3 : Mid cb (cb + 1) w ((w2.drewN N).setCell ⟨cb, 1, none⟩ (.int .i64 ((i : Int) + 1))) := M2.trans ((Mid.ofBel ((Bel.refl _).drewN N)).trans (Mid.set _ _ (Nat.le_refl _) (by simp)))
      exact ⟨Cur.of (i := i + 1) ((X2.drewN N).set 1 (.int .i64 ((i : Int) + 1))) (by omega) hn hnc M3 zx HA.out, M3⟩
    clear hcl hA hy g1
    go_quiet (fail)
    go_wp2
    go_quiet (fail)
    go_wp2
    go_quiet (fail)
    go_wp2
    go_ret
    exact ⟨_, rfl, and255 _, (KT _).1, (KT _).2⟩
  · have i1 : ¬ (i : Int) < (n : Int) := by omega
    go_quiet (fail)
    go_wp2
    go_quiet (fail)
    go_wp2
    go_ret
    exact ⟨_, rfl, and255 _, C2.keep (((Bel.refl _).drewN _).drewN _), M2.trans (Mid.ofBel (((Bel.refl _).drewN _).drewN _))⟩
theorem trnQ {P : Program} {f : FuncId} {args : Array Value} {cb : Nat} {w0 w : World} {R : Int → Prop} (h : Calls P f args w fun e w' => ∃ x : Int, e = .returned (.int .i64 x) ∧ R x ∧ Trn cb w w') (t : Trn cb w0 w) :
    Calls P f args w fun e w' => ∃ x : Int, e = .returned (.int .i64 x) ∧ R x ∧ Trn cb w0 w' :=
  h.mono fun _ _ ⟨x, he, hr, k⟩ => ⟨x, he, hr, t.trans k⟩
theorem tmod_bd {a n : Int} (h0 : 0 ≤ a) (hn : 0 < n) : 0 ≤ a % n ∧ a % n < n := ⟨Int.emod_nonneg _ (by omega), Int.emod_lt_of_pos _ hn⟩
set_option maxHeartbeats 1000000 in
/-- A number below n. -/
theorem l1BelowS (cb : Nat) (n : Int) (w : World) (hc : Cur w cb) (hn : 0 < n) (hn2 : n ≤ 1048576) :
    Calls Tryz.prog 85 #[.pointer (some ⟨cb, 0, none⟩), .int .i64 n] w fun e w' => ∃ x : Int, e = .returned (.int .i64 x) ∧ (0 ≤ x ∧ x < n) ∧ Trn cb w w' := by
  have n0 : ¬ n ≤ 0 := by omega
  go_enter Tryz.func85, Tryz.ntmps85
  by_cases h : n ≤ 256
  · go_wp2_with fail
    refine (l1ByteS cb _ hc).mono ?_
    rintro e w1 ⟨x, rfl, ⟨x0, x1⟩, t1⟩
    have hb := tmod_bd x0 hn
    go_wp2
    go_ret
    exact ⟨_, rfl, hb, t1⟩
  · go_wp2_with fail
    refine (l1ByteS cb _ hc).mono ?_
    rintro e w1 ⟨x, rfl, ⟨x0, x1⟩, t1⟩
    go_wp2_with fail
    refine (l1ByteS cb _ t1.1).mono ?_
    rintro e w2 ⟨y, rfl, ⟨y0, y1⟩, t2⟩
    go_wp2_with fail
    refine (l1ByteS cb _ t2.1).mono ?_
    rintro e w3 ⟨z, rfl, ⟨z0, z1⟩, t3⟩
    have hb := tmod_bd (a := x * 65536 + y * 256 + z) (by omega) hn
    go_wp2
    go_ret
    exact ⟨_, rfl, hb, (t1.trans t2).trans t3⟩
/-- A number below n, 0 where n is not above 0. -/
theorem l1Below0 (cb : Nat) (n : Int) (w : World) (hc : Cur w cb) (hn : n ≤ 0) :
    Calls Tryz.prog 85 #[.pointer (some ⟨cb, 0, none⟩), .int .i64 n] w fun e w' => ∃ x : Int, e = .returned (.int .i64 x) ∧ x = 0 ∧ Trn cb w w' := by
  go_enter Tryz.func85, Tryz.ntmps85
  go_wp2
  go_ret
  exact ⟨0, rfl, rfl, hc, Mid.refl _ _ _⟩
theorem l1OnceS (cb : Nat) (n : Int) (w : World) (hc : Cur w cb) (hn : 0 < n) (hn2 : n ≤ 1048576) :
    Calls Tryz.prog 131 #[.pointer (some ⟨cb, 0, none⟩), .int .i64 n] w fun e w' => ∃ x : Bool, e = .returned (.bool x) ∧ Trn cb w w' := by
  go_enter Tryz.func131, Tryz.ntmps131
  go_wp2_with fail
  refine (l1BelowS cb n _ hc hn hn2).mono ?_
  rintro e w1 ⟨x, rfl, hx, t1⟩
  go_wp2
  go_ret
  exact ⟨_, rfl, t1⟩
theorem l4ElementS (cb : Nat) (w : World) (hc : Cur w cb) :
    Calls Tryz.prog 132 #[.pointer (some ⟨cb, 0, none⟩)] w fun e w' => ∃ x : Int, e = .returned (.int .i64 x) ∧ (0 ≤ x ∧ x < 1019) ∧ Trn cb w w' := by
  go_enter Tryz.func132, Tryz.ntmps132
  go_wp2_with fail
  refine (l1BelowS cb 1019 _ hc (by omega) (by omega)).mono ?_
  rintro e w1 ⟨x, rfl, hx, t1⟩
  go_wp2
  go_ret
  exact ⟨_, rfl, hx, t1⟩
end Go.Proofs.YtjaagabbbnokdaaGreat

namespace Go.Proofs.YtjaagabbbnokdaaGreat
open Go.ChangeShapes Go.WideShapes Go.ChangeAt Go.RowKit Go.Joins Go.Deep
set_option linter.unusedVariables false
set_option maxRecDepth 100000

theorem bigL (v : Value) (n : Nat) (w : World) (hv : RB w v n) :
    Calls Tryz.prog 14 #[v] w fun e w' => e = .returned (.bool (decide ((1048576 : Int) < (n : Int)))) ∧ w = w' := by
  obtain ⟨A, c, rfl, h2, h3, hA⟩ := hv
  go_enter Tryz.func14, Tryz.ntmps14
  go_wp2
  go_ret
  exact ⟨rfl, rfl⟩
set_option maxHeartbeats 400000 in
theorem atL (v : Value) (n i : Nat) (w : World) (hv : RB w v n) (hn : n ≤ 1048576) (hi : i ≤ 1048576) :
    Calls Tryz.prog 16 #[v, .int .i64 (i : Int)] w fun e w' => ∃ x : Int, e = .returned (.int .i64 x) ∧ (0 ≤ x ∧ x ≤ 255) ∧ w = w' := by
  obtain ⟨A, c, rfl, h2, h3, hA⟩ := hv
  go_enter Tryz.func16, Tryz.ntmps16
  by_cases hlt : i < n
  · obtain ⟨b, off, rfl, hb, hcl⟩ := hA (by omega)
    obtain ⟨y, hy, hy2⟩ := hcl i hlt
    have i0 : (0 : Int) ≤ (i : Int) := by omega
    have i1 : (i : Int) < (n : Int) := by omega
    clear hcl hA
    go_wp2
    go_ret
    exact ⟨_, rfl, hy2, rfl⟩
  · have i1 : ¬ (i : Int) < (n : Int) := by omega
    have hb := tmod_bd (a := (i : Int) * 31 + (n : Int) * 7) (n := 256) (by omega) (by omega)
    go_wp2
    go_ret
    exact ⟨_, rfl, by omega, rfl⟩
set_option maxHeartbeats 1000000 in
/-- A new cursor. -/
theorem l1NewS (v : Value) (n : Nat) (w : World) (hv : RB w v n) (hn : n ≤ 1048576) :
    Calls Tryz.prog 44 #[v] w fun e w' => ∃ cb, e = .returned (.pointer (some ⟨cb, 0, none⟩)) ∧ w.heap.size ≤ cb ∧ Cur w' cb ∧ Bel w w' := by
  have hv0 := Lib.hid hv
  obtain ⟨A, c, rfl, h2, h3, hA⟩ := hv
  go_enter Tryz.func44, Tryz.ntmps44
  go_wp2
  go_loopg [3, 4] n (fun f h i wr => ∃ (k : Nat) (x : Int), k + f = n ∧ i = .int .i64 k ∧ h = .int .i64 x ∧ wr = w)
  case atStart => exact ⟨0, _, by omega, rfl, rfl, rfl⟩
  case round =>
    obtain ⟨k, x, hk, rfl, rfl, rfl⟩ := hrel
    have hk2 : k ≤ n := by omega
    have HK := Lib.hid hk
    clear hk
    have hfin : Hid (∀ (A' : Option Addr) (y : Int), (.slice A' n c : Value) = .slice A n c → Cur (wr.alloc (.cells #[.slice A' n c, .int .i64 0, .int .i64 y] 92)) wr.heap.size) := Lib.hid (fun A' y e => by
      injection e with e1 _ _
      subst e1
      refine ⟨A', n, c, 0, y, Blk.new wr _ _, by omega, hn, h2, fun h0 => ?_⟩
      obtain ⟨b, off, hA', hb, hcl⟩ := hA h0
      refine ⟨b, off, hA', hb, fun j hj => ?_⟩
      obtain ⟨z, hz, hz2⟩ := hcl j hj
      exact ⟨z, ((Bel.refl wr).alloc _).cell1 hb hz, hz2⟩)
    by_cases hlt : k < n
    · have i0 : (0 : Int) ≤ (k : Int) := by omega
      have i1 : (k : Int) < (n : Int) := by omega
      by_cases h4 : k < 4000
      · have i2 : (k : Int) < 4000 := by omega
        obtain ⟨b, off, rfl, hb, hcl⟩ := hA (by omega)
        obtain ⟨y, hy, hy2⟩ := hcl k hlt
        clear hcl hA hfin
        go_wp2
        go_roundg (n - (k + 1))
        case measure => have := HK.out; omega
        case rel => exact ⟨k + 1, _, by omega, by go_num, rfl, rfl⟩
      · have i2 : ¬ (k : Int) < 4000 := by omega
        clear hA
        go_wp2
        go_ret
        exact ⟨_, rfl, Nat.le_refl _, hfin.out _ _ rfl, (Bel.refl _).alloc _⟩
    · obtain rfl : k = n := by omega
      have i1 : ¬ (k : Int) < (k : Int) := by omega
      clear hA
      go_wp2
      go_ret
      exact ⟨_, rfl, Nat.le_refl _, hfin.out _ _ rfl, (Bel.refl _).alloc _⟩
/-- A block that holds just these numbers. -/
theorem OI.lits {w : World} {base g : Nat} {xs : List Int} (h : Blk w g 3 ((xs.map (Value.int .i64)).toArray)) (hb : base ≤ g) (hn : xs.length ≤ 1099511627776) : OI w base (.slice (some ⟨g, 0, none⟩) xs.length xs.length) xs :=
  ⟨by simp, .inr ⟨g, xs.length, _, rfl, hb, h, Nat.le_refl _, by unfold maxLen; omega, by simp, by rw [Nat.mul_one]; exact List.take_of_length_le (by simp)⟩⟩
def In1018 (xs : List Int) : Prop := ∀ x ∈ xs, 0 ≤ x ∧ x < 1019
theorem In1018.snoc {xs : List Int} {x : Int} (h : In1018 xs) (hx : 0 ≤ x ∧ x < 1019) : In1018 (xs ++ [x]) := fun y hy => by
  rcases List.mem_append.1 hy with h1 | h1
  · exact h y h1
  · rw [List.mem_singleton.1 h1]; exact hx
set_option maxHeartbeats 2000000 in
theorem l5VectorS (cb n : Nat) (w : World) (hc : Cur w cb) (hn : n ≤ 1000) :
    Calls Tryz.prog 116 #[.pointer (some ⟨cb, 0, none⟩), .int .i64 (n : Int)] w fun e w' => ∃ r xs, e = .returned r ∧ OI w' w.heap.size r xs ∧ (xs.length = n ∧ In1018 xs) ∧ Trn cb w w' := by
  have hlt0 := hc.lt
  have O0 := OI.empty w
  have T0 : Trn cb w (w.alloc (.cells #[] 3)) := Trn.of hc ((Bel.refl _).alloc _)
  go_enter Tryz.func116, Tryz.ntmps116
  go_wp2
  go_loopg [5, 6] n (fun f o i wr => ∃ (k : Nat) (xs : List Int), k + f = n ∧ i = .int .i64 k ∧ OI wr w.heap.size o xs ∧ (xs.length = k ∧ In1018 xs) ∧ Trn cb w wr)
  case atStart => exact ⟨0, [], by omega, rfl, O0, ⟨rfl, fun x hx => by cases hx⟩, T0⟩
  case round =>
    clear O0 T0
    obtain ⟨k, xs, hk, rfl, O, ⟨hl, hb⟩, T⟩ := hrel
    have hk2 : k ≤ n := by omega
    have hxl : xs.length ≤ 1000 := by omega
    have HK := Lib.hid hk
    have HL := Lib.hid hl
    have HB := Lib.hid hb
    clear hk hl hb
    by_cases hlt : k < n
    · have i0 : (0 : Int) ≤ (k : Int) := by omega
      have i1 : (k : Int) < (n : Int) := by omega
      go_wp2_with fail
      refine (l1OnceS cb 3 _ T.1 (by omega) (by omega)).mono ?_
      rintro e w1 ⟨x, rfl, t1⟩
      have O1 := O.trn t1 hlt0
      have T1 := T.trans t1
      have HZ : Hid (w.heap.size ≤ w1.heap.size) := Lib.hid T1.2.size
      cases x
      · go_wp2_with fail
        refine (l4ElementS cb _ T1.1).mono ?_
        rintro e w2 ⟨y, rfl, hy, t2⟩
        have O2 := O1.trn t2 hlt0
        have T2 := T1.trans t2
        have HZ2 : Hid (w.heap.size ≤ w2.heap.size) := Lib.hid T2.2.size
        go_wp2_with (at_builtin; refine wpList_appI _ rfl _ _ rfl w.heap.size _ _ xs [y] rfl rfl (O2.keep ((Bel.refl _).alloc _)) (RI.lit1 _ _ _) (by simp only [List.length_cons, List.length_nil]; omega) (by have := HZ2.out; simp; omega) ?_)
        intro v3 w3 O3 hG
        have T3 : Trn cb w w3 := T2.grown O2 hG (Nat.le_refl _) hlt0
        go_wp2
        go_roundg (n - (k + 1))
        case measure => have := HK.out; omega
        case rel => exact ⟨k + 1, xs ++ [y], by omega, by go_num, O3, ⟨by rw [List.length_append, HL.out]; rfl, HB.out.snoc hy⟩, T3⟩
      · go_wp2_with (at_builtin; refine wpList_appI _ rfl _ _ rfl w.heap.size _ _ xs [0] rfl rfl (O1.keep ((Bel.refl _).alloc _)) (RI.lit1 _ _ _) (by simp only [List.length_cons, List.length_nil]; omega) (by have := HZ.out; simp; omega) ?_)
        intro v3 w3 O3 hG
        have T3 : Trn cb w w3 := T1.grown O1 hG (Nat.le_refl _) hlt0
        go_wp2
        go_roundg (n - (k + 1))
        case measure => have := HK.out; omega
        case rel => exact ⟨k + 1, xs ++ [0], by omega, by go_num, O3, ⟨by rw [List.length_append, HL.out]; rfl, HB.out.snoc (by omega)⟩, T3⟩
    · obtain rfl : k = n := by omega
      have i1 : ¬ (k : Int) < (k : Int) := by omega
      go_wp2
      go_ret
      exact ⟨_, rfl, xs, O, ⟨HL.out, HB.out⟩, T⟩
end Go.Proofs.YtjaagabbbnokdaaGreat
