/-
  append(xs, ys...) onto a slice of structs of three ints in a block of its own, whatever such slice the source is. Condition: the bound on bytes.
-/
import Derived.Test.YtchodlfkoafeaaaOwn
import Derived.Maps.AppendAt
import Derived.Deep.AppendLies
import Derived.OwnWalk
namespace Go.Proofs.Ytchodlfkoafeaaa
open Go.ChangeShapes Go.WideShapes Go.ChangeAt Go.RowKit
set_option linter.unusedVariables false
set_option maxRecDepth 100000

theorem flat3_append (fs gs : List Tr) : flat3 (fs ++ gs) = flat3 fs ++ flat3 gs := by simp [flat3]
theorem flat3_cell {fs : List Tr} {j : Nat} {q : Value} (h : (flat3 fs)[j]? = some q) : ∃ f, fs[j / 3]? = some f ∧ (cells3 f)[j % 3]? = some q ∧ ∃ x, q = .int .i64 x := by
  have hj : j < fs.length * 3 := by
    have := (List.getElem?_eq_some_iff.1 h).1
    rwa [flat3_length] at this
  have hl : j / 3 < fs.length := by omega
  refine ⟨fs[j / 3]'hl, List.getElem?_eq_getElem hl, ?_, ?_⟩
  · rw [← flat3_at fs (j / 3) (j % 3) _ (List.getElem?_eq_getElem hl) (by omega), ← h]
    congr 1
    omega
  · have h2 := flat3_at fs (j / 3) (j % 3) _ (List.getElem?_eq_getElem hl) (by omega)
    have e : j / 3 * 3 + j % 3 = j := by omega
    rw [e, h] at h2
    rcases (by omega : j % 3 = 0 ∨ j % 3 = 1 ∨ j % 3 = 2) with q | q | q <;> rw [q] at h2 <;> simp [cells3] at h2 <;> exact ⟨_, h2⟩
theorem RT.cells {w : World} {fs : List Tr} {ad : Addr} {c : Nat} (h : RT w (.slice (some ad) fs.length c) fs) : ∀ j q, (flat3 fs)[j]? = some q → w.cell? (ad.add j) = some q := by
  obtain ⟨A, c, hv, h1, h2, h3⟩ := h
  intro j q hq
  have hl : 0 < fs.length := by
    have := (List.getElem?_eq_some_iff.1 hq).1
    rw [flat3_length] at this
    omega
  obtain ⟨b, off, hA, hb, hc⟩ := h3 hl
  injection hv with hv
  rw [← hv] at hA
  injection hA with hA
  subst hA
  obtain ⟨f, hf, hq3, _⟩ := flat3_cell hq
  obtain ⟨c0, c1, c2⟩ := hc _ _ hf
  rw [add_plain]
  rcases (by omega : j % 3 = 0 ∨ j % 3 = 1 ∨ j % 3 = 2) with e | e | e <;> rw [e] at hq3 <;> simp [cells3] at hq3 <;> subst hq3
  · have : off + j = off + j / 3 * 3 := by omega
    rw [this]; exact c0
  · have : off + j = off + j / 3 * 3 + 1 := by omega
    rw [this]; exact c1
  · have : off + j = off + j / 3 * 3 + 2 := by omega
    rw [this]; exact c2
/-- A slice of one struct that was just made. -/
theorem RT.one (w : World) (T : TypeId) (f : Tr) : RT (w.alloc (.cells #[.int .i64 f.1, .int .i64 f.2.1, .int .i64 f.2.2] T)) (.slice (some ⟨w.heap.size, 0, none⟩) 1 1) [f] := by
  obtain ⟨c, _, z⟩ := (Blk.new w T #[.int .i64 f.1, .int .i64 f.2.1, .int .i64 f.2.2]).facts
  refine ⟨_, 1, rfl, Nat.le_refl _, by omega, fun _ => ⟨w.heap.size, 0, rfl, z, fun j g hg => ?_⟩⟩
  match j with
  | 0 => simp at hg; subst hg; exact ⟨c 0, c 1, c 2⟩
  | j + 1 => simp at hg
theorem RT.oneAt (w : World) (T : TypeId) (f : Tr) (g : Nat) (h : g = w.heap.size) : RT (w.alloc (.cells #[.int .i64 f.1, .int .i64 f.2.1, .int .i64 f.2.2] T)) (.slice (some ⟨g, 0, none⟩) 1 1) [f] := by
  subst h
  exact RT.one w T f

theorem run_appFb (w : World) (base : Nat) (ty : TypeId) (v u : Value) (xs ys : List Tr) (hown : OT 43 w base v xs) (hr : RT w u ys) (hbytes : xs.length + ys.length ≤ 1099511627776) (hbase : base ≤ w.heap.size) :
    ∃ v' w', (Builtin.append_ #[38, 38] ty #[v, u]).run Try.prog w = .ok v' w' ∧ OT 43 w' base v' (xs ++ ys) ∧ w.grownBy w' v.ownBlock := by
  obtain ⟨i0, hi, hz0, hz1, hz2⟩ := info_parts Fb_info
  have hr0 := hr
  obtain ⟨A, c, rfl, h1, h2, h3⟩ := hr
  cases A with
  | none =>
    have hy : ys = [] := by
      cases ys with
      | nil => rfl
      | cons y ys => obtain ⟨b, off, h, _⟩ := h3 (by simp); cases h
    subst hy
    refine ⟨v, w, ?_, by simpa using hown, World.grownBy.refl w _⟩
    rcases hown.2 with ⟨rfl, _⟩ | ⟨g, cap, cur, rfl, _, _, hnc, _⟩
    · simp [Builtin.append_, run_underlying Try.underlying38, sizeOf, typeInfo, hi, Builtin.lenOf, Builtin.firstCells]
    · simp [Builtin.append_, run_underlying Try.underlying38, sizeOf, typeInfo, hi, Builtin.lenOf, Builtin.firstCells, hnc, storeCells]
  | some ad =>
    obtain ⟨v', w', hrun, h4, h5, _⟩ := run_append_own_at (P := Try.prog) w base 38 ty 43 i0 (.agg #[.int .i64 0, .int .i64 0, .int .i64 0]) 3 24 Try.underlying38 hi hz0 hz1 hz2 rfl (by omega) v xs.length (flat3 xs) hown ad ys.length c (flat3 ys) (flat3_length ys) hr0.cells
      (fun q hq => by obtain ⟨j, hj⟩ := List.mem_iff_getElem?.1 hq; obtain ⟨_, _, _, x, rfl⟩ := flat3_cell hj; rfl) (by unfold maxLen; omega) (by omega) hbase
    refine ⟨v', w', hrun, ?_, h5⟩
    unfold OT
    rw [List.length_append, flat3_append]
    exact h4
theorem wp_appFb {o : Oper} {a : Act} {K : Act → World → Prop} {Q : Exit → Act → World → Prop} (w : World) (s x : Operand)
    (ho : o.op = .call { callee := .builtin .append, args := #[s, x], argTypes := #[38, 38] })
    (base : Nat) (v u : Value) (xs ys : List Tr) (hs : a.eval s = v) (hx : a.eval x = u) (hown : OT 43 w base v xs) (hr : RT w u ys) (hbytes : xs.length + ys.length ≤ 1099511627776) (hbase : base ≤ w.heap.size)
    (h : ∀ v' w', OT 43 w' base v' (xs ++ ys) → w.grownBy w' v.ownBlock → K (a.put o.dst v') w') : o.wp Try.prog a w K Q := by
  obtain ⟨v', w', hrun, h2, h3⟩ := run_appFb w base o.type v u xs ys hown hr hbytes hbase
  unfold Oper.wp execOp
  simp only [ho, resolve, invoke, builtin, Sem.run_bind, Sem.run_pure, Result.andThen_ok, List.map_toArray, List.map_cons, List.map_nil, hs, hx, hrun]
  exact h v' w' h2 h3
theorem wpList_appFb {ops : Array Oper} {rest : List Oper} {o : Oper} {a : Act} {Q : Exit → Act → World → Prop} (w : World) (hgd : o.guard = none) (s x : Operand)
    (ho : o.op = .call { callee := .builtin .append, args := #[s, x], argTypes := #[38, 38] })
    (base : Nat) (v u : Value) (xs ys : List Tr) (hs : a.eval s = v) (hx : a.eval x = u) (hown : OT 43 w base v xs) (hr : RT w u ys) (hbytes : xs.length + ys.length ≤ 1099511627776) (hbase : base ≤ w.heap.size)
    (h : ∀ v' w', OT 43 w' base v' (xs ++ ys) → w.grownBy w' v.ownBlock → wpList Try.prog ops Q rest (a.put o.dst v') w') : wpList Try.prog ops Q (o :: rest) a w :=
  wpList_plain hgd fun _ hK => wp_appFb w s x ho base v u xs ys hs hx hown hr hbytes hbase fun v' w' h2 h3 => hK _ _ (h v' w' h2 h3)
theorem step_appFb {ops : Array Oper} {o : Oper} {a : Act} {K : Act → World → Prop} {Q : Exit → Act → World → Prop} {E : Prop} (w : World) (hgd : o.guard = none) (s x : Operand)
    (ho : o.op = .call { callee := .builtin .append, args := #[s, x], argTypes := #[38, 38] })
    (base : Nat) (v u : Value) (xs ys : List Tr) (hs : a.eval s = v) (hx : a.eval x = u) (hown : OT 43 w base v xs) (hr : RT w u ys) (hbytes : xs.length + ys.length ≤ 1099511627776) (hbase : base ≤ w.heap.size)
    (h : ∀ v' w', OT 43 w' base v' (xs ++ ys) → w.grownBy w' v.ownBlock → K (a.put o.dst v') w') :
    if Region.wanted o (yielded ops a.tmps) = true then Oper.wp Try.prog o a w K Q else E := by
  have hw : Region.wanted o (yielded ops a.tmps) = true := by simp [Region.wanted, hgd]
  rw [if_pos hw]
  exact wp_appFb w s x ho base v u xs ys hs hx hown hr hbytes hbase h

/-- What is gathered from the first k places. -/
def colK {α : Type} (f : Nat → Option α) : Nat → List α
  | 0 => []
  | k + 1 => colK f k ++ (f k).toList
theorem colK_some {α : Type} {f : Nat → Option α} {k : Nat} {x : α} (h : f k = some x) : colK f (k + 1) = colK f k ++ [x] := by simp [colK, h]
theorem colK_none {α : Type} {f : Nat → Option α} {k : Nat} (h : f k = none) : colK f (k + 1) = colK f k := by simp [colK, h]
theorem colK_len {α : Type} (f : Nat → Option α) (k : Nat) : (colK f k).length ≤ k := by
  induction k with
  | zero => simp [colK]
  | succ k ih => cases h : f k <;> simp [colK, h] <;> omega
theorem OT.grown {T : TypeId} {w w2 : World} {base : Nat} {v : Value} {xs : List Tr} {row : Option Nat} (h : OT T w base v xs) (hg : w.grownBy w2 row) (hr : ∀ q, row = some q → v.ownBlock ≠ some q) : OT T w2 base v xs :=
  h.far hg (by
    cases e : v.ownBlock with
    | none => exact .inl rfl
    | some q => exact .inr (fun e2 => hr q e2.symm e))
end Go.Proofs.Ytchodlfkoafeaaa
