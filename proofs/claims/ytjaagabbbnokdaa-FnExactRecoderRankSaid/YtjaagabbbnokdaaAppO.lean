/-
  append of a row of its own onto an owned slice of slices of ints. Nothing of the program is run here but the builtin append.
-/
import Derived.Test.YtjaagabbbnokdaaMarkM
namespace Go.Proofs.Ytjaagabbbnokdaa
open Go.ChangeShapes Go.WideShapes Go.ChangeAt Go.RowKit
set_option linter.unusedVariables false
set_option maxRecDepth 100000

theorem OII.block {w : World} {lo hi : Nat} {v : Value} {xss : List (List Int)} (h : OII w lo hi v xss) : ∀ q, v.ownBlock = some q → lo ≤ q ∧ q < hi := by
  obtain ⟨us, hl, ho, hq, _⟩ := h
  exact fun q e => ⟨(World.ownsRow.lt ho q e).1, hq q e⟩
theorem OM.block {w : World} {lo : Nat} {v : Value} {xss : List (List Int)} (h : OM w lo v xss) : ∀ q, v.ownBlock = some q → lo ≤ q ∧ q < w.heap.size := OII.block h
theorem run_appO (w : World) (lo hi : Nat) (ty : TypeId) (v u : Value) (ad : Addr) (xss : List (List Int)) (xs : List Int) (h : OII w lo hi v xss) (hlo : lo ≤ hi) (hhi : hi ≤ w.heap.size) (hc : w.cell? ad = some u) (hs : ad.spot = none) (hu : OI w hi u xs) (hbytes : xss.length + 1 ≤ 1099511627776) :
    ∃ v' w', (Builtin.append_ #[34, 34] ty #[v, .slice (some ad) 1 1]).run Try.prog w = .ok v' w' ∧ OM w' lo v' (xss ++ [xs]) ∧ w.grownBy w' v.ownBlock ∧ (v'.ownBlock = v.ownBlock ∨ v'.ownBlock = some w.heap.size) := by
  obtain ⟨i0, hi0, hz0, hz1, hz2⟩ := info_parts row_info
  obtain ⟨us, hl, ho, hq, hr, hd, hv⟩ := h
  obtain ⟨A, c, rfl, _, _, _⟩ := hu.reads
  obtain ⟨v', w', hrun, h4, h5, _, h6⟩ := run_append_own_at (P := Try.prog) w lo 34 ty 59 i0 (.slice none 0 0) 1 24 Try.underlying34 hi0 hz0 hz1 hz2 rfl (by omega) v xss.length us ho ad 1 1 [.slice A xs.length c] (by simp)
    (fun j q hq => by
      have hj : j = 0 := by
        rcases Nat.eq_zero_or_pos j with e | e
        · exact e
        · rw [List.getElem?_eq_none (by simp; omega)] at hq; cases hq
      subst hj
      simp at hq
      subst hq
      obtain ⟨ab, ao, sp⟩ := ad
      dsimp only at hs
      subst hs
      rw [add_plain, Nat.add_zero]
      exact hc)
    (fun q hq => by simp at hq; subst hq; rfl) (by unfold maxLen; omega) (by omega) (by omega)
  have hub := hu.block
  have hgs := h5.size
  have key : ∀ (i : Nat) y, (us ++ [Value.slice A xs.length c])[i]? = some y → (i < us.length ∧ us[i]? = some y) ∨ (i = us.length ∧ y = .slice A xs.length c) := fun i y h1 => by
    rcases Nat.lt_or_ge i us.length with hj | hj
    · rw [List.getElem?_append_left hj] at h1; exact .inl ⟨hj, h1⟩
    · rw [List.getElem?_append_right hj] at h1
      have : i - us.length = 0 := by
        rcases Nat.eq_zero_or_pos (i - us.length) with e | e
        · exact e
        · rw [List.getElem?_eq_none (by simp; omega)] at h1; cases h1
      rw [this] at h1
      simp at h1
      exact .inr ⟨by omega, h1.symm⟩
  have old : ∀ (i : Nat) y, us[i]? = some y → ∀ q, y.ownBlock = some q → lo ≤ q ∧ q < hi := fun i y h1 q e => by
    have hlt := (List.getElem?_eq_some_iff.1 h1).1
    have h7 := hr i y _ h1 (rw_get (show i < xss.length by omega))
    exact ⟨(h7.1.block q e).1, h7.2 q e⟩
  refine ⟨v', w', hrun, ⟨us ++ [.slice A xs.length c], by simp [hl], by rw [List.length_append]; exact h4, fun q e => (World.ownsRow.lt h4 q e).2, fun j y ys q1 q2 => ?_, fun i j y y' hne q1 q2 q e1 e2 => ?_, fun j y q1 q e1 e2 => ?_⟩, h5, h6⟩
  · rcases key j y q1 with ⟨a1, a2⟩ | ⟨a1, rfl⟩
    · rw [List.getElem?_append_left (by omega)] at q2
      have h7 := hr j y ys a2 q2
      refine ⟨h7.1.far h5 ?_, fun q e => by have := h7.2 q e; omega⟩
      cases hy : y.ownBlock with
      | none => exact .inl rfl
      | some q => exact .inr (fun e => hv j y a2 q hy e.symm)
    · rw [a1, hl, List.getElem?_append_right (Nat.le_refl _), Nat.sub_self] at q2
      simp at q2
      subst q2
      refine ⟨(hu.low hlo).far h5 ?_, fun q e => by have := (hub q e).2; omega⟩
      cases hy : (Value.slice A xs.length c).ownBlock with
      | none => exact .inl rfl
      | some q => exact .inr (fun e => by have h8 := (hub q hy).1; have h9 := hq q e.symm; omega)
  · rcases key i y q1 with ⟨a1, a2⟩ | ⟨a1, rfl⟩
    · rcases key j y' q2 with ⟨b1, b2⟩ | ⟨b1, rfl⟩
      · exact hd i j y y' hne a2 b2 q e1 e2
      · have := (old i y a2 q e1).2; have := (hub q e2).1; omega
    · rcases key j y' q2 with ⟨b1, b2⟩ | ⟨b1, rfl⟩
      · have := (old j y' b2 q e2).2; have := (hub q e1).1; omega
      · omega
  · rcases key j y q1 with ⟨a1, a2⟩ | ⟨a1, rfl⟩
    · rcases h6 with h6 | h6
      · rw [h6] at e2; exact hv j y a2 q e1 e2
      · rw [h6] at e2; injection e2 with e2; have := (old j y a2 q e1).2; omega
    · rcases h6 with h6 | h6
      · rw [h6] at e2; have := hq q e2; have := (hub q e1).1; omega
      · rw [h6] at e2; injection e2 with e2; have := (hub q e1).2; omega
theorem wp_appO {o : Oper} {a : Act} {K : Act → World → Prop} {Q : Exit → Act → World → Prop} (w : World) (s x : Operand)
    (ho : o.op = .call { callee := .builtin .append, args := #[s, x], argTypes := #[34, 34] })
    (lo hi : Nat) (v u : Value) (ad : Addr) (xss : List (List Int)) (xs : List Int) (hs : a.eval s = v) (hx : a.eval x = .slice (some ad) 1 1) (h : OII w lo hi v xss) (hlo : lo ≤ hi) (hhi : hi ≤ w.heap.size) (hc : w.cell? ad = some u) (hsp : ad.spot = none) (hu : OI w hi u xs) (hbytes : xss.length + 1 ≤ 1099511627776)
    (hk : ∀ v' w', OM w' lo v' (xss ++ [xs]) → w.grownBy w' v.ownBlock → (v'.ownBlock = v.ownBlock ∨ v'.ownBlock = some w.heap.size) → K (a.put o.dst v') w') : o.wp Try.prog a w K Q := by
  obtain ⟨v', w', hrun, h2, h3, h4⟩ := run_appO w lo hi o.type v u ad xss xs h hlo hhi hc hsp hu hbytes
  unfold Oper.wp execOp
  simp only [ho, resolve, invoke, builtin, Sem.run_bind, Sem.run_pure, Result.andThen_ok, List.map_toArray, List.map_cons, List.map_nil, hs, hx, hrun]
  exact hk v' w' h2 h3 h4
theorem wpList_appO {ops : Array Oper} {rest : List Oper} {o : Oper} {a : Act} {Q : Exit → Act → World → Prop} (w : World) (hgd : o.guard = none) (s x : Operand)
    (ho : o.op = .call { callee := .builtin .append, args := #[s, x], argTypes := #[34, 34] })
    (lo hi : Nat) (v u : Value) (ad : Addr) (xss : List (List Int)) (xs : List Int) (hs : a.eval s = v) (hx : a.eval x = .slice (some ad) 1 1) (h : OII w lo hi v xss) (hlo : lo ≤ hi) (hhi : hi ≤ w.heap.size) (hc : w.cell? ad = some u) (hsp : ad.spot = none) (hu : OI w hi u xs) (hbytes : xss.length + 1 ≤ 1099511627776)
    (hk : ∀ v' w', OM w' lo v' (xss ++ [xs]) → w.grownBy w' v.ownBlock → (v'.ownBlock = v.ownBlock ∨ v'.ownBlock = some w.heap.size) → wpList Try.prog ops Q rest (a.put o.dst v') w') : wpList Try.prog ops Q (o :: rest) a w :=
  wpList_plain hgd fun _ hK => wp_appO w s x ho lo hi v u ad xss xs hs hx h hlo hhi hc hsp hu hbytes fun v' w' h2 h3 h4 => hK _ _ (hk v' w' h2 h3 h4)
theorem step_appO {ops : Array Oper} {o : Oper} {a : Act} {K : Act → World → Prop} {Q : Exit → Act → World → Prop} {E : Prop} (w : World) (hgd : o.guard = none) (s x : Operand)
    (ho : o.op = .call { callee := .builtin .append, args := #[s, x], argTypes := #[34, 34] })
    (lo hi : Nat) (v u : Value) (ad : Addr) (xss : List (List Int)) (xs : List Int) (hs : a.eval s = v) (hx : a.eval x = .slice (some ad) 1 1) (h : OII w lo hi v xss) (hlo : lo ≤ hi) (hhi : hi ≤ w.heap.size) (hc : w.cell? ad = some u) (hsp : ad.spot = none) (hu : OI w hi u xs) (hbytes : xss.length + 1 ≤ 1099511627776)
    (hk : ∀ v' w', OM w' lo v' (xss ++ [xs]) → w.grownBy w' v.ownBlock → (v'.ownBlock = v.ownBlock ∨ v'.ownBlock = some w.heap.size) → K (a.put o.dst v') w') :
    if Region.wanted o (yielded ops a.tmps) = true then Oper.wp Try.prog o a w K Q else E := by
  have hw : Region.wanted o (yielded ops a.tmps) = true := by simp [Region.wanted, hgd]
  rw [if_pos hw]
  exact wp_appO w s x ho lo hi v u ad xss xs hs hx h hlo hhi hc hsp hu hbytes hk
end Go.Proofs.Ytjaagabbbnokdaa
