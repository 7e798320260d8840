/-
  Slices of slices of ints whose outer row is the call's own, and whose rows lie in memory from block lo on, apart from the outer row: words, a store, a cut, append of a row. Nothing of the program is run here but the builtin append.
-/
import Derived.Test.YtjaagabbbnokdaaMat3
import Derived.Test.YtjaagabbbnokdaaLin1
namespace Go.Proofs.Ytjaagabbbnokdaa
open Go.ChangeShapes Go.WideShapes Go.ChangeAt Go.RowKit
set_option linter.unusedVariables false
set_option maxRecDepth 100000

/-- A slice of ints that reads as xs, in a block from lo on other than ob. -/
def RIx (w : World) (lo : Nat) (ob : Option Nat) (v : Value) (xs : List Int) : Prop :=
  ∃ A c, v = .slice A xs.length c ∧ xs.length ≤ c ∧ c ≤ 9223372036854775807 ∧
    (0 < xs.length → ∃ b off, A = some ⟨b, off, none⟩ ∧ lo ≤ b ∧ b < w.heap.size ∧ ob ≠ some b ∧ ∀ j x, xs[j]? = some x → w.cell? ⟨b, off + j, none⟩ = some (.int .i64 x))
theorem RIx.reads {w : World} {lo : Nat} {ob : Option Nat} {v : Value} {xs : List Int} (h : RIx w lo ob v xs) : RI w v xs := by
  obtain ⟨A, c, hv, h1, h2, h3⟩ := h
  refine ⟨A, c, hv, h1, h2, fun h0 => ?_⟩
  obtain ⟨b, off, hA, _, hb, _, hc⟩ := h3 h0
  exact ⟨b, off, hA, hb, hc⟩
theorem RIx.keep {w w' : World} {lo : Nat} {ob : Option Nat} {v : Value} {xs : List Int} (h : RIx w lo ob v xs) (k : Bel w w') : RIx w' lo ob v xs := by
  obtain ⟨A, c, hv, h1, h2, h3⟩ := h
  refine ⟨A, c, hv, h1, h2, fun h0 => ?_⟩
  obtain ⟨b, off, hA, hl, hb, hne, hc⟩ := h3 h0
  exact ⟨b, off, hA, hl, Nat.lt_of_lt_of_le hb k.size, hne, fun j x hx => k.cell1 hb (hc j x hx)⟩
theorem RIx.low {w : World} {lo lo' : Nat} {ob : Option Nat} {v : Value} {xs : List Int} (h : RIx w lo ob v xs) (hl : lo' ≤ lo) : RIx w lo' ob v xs := by
  obtain ⟨A, c, hv, h1, h2, h3⟩ := h
  refine ⟨A, c, hv, h1, h2, fun h0 => ?_⟩
  obtain ⟨b, off, hA, hl2, hb, hne, hc⟩ := h3 h0
  exact ⟨b, off, hA, by omega, hb, hne, hc⟩
theorem OI.rx {w : World} {lo : Nat} {u : Value} {xs : List Int} {ob : Option Nat} (h : OI w lo u xs) (hne : ∀ q, u.ownBlock = some q → ob ≠ some q) : RIx w lo ob u xs := by
  obtain ⟨hl, ⟨rfl, h0⟩ | ⟨g, cap, cur, rfl, hb, hh, h1, h2, h3, h4⟩⟩ := id h
  · have e : xs = [] := List.eq_nil_of_length_eq_zero h0
    subst e
    exact ⟨none, 0, rfl, by simp, by omega, fun h => absurd h (by simp)⟩
  · obtain ⟨A, c, e, q1, q2, q3⟩ := h.reads
    injection e with e1 e2 e3
    subst e1 e3
    refine ⟨_, _, rfl, q1, q2, fun h0 => ?_⟩
    obtain ⟨b, off, hA, hb2, hc⟩ := q3 h0
    injection hA with hA
    injection hA with hA1 hA2 hA3
    subst hA1 hA2
    exact ⟨g, 0, rfl, hb, hb2, hne g rfl, hc⟩
/-- A store into the outer row leaves the rows. -/
theorem RIx.store {w : World} {lo g i : Nat} {v : Value} {xs : List Int} (h : RIx w lo (some g) v xs) (z : Value) : RIx (w.setCell ⟨g, i, none⟩ z) lo (some g) v xs := by
  obtain ⟨A, c, hv, h1, h2, h3⟩ := h
  refine ⟨A, c, hv, h1, h2, fun h0 => ?_⟩
  obtain ⟨b, off, hA, hl, hb, hne, hc⟩ := h3 h0
  refine ⟨b, off, hA, hl, by simpa [World.setCell] using hb, hne, fun j x hx => ?_⟩
  rw [← hc j x hx]
  exact World.cell?_of_block (Below.heap_setCell w ⟨g, i, none⟩ z b (fun e => hne (by rw [e])))
theorem RIx.grown {w w' : World} {lo : Nat} {ob ob' : Option Nat} {v : Value} {xs : List Int} (h : RIx w lo ob v xs) (hg : w.grownBy w' ob) (ho : ob' = ob ∨ ob' = some w.heap.size) : RIx w' lo ob' v xs := by
  obtain ⟨A, c, hv, h1, h2, h3⟩ := h
  refine ⟨A, c, hv, h1, h2, fun h0 => ?_⟩
  obtain ⟨b, off, hA, hl, hb, hne, hc⟩ := h3 h0
  refine ⟨b, off, hA, hl, Nat.lt_of_lt_of_le hb hg.size, ?_, fun j x hx => ?_⟩
  · rcases ho with rfl | rfl
    · exact hne
    · intro e; injection e with e; omega
  · rw [← hc j x hx]
    exact World.cell?_of_block (hg.block b hb (fun e => hne e.symm))
theorem RIx.loc {w u : World} {lo hi : Nat} {ob : Option Nat} {v : Value} {xs : List Int} (h : RIx w lo ob v xs) (hw : w.heap.size = hi) (hu : hi ≤ u.heap.size) (hb : ∀ k, lo ≤ k → k < hi → u.heap[k]? = w.heap[k]?) : RIx u lo ob v xs := by
  obtain ⟨A, c, hv, h1, h2, h3⟩ := h
  refine ⟨A, c, hv, h1, h2, fun h0 => ?_⟩
  obtain ⟨b, off, hA, hl, hlt, hne, hc⟩ := h3 h0
  refine ⟨b, off, hA, hl, by omega, hne, fun j x hx => ?_⟩
  rw [← hc j x hx]
  exact World.cell?_of_block (hb b hl (by omega))

def ML (w : World) (lo : Nat) (v : Value) (xss : List (List Int)) : Prop :=
  ∃ us : List Value, us.length = xss.length ∧ w.ownsRow lo 59 1 v xss.length us ∧ ∀ (j : Nat) u xs, us[j]? = some u → xss[j]? = some xs → RIx w lo v.ownBlock u xs
theorem ML.nil (w : World) (lo : Nat) : ML w lo (.slice none 0 0) [] := ⟨[], rfl, World.ownsRow_nil _ _ _ _, fun j u xs h => by simp at h⟩
theorem ML.keep {w w' : World} {lo : Nat} {v : Value} {xss : List (List Int)} (h : ML w lo v xss) (k : Bel w w') : ML w' lo v xss := by
  obtain ⟨us, hl, ho, hr⟩ := h
  refine ⟨us, hl, ?_, fun j u xs h1 h2 => (hr j u xs h1 h2).keep k⟩
  obtain ⟨hl2, h0 | ⟨g, cap, cur, rfl, hb, hh, h1, h2, h3, h4⟩⟩ := ho
  · exact ⟨hl2, .inl h0⟩
  · exact ⟨hl2, .inr ⟨g, cap, cur, rfl, hb, (Below.block k g (Blk.lt hh)).trans hh, h1, h2, h3, h4⟩⟩
theorem ML.low {w : World} {lo lo' : Nat} {v : Value} {xss : List (List Int)} (h : ML w lo v xss) (hl : lo' ≤ lo) : ML w lo' v xss := by
  obtain ⟨us, h1, ho, hr⟩ := h
  exact ⟨us, h1, Go.Joins.ownsRow_le ho hl, fun j u xs q1 q2 => (hr j u xs q1 q2).low hl⟩
theorem ML.block {w : World} {lo : Nat} {v : Value} {xss : List (List Int)} (h : ML w lo v xss) : ∀ k, v.ownBlock = some k → lo ≤ k ∧ k < w.heap.size := by
  obtain ⟨us, _, ho, _⟩ := h
  exact World.ownsRow.lt ho
/-- The outer row's cells. -/
theorem ML.cells {w : World} {lo : Nat} {v : Value} {xss : List (List Int)} (h : ML w lo v xss) (h0 : 0 < xss.length) :
    ∃ g cap, v = .slice (some ⟨g, 0, none⟩) xss.length cap ∧ lo ≤ g ∧ g < w.heap.size ∧ xss.length ≤ cap ∧ cap ≤ 9223372036854775807 ∧ (∀ i, w.frozen? ⟨g, i, none⟩ = false) ∧
      ∀ i, i < xss.length → ∃ u, w.cell? ⟨g, i, none⟩ = some u ∧ RIx w lo (some g) u (rw_ xss i) := by
  obtain ⟨us, hl, ⟨hl2, ⟨rfl, h9⟩ | ⟨g, cap, cur, rfl, hb, hh, h1, h2, h3, h4⟩⟩, hr⟩ := h
  · omega
  · refine ⟨g, cap, rfl, hb, Blk.lt hh, h1, by unfold maxLen at h2; omega, (Blk.facts hh).2.1, fun i hi => ?_⟩
    have hju : i < us.length := by omega
    refine ⟨us[i]'hju, ?_, hr i _ _ (List.getElem?_eq_getElem hju) (rw_get hi)⟩
    rw [(Blk.facts hh).1 i, ← Array.getElem?_toList]
    have h5 : (cur.toList.take (xss.length * 1))[i]? = some (us[i]'hju) := by rw [h4]; exact List.getElem?_eq_getElem hju
    rw [List.getElem?_take] at h5
    rwa [if_pos (by omega)] at h5
theorem ML.reads {w : World} {lo : Nat} {v : Value} {xss : List (List Int)} (h : ML w lo v xss) : RII w v xss := by
  rcases Nat.eq_zero_or_pos xss.length with h0 | h0
  · have e : xss = [] := List.eq_nil_of_length_eq_zero h0
    subst e
    obtain ⟨us, hl, ⟨hl2, ⟨rfl, h9⟩ | ⟨g, cap, cur, rfl, hb, hh, h1, h2, h3, h4⟩⟩, hr⟩ := h
    · exact RII.nil w
    · exact ⟨_, cap, rfl, h1, by unfold maxLen at h2; omega, fun h => absurd h (by simp)⟩
  · obtain ⟨g, cap, rfl, h1, h2, h3, h4, _, h5⟩ := h.cells h0
    refine ⟨_, cap, rfl, h3, h4, fun _ => ⟨g, 0, rfl, h2, fun j xs hx => ?_⟩⟩
    obtain ⟨u, q1, q2⟩ := h5 j (List.getElem?_eq_some_iff.1 hx).1
    rw [rw_in hx] at q2
    exact ⟨u, by rw [Nat.zero_add]; exact q1, q2.reads⟩
theorem ML.shape {w : World} {lo : Nat} {v : Value} {xss : List (List Int)} (h : ML w lo v xss) : ∃ A c, v = .slice A xss.length c ∧ xss.length ≤ c ∧ c ≤ 9223372036854775807 := by
  obtain ⟨A, c, e, h1, h2, _⟩ := h.reads
  exact ⟨A, c, e, h1, h2⟩
theorem ML.form {w : World} {lo : Nat} {v : Value} {xss : List (List Int)} (h : ML w lo v xss) : (v = .slice none 0 0 ∧ xss.length = 0) ∨ ∃ g cap, v = .slice (some ⟨g, 0, none⟩) xss.length cap ∧ xss.length ≤ cap ∧ cap ≤ 9223372036854775807 := by
  obtain ⟨us, hl, ⟨hl2, ⟨rfl, h9⟩ | ⟨g, cap, cur, rfl, hb, hh, h1, h2, h3, h4⟩⟩, hr⟩ := h
  · exact .inl ⟨rfl, h9⟩
  · exact .inr ⟨g, cap, rfl, h1, by unfold maxLen at h2; omega⟩
/-- A row is put in the place of another. -/
theorem ML.store {w : World} {lo g cap i : Nat} {xss : List (List Int)} {u : Value} {xs : List Int} (h : ML w lo (.slice (some ⟨g, 0, none⟩) xss.length cap) xss) (hi : i < xss.length) (hu : RIx w lo (some g) u xs) :
    ML (w.setCell ⟨g, i, none⟩ u) lo (.slice (some ⟨g, 0, none⟩) (xss.set i xs).length cap) (xss.set i xs) := by
  obtain ⟨us, hl, ⟨hl2, ⟨e9, h9⟩ | ⟨g', cap', cur, e9, hb, hh, h1, h2, h3, h4⟩⟩, hr⟩ := h
  · omega
  · injection e9 with e1 e2 e3
    injection e1 with e1
    injection e1 with e1
    subst e1 e3
    refine ⟨us.set i u, by simp [hl], ⟨by simp [hl], .inr ⟨g, cap, cur.setIfInBounds i u, rfl, hb, Blk.set hh i u, by simpa using h1, h2, by simpa using h3, ?_⟩⟩, fun j y ys q1 q2 => ?_⟩
    · simp only [List.length_set, Array.toList_setIfInBounds]
      rw [List.take_set, h4]
    · by_cases e : j = i
      · subst e
        rw [List.getElem?_set_self (by omega)] at q1 q2
        injection q1 with q1
        injection q2 with q2
        subst q1 q2
        exact hu.store u
      · rw [List.getElem?_set_ne (Ne.symm e)] at q1 q2
        exact RIx.store (hr j y ys q1 q2) u
theorem ML.store' {w : World} {lo g cap i n : Nat} {xss : List (List Int)} {u : Value} {xs : List Int} (h : ML w lo (.slice (some ⟨g, 0, none⟩) n cap) xss) (hn : xss.length = n) (hi : i < xss.length) (hu : RIx w lo (some g) u xs) :
    ML (w.setCell ⟨g, i, none⟩ u) lo (.slice (some ⟨g, 0, none⟩) n cap) (xss.set i xs) := by
  subst hn
  have h9 := ML.store h hi hu
  rwa [List.length_set] at h9
/-- The first rows. -/
theorem ML.cut {w : World} {lo t : Nat} {A : Option Addr} {cap : Nat} {xss : List (List Int)} (h : ML w lo (.slice A xss.length cap) xss) (ht : t ≤ xss.length) : ML w lo (.slice A t cap) (xss.take t) := by
  have hlt : (xss.take t).length = t := by rw [List.length_take]; omega
  obtain ⟨us, hl, ⟨hl2, ⟨e9, h9⟩ | ⟨g', cap', cur, e9, hb, hh, h1, h2, h3, h4⟩⟩, hr⟩ := h
  · injection e9 with e1 e2 e3
    subst e1 e3
    have : t = 0 := by omega
    subst this
    exact ML.nil w lo
  · injection e9 with e1 e2 e3
    subst e1 e3
    refine ⟨us.take t, by rw [List.length_take, hlt]; omega, ?_, fun j y ys q1 q2 => ?_⟩
    · rw [hlt]
      refine ⟨by rw [List.length_take]; omega, .inr ⟨g', cap, cur, rfl, hb, hh, by omega, h2, h3, ?_⟩⟩
      rw [Nat.mul_one, ← h4, List.take_take, Nat.mul_one, Nat.min_eq_left ht]
    · rw [List.getElem?_take] at q1 q2
      split at q1
      · rename_i hj
        rw [if_pos hj] at q2
        exact hr j y ys q1 q2
      · cases q1
theorem ML.cut' {w : World} {lo t n : Nat} {A : Option Addr} {cap : Nat} {xss : List (List Int)} (h : ML w lo (.slice A n cap) xss) (hn : xss.length = n) (ht : t ≤ n) : ML w lo (.slice A t cap) (xss.take t) := by
  subst hn
  exact ML.cut h ht
theorem ML.loc {w : World} {lo : Nat} {v : Value} {xss : List (List Int)} (h : ML w lo v xss) (hl : lo ≤ w.heap.size) : Loc lo w.heap.size (fun u => RII u v xss) w := by
  refine ⟨hl, Nat.le_refl _, fun u hu => ?_⟩
  have hsz : w.heap.size ≤ u.heap.size ∨ ¬ w.heap.size ≤ u.heap.size := Decidable.em _
  obtain ⟨A, c, rfl, h1, h2, h3⟩ := h.reads
  refine ⟨A, c, rfl, h1, h2, fun h0 => ?_⟩
  obtain ⟨g, cap, e, q1, q2, q3, q4, q6, q5⟩ := h.cells h0
  injection e with e1 e2 e3
  subst e1 e3
  have lt_of : ∀ k, lo ≤ k → k < w.heap.size → k < u.heap.size := by
    intro k k1 k2
    have := hu k k1 k2
    rcases Nat.lt_or_ge k u.heap.size with q | q
    · exact q
    · rw [Array.getElem?_eq_none q, Array.getElem?_eq_getElem k2] at this; cases this
  refine ⟨g, 0, rfl, lt_of g q1 q2, fun j xs hx => ?_⟩
  obtain ⟨y, r1, r2⟩ := q5 j (List.getElem?_eq_some_iff.1 hx).1
  rw [rw_in hx] at r2
  refine ⟨y, ?_, ?_⟩
  · rw [Nat.zero_add, ← r1]; exact World.cell?_of_block (hu g q1 q2)
  · obtain ⟨B, d, rfl, p1, p2, p3⟩ := r2
    refine ⟨B, d, rfl, p1, p2, fun p0 => ?_⟩
    obtain ⟨b, off, hB, hl3, hlt, hne, hc⟩ := p3 p0
    refine ⟨b, off, hB, lt_of b hl3 hlt, fun j x hx => ?_⟩
    rw [← hc j x hx]
    exact World.cell?_of_block (hu b hl3 hlt)

theorem run_appR (w : World) (lo : Nat) (ty : TypeId) (v u : Value) (ad : Addr) (xss : List (List Int)) (xs : List Int) (h : ML w lo v xss) (hc : w.cell? ad = some u) (hs : ad.spot = none) (hu : RIx w lo v.ownBlock u xs) (hbytes : xss.length + 1 ≤ 1099511627776) (hbase : lo ≤ w.heap.size) :
    ∃ v' w', (Builtin.append_ #[34, 34] ty #[v, .slice (some ad) 1 1]).run Try.prog w = .ok v' w' ∧ ML w' lo v' (xss ++ [xs]) ∧ w.grownBy w' v.ownBlock ∧ (v'.ownBlock = v.ownBlock ∨ v'.ownBlock = some w.heap.size) := by
  obtain ⟨i0, hi, hz0, hz1, hz2⟩ := info_parts row_info
  obtain ⟨us, hl, ho, hr⟩ := h
  obtain ⟨A, c, rfl, _, _, _⟩ := id hu
  obtain ⟨v', w', hrun, h4, h5, _, h6⟩ := run_append_own_at (P := Try.prog) w lo 34 ty 59 i0 (.slice none 0 0) 1 24 Try.underlying34 hi hz0 hz1 hz2 rfl (by omega) v xss.length us ho ad 1 1 [.slice A xs.length c] (by simp)
    (fun j q hq => by
      have hj : j = 0 := by
        rcases Nat.eq_zero_or_pos j with e | e
        · exact e
        · rw [List.getElem?_eq_none (by simp; omega)] at hq; cases hq
      subst hj
      simp at hq
      subst hq
      obtain ⟨ab, ao, sp⟩ := ad
      dsimp only at hs
      subst hs
      rw [add_plain, Nat.add_zero]
      exact hc)
    (fun q hq => by simp at hq; subst hq; rfl) (by unfold maxLen; omega) (by omega) hbase
  refine ⟨v', w', hrun, ⟨us ++ [.slice A xs.length c], by simp [hl], by rw [List.length_append]; exact h4, fun j y ys q1 q2 => ?_⟩, h5, h6⟩
  rcases Nat.lt_or_ge j us.length with hj | hj
  · rw [List.getElem?_append_left hj] at q1
    rw [List.getElem?_append_left (by omega)] at q2
    exact (hr j y ys q1 q2).grown h5 h6
  · have e : j = us.length := by
      rcases Nat.lt_or_eq_of_le hj with e | e
      · rw [List.getElem?_eq_none (by simp; omega)] at q1; cases q1
      · exact e.symm
    subst e
    rw [List.getElem?_append_right (Nat.le_refl _), Nat.sub_self] at q1
    rw [hl, List.getElem?_append_right (Nat.le_refl _), Nat.sub_self] at q2
    simp at q1 q2
    subst q1 q2
    exact hu.grown h5 h6
theorem wpList_appR {ops : Array Oper} {rest : List Oper} {o : Oper} {a : Act} {Q : Exit → Act → World → Prop} (w : World) (hgd : o.guard = none) (s x : Operand)
    (ho : o.op = .call { callee := .builtin .append, args := #[s, x], argTypes := #[34, 34] })
    (lo : Nat) (v u : Value) (ad : Addr) (xss : List (List Int)) (xs : List Int) (hs : a.eval s = v) (hx : a.eval x = .slice (some ad) 1 1) (h : ML w lo v xss) (hc : w.cell? ad = some u) (hsp : ad.spot = none) (hu : RIx w lo v.ownBlock u xs) (hbytes : xss.length + 1 ≤ 1099511627776) (hbase : lo ≤ w.heap.size)
    (hk : ∀ v' w', ML w' lo v' (xss ++ [xs]) → w.grownBy w' v.ownBlock → (v'.ownBlock = v.ownBlock ∨ v'.ownBlock = some w.heap.size) → wpList Try.prog ops Q rest (a.put o.dst v') w') : wpList Try.prog ops Q (o :: rest) a w := by
  refine wpList_plain hgd fun K hK => ?_
  obtain ⟨v', w', hrun, h2, h3, h4⟩ := run_appR w lo o.type v u ad xss xs h hc hsp hu hbytes hbase
  unfold Oper.wp execOp
  simp only [ho, resolve, invoke, builtin, Sem.run_bind, Sem.run_pure, Result.andThen_ok, List.map_toArray, List.map_cons, List.map_nil, hs, hx, hrun]
  exact hK _ _ (hk v' w' h2 h3 h4)
theorem RI.lit1 (w : World) (T : TypeId) (x : Int) : RI (w.alloc (.cells #[.int .i64 x] T)) (.slice (some ⟨w.heap.size, 0, none⟩) 1 1) [x] := by
  refine ⟨_, 1, rfl, by simp, by omega, fun _ => ⟨w.heap.size, 0, rfl, by simp, fun j y hy => ?_⟩⟩
  have hj : j = 0 := by
    rcases Nat.eq_zero_or_pos j with e | e
    · exact e
    · rw [List.getElem?_eq_none (by simp; omega)] at hy; cases hy
  subst hj
  simp at hy
  subst hy
  exact (Blk.new w T _).facts.1 0
theorem OI.empty (w : World) : OI (w.alloc (.cells #[] 3)) w.heap.size (.slice (some ⟨w.heap.size, 0, none⟩) 0 0) [] :=
  ⟨rfl, .inr ⟨w.heap.size, 0, #[], rfl, Nat.le_refl _, Blk.new w _ _, Nat.le_refl _, Nat.zero_le _, rfl, rfl⟩⟩
theorem ML.empty (w : World) : ML (w.alloc (.cells #[] 59)) w.heap.size (.slice (some ⟨w.heap.size, 0, none⟩) 0 0) [] :=
  ⟨[], rfl, ⟨rfl, .inr ⟨w.heap.size, 0, #[], rfl, Nat.le_refl _, Blk.new w _ _, Nat.le_refl _, Nat.zero_le _, rfl, rfl⟩⟩, fun j u xs h => by simp at h⟩
theorem take_snoc {α : Type} {zs : List α} {k : Nat} {z : α} (h : zs[k]? = some z) : zs.take (k + 1) = zs.take k ++ [z] := by
  rw [List.take_add_one, h]; rfl
end Go.Proofs.Ytjaagabbbnokdaa
