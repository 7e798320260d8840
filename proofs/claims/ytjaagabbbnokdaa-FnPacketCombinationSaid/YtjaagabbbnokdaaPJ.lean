/-
  l15Copy and l15Seed of the reference: contracts; append of a packet in a region that draws its order.
  Slices of packets in memory of the call's own that keep off one block (a box that is stored into): words, append.
  AcceptPacket of the reference: a contract.
-/
import Derived.Test.YtjaagabbbnokdaaPG
import Derived.Test.YtjaagabbbnokdaaPD
namespace Go.Proofs.Ytjaagabbbnokdaa
open Go.ChangeShapes Go.WideShapes Go.ChangeAt Go.RowKit Go.Joins Go.Deep
set_option linter.unusedVariables false
set_option maxRecDepth 100000

theorem MP.set5 {w : World} {lo g : Nat} {v : Value} {m : List Pk} (h : MP w lo v m) (hg : g < lo) (v0 v1 v2 v3 v4 : Value) :
    MP (((((w.setCell ⟨g, 0, none⟩ v0).setCell ⟨g, 1, none⟩ v1).setCell ⟨g, 2, none⟩ v2).setCell ⟨g, 3, none⟩ v3).setCell ⟨g, 4, none⟩ v4) lo v m :=
  ((((h.setFar (p := ⟨g, 0, none⟩) hg v0).setFar (p := ⟨g, 1, none⟩) hg v1).setFar (p := ⟨g, 2, none⟩) hg v2).setFar (p := ⟨g, 3, none⟩) hg v3).setFar (p := ⟨g, 4, none⟩) hg v4
theorem step_appP {ops : Array Oper} {o : Oper} {a : Act} {K : Act → World → Prop} {Q : Exit → Act → World → Prop} {E : Prop} (w : World) (hgd : o.guard = none) (s x : Operand)
    (ho : o.op = .call { callee := .builtin .append, args := #[s, x], argTypes := #[27, 27] })
    (lo : Nat) (v : Value) (ad : Addr) (ps : List Pk) (p : Pk) (u1 u2 : Value) (hs : a.eval s = v) (hx : a.eval x = .slice (some ad) 1 1) (h : MP w lo v ps) (hsp : ad.spot = none) (hc0 : w.cell? ad = some (.int .i64 p.1)) (hc1 : w.cell? (ad.add 1) = some u1) (hc2 : w.cell? (ad.add 2) = some u2)
    (h1 : RIx w lo v.ownBlock u1 p.2.1) (h2 : RIx w lo v.ownBlock u2 p.2.2) (hbytes : ps.length + 1 ≤ 1099511627776) (hbase : lo ≤ w.heap.size)
    (hk : ∀ v' w', MP w' lo v' (ps ++ [p]) → w.grownBy w' v.ownBlock → (v'.ownBlock = v.ownBlock ∨ v'.ownBlock = some w.heap.size) → K (a.put o.dst v') w') :
    if Region.wanted o (yielded ops a.tmps) = true then Oper.wp Try.prog o a w K Q else E := by
  have hw : Region.wanted o (yielded ops a.tmps) = true := by simp [Region.wanted, hgd]
  rw [if_pos hw]
  obtain ⟨v', w', hrun, h2, h3, h4⟩ := run_appP w lo o.type v ad ps p u1 u2 h hsp hc0 hc1 hc2 h1 h2 hbytes hbase
  unfold Oper.wp execOp
  simp only [ho, resolve, invoke, builtin, Sem.run_bind, Sem.run_pure, Result.andThen_ok, List.map_toArray, List.map_cons, List.map_nil, hs, hx, hrun]
  exact hk v' w' h2 h3 h4

set_option maxHeartbeats 4000000 in
theorem l15cS (g s d n : Int) (v : Value) (ps : List Pk) (w : World) (hv : RP w v ps) (hs : SmP ps) (hn : ps.length ≤ 1048576) :
    Calls Try.prog 157 #[.agg #[.int .i64 g, .int .i64 s, .int .i64 d, v, .int .i64 n]] w fun e w' => ∃ r, e = .returned (.agg #[.int .i64 g, .int .i64 s, .int .i64 d, r, .int .i64 n]) ∧ MP w' w.heap.size r ps ∧ Bel w w' := by
  obtain ⟨A, cp, rfl, _, _, _⟩ := id hv
  have HS := Lib.hid hs
  clear hs
  have Y0 := (((Bel.refl w).alloc (.cells #[.int .i64 g, .int .i64 s, .int .i64 d, .slice A ps.length cp, .int .i64 n] 29)).alloc (.cells #[.int .i64 0, .int .i64 0, .int .i64 0, .slice none 0 0, .int .i64 0] 29)).alloc (.cells #[.int .i64 g, .int .i64 s, .int .i64 d, .slice A ps.length cp, .int .i64 n] 29)
  have X0 := ((Blk.new w 29 #[.int .i64 g, .int .i64 s, .int .i64 d, .slice A ps.length cp, .int .i64 n]).alloc (.cells #[.int .i64 0, .int .i64 0, .int .i64 0, .slice none 0 0, .int .i64 0] 29)).alloc (.cells #[.int .i64 g, .int .i64 s, .int .i64 d, .slice A ps.length cp, .int .i64 n] 29)
  have R0 := (Blk.new2 w (.cells #[.int .i64 g, .int .i64 s, .int .i64 d, .slice A ps.length cp, .int .i64 n] 29) 29 #[.int .i64 0, .int .i64 0, .int .i64 0, .slice none 0 0, .int .i64 0]).alloc (.cells #[.int .i64 g, .int .i64 s, .int .i64 d, .slice A ps.length cp, .int .i64 n] 29)
  have D0 := Blk.new3 w (.cells #[.int .i64 g, .int .i64 s, .int .i64 d, .slice A ps.length cp, .int .i64 n] 29) (.cells #[.int .i64 0, .int .i64 0, .int .i64 0, .slice none 0 0, .int .i64 0] 29) 29 #[.int .i64 g, .int .i64 s, .int .i64 d, .slice A ps.length cp, .int .i64 n]
  obtain ⟨cx, fx, zx⟩ := X0.facts
  go_enter Try.func157, Try.ntmps157
  go_wp2_with fail
  refine (l11AllS _ ps _ (hv.keep Y0) HS.out hn).mono ?_
  rintro e w1 ⟨r1, rfl, O1, b1⟩
  obtain ⟨A1, c1, e1, _, _⟩ := O1.shape
  subst e1
  rw [World.size_alloc, World.size_alloc, World.size_alloc] at O1
  have D1 := b1.keep D0
  have R1 := b1.keep R0
  have Y1 := Y0.trans b1
  clear cx fx zx D0 R0 X0 Y0 b1
  have R2 := R1.far (p := ⟨w.heap.size + 2, 3, none⟩) (by dsimp only; omega) (.slice A1 ps.length c1)
  have O2 := O1.setFar (p := ⟨w.heap.size + 2, 3, none⟩) (by dsimp only; omega) (.slice A1 ps.length c1)
  have Y2 := Y1.setCell (p := ⟨w.heap.size + 2, 3, none⟩) (by dsimp only; omega) (.slice A1 ps.length c1)
  have R9 := R2.set5 (.int .i64 g) (.int .i64 s) (.int .i64 d) (.slice A1 ps.length c1) (.int .i64 n)
  have O9 := O2.set5 (g := w.heap.size + 1) (by omega) (.int .i64 g) (.int .i64 s) (.int .i64 d) (.slice A1 ps.length c1) (.int .i64 n)
  have Y9 := Y2.set5 (g := w.heap.size + 1) (by omega) (.int .i64 g) (.int .i64 s) (.int .i64 d) (.slice A1 ps.length c1) (.int .i64 n)
  obtain ⟨cd, fd, zd⟩ := D1.facts
  obtain ⟨cr, fr, zr⟩ := R1.facts
  go_wp2
  have cr9 := R9.facts.1
  clear cr fr cd fd
  refine bodyPost_ret (v := .agg #[.int .i64 g, .int .i64 s, .int .i64 d, .slice A1 ps.length c1, .int .i64 n]) (by simp [results, Try.results157, go_sem, cr9]) rfl ?_
  exact ⟨_, rfl, O9.low (by omega), Y9⟩
set_option maxHeartbeats 2000000 in
theorem l15sS (g s d n k : Int) (A : Option Addr) (l c : Nat) (w : World) (hk : -9223372036854775808 ≤ k ∧ k ≤ 9223372036854775807) (hg : -9223372036854775808 ≤ g ∧ g ≤ 9223372036854775807) (hn : -9223372036854775808 ≤ n ∧ n ≤ 9223372036854775807) :
    Calls Try.prog 159 #[.agg #[.int .i64 g, .int .i64 s, .int .i64 d, .slice A l c, .int .i64 n], .int .i64 k] w fun e w' => e = .returned (.int .i64 (khZ k [g, n])) ∧ Bel w w' := by
  have X0 := Blk.new w 29 #[.int .i64 g, .int .i64 s, .int .i64 d, .slice A l c, .int .i64 n]
  have Y0 := ((Bel.refl w).alloc (.cells #[.int .i64 g, .int .i64 s, .int .i64 d, .slice A l c, .int .i64 n] 29)).alloc (.cells #[.int .i64 g, .int .i64 n] 3)
  have O0 : OI ((w.alloc (.cells #[.int .i64 g, .int .i64 s, .int .i64 d, .slice A l c, .int .i64 n] 29)).alloc (.cells #[.int .i64 g, .int .i64 n] 3)) (w.heap.size + 1) (.slice (some ⟨w.heap.size + 1, 0, none⟩) 2 2) [g, n] := OI.lit (xs := [g, n]) (Blk.new2 w (.cells #[.int .i64 g, .int .i64 s, .int .i64 d, .slice A l c, .int .i64 n] 29) _ _) (Nat.le_refl _) (by simp)
  have HK := Lib.hid hk
  have HI : Hid (In64s [g, n]) := Lib.hid (fun x hx => by
    rcases List.mem_cons.1 hx with rfl | hx
    · exact hg
    · rw [List.mem_singleton.1 hx]; exact hn)
  clear hk hg hn
  obtain ⟨cx, fx, zx⟩ := X0.facts
  go_enter Try.func159, Try.ntmps159
  go_wp2_with fail
  refine (khS k _ [g, n] _ O0.reads (by simp) HK.out HI.out).mono ?_
  rintro e w1 ⟨rfl, b1⟩
  have Y1 := Y0.trans b1
  go_wp2
  go_ret
  exact ⟨rfl, Y1⟩
end Go.Proofs.Ytjaagabbbnokdaa

namespace Go.Proofs.Ytjaagabbbnokdaa
open Go.ChangeShapes Go.WideShapes Go.ChangeAt Go.RowKit
set_option linter.unusedVariables false
set_option maxRecDepth 100000

theorem RIx.swap {w w' : World} {lo lo' : Nat} {ob ob2 : Option Nat} {v : Value} {xs : List Int} (h : RIx w' lo' ob v xs) (k : RIx w lo ob2 v xs) : RIx w' lo' ob2 v xs := by
  obtain ⟨A, c, rfl, h1, h2, h3⟩ := h
  obtain ⟨A2, c2, e, k1, k2, k3⟩ := k
  injection e with e1 e2 e3
  subst e1
  refine ⟨A, c, rfl, h1, h2, fun h0 => ?_⟩
  obtain ⟨b, off, hA, hl, hb, _, hc⟩ := h3 h0
  obtain ⟨b2, off2, hA2, _, _, hne, _⟩ := k3 h0
  rw [hA] at hA2
  injection hA2 with hA2
  injection hA2 with e5 e6
  subst e5
  exact ⟨b, off, hA, hl, hb, hne, hc⟩
theorem RIx.off {w : World} {lo hole : Nat} {ob : Option Nat} {v : Value} {xs : List Int} (h : RIx w lo ob v xs) (hw : w.heap.size ≤ hole) : RIx w lo (some hole) v xs := by
  obtain ⟨A, c, rfl, h1, h2, h3⟩ := h
  refine ⟨A, c, rfl, h1, h2, fun h0 => ?_⟩
  obtain ⟨b, off, hA, hl, hb, _, hc⟩ := h3 h0
  exact ⟨b, off, hA, hl, hb, fun e => by injection e with e; omega, hc⟩
def MPn (w : World) (lo hole : Nat) (v : Value) (ps : List Pk) : Prop :=
  ∃ us : List PV, us.length = ps.length ∧ w.ownsRow lo 63 3 v ps.length (flatP us) ∧ v.ownBlock ≠ some hole ∧ ∀ (j : Nat) u p, us[j]? = some u → ps[j]? = some p → u.1 = p.1 ∧ (RIx w lo v.ownBlock u.2.1 p.2.1 ∧ RIx w lo v.ownBlock u.2.2 p.2.2) ∧ RIx w lo (some hole) u.2.1 p.2.1 ∧ RIx w lo (some hole) u.2.2 p.2.2
theorem MPn.of {w : World} {lo hole : Nat} {v : Value} {ps : List Pk} (h : MP w lo v ps) (hw : w.heap.size ≤ hole) : MPn w lo hole v ps := by
  have hb := h.block
  obtain ⟨us, hl, ho, hr⟩ := h
  exact ⟨us, hl, ho, fun e => by have := (hb _ e).2; omega, fun j u p h1 h2 => ⟨(hr j u p h1 h2).1, (hr j u p h1 h2).2, (hr j u p h1 h2).2.1.off hw, (hr j u p h1 h2).2.2.off hw⟩⟩
theorem MPn.mp {w : World} {lo hole : Nat} {v : Value} {ps : List Pk} (h : MPn w lo hole v ps) : MP w lo v ps := by
  obtain ⟨us, hl, ho, _, hr⟩ := h
  exact ⟨us, hl, ho, fun j u p h1 h2 => ⟨(hr j u p h1 h2).1, (hr j u p h1 h2).2.1⟩⟩
theorem MPn.keep {w w' : World} {lo hole : Nat} {v : Value} {ps : List Pk} (h : MPn w lo hole v ps) (k : Bel w w') : MPn w' lo hole v ps := by
  have hm := h.mp.keep k
  obtain ⟨us, hl, ho, hne, hr⟩ := h
  refine ⟨us, hl, ?_, hne, fun j u p h1 h2 => ⟨(hr j u p h1 h2).1, ⟨(hr j u p h1 h2).2.1.1.keep k, (hr j u p h1 h2).2.1.2.keep k⟩, (hr j u p h1 h2).2.2.1.keep k, (hr j u p h1 h2).2.2.2.keep k⟩⟩
  obtain ⟨hl2, h0 | ⟨g, cap, cur, rfl, hb2, hh, h1, h2, h3, h4⟩⟩ := ho
  · exact ⟨hl2, .inl h0⟩
  · exact ⟨hl2, .inr ⟨g, cap, cur, rfl, hb2, (Below.block k g (Blk.lt hh)).trans hh, h1, h2, h3, h4⟩⟩
theorem MPn.set {w : World} {lo hole i : Nat} {v : Value} {ps : List Pk} (h : MPn w lo hole v ps) (z : Value) : MP (w.setCell ⟨hole, i, none⟩ z) lo v ps := by
  obtain ⟨us, hl, ho, hne, hr⟩ := h
  refine ⟨us, hl, ?_, fun j u p h1 h2 => ⟨(hr j u p h1 h2).1, ((hr j u p h1 h2).2.2.1.store z).swap (hr j u p h1 h2).2.1.1, ((hr j u p h1 h2).2.2.2.store z).swap (hr j u p h1 h2).2.1.2⟩⟩
  obtain ⟨hl2, h0 | ⟨g, cap, cur, rfl, hb2, hh, h1, h2, h3, h4⟩⟩ := ho
  · exact ⟨hl2, .inl h0⟩
  · exact ⟨hl2, .inr ⟨g, cap, cur, rfl, hb2, (Below.heap_setCell w _ z g (fun e => hne (by rw [e]; rfl))).trans hh, h1, h2, h3, h4⟩⟩
theorem run_appPn (w : World) (lo hole : Nat) (ty : TypeId) (v : Value) (ad : Addr) (ps : List Pk) (p : Pk) (u1 u2 : Value) (h : MPn w lo hole v ps) (hs : ad.spot = none) (hc0 : w.cell? ad = some (.int .i64 p.1)) (hc1 : w.cell? (ad.add 1) = some u1) (hc2 : w.cell? (ad.add 2) = some u2)
    (h1 : RIx w lo v.ownBlock u1 p.2.1) (h2 : RIx w lo v.ownBlock u2 p.2.2) (k1 : RIx w lo (some hole) u1 p.2.1) (k2 : RIx w lo (some hole) u2 p.2.2) (hbytes : ps.length + 1 ≤ 1099511627776) (hbase : lo ≤ w.heap.size) (hole_lt : hole < w.heap.size) :
    ∃ v' w', (Builtin.append_ #[27, 27] ty #[v, .slice (some ad) 1 1]).run Try.prog w = .ok v' w' ∧ MPn w' lo hole v' (ps ++ [p]) ∧ w.grownBy w' v.ownBlock ∧ (v'.ownBlock = v.ownBlock ∨ v'.ownBlock = some w.heap.size) := by
  obtain ⟨i0, hi, hz0, hz1, hz2⟩ := info_parts Pk_info
  obtain ⟨us, hl, ho, hne, hr⟩ := h
  obtain ⟨A1, c1, rfl, _, _, _⟩ := id h1
  obtain ⟨A2, c2, rfl, _, _, _⟩ := id h2
  obtain ⟨v', w', hrun, h4, h5, _, h6⟩ := run_append_own_at (P := Try.prog) w lo 27 ty 63 i0 (.agg #[.int .i64 0, .slice none 0 0, .slice none 0 0]) 3 56 Try.underlying27 hi hz0 hz1 hz2 rfl (by omega) v ps.length (flatP us) ho ad 1 1 (flatP [(p.1, .slice A1 p.2.1.length c1, .slice A2 p.2.2.length c2)]) (by simp [flatP, cellsP])
    (fun j q hq => by
      match j with
      | 0 => simp [flatP, cellsP] at hq; subst hq; obtain ⟨ab, ao, sp⟩ := ad; dsimp only at hs; subst hs; rw [add_plain, Nat.add_zero]; exact hc0
      | 1 => simp [flatP, cellsP] at hq; subst hq; exact hc1
      | 2 => simp [flatP, cellsP] at hq; subst hq; exact hc2
      | j + 3 => simp [flatP, cellsP] at hq)
    (fun q hq => by simp [flatP, cellsP] at hq; rcases hq with rfl | rfl | rfl <;> rfl) (by unfold maxLen; omega) (by omega) hbase
  refine ⟨v', w', hrun, ⟨us ++ [(p.1, .slice A1 p.2.1.length c1, .slice A2 p.2.2.length c2)], by simp [hl], by rw [List.length_append, flatP_append]; exact h4, fun e => ?_, fun j y q q1 q2 => ?_⟩, h5, h6⟩
  · rcases h6 with h6 | h6
    · exact hne (by rw [← h6]; exact e)
    · rw [h6] at e; injection e with e; omega
  rcases Nat.lt_or_ge j us.length with hj | hj
  · rw [List.getElem?_append_left hj] at q1
    rw [List.getElem?_append_left (by omega)] at q2
    obtain ⟨e, ⟨r1, r2⟩, r3, r4⟩ := hr j y q q1 q2
    exact ⟨e, ⟨r1.grown h5 h6, r2.grown h5 h6⟩, (r1.grown h5 h6).swap r3, (r2.grown h5 h6).swap r4⟩
  · have e : j = us.length := by
      rcases Nat.lt_or_eq_of_le hj with e | e
      · rw [List.getElem?_eq_none (by simp; omega)] at q1; cases q1
      · exact e.symm
    subst e
    rw [List.getElem?_append_right (Nat.le_refl _), Nat.sub_self] at q1
    rw [hl, List.getElem?_append_right (Nat.le_refl _), Nat.sub_self] at q2
    simp at q1 q2
    subst q1 q2
    exact ⟨rfl, ⟨h1.grown h5 h6, h2.grown h5 h6⟩, (h1.grown h5 h6).swap k1, (h2.grown h5 h6).swap k2⟩
theorem step_appPn {ops : Array Oper} {o : Oper} {a : Act} {K : Act → World → Prop} {Q : Exit → Act → World → Prop} {E : Prop} (w : World) (hgd : o.guard = none) (s x : Operand)
    (ho : o.op = .call { callee := .builtin .append, args := #[s, x], argTypes := #[27, 27] })
    (lo hole : Nat) (v : Value) (ad : Addr) (ps : List Pk) (p : Pk) (u1 u2 : Value) (hs : a.eval s = v) (hx : a.eval x = .slice (some ad) 1 1) (h : MPn w lo hole v ps) (hsp : ad.spot = none) (hc0 : w.cell? ad = some (.int .i64 p.1)) (hc1 : w.cell? (ad.add 1) = some u1) (hc2 : w.cell? (ad.add 2) = some u2)
    (h1 : RIx w lo v.ownBlock u1 p.2.1) (h2 : RIx w lo v.ownBlock u2 p.2.2) (k1 : RIx w lo (some hole) u1 p.2.1) (k2 : RIx w lo (some hole) u2 p.2.2) (hbytes : ps.length + 1 ≤ 1099511627776) (hbase : lo ≤ w.heap.size) (hole_lt : hole < w.heap.size)
    (hk : ∀ v' w', MPn w' lo hole v' (ps ++ [p]) → w.grownBy w' v.ownBlock → (v'.ownBlock = v.ownBlock ∨ v'.ownBlock = some w.heap.size) → K (a.put o.dst v') w') :
    if Region.wanted o (yielded ops a.tmps) = true then Oper.wp Try.prog o a w K Q else E := by
  have hw : Region.wanted o (yielded ops a.tmps) = true := by simp [Region.wanted, hgd]
  rw [if_pos hw]
  obtain ⟨v', w', hrun, h2, h3, h4⟩ := run_appPn w lo hole o.type v ad ps p u1 u2 h hsp hc0 hc1 hc2 h1 h2 k1 k2 hbytes hbase hole_lt
  unfold Oper.wp execOp
  simp only [ho, resolve, invoke, builtin, Sem.run_bind, Sem.run_pure, Result.andThen_ok, List.map_toArray, List.map_cons, List.map_nil, hs, hx, hrun]
  exact hk v' w' h2 h3 h4
end Go.Proofs.Ytjaagabbbnokdaa

namespace Go.Proofs.Ytjaagabbbnokdaa
open Go.ChangeShapes Go.WideShapes Go.ChangeAt Go.RowKit Go.Joins Go.Deep
set_option linter.unusedVariables false
set_option linter.unusedSimpArgs false
set_option maxRecDepth 100000

theorem recoB_8 {g s d n : Int} {ps : List Pk} (h : recoB g s d n ps = true) : ps.length ≤ 8 := by
  by_cases h8 : ps.length ≤ 8
  · exact h8
  · rw [recoB_len h8] at h; cases h
set_option maxHeartbeats 8000000 in
theorem accS (g s d n : Int) (v : Value) (ps : List Pk) (a : Int) (vc vp : Value) (xs ys : List Int) (w : World) (hv : RP w v ps) (hc : RI w vc xs) (hp : RI w vp ys) (hs : SmP ps) (hx : xs.length ≤ 1048576) (hy : ys.length ≤ 1048576) (hn : ps.length ≤ 8) :
    Calls Try.prog 132 #[.agg #[.int .i64 g, .int .i64 s, .int .i64 d, v, .int .i64 n], .agg #[.int .i64 a, vc, vp]] w fun e w' => ∃ r q ps', e = .returned (.tuple #[.agg #[.int .i64 g, .int .i64 s, .int .i64 d, r, .int .i64 n], .bool q]) ∧ MP w' w.heap.size r ps' ∧ (ps' = ps ∨ ps' = ps ++ [(a, xs, ys)]) ∧ ps'.length ≤ 8 ∧ Bel w w' := by
  have HS := Lib.hid hs
  have HX := Lib.hid hx
  have HY := Lib.hid hy
  clear hs hx hy
  obtain ⟨A, cp, rfl, _, _, _⟩ := id hv
  obtain ⟨Ac, cc, rfl, _, _, _⟩ := id hc
  obtain ⟨Ap, cpp, rfl, _, _, _⟩ := id hp
  have Y0 := (((Bel.refl w).alloc (.cells #[.int .i64 g, .int .i64 s, .int .i64 d, .slice A ps.length cp, .int .i64 n] 29)).alloc (.cells #[.int .i64 a, .slice Ac xs.length cc, .slice Ap ys.length cpp] 63)).alloc (.cells #[.int .i64 0, .int .i64 0, .int .i64 0, .slice none 0 0, .int .i64 0] 29)
  have X0 := ((Blk.new w 29 #[.int .i64 g, .int .i64 s, .int .i64 d, .slice A ps.length cp, .int .i64 n]).alloc (.cells #[.int .i64 a, .slice Ac xs.length cc, .slice Ap ys.length cpp] 63)).alloc (.cells #[.int .i64 0, .int .i64 0, .int .i64 0, .slice none 0 0, .int .i64 0] 29)
  have P0 := (Blk.new2 w (.cells #[.int .i64 g, .int .i64 s, .int .i64 d, .slice A ps.length cp, .int .i64 n] 29) 63 #[.int .i64 a, .slice Ac xs.length cc, .slice Ap ys.length cpp]).alloc (.cells #[.int .i64 0, .int .i64 0, .int .i64 0, .slice none 0 0, .int .i64 0] 29)
  have R0 := Blk.new3 w (.cells #[.int .i64 g, .int .i64 s, .int .i64 d, .slice A ps.length cp, .int .i64 n] 29) (.cells #[.int .i64 a, .slice Ac xs.length cc, .slice Ap ys.length cpp] 63) 29 #[.int .i64 0, .int .i64 0, .int .i64 0, .slice none 0 0, .int .i64 0]
  obtain ⟨cx, fx, zx⟩ := X0.facts
  go_enter Try.func132, Try.ntmps132
  go_wp2_with fail
  refine (l15cS g s d n _ ps _ (hv.keep Y0) HS.out (by omega)).mono ?_
  rintro e w1 ⟨r1, rfl, O1, b1⟩
  clear cx fx zx
  obtain ⟨A1, c1, e1, _, _⟩ := O1.shape
  subst e1
  have hgD : w.heap.size + 3 ≤ w1.heap.size := by have := b1.size; rw [World.size_alloc, World.size_alloc, World.size_alloc] at this; omega
  rw [World.size_alloc, World.size_alloc, World.size_alloc] at O1
  have hbo := O1.block
  have B2 := (Bel.refl w1).alloc (.cells #[.int .i64 g, .int .i64 s, .int .i64 d, .slice A1 ps.length c1, .int .i64 n] 29)
  have D2 := Blk.new w1 29 #[.int .i64 g, .int .i64 s, .int .i64 d, .slice A1 ps.length c1, .int .i64 n]
  have N2 := (MPn.of O1 (Nat.le_refl _)).keep B2
  have X2 := B2.keep (b1.keep X0)
  have P2 := B2.keep (b1.keep P0)
  have R2 := B2.keep (b1.keep R0)
  have Y2 := (Y0.trans b1).trans B2
  clear O1 X0 P0 R0 Y0 b1 B2
  go_upto_region 2 with fail
  generalize w1.alloc (.cells #[.int .i64 g, .int .i64 s, .int .i64 d, .slice A1 ps.length c1, .int .i64 n] 29) = w2 at *
  generalize w1.heap.size = gD at *
  have hg2 : gD < w2.heap.size := D2.lt
  have hc2 := hc.keep Y2
  have hp2 := hp.keep Y2
  have HSB : ∀ W, Blk W gD 29 #[.int .i64 g, .int .i64 s, .int .i64 d, .slice A1 ps.length c1, .int .i64 n] → Blk W (w.heap.size + 1) 63 #[.int .i64 a, .slice Ac xs.length cc, .slice Ap ys.length cpp] → W.cell? ⟨gD, 3, none⟩ = some (.slice A1 ps.length c1) ∧ W.cell? ⟨w.heap.size + 1, 0, none⟩ = some (.int .i64 a) ∧ W.cell? ⟨w.heap.size + 1, 1, none⟩ = some (.slice Ac xs.length cc) ∧ W.cell? ⟨w.heap.size + 1, 2, none⟩ = some (.slice Ap ys.length cpp) := fun W k l => ⟨k.facts.1 3, l.facts.1 0, l.facts.1 1, l.facts.1 2⟩
  have HSW : ∀ W, Bel w2 W → W.cell? ⟨gD, 3, none⟩ = some (.slice A1 ps.length c1) ∧ W.cell? ⟨w.heap.size + 1, 0, none⟩ = some (.int .i64 a) ∧ W.cell? ⟨w.heap.size + 1, 1, none⟩ = some (.slice Ac xs.length cc) ∧ W.cell? ⟨w.heap.size + 1, 2, none⟩ = some (.slice Ap ys.length cpp) := fun W b => HSB W (b.keep D2) (b.keep P2)
  have BD := (Bel.refl w2).drew
  refine wp_region_noPanic ?_
  refine wp_region_last 7 (fun W => W.cell? ⟨gD, 3, none⟩ = some (.slice A1 ps.length c1) ∧ W.cell? ⟨w.heap.size + 1, 0, none⟩ = some (.int .i64 a) ∧ W.cell? ⟨w.heap.size + 1, 1, none⟩ = some (.slice Ac xs.length cc) ∧ W.cell? ⟨w.heap.size + 1, 2, none⟩ = some (.slice Ap ys.length cpp)) (by kernel_rfl) (by kernel_rfl) (HSW _ (Bel.refl _).drew) (fun hHeld => ?_)
  refine' wpAnyH_take (i := 0) (oi := _) (v := _) ?hi1 (by kernel_rfl) (by kernel_rfl) (by kernel_rfl) (fun _ _ _ h => h) (Or.inl ⟨?hw1, ?hy1⟩) (by assumption) ?rest1
  case hi1 => simp only [List.getElem?_toArray, List.getElem?_cons_zero]; rfl
  case hw1 => rfl
  case hy1 =>
    intro W hSW
    try dsimp only at hSW
    go_simp
    try with_reducible rfl
  simp only [Act.put, List.setIfInBounds_toArray, List.set_cons_zero, List.set_cons_succ]
  refine' wpAnyH_take (i := 1) (oi := _) (v := _) ?hi2 (by kernel_rfl) (by kernel_rfl) (by kernel_rfl) (fun _ _ _ h => h) (Or.inl ⟨?hw2, ?hy2⟩) (by assumption) ?rest2
  case hi2 => simp only [List.getElem?_toArray, List.getElem?_cons_succ, List.getElem?_cons_zero]; rfl
  case hw2 => rfl
  case hy2 =>
    intro W hSW
    try dsimp only at hSW
    go_simp
    try with_reducible rfl
  simp only [Act.put, List.setIfInBounds_toArray, List.set_cons_zero, List.set_cons_succ]
  refine' wpAnyH_take (i := 2) (oi := _) (v := _) ?hi3 (by kernel_rfl) (by kernel_rfl) (by kernel_rfl) (fun _ _ _ h => h) (Or.inl ⟨?hw3, ?hy3⟩) (by assumption) ?rest3
  case hi3 => simp only [List.getElem?_toArray, List.getElem?_cons_succ, List.getElem?_cons_zero]; rfl
  case hw3 => rfl
  case hy3 =>
    intro W hSW
    try dsimp only at hSW
    go_simp
    try with_reducible rfl
  simp only [Act.put, List.setIfInBounds_toArray, List.set_cons_zero, List.set_cons_succ]
  refine wpAnyH_ready (rs := [3]) (by kernel_rfl) (by simp) ?_
  refine' AllReadyH.cons (o := _) ?ho4 (fun Kq hKq => ?step4) ?more4
  case ho4 => simp only [List.getElem?_toArray, List.getElem?_cons_succ, List.getElem?_cons_zero]; rfl
  case step4 =>
    go_simp
    (go_at_call 160; (with_reducible refine (l11cS a _ _ xs ys _ (hc2.keep BD) (hp2.keep BD) HX.out HY.out).mono ?_); rintro e w3 ⟨p1, p2, rfl, P1, P2', b3⟩; obtain ⟨A3, c3, e3, _, _, _⟩ := P1.reads; obtain ⟨A4, c4, e4, _, _, _⟩ := P2'.reads; subst e3 e4; have Q1 : OI w3 w2.heap.size (.slice A3 xs.length c3) xs := P1; have Q2 : OI w3 w2.heap.size (.slice A4 ys.length c4) ys := P2'; have B3 := BD.trans b3)
    refine hKq.out _ _ ?hS4 (fun hHeld => ?_)
    case hS4 => exact HSW _ B3
    clear hKq Kq
    try simp only [Act.put, List.setIfInBounds_toArray, List.set_cons_zero, List.set_cons_succ]
    refine wpAnyH_ready (rs := [4]) (by kernel_rfl) (by simp) ?_
    refine' AllReadyH.cons (o := _) ?ho5 (fun Kq hKq => ?step5) ?more5
    case ho5 => simp only [List.getElem?_toArray, List.getElem?_cons_succ, List.getElem?_cons_zero]; rfl
    case step5 =>
      go_simp
      have B4 := B3.alloc (.cells #[.int .i64 a, .slice A3 xs.length c3, .slice A4 ys.length c4] 63)
      have F4 := Blk.new w3 63 #[.int .i64 a, .slice A3 xs.length c3, .slice A4 ys.length c4]
      have b34 := (Bel.refl w3).alloc (.cells #[.int .i64 a, .slice A3 xs.length c3, .slice A4 ys.length c4] 63)
      have hz4 := B4.size
      have XA1 := (Q1.keep b34).rxn (lo := w.heap.size + 3) (v := .slice A1 ps.length c1) (by omega) (fun q e => by have := (hbo q e).2; omega)
      have XA2 := (Q2.keep b34).rxn (lo := w.heap.size + 3) (v := .slice A1 ps.length c1) (by omega) (fun q e => by have := (hbo q e).2; omega)
      have XK1 := ((Q1.keep b34).low (base' := w.heap.size + 3) (by omega)).rx (ob := some gD) (fun q e1 e2 => by injection e2 with e2; have := (Q1.block q e1).1; omega)
      have XK2 := ((Q2.keep b34).low (base' := w.heap.size + 3) (by omega)).rx (ob := some gD) (fun q e1 e2 => by injection e2 with e2; have := (Q2.block q e1).1; omega)
      refine hKq.out _ _ ?hS5 (fun hHeld => ?_)
      case hS5 => exact HSW _ B4
      clear hKq Kq
      try simp only [Act.put, List.setIfInBounds_toArray, List.set_cons_zero, List.set_cons_succ]
      refine wpAnyH_ready (rs := [5]) (by kernel_rfl) (by simp) ?_
      refine' AllReadyH.cons (o := _) ?ho6 (fun Kq hKq => ?step6) ?more6
      case ho6 => simp only [List.getElem?_toArray, List.getElem?_cons_succ, List.getElem?_cons_zero]; rfl
      case step6 =>
        (refine step_appPn _ (by rfl) _ _ (by rfl) (w.heap.size + 3) gD _ _ ps (a, xs, ys) _ _ (by rfl) (by rfl) (by exact N2.keep B4) rfl (by exact F4.facts.1 0) (by exact F4.facts.1 1) (by exact F4.facts.1 2) (by exact XA1) (by exact XA2) (by exact XK1) (by exact XK2) (by omega) (by omega) (by omega) ?_; intro v5 w5 N5 hG5 ho5)
        have D5 := (B4.keep D2).grown hG5 (fun e => by have := (hbo _ e).2; omega)
        have X5 := (B4.keep X2).grown hG5 (fun e => by have := (hbo _ e).1; omega)
        have P5 := (B4.keep P2).grown hG5 (fun e => by have := (hbo _ e).1; omega)
        have R5 := (B4.keep R2).grown hG5 (fun e => by have := (hbo _ e).1; omega)
        have Y5 : Bel w w5 := (Y2.trans B4).grown hG5 (fun q hq => by have := (hbo q hq).1; omega)
        refine hKq.out _ _ ?hS6 (fun hHeld => ?_)
        case hS6 => exact HSB _ D5 P5
        clear hKq Kq
        try simp only [Act.put, List.setIfInBounds_toArray, List.set_cons_zero, List.set_cons_succ]
        refine' wpAnyH_take (i := 6) (oi := _) (v := _) ?hi7 (by kernel_rfl) (by kernel_rfl) (by kernel_rfl) (fun _ _ _ h => h) (Or.inl ⟨?hw7, ?hy7⟩) (by assumption) ?rest7
        case hi7 => simp only [List.getElem?_toArray, List.getElem?_cons_succ, List.getElem?_cons_zero]; rfl
        case hw7 => rfl
        case hy7 =>
          intro W hSW
          try dsimp only at hSW
          go_simp
          try with_reducible rfl
        simp only [Act.put, List.setIfInBounds_toArray, List.set_cons_zero, List.set_cons_succ]
        refine wpAnyH_done (by kernel_rfl) ?_ _
        simp only [headPost, List.drop_succ_cons, List.drop_zero]
        have hg9 : w.heap.size + 3 ≤ w5.heap.size := by have := D5.lt; omega
        obtain ⟨A5, c5, e5, _, _⟩ := N5.mp.shape
        replace e5 : v5 = .slice A5 (ps.length + 1) c5 := by rw [e5]; simp
        subst e5
        have D9 := D5.set 3 (.slice A5 (ps.length + 1) c5)
        have O9 := N5.set (i := 3) (.slice A5 (ps.length + 1) c5)
        have X9 := X5.far (p := ⟨gD, 3, none⟩) (by dsimp only; omega) (.slice A5 (ps.length + 1) c5)
        have R9 := R5.far (p := ⟨gD, 3, none⟩) (by dsimp only; omega) (.slice A5 (ps.length + 1) c5)
        have Y9 := Y5.setCell (p := ⟨gD, 3, none⟩) (by dsimp only; omega) (.slice A5 (ps.length + 1) c5)
        obtain ⟨cd, fd, zd⟩ := D5.facts
        clear HSW HSB N5 X5 P5 R5 Y5 hG5 ho5 XA1 XA2 XK1 XK2 F4 B4 b34 Q1 Q2 P1 P2' B3 b3 BD N2 X2 P2 R2 Y2 D2 hc2 hp2 hbo hHeld
        go_wp2_with fail
        refine NoPanic.normal ?_
        go_upto_region 3 with fail
        clear cd fd zd D5
        generalize w5.setCell ⟨gD, 3, none⟩ (.slice A5 (ps.length + 1) c5) = w6 at *
        obtain ⟨cd, fd, zd⟩ := D9.facts
        have HLQ : Hid ((ps ++ [(a, xs, ys)]).length = ps.length + 1) := Lib.hid (by simp)
        go_wp2_with fail
        refine (recoS g s d n _ (ps ++ [(a, xs, ys)]) _ O9.reads).mono ?_
        rintro e w7 ⟨rfl, b7⟩
        clear cd fd zd
        have D7 := b7.keep D9
        have O7 := O9.keep b7
        have X7 := b7.keep X9
        have R7 := b7.keep R9
        have Y7 := Y9.trans b7
        clear D9 O9 X9 R9 Y9 b7
        cases hq : recoB g s d n (ps ++ [(a, xs, ys)]) with
        | false =>
          obtain ⟨cx, fx, zx⟩ := X7.facts
          go_wp2_with fail
          refine (l15cS g s d n _ ps _ (hv.keep Y7) HS.out (by omega)).mono ?_
          rintro e w8 ⟨r8, rfl, O8, b8⟩
          clear cx fx zx
          obtain ⟨A8, c8, e8, _, _⟩ := O8.shape
          subst e8
          have R8 := b8.keep R7
          have hz7 := R7.lt
          have Y8 := Y7.trans b8
          have R9 := R8.set5 (.int .i64 g) (.int .i64 s) (.int .i64 d) (.slice A8 ps.length c8) (.int .i64 n)
          have O9 := O8.set5 (g := w.heap.size + 2) (by omega) (.int .i64 g) (.int .i64 s) (.int .i64 d) (.slice A8 ps.length c8) (.int .i64 n)
          have Y9 := Y8.set5 (g := w.heap.size + 2) (by omega) (.int .i64 g) (.int .i64 s) (.int .i64 d) (.slice A8 ps.length c8) (.int .i64 n)
          obtain ⟨cr, fr, zr⟩ := R8.facts
          go_wp2
          have cr9 := R9.facts.1
          clear cr fr
          refine bodyPost_ret (v := .tuple #[.agg #[.int .i64 g, .int .i64 s, .int .i64 d, .slice A8 ps.length c8, .int .i64 n], .bool false]) (by simp [results, Try.results132, go_sem, cr9]) rfl ?_
          exact ⟨_, _, ps, rfl, O9.low (by omega), .inl rfl, hn, Y9⟩
        | true =>
          have HQ := Lib.hid (recoB_8 hq)
          obtain ⟨cd, fd, zd⟩ := D7.facts
          obtain ⟨cr, fr, zr⟩ := R7.facts
          have R9 := R7.set5 (.int .i64 g) (.int .i64 s) (.int .i64 d) (.slice A5 (ps.length + 1) c5) (.int .i64 n)
          have O9 := O7.set5 (g := w.heap.size + 2) (by omega) (.int .i64 g) (.int .i64 s) (.int .i64 d) (.slice A5 (ps.length + 1) c5) (.int .i64 n)
          have Y9 := Y7.set5 (g := w.heap.size + 2) (by omega) (.int .i64 g) (.int .i64 s) (.int .i64 d) (.slice A5 (ps.length + 1) c5) (.int .i64 n)
          go_wp2
          have cr9 := R9.facts.1
          clear cr fr cd fd
          refine bodyPost_ret (v := .tuple #[.agg #[.int .i64 g, .int .i64 s, .int .i64 d, .slice A5 (ps.length + 1) c5, .int .i64 n], .bool true]) (by simp [results, Try.results132, go_sem, cr9]) rfl ?_
          exact ⟨_, _, ps ++ [(a, xs, ys)], rfl, O9.low (by omega), .inr rfl, HQ.out, Y9⟩
      exact AllReadyH.nil
    exact AllReadyH.nil
  exact AllReadyH.nil
end Go.Proofs.Ytjaagabbbnokdaa
