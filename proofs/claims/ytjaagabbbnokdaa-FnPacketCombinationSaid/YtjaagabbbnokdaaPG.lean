/-
  Slices of packets whose outer row is the call's own, and whose packets' slices lie in memory from block lo on, apart from the outer row: words, append of a packet. Nothing of the program is run here but the builtin append.
  l11All and l15Copy of the reference: contracts.
  CombinePackets of the reference: a contract. Condition: the packets' slices hold at most 2^20 numbers each, at most 2^20 packets.
  Five stores into one box: words.
-/
import Derived.Test.YtjaagabbbnokdaaMl
import Derived.Test.YtjaagabbbnokdaaPks1
import Derived.Test.YtjaagabbbnokdaaPE
import Derived.Test.YtjaagabbbnokdaaPF
import Derived.Test.YtjaagabbbnokdaaPB
import Derived.Test.YtjaagabbbnokdaaPC
import Derived.Test.YtjaagabbbnokdaaBq
import Derived.Deep.DeepCutAuto
import Derived.Deep.CutRange
import Derived.Deep.RegionHeld3
import Derived.Deep.RegionLaw
namespace Go.Proofs.Ytjaagabbbnokdaa
open Go.ChangeShapes Go.WideShapes Go.ChangeAt Go.RowKit
set_option linter.unusedVariables false
set_option maxRecDepth 100000

abbrev PV : Type := Int × Value × Value
def cellsP (u : PV) : List Value := [.int .i64 u.1, u.2.1, u.2.2]
def flatP (us : List PV) : List Value := us.flatMap cellsP
theorem flatP_append (us vs : List PV) : flatP (us ++ vs) = flatP us ++ flatP vs := by simp [flatP]
theorem flatP_length (us : List PV) : (flatP us).length = us.length * 3 := by
  induction us with
  | nil => rfl
  | cons u us ih => simp only [flatP, List.flatMap_cons, List.length_append, List.length_cons] at *; rw [ih]; simp [cellsP]; omega
theorem flatP_at : ∀ (us : List PV) (j k : Nat) (u : PV), us[j]? = some u → k < 3 → (flatP us)[j * 3 + k]? = (cellsP u)[k]?
  | [], j, k, u, h, _ => by simp at h
  | x :: us, 0, k, u, h, hk => by
    simp at h
    subst h
    show (cellsP x ++ flatP us)[0 * 3 + k]? = _
    rw [Nat.zero_mul, Nat.zero_add, List.getElem?_append_left (by simp [cellsP]; omega)]
  | x :: us, j + 1, k, u, h, hk => by
    show (cellsP x ++ flatP us)[(j + 1) * 3 + k]? = _
    rw [List.getElem?_append_right (by simp [cellsP]; omega)]
    have e : (j + 1) * 3 + k - (cellsP x).length = j * 3 + k := by simp [cellsP]; omega
    rw [e]
    exact flatP_at us j k u (by simpa using h) hk

/-- RIx goes over to a world that agrees on the blocks from lo on. -/
theorem RIx.agree {w u : World} {lo : Nat} {ob : Option Nat} {v : Value} {xs : List Int} (h : RIx w lo ob v xs) (hb : ∀ k, lo ≤ k → k < w.heap.size → k < u.heap.size ∧ u.heap[k]? = w.heap[k]?) : RIx u lo ob v xs := by
  obtain ⟨A, c, hv, h1, h2, h3⟩ := h
  refine ⟨A, c, hv, h1, h2, fun h0 => ?_⟩
  obtain ⟨b, off, hA, hl, hlt, hne, hc⟩ := h3 h0
  refine ⟨b, off, hA, hl, (hb b hl hlt).1, hne, fun j x hx => ?_⟩
  rw [← hc j x hx]
  exact World.cell?_of_block (hb b hl hlt).2
/-- A slice of packets in a row of the call's own. -/
def MP (w : World) (lo : Nat) (v : Value) (ps : List Pk) : Prop :=
  ∃ us : List PV, us.length = ps.length ∧ w.ownsRow lo 63 3 v ps.length (flatP us) ∧ ∀ (j : Nat) u p, us[j]? = some u → ps[j]? = some p → u.1 = p.1 ∧ RIx w lo v.ownBlock u.2.1 p.2.1 ∧ RIx w lo v.ownBlock u.2.2 p.2.2
theorem MP.nil (w : World) (lo : Nat) : MP w lo (.slice none 0 0) [] := ⟨[], rfl, World.ownsRow_nil _ _ _ _, fun j u p h => by simp at h⟩
theorem MP.empty (w : World) : MP (w.alloc (.cells #[] 63)) w.heap.size (.slice (some ⟨w.heap.size, 0, none⟩) 0 0) [] :=
  ⟨[], rfl, ⟨rfl, .inr ⟨w.heap.size, 0, #[], rfl, Nat.le_refl _, Blk.new w _ _, Nat.le_refl _, Nat.zero_le _, rfl, rfl⟩⟩, fun j u xs h => by simp at h⟩
theorem MP.agree {w u : World} {lo : Nat} {v : Value} {ps : List Pk} (h : MP w lo v ps) (hb : ∀ k, lo ≤ k → k < w.heap.size → k < u.heap.size ∧ u.heap[k]? = w.heap[k]?) : MP u lo v ps := by
  obtain ⟨us, hl, ho, hr⟩ := h
  refine ⟨us, hl, ?_, fun j x p h1 h2 => ?_⟩
  · obtain ⟨hl2, h0 | ⟨g, cap, cur, rfl, hb2, hh, h1, h2, h3, h4⟩⟩ := ho
    · exact ⟨hl2, .inl h0⟩
    · exact ⟨hl2, .inr ⟨g, cap, cur, rfl, hb2, (hb g hb2 (Blk.lt hh)).2.trans hh, h1, h2, h3, h4⟩⟩
  · obtain ⟨e, r1, r2⟩ := hr j x p h1 h2
    exact ⟨e, r1.agree hb, r2.agree hb⟩
theorem MP.keep {w w' : World} {lo : Nat} {v : Value} {ps : List Pk} (h : MP w lo v ps) (k : Bel w w') : MP w' lo v ps :=
  h.agree fun q _ hq => ⟨Nat.lt_of_lt_of_le hq k.size, Below.block k q hq⟩
theorem MP.mid {w w' : World} {a b lo : Nat} {v : Value} {ps : List Pk} (h : MP w lo v ps) (m : Mid a b w w') (hl : b ≤ lo) : MP w' lo v ps :=
  h.agree fun q h1 hq => ⟨Nat.lt_of_lt_of_le hq m.size, m.block q hq (.inr (by omega))⟩
theorem MP.setFar {w : World} {lo : Nat} {v : Value} {ps : List Pk} (h : MP w lo v ps) {p : Addr} (hp : p.block < lo) (z : Value) : MP (w.setCell p z) lo v ps :=
  h.agree fun q h1 hq => ⟨by simpa [World.setCell] using hq, Below.heap_setCell w p z q (by omega)⟩
theorem MP.low {w : World} {lo lo' : Nat} {v : Value} {ps : List Pk} (h : MP w lo v ps) (hl : lo' ≤ lo) : MP w lo' v ps := by
  obtain ⟨us, h1, ho, hr⟩ := h
  exact ⟨us, h1, Go.Joins.ownsRow_le ho hl, fun j u p q1 q2 => ⟨(hr j u p q1 q2).1, (hr j u p q1 q2).2.1.low hl, (hr j u p q1 q2).2.2.low hl⟩⟩
theorem MP.block {w : World} {lo : Nat} {v : Value} {ps : List Pk} (h : MP w lo v ps) : ∀ k, v.ownBlock = some k → lo ≤ k ∧ k < w.heap.size := by
  obtain ⟨us, _, ho, _⟩ := h
  exact World.ownsRow.lt ho
theorem MP.shape {w : World} {lo : Nat} {v : Value} {ps : List Pk} (h : MP w lo v ps) : ∃ A c, v = .slice A ps.length c ∧ ps.length ≤ c ∧ c ≤ 9223372036854775807 := by
  obtain ⟨us, hl, ⟨hl2, ⟨rfl, h9⟩ | ⟨g, cap, cur, rfl, hb, hh, h1, h2, h3, h4⟩⟩, hr⟩ := h
  · exact ⟨none, 0, by rw [h9], by omega, by omega⟩
  · exact ⟨_, cap, rfl, h1, by unfold maxLen at h2; omega⟩
theorem MP.reads {w : World} {lo : Nat} {v : Value} {ps : List Pk} (h : MP w lo v ps) : RP w v ps := by
  obtain ⟨us, hl, ⟨hl2, ⟨rfl, h9⟩ | ⟨g, cap, cur, rfl, hb, hh, h1, h2, h3, h4⟩⟩, hr⟩ := h
  · exact ⟨none, 0, by rw [h9], by omega, by omega, fun h => absurd h (by omega)⟩
  · refine ⟨_, cap, rfl, h1, by unfold maxLen at h2; omega, fun h0 => ⟨g, 0, rfl, Blk.lt hh, fun j p hp => ?_⟩⟩
    have hj : j < ps.length := (List.getElem?_eq_some_iff.1 hp).1
    have hu : us[j]? = some (us[j]'(by omega)) := List.getElem?_eq_getElem _
    obtain ⟨e, r1, r2⟩ := hr j _ p hu hp
    have hc : ∀ k, k < 3 → w.cell? ⟨g, 0 + j * 3 + k, none⟩ = (cellsP (us[j]'(by omega)))[k]? := fun k hk => by
      rw [(Blk.facts hh).1, ← Array.getElem?_toList, Nat.zero_add, ← flatP_at us j k _ hu hk, ← h4, List.getElem?_take, if_pos (by omega)]
    generalize us[j]'(by omega) = u at *
    refine ⟨?_, u.2.1, u.2.2, hc 1 (by omega), hc 2 (by omega), r1.reads, r2.reads⟩
    rw [← e]
    exact hc 0 (by omega)
theorem RIx.grow2 {w w' : World} {lo : Nat} {ob ob' : Option Nat} {v : Value} {xs : List Int} (h : RIx w lo ob v xs) (hg : w.grownBy w' ob) (ho : ob' = ob ∨ ob' = some w.heap.size) : RIx w' lo ob' v xs := h.grown hg ho

theorem Pk_info : (Try.prog.info? 63).map (fun i => (i.zero, i.size, i.bytes)) = some (some (.agg #[.int .i64 0, .slice none 0 0, .slice none 0 0]), 3, 56) := by kernel_rfl
theorem run_appP (w : World) (lo : Nat) (ty : TypeId) (v : Value) (ad : Addr) (ps : List Pk) (p : Pk) (u1 u2 : Value) (h : MP w lo v ps) (hs : ad.spot = none) (hc0 : w.cell? ad = some (.int .i64 p.1)) (hc1 : w.cell? (ad.add 1) = some u1) (hc2 : w.cell? (ad.add 2) = some u2)
    (h1 : RIx w lo v.ownBlock u1 p.2.1) (h2 : RIx w lo v.ownBlock u2 p.2.2) (hbytes : ps.length + 1 ≤ 1099511627776) (hbase : lo ≤ w.heap.size) :
    ∃ v' w', (Builtin.append_ #[27, 27] ty #[v, .slice (some ad) 1 1]).run Try.prog w = .ok v' w' ∧ MP w' lo v' (ps ++ [p]) ∧ w.grownBy w' v.ownBlock ∧ (v'.ownBlock = v.ownBlock ∨ v'.ownBlock = some w.heap.size) := by
  obtain ⟨i0, hi, hz0, hz1, hz2⟩ := info_parts Pk_info
  obtain ⟨us, hl, ho, hr⟩ := h
  obtain ⟨A1, c1, rfl, _, _, _⟩ := id h1
  obtain ⟨A2, c2, rfl, _, _, _⟩ := id h2
  obtain ⟨v', w', hrun, h4, h5, _, h6⟩ := run_append_own_at (P := Try.prog) w lo 27 ty 63 i0 (.agg #[.int .i64 0, .slice none 0 0, .slice none 0 0]) 3 56 Try.underlying27 hi hz0 hz1 hz2 rfl (by omega) v ps.length (flatP us) ho ad 1 1 (flatP [(p.1, .slice A1 p.2.1.length c1, .slice A2 p.2.2.length c2)]) (by simp [flatP, cellsP])
    (fun j q hq => by
      match j with
      | 0 => simp [flatP, cellsP] at hq; subst hq; obtain ⟨ab, ao, sp⟩ := ad; dsimp only at hs; subst hs; rw [add_plain, Nat.add_zero]; exact hc0
      | 1 => simp [flatP, cellsP] at hq; subst hq; exact hc1
      | 2 => simp [flatP, cellsP] at hq; subst hq; exact hc2
      | j + 3 => simp [flatP, cellsP] at hq)
    (fun q hq => by simp [flatP, cellsP] at hq; rcases hq with rfl | rfl | rfl <;> rfl) (by unfold maxLen; omega) (by omega) hbase
  refine ⟨v', w', hrun, ⟨us ++ [(p.1, .slice A1 p.2.1.length c1, .slice A2 p.2.2.length c2)], by simp [hl], by rw [List.length_append, flatP_append]; exact h4, fun j y q q1 q2 => ?_⟩, h5, h6⟩
  rcases Nat.lt_or_ge j us.length with hj | hj
  · rw [List.getElem?_append_left hj] at q1
    rw [List.getElem?_append_left (by omega)] at q2
    obtain ⟨e, r1, r2⟩ := hr j y q q1 q2
    exact ⟨e, r1.grown h5 h6, r2.grown h5 h6⟩
  · have e : j = us.length := by
      rcases Nat.lt_or_eq_of_le hj with e | e
      · rw [List.getElem?_eq_none (by simp; omega)] at q1; cases q1
      · exact e.symm
    subst e
    rw [List.getElem?_append_right (Nat.le_refl _), Nat.sub_self] at q1
    rw [hl, List.getElem?_append_right (Nat.le_refl _), Nat.sub_self] at q2
    simp at q1 q2
    subst q1 q2
    exact ⟨rfl, h1.grown h5 h6, h2.grown h5 h6⟩
theorem wpList_appP {ops : Array Oper} {rest : List Oper} {o : Oper} {a : Act} {Q : Exit → Act → World → Prop} (w : World) (hgd : o.guard = none) (s x : Operand)
    (ho : o.op = .call { callee := .builtin .append, args := #[s, x], argTypes := #[27, 27] })
    (lo : Nat) (v : Value) (ad : Addr) (ps : List Pk) (p : Pk) (u1 u2 : Value) (hs : a.eval s = v) (hx : a.eval x = .slice (some ad) 1 1) (h : MP w lo v ps) (hsp : ad.spot = none) (hc0 : w.cell? ad = some (.int .i64 p.1)) (hc1 : w.cell? (ad.add 1) = some u1) (hc2 : w.cell? (ad.add 2) = some u2)
    (h1 : RIx w lo v.ownBlock u1 p.2.1) (h2 : RIx w lo v.ownBlock u2 p.2.2) (hbytes : ps.length + 1 ≤ 1099511627776) (hbase : lo ≤ w.heap.size)
    (hk : ∀ v' w', MP w' lo v' (ps ++ [p]) → w.grownBy w' v.ownBlock → (v'.ownBlock = v.ownBlock ∨ v'.ownBlock = some w.heap.size) → wpList Try.prog ops Q rest (a.put o.dst v') w') : wpList Try.prog ops Q (o :: rest) a w := by
  refine wpList_plain hgd fun K hK => ?_
  obtain ⟨v', w', hrun, h2, h3, h4⟩ := run_appP w lo o.type v ad ps p u1 u2 h hsp hc0 hc1 hc2 h1 h2 hbytes hbase
  unfold Oper.wp execOp
  simp only [ho, resolve, invoke, builtin, Sem.run_bind, Sem.run_pure, Result.andThen_ok, List.map_toArray, List.map_cons, List.map_nil, hs, hx, hrun]
  exact hK _ _ (hk v' w' h2 h3 h4)
end Go.Proofs.Ytjaagabbbnokdaa

namespace Go.Proofs.Ytjaagabbbnokdaa
open Go.ChangeShapes Go.WideShapes Go.ChangeAt Go.RowKit Go.Joins Go.Deep
set_option linter.unusedVariables false
set_option maxRecDepth 100000

theorem OI.rxn {w : World} {lo B : Nat} {u v : Value} {xs : List Int} (h : OI w B u xs) (hB : lo ≤ B) (hv : ∀ q, v.ownBlock = some q → q < B) : RIx w lo v.ownBlock u xs :=
  (h.low hB).rx (fun q e1 e2 => by have := (h.block q e1).1; have := hv q e2; omega)
def SmP (ps : List Pk) : Prop := ∀ p ∈ ps, p.2.1.length ≤ 1048576 ∧ p.2.2.length ≤ 1048576
theorem takeP_snoc {ps : List Pk} {k : Nat} {p : Pk} (h : ps[k]? = some p) : ps.take k ++ [p] = ps.take (k + 1) := by rw [List.take_add_one, h]; rfl

set_option maxHeartbeats 4000000 in
theorem l11AllS (v : Value) (ps : List Pk) (w : World) (hv : RP w v ps) (hs : SmP ps) (hn : ps.length ≤ 1048576) :
    Calls Try.prog 171 #[v] w fun e w' => ∃ r, e = .returned r ∧ MP w' w.heap.size r ps ∧ Bel w w' := by
  obtain ⟨A, cp, rfl, h2, h3, hA⟩ := id hv
  have HS := Lib.hid hs
  clear hs
  have O0 := MP.empty w
  have Y0 : Bel w (w.alloc (.cells #[] 63)) := (Bel.refl _).alloc _
  go_enter Try.func171, Try.ntmps171
  go_wp2
  go_loopg [3, 4] ps.length (fun f a i wr => ∃ k : Nat, k + f = ps.length ∧ i = .int .i64 k ∧ MP wr w.heap.size a (ps.take k) ∧ Bel w wr)
  case atStart => exact ⟨0, by omega, rfl, O0, Y0⟩
  case round =>
    clear O0 Y0
    obtain ⟨k, hk, rfl, O, Y⟩ := hrel
    have hk2 : k ≤ ps.length := by omega
    have HK := Lib.hid hk
    clear hk
    have hsz := Y.size
    obtain ⟨A5, c5, e5, _, _⟩ := O.shape
    rw [List.length_take, Nat.min_eq_left hk2] at e5
    by_cases hlt : k < ps.length
    · obtain ⟨b1, o1, rfl, z1, hc1⟩ := hA (by omega)
      have hx : Hid (ps[k]? = some (ps[k]'hlt)) := List.getElem?_eq_getElem hlt
      obtain ⟨g0, u1, u2, g1, g2, r1, r2⟩ := hc1 k _ hx.out
      obtain ⟨n1, n2⟩ := HS.out _ (List.mem_of_getElem? hx.out)
      generalize ps[k]'hlt = p at *
      obtain ⟨a, xs, ys⟩ := p
      dsimp only at *
      replace g0 := Y.cell1 z1 g0
      replace g1 := Y.cell1 z1 g1
      replace g2 := Y.cell1 z1 g2
      clear hc1 hA
      have HR1 := Lib.hid (r1.keep Y)
      have HR2 := Lib.hid (r2.keep Y)
      obtain ⟨A1, c1, e1, _, _, _⟩ := id r1
      obtain ⟨A2, c2, e2, _, _, _⟩ := id r2
      subst e1 e2
      clear r1 r2
      have i0 : (0 : Int) ≤ (k : Int) := by omega
      have i1 : (k : Int) < (ps.length : Int) := by omega
      have HT := Lib.hid (takeP_snoc hx.out)
      have hl1 : (ps.take k).length ≤ 1048576 := by rw [List.length_take]; omega
      go_wp2_with fail
      refine (l11cS a _ _ xs ys _ HR1.out HR2.out n1 n2).mono ?_
      rintro e w2 ⟨p1, p2, rfl, P1, P2, b2⟩
      obtain ⟨A3, c3, e3, _, _, _⟩ := P1.reads
      obtain ⟨A4, c4, e4, _, _, _⟩ := P2.reads
      subst e3 e4
      have O2 := O.keep b2
      have Y2 := Y.trans b2
      have hb := O.block
      clear g0 g1 g2
      have B4 := (Bel.refl w2).alloc (.cells #[.int .i64 a, .slice A3 xs.length c3, .slice A4 ys.length c4] 63)
      have F4 := Blk.new w2 63 #[.int .i64 a, .slice A3 xs.length c3, .slice A4 ys.length c4]
      have O4 := O2.keep B4
      have Y4 := Y2.trans B4
      have X1 := (P1.keep B4).rxn (v := u3) hsz (fun q e => (hb q e).2)
      have X2 := (P2.keep B4).rxn (v := u3) hsz (fun q e => (hb q e).2)
      have hsz2 := b2.size
      subst e5
      go_wp2_with (at_builtin; refine wpList_appP _ rfl _ _ rfl w.heap.size _ _ (ps.take k) (a, xs, ys) _ _ rfl rfl O4 rfl (F4.facts.1 0) (F4.facts.1 1) (F4.facts.1 2) X1 X2 (by omega) (by (try simp only [World.size_alloc]); omega) ?_)
      intro v5 w5 O5 hG5 ho5
      have Y5 : Bel w w5 := Y4.grown hG5 (fun q hq => (O4.block q hq).1)
      rw [HT.out] at O5
      clear hG5 ho5 O4 X1 X2 F4 B4 Y4
      go_wp2
      go_roundg (ps.length - (k + 1))
      case measure => have := HK.out; omega
      case rel => exact ⟨k + 1, by omega, by go_num, O5, Y5⟩
    · obtain rfl : k = ps.length := by omega
      have i1 : ¬ (ps.length : Int) < (ps.length : Int) := by omega
      rw [List.take_length] at O
      subst e5
      go_wp2
      go_ret
      exact ⟨_, rfl, O, Y⟩
end Go.Proofs.Ytjaagabbbnokdaa

namespace Go.Proofs.Ytjaagabbbnokdaa
open Go.ChangeShapes Go.WideShapes Go.ChangeAt Go.RowKit Go.Joins Go.Deep
set_option linter.unusedVariables false
set_option maxRecDepth 100000

set_option maxHeartbeats 4000000 in
theorem cpkS (v u : Value) (ps : List Pk) (cs : List Int) (w : World) (hv : RP w v ps) (hu : RI w u cs) (hs : SmP ps) (hn : ps.length ≤ 1048576) :
    Calls Try.prog 34 #[v, u] w fun e w' => ∃ r1 r2, e = .returned (.tuple #[.agg #[.int .i64 (cpkZ ps cs).1, r1, r2], .bool (cpkB ps cs)]) ∧ OI w' w.heap.size r1 (cpkZ ps cs).2.1 ∧ OI w' w.heap.size r2 (cpkZ ps cs).2.2 ∧ Bel w w' := by
  have HU := Lib.hid hu
  have HC1 : Hid (colN (cofs ps) ≤ 1048576) := Lib.hid (colN_cofs (fun p hp => (hs p hp).1))
  have HC2 : Hid (colN (pays ps) ≤ 1048576) := Lib.hid (colN_pays (fun p hp => (hs p hp).2))
  obtain ⟨A, cp, rfl, h2, h3, hA⟩ := id hv
  clear hu hv hs
  have X := ((Blk.new w 63 #[.int .i64 0, .slice none 0 0, .slice none 0 0]).alloc (.cells #[] 59)).alloc (.cells #[] 59)
  have Y : Bel w (((w.alloc (.cells #[.int .i64 0, .slice none 0 0, .slice none 0 0] 63)).alloc (.cells #[] 59)).alloc (.cells #[] 59)) := (((Bel.refl _).alloc _).alloc _).alloc _
  have LA := (LR.empty w (w.alloc (.cells #[.int .i64 0, .slice none 0 0, .slice none 0 0] 63)) (w.heap.size + 1) (by rw [World.size_alloc]; exact Nat.le_refl _)).keep ((Bel.refl _).alloc (.cells #[] 59))
  have LB := LR.empty w ((w.alloc (.cells #[.int .i64 0, .slice none 0 0, .slice none 0 0] 63)).alloc (.cells #[] 59)) (w.heap.size + 1) (by rw [World.size_alloc, World.size_alloc]; omega)
  rw [World.size_alloc] at LA
  rw [World.size_alloc, World.size_alloc] at LB
  go_enter Try.func34, Try.ntmps34
  go_wp2
  go_loopg [6, 7, 8] ps.length (fun f a b i wr => ∃ k : Nat, k + f = ps.length ∧ i = .int .i64 k ∧ Blk wr w.heap.size 63 #[.int .i64 0, .slice none 0 0, .slice none 0 0] ∧ LR w (w.heap.size + 1) wr a (cofs (ps.take k)) ∧ LR w (w.heap.size + 1) wr b (pays (ps.take k)) ∧ Hid (∀ q, a.ownBlock = some q → b.ownBlock ≠ some q) ∧ Bel w wr ∧ Hid ((ps.take k).all (sgP (hdG ps)) = true))
  case atStart => exact ⟨0, by omega, rfl, X, LA, LB, Lib.hid (fun q h => by simp [Value.ownBlock] at h ⊢; omega), Y, by show _ = _; simp⟩
  case round =>
    clear X Y LA LB
    obtain ⟨k, hk, rfl, X, OA, OB, HD, Y, HB⟩ := hrel
    have hk2 : k ≤ ps.length := by omega
    have HK := Lib.hid hk
    clear hk
    have hsz := X.lt
    obtain ⟨A5, c5, e5, _, _⟩ := OA.shape
    obtain ⟨A6, c6, e6, _, _⟩ := OB.shape
    by_cases hlt : k < ps.length
    · obtain ⟨b1, o1, rfl, z1, hc1⟩ := hA (by omega)
      have hx : Hid (ps[k]? = some (ps[k]'hlt)) := List.getElem?_eq_getElem hlt
      have hx0 : ps[0]? = some (ps[0]'(by omega)) := List.getElem?_eq_getElem _
      obtain ⟨g0, u1, u2, g1, g2, r1, r2⟩ := hc1 k _ hx.out
      have f0 := (hc1 0 _ hx0).1
      rw [← hdG_at hx0] at f0
      simp only [Nat.zero_mul, Nat.add_zero] at f0
      clear hx0
      generalize ps[k]'hlt = p at *
      obtain ⟨a, xs, ys⟩ := p
      dsimp only at *
      have HG2 := Lib.hid g2
      replace g0 := Y.cell1 z1 g0
      replace g1 := Y.cell1 z1 g1
      replace g2 := Y.cell1 z1 g2
      replace f0 := Y.cell1 z1 f0
      clear hc1 hA
      have HR1 := Lib.hid r1
      have HR2 := Lib.hid r2
      obtain ⟨A1, c1, e1, _, _, _⟩ := id r1
      obtain ⟨A2, c2, e2, _, _, _⟩ := id r2
      subst e1 e2
      clear r1 r2
      have y1 := Nat.lt_of_lt_of_le z1 Y.size
      have i0 : (0 : Int) ≤ (k : Int) := by omega
      have i1 : (k : Int) < (ps.length : Int) := by omega
      have i2 : (0 : Int) < (ps.length : Int) := by omega
      go_wp2_with fail
      have qq0 := Bw.cell g0 y1
      have qq1 := Bw.cell f0 y1
      refine wp_region_bel (by kernel_rfl) (by kernel_rfl) ?_
      repeat (first | go_big_quiet_step (fail) | quiet_step (fail))
      refine wpQuiet_nil ?_
      rintro w3 ⟨⟨_, hb3⟩, rfl⟩
      clear qq0 qq1 g0 f0
      replace g1 := hb3.cell1 y1 g1
      replace g2 := hb3.cell1 y1 g2
      replace y1 := Nat.lt_of_lt_of_le y1 hb3.size
      have Y3 := Y.trans hb3
      have X3 := hb3.keep X
      have OA3 := OA.keep hb3
      have OB3 := OB.keep hb3
      have OAb := Lib.hid OA3.block
      clear X Y OA OB
      cases q1 : (a != hdG ps)
      case true =>
        have HF := Lib.hid (cpk_sg (cs := cs) (all_fail (p := sgP (hdG ps)) hx.out (by show (!(a != hdG ps)) = false; rw [q1]; rfl)))
        obtain ⟨cx, fx, zx⟩ := X3.facts
        have R9 := ((X3.set 0 (.int .i64 0)).set 1 (.slice none 0 0)).set 2 (.slice none 0 0)
        have T9 : Bel w (((w3.setCell ⟨w.heap.size, 0, none⟩ (.int .i64 0)).setCell ⟨w.heap.size, 1, none⟩ (.slice none 0 0)).setCell ⟨w.heap.size, 2, none⟩ (.slice none 0 0)) := ((Y3.setCell (p := ⟨w.heap.size, 0, none⟩) (Nat.le_refl _) _).setCell (p := ⟨w.heap.size, 1, none⟩) (Nat.le_refl _) _).setCell (p := ⟨w.heap.size, 2, none⟩) (Nat.le_refl _) _
        go_wp2
        have cr9 := R9.facts.1
        refine bodyPost_ret (v := .tuple #[.agg #[.int .i64 0, .slice none 0 0, .slice none 0 0], .bool false]) (by simp [results, Try.results34, go_sem, cr9]) rfl ⟨.slice none 0 0, .slice none 0 0, ?_, ?_, ?_, T9⟩
        · rw [HF.out.1, HF.out.2]
        · rw [HF.out.2]; exact OI.nil _ _
        · rw [HF.out.2]; exact OI.nil _ _
      case false =>
        have HST := Lib.hid (all_step (p := sgP (hdG ps)) hx.out HB.out (by show (!(a != hdG ps)) = true; rw [q1]; rfl))
        have HT1 := Lib.hid (cofs_snoc hx.out)
        have HT2 := Lib.hid (pays_take hx.out)
        have hl1 : (cofs (ps.take k)).length ≤ 1048576 := by rw [cofs_len, List.length_take]; omega
        have hl2 : (pays (ps.take k)).length ≤ 1048576 := by rw [pays_len, List.length_take]; omega
        have B4 := (Bel.refl w3).alloc (.cells #[.slice A1 xs.length c1] 59)
        have OA4 := OA3.keep B4
        have OB4 := OB3.keep B4
        have X4 := B4.keep X3
        have Y4 := Y3.trans B4
        have hs4 := X3.lt
        subst e5
        go_wp2_with (at_builtin; refine wpList_appL w _ rfl _ _ rfl (w.heap.size + 1) _ _ _ (cofs (ps.take k)) xs rfl rfl OA4 ((Blk.new w3 59 _).facts.1 0) rfl HR1.out (by omega) (by (try simp only [World.size_alloc]); omega) ?_)
        intro v5 w5 O5 hG5 ho5
        have hz3 := OB3.block
        have OB5 := OB4.other hG5 (fun q hq e => HD.out q e hq)
        have X5 := X4.grown hG5 (fun e => by have := (OA4.block _ e).1; omega)
        have Y5 : Bel w w5 := Y4.grown hG5 (fun q hq => by have := (OA4.block q hq).1; omega)
        have HD5 : Hid (∀ q, v5.ownBlock = some q → u7.ownBlock ≠ some q) := Lib.hid (fun q hq e => by
          rcases ho5 with e1 | e1
          · exact HD.out q (by rw [← e1]; exact hq) e
          · rw [e1] at hq; injection hq with hq; have := (hz3 q e).2; omega)
        rw [HT1.out] at O5
        replace g2 : w5.cell? ⟨b1, o1 + k * 3 + 2, none⟩ = some (.slice A2 ys.length c2) := Y5.cell1 z1 HG2.out
        clear hG5 ho5 OA4 OB4 OA3 OB3 X4 Y4 X3 Y3 hb3
        have B6 := (Bel.refl w5).alloc (.cells #[.slice A2 ys.length c2] 59)
        have O6 := O5.keep B6
        have OB6 := OB5.keep B6
        have X6 := B6.keep X5
        have Y6 := Y5.trans B6
        have hs6 := X5.lt
        have hz5 := O5.block
        subst e6
        go_wp2_with (at_builtin; refine wpList_appL w _ rfl _ _ rfl (w.heap.size + 1) _ _ _ (pays (ps.take k)) ys rfl rfl OB6 ((Blk.new w5 59 _).facts.1 0) rfl HR2.out (by omega) (by (try simp only [World.size_alloc]); omega) ?_)
        intro v6 w6 O7 hG7 ho7
        have OA7 := O6.other hG7 (fun q hq e => HD5.out q hq e)
        have X7 := X6.grown hG7 (fun e => by have := (OB6.block _ e).1; omega)
        have Y7 : Bel w w6 := Y6.grown hG7 (fun q hq => by have := (OB6.block q hq).1; omega)
        have HD7 : Hid (∀ q, v5.ownBlock = some q → v6.ownBlock ≠ some q) := Lib.hid (fun q hq e => by
          rcases ho7 with e1 | e1
          · exact HD5.out q hq (by rw [← e1]; exact e)
          · rw [e1] at e; injection e with e; have := (hz5 q hq).2; omega)
        rw [HT2.out] at O7
        clear hG7 ho7
        go_wp2
        go_roundg (ps.length - (k + 1))
        case measure => have := HK.out; omega
        case rel => exact ⟨k + 1, by omega, by go_num, X7, OA7, O7, HD7, Y7, HST⟩
    · obtain rfl : k = ps.length := by omega
      have i1 : ¬ (ps.length : Int) < (ps.length : Int) := by omega
      have HSG : Hid (sgB ps = true) := Lib.hid (by have := HB.out; rwa [List.take_length] at this)
      rw [List.take_length] at OA OB e5 e6
      subst e5 e6
      go_wp2_with fail
      refine (comS _ _ (cofs ps) cs _ (OA.reads Y) (HU.out.keep Y) HC1.out).mono ?_
      rintro e w2 ⟨r1, rfl, O1, hb2⟩
      have Y2 := Y.trans hb2
      have OB2 := OB.keep hb2
      have X2 := hb2.keep X
      replace O1 := O1.low (Nat.succ_le_of_lt hsz)
      have hsz2 := X2.lt
      clear hb2 OA OB X Y
      go_wp2_with fail
      refine (comS _ _ (pays ps) cs _ (OB2.reads Y2) (HU.out.keep Y2) HC2.out).mono ?_
      rintro e w3 ⟨r2, rfl, O2, hb3⟩
      have Y3 := Y2.trans hb3
      have X3 := hb3.keep X2
      have O13 := O1.keep hb3
      replace O2 := O2.low (Nat.succ_le_of_lt hsz2)
      clear hb3 OB2 X2 Y2 O1
      obtain ⟨B1, d1, e1, _, _, _⟩ := O13.reads
      obtain ⟨B2, d2, e2, _, _, _⟩ := O2.reads
      subst e1 e2
      obtain ⟨cx, fx, zx⟩ := X3.facts
      cases q1 : (((comZ (cofs ps) cs).length : Int) == 0)
      case true =>
        have HF := Lib.hid (cpk_e1 (ps := ps) (cs := cs) q1)
        have R9 := ((X3.set 0 (.int .i64 0)).set 1 (.slice none 0 0)).set 2 (.slice none 0 0)
        have T9 := ((Y3.setCell (p := ⟨w.heap.size, 0, none⟩) (Nat.le_refl _) (.int .i64 0)).setCell (p := ⟨w.heap.size, 1, none⟩) (Nat.le_refl _) (.slice none 0 0)).setCell (p := ⟨w.heap.size, 2, none⟩) (Nat.le_refl _) (.slice none 0 0)
        go_wp2
        have cr9 := R9.facts.1
        refine bodyPost_ret (v := .tuple #[.agg #[.int .i64 0, .slice none 0 0, .slice none 0 0], .bool false]) (by simp [results, Try.results34, go_sem, cr9]) rfl ⟨.slice none 0 0, .slice none 0 0, ?_, ?_, ?_, T9⟩
        · rw [HF.out.1, HF.out.2]
        · rw [HF.out.2]; exact OI.nil _ _
        · rw [HF.out.2]; exact OI.nil _ _
      case false =>
      cases q2 : (((comZ (pays ps) cs).length : Int) == 0)
      case true =>
        have HF := Lib.hid (cpk_e2 (ps := ps) (cs := cs) q2)
        have R9 := ((X3.set 0 (.int .i64 0)).set 1 (.slice none 0 0)).set 2 (.slice none 0 0)
        have T9 := ((Y3.setCell (p := ⟨w.heap.size, 0, none⟩) (Nat.le_refl _) (.int .i64 0)).setCell (p := ⟨w.heap.size, 1, none⟩) (Nat.le_refl _) (.slice none 0 0)).setCell (p := ⟨w.heap.size, 2, none⟩) (Nat.le_refl _) (.slice none 0 0)
        go_wp2
        have cr9 := R9.facts.1
        refine bodyPost_ret (v := .tuple #[.agg #[.int .i64 0, .slice none 0 0, .slice none 0 0], .bool false]) (by simp [results, Try.results34, go_sem, cr9]) rfl ⟨.slice none 0 0, .slice none 0 0, ?_, ?_, ?_, T9⟩
        · rw [HF.out.1, HF.out.2]
        · rw [HF.out.2]; exact OI.nil _ _
        · rw [HF.out.2]; exact OI.nil _ _
      case false =>
        have HF := Lib.hid (cpk_ok HSG.out q1 q2)
        have h0 : 0 < ps.length := by have := com_len0 q1; rwa [cofs_len] at this
        obtain ⟨b1, o1, rfl, z1, hc1⟩ := hA h0
        have f0 := (hc1 0 _ (List.getElem?_eq_getElem h0)).1
        rw [← hdG_at (List.getElem?_eq_getElem h0)] at f0
        simp only [Nat.zero_mul, Nat.add_zero] at f0
        replace f0 := Y3.cell1 z1 f0
        have i2 : (0 : Int) < (ps.length : Int) := by omega
        have R9 := ((X3.set 0 (.int .i64 (hdG ps))).set 1 (.slice B1 (comZ (cofs ps) cs).length d1)).set 2 (.slice B2 (comZ (pays ps) cs).length d2)
        have T9 := ((Y3.setCell (p := ⟨w.heap.size, 0, none⟩) (Nat.le_refl _) (.int .i64 (hdG ps))).setCell (p := ⟨w.heap.size, 1, none⟩) (Nat.le_refl _) (.slice B1 (comZ (cofs ps) cs).length d1)).setCell (p := ⟨w.heap.size, 2, none⟩) (Nat.le_refl _) (.slice B2 (comZ (pays ps) cs).length d2)
        have P19 := ((O13.setFar (p := ⟨w.heap.size, 0, none⟩) (by dsimp only; omega) (.int .i64 (hdG ps))).setFar (p := ⟨w.heap.size, 1, none⟩) (by dsimp only; omega) (.slice B1 (comZ (cofs ps) cs).length d1)).setFar (p := ⟨w.heap.size, 2, none⟩) (by dsimp only; omega) (.slice B2 (comZ (pays ps) cs).length d2)
        have P29 := ((O2.setFar (p := ⟨w.heap.size, 0, none⟩) (by dsimp only; omega) (.int .i64 (hdG ps))).setFar (p := ⟨w.heap.size, 1, none⟩) (by dsimp only; omega) (.slice B1 (comZ (cofs ps) cs).length d1)).setFar (p := ⟨w.heap.size, 2, none⟩) (by dsimp only; omega) (.slice B2 (comZ (pays ps) cs).length d2)
        go_wp2
        have cr9 := R9.facts.1
        refine bodyPost_ret (v := .tuple #[.agg #[.int .i64 (hdG ps), .slice B1 (comZ (cofs ps) cs).length d1, .slice B2 (comZ (pays ps) cs).length d2], .bool true]) (by simp [results, Try.results34, go_sem, cr9]) rfl ⟨.slice B1 (comZ (cofs ps) cs).length d1, .slice B2 (comZ (pays ps) cs).length d2, ?_, ?_, ?_, T9⟩
        · rw [HF.out.1, HF.out.2]
        · rw [HF.out.2]; exact P19.low (Nat.le_succ _)
        · rw [HF.out.2]; exact P29.low (Nat.le_succ _)
end Go.Proofs.Ytjaagabbbnokdaa

namespace Go.Proofs.Ytjaagabbbnokdaa
open Go.ChangeShapes Go.WideShapes Go.ChangeAt Go.RowKit Go.Joins Go.Deep
set_option linter.unusedVariables false
set_option maxRecDepth 100000

theorem Blk.set5 {w : World} {g : Nat} {T : TypeId} {u0 u1 u2 u3 u4 : Value} (h : Blk w g T #[u0, u1, u2, u3, u4]) (v0 v1 v2 v3 v4 : Value) :
    Blk (((((w.setCell ⟨g, 0, none⟩ v0).setCell ⟨g, 1, none⟩ v1).setCell ⟨g, 2, none⟩ v2).setCell ⟨g, 3, none⟩ v3).setCell ⟨g, 4, none⟩ v4) g T #[v0, v1, v2, v3, v4] :=
  ((((h.set 0 v0).set 1 v1).set 2 v2).set 3 v3).set 4 v4
theorem Bel.set5 {a w : World} {g : Nat} (h : Bel a w) (hg : a.heap.size ≤ g) (v0 v1 v2 v3 v4 : Value) :
    Bel a (((((w.setCell ⟨g, 0, none⟩ v0).setCell ⟨g, 1, none⟩ v1).setCell ⟨g, 2, none⟩ v2).setCell ⟨g, 3, none⟩ v3).setCell ⟨g, 4, none⟩ v4) :=
  ((((h.setCell (p := ⟨g, 0, none⟩) hg v0).setCell (p := ⟨g, 1, none⟩) hg v1).setCell (p := ⟨g, 2, none⟩) hg v2).setCell (p := ⟨g, 3, none⟩) hg v3).setCell (p := ⟨g, 4, none⟩) hg v4
end Go.Proofs.Ytjaagabbbnokdaa
