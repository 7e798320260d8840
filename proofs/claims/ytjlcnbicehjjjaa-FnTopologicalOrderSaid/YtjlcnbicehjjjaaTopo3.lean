/-
  IsAcyclic of the reference: a contract. No condition.
-/
import Derived.Test.YtjlcnbicehjjjaaTopo2
import Derived.Test.YtjlcnbicehjjjaaGraph4
import Derived.Test.YtjlcnbicehjjjaaEdg
import Derived.Deep.RegionLaw
namespace Go.Proofs.Ytjlcnbicehjjjaa
open Go.ChangeShapes Go.WideShapes Go.ChangeAt Go.RowKit
set_option linter.unusedVariables false
set_option maxRecDepth 100000

theorem run_appJ (w : World) (base : Nat) (ty : TypeId) (v u : Value) (xs ys : List Int) (hown : OI w base v xs) (hr : RI w u ys) (hbytes : xs.length + ys.length ≤ 1099511627776) (hbase : base ≤ w.heap.size) :
    ∃ v' w', (Builtin.append_ #[22, 22] ty #[v, u]).run Try.prog w = .ok v' w' ∧ OI w' base v' (xs ++ ys) ∧ w.grownBy w' v.ownBlock ∧ (v'.ownBlock = v.ownBlock ∨ v'.ownBlock = some w.heap.size) := by
  obtain ⟨i0, hi, hz0, hz1, hz2⟩ := info_parts int_info
  obtain ⟨A, c, rfl, h1, h2, h3⟩ := hr
  cases A with
  | none =>
    have hy : ys = [] := by
      cases ys with
      | nil => rfl
      | cons y ys => obtain ⟨b, off, h, _⟩ := h3 (by simp); cases h
    subst hy
    refine ⟨v, w, ?_, by simpa using hown, World.grownBy.refl w _, .inl rfl⟩
    rcases hown.2 with ⟨rfl, _⟩ | ⟨g, cap, cur, rfl, _, _, hnc, _⟩
    · simp [Builtin.append_, run_underlying Try.underlying22, sizeOf, typeInfo, hi, Builtin.lenOf, Builtin.firstCells]
    · simp [Builtin.append_, run_underlying Try.underlying22, sizeOf, typeInfo, hi, Builtin.lenOf, Builtin.firstCells, hnc, storeCells]
  | some ad =>
    have hcells : ∀ j q, (ys.map (Value.int .i64))[j]? = some q → w.cell? (ad.add j) = some q := by
      intro j q hq
      rw [List.getElem?_map] at hq
      cases hy : ys[j]? with
      | none => rw [hy] at hq; cases hq
      | some y =>
        rw [hy] at hq
        have hq' : Value.int .i64 y = q := by simpa using hq
        have hl : 0 < ys.length := by have := (List.getElem?_eq_some_iff.1 hy).1; omega
        obtain ⟨b, off, ha, _, hc⟩ := h3 hl
        injection ha with ha
        subst ha
        rw [add_plain, hc j y hy, hq']
    obtain ⟨v', w', hrun, h4, h5, _, h6⟩ := run_append_own_at (P := Try.prog) w base 22 ty 3 i0 (.int .i64 0) 1 8 Try.underlying22 hi hz0 hz1 hz2 rfl (by omega) v xs.length (xs.map (Value.int .i64)) hown ad ys.length c (ys.map (Value.int .i64)) (by simp) hcells
      (fun q hq => by obtain ⟨y, _, rfl⟩ := List.mem_map.1 hq; rfl) (by unfold maxLen; omega) (by omega) hbase
    refine ⟨v', w', hrun, ?_, h5, h6⟩
    unfold OI
    rw [List.length_append, List.map_append]
    exact h4

theorem wp_appJ {o : Oper} {a : Act} {K : Act → World → Prop} {Q : Exit → Act → World → Prop} (w : World) (s x : Operand)
    (ho : o.op = .call { callee := .builtin .append, args := #[s, x], argTypes := #[22, 22] })
    (base : Nat) (v u : Value) (xs ys : List Int) (hs : a.eval s = v) (hx : a.eval x = u) (hown : OI w base v xs) (hr : RI w u ys) (hbytes : xs.length + ys.length ≤ 1099511627776) (hbase : base ≤ w.heap.size)
    (h : ∀ v' w', OI w' base v' (xs ++ ys) → w.grownBy w' v.ownBlock → (v'.ownBlock = v.ownBlock ∨ v'.ownBlock = some w.heap.size) → K (a.put o.dst v') w') : o.wp Try.prog a w K Q := by
  obtain ⟨v', w', hrun, h2, h3, h4⟩ := run_appJ w base o.type v u xs ys hown hr hbytes hbase
  unfold Oper.wp execOp
  simp only [ho, resolve, invoke, builtin, Sem.run_bind, Sem.run_pure, Result.andThen_ok, List.map_toArray, List.map_cons, List.map_nil, hs, hx, hrun]
  exact h v' w' h2 h3 h4
theorem step_appJ {ops : Array Oper} {o : Oper} {a : Act} {K : Act → World → Prop} {Q : Exit → Act → World → Prop} {E : Prop} (w : World) (hgd : o.guard = none) (s x : Operand)
    (ho : o.op = .call { callee := .builtin .append, args := #[s, x], argTypes := #[22, 22] })
    (base : Nat) (v u : Value) (xs ys : List Int) (hs : a.eval s = v) (hx : a.eval x = u) (hown : OI w base v xs) (hr : RI w u ys) (hbytes : xs.length + ys.length ≤ 1099511627776) (hbase : base ≤ w.heap.size)
    (h : ∀ v' w', OI w' base v' (xs ++ ys) → w.grownBy w' v.ownBlock → (v'.ownBlock = v.ownBlock ∨ v'.ownBlock = some w.heap.size) → K (a.put o.dst v') w') :
    if Region.wanted o (yielded ops a.tmps) = true then Oper.wp Try.prog o a w K Q else E := by
  have hw : Region.wanted o (yielded ops a.tmps) = true := by simp [Region.wanted, hgd]
  rw [if_pos hw]
  exact wp_appJ w s x ho base v u xs ys hs hx hown hr hbytes hbase h
def acyB (s : Int) (fs : List Tr) : Bool := graphB s fs && (topo s.toNat (prs fs) s.toNat []).isSome
theorem graph_in {s : Int} {fs : List Tr} (h : graphB s fs = true) : ∃ n : Nat, s = (n : Int) ∧ 1 ≤ n ∧ n ≤ 8 ∧ InG n fs ∧ fs.length ≤ 20 := by
  unfold graphB at h
  rw [Bool.and_eq_true, Bool.and_eq_true] at h
  obtain ⟨⟨h1, h2⟩, h3⟩ := h
  have h4 : 1 ≤ s ∧ s ≤ 8 := of_decide_eq_true h1
  have h5 : fs.length ≤ 20 := of_decide_eq_true h2
  obtain ⟨n, rfl⟩ := Int.eq_ofNat_of_zero_le (show 0 ≤ s by omega)
  refine ⟨n, rfl, by omega, by omega, fun f hf => ?_, h5⟩
  obtain ⟨k, hk⟩ := List.mem_iff_getElem?.1 hf
  have hl := (List.getElem?_eq_some_iff.1 hk).1
  have h6 := List.all_eq_true.1 h3 k (List.mem_range.2 hl)
  unfold edP at h6
  rw [hk] at h6
  simp only [Bool.and_eq_true] at h6
  have e1 : 0 ≤ f.1 ∧ f.1 ≤ (n : Int) - 1 := of_decide_eq_true h6.1.1.1.1
  have e2 : 0 ≤ f.2.1 ∧ f.2.1 ≤ (n : Int) - 1 := of_decide_eq_true h6.1.1.1.2
  omega
theorem colE_mem {p : Tr → Bool} {fs : List Tr} {x : Int} : ∀ n, x ∈ colK (edgF p fs) n ↔ ∃ (k : Nat) (f : Tr), k < n ∧ fs[k]? = some f ∧ p f = true ∧ x = (k : Int)
  | 0 => by simp [colK]
  | n + 1 => by
    simp only [colK]
    rw [List.mem_append, colE_mem n]
    constructor
    · rintro (⟨k, f, h1, h2⟩ | h)
      · exact ⟨k, f, by omega, h2⟩
      · unfold edgF at h
        cases hf : fs[n]? with
        | none => rw [hf] at h; simp at h
        | some f =>
          rw [hf] at h
          cases hp : p f
          · simp [hp] at h
          · simp [hp] at h
            exact ⟨n, f, by omega, hf, hp, h⟩
    · rintro ⟨k, f, h1, h2, h3, h4⟩
      rcases Nat.lt_or_ge k n with h | h
      · exact .inl ⟨k, f, h, h2, h3, h4⟩
      · have e : k = n := by omega
        subst e
        right
        unfold edgF
        rw [h2]
        simp [h3, h4]
theorem edgL_mem {p : Tr → Bool} {fs : List Tr} {x : Int} : x ∈ edgL p fs ↔ ∃ (k : Nat) (f : Tr), fs[k]? = some f ∧ p f = true ∧ x = (k : Int) := by
  unfold edgL
  rw [colE_mem]
  constructor
  · rintro ⟨k, f, _, h⟩; exact ⟨k, f, h⟩
  · rintro ⟨k, f, h1, h2⟩; exact ⟨k, f, (List.getElem?_eq_some_iff.1 h1).1, h1, h2⟩
def toN (fs : List Tr) (k : Int) : Int := (fs.getD k.toNat (0, 0, 0)).2.1
/-- The nodes behind a. -/
def nxL (fs : List Tr) (a : Int) : List Int := (edgL (edFrom a) fs).map (toN fs)
theorem nxL_mem {fs : List Tr} {a x : Int} : x ∈ nxL fs a ↔ ∃ f ∈ fs, f.1 = a ∧ f.2.1 = x := by
  unfold nxL
  rw [List.mem_map]
  constructor
  · rintro ⟨k, hk, rfl⟩
    obtain ⟨j, f, h1, h2, rfl⟩ := edgL_mem.1 hk
    refine ⟨f, List.mem_of_getElem? h1, by simpa [edFrom] using h2, ?_⟩
    unfold toN
    simp [List.getD, h1]
  · rintro ⟨f, hf, h1, rfl⟩
    obtain ⟨k, hk⟩ := List.mem_iff_getElem?.1 hf
    refine ⟨(k : Int), edgL_mem.2 ⟨k, f, hk, by simp [edFrom, h1], rfl⟩, ?_⟩
    unfold toN
    simp [List.getD, hk]
theorem nxL_iff {s a : Nat} {fs : List Tr} (h : InG s fs) (b : Nat) : b ∈ (nxL fs (a : Int)).map Int.toNat ↔ (a, b) ∈ prs fs := by
  unfold prs
  rw [List.mem_map, List.mem_map]
  constructor
  · rintro ⟨x, hx, rfl⟩
    obtain ⟨f, hf, h1, h2⟩ := nxL_mem.1 hx
    exact ⟨f, hf, by rw [h1, h2]; simp⟩
  · rintro ⟨f, hf, he⟩
    have hb := h f hf
    injection he with e1 e2
    exact ⟨f.2.1, nxL_mem.2 ⟨f, hf, by omega, rfl⟩, e2⟩
theorem nxL_in {s : Nat} {a : Int} {fs : List Tr} (h : InG s fs) : ∀ x ∈ nxL fs a, 0 ≤ x ∧ x < (s : Int) := fun x hx => by
  obtain ⟨f, hf, _, rfl⟩ := nxL_mem.1 hx
  exact (h f hf).2
/-- What the reference sees behind a. -/
theorem seenB {s a : Nat} {fs : List Tr} (h : InG s fs) (x : Nat) : at_ (sweeps (prs fs) s (markL s ((nxL fs (a : Int)).map Int.toNat))) x = true ↔ Rch (prs fs) a x :=
  seen_iff (prs_lt h) (nxL_iff h) x
theorem acy_yes {n : Nat} {fs : List Tr} (hg : graphB (n : Int) fs = true) (h : InG n fs) (hc : ∀ a, a < n → ¬ Rch (prs fs) a a) : acyB (n : Int) fs = true := by
  unfold acyB
  rw [hg, Int.toNat_natCast, (topo_iff (prs_lt h)).2 (fun a ha => hc a (Rch.from (prs_lt h) ha).1 ha)]
  rfl
theorem acy_no {n : Nat} {fs : List Tr} (h : InG n fs) {a : Nat} (hc : Rch (prs fs) a a) : acyB (n : Int) fs = false := by
  unfold acyB
  rw [Int.toNat_natCast]
  cases ht : (topo n (prs fs) n []).isSome
  · simp
  · exact absurd hc ((topo_iff (prs_lt h)).1 ht a)
theorem acy_bad {s : Int} {fs : List Tr} (hg : graphB s fs = false) : acyB s fs = false := by unfold acyB; rw [hg]; rfl
theorem take_map_snoc {fs : List Tr} {L : List Int} {j : Nat} {x : Int} (h : L[j]? = some x) : (L.map (toN fs)).take (j + 1) = (L.map (toN fs)).take j ++ [toN fs x] := by
  rw [List.take_add_one, List.getElem?_map, h]; rfl
set_option maxHeartbeats 4000000 in
theorem acyS (s : Int) (v : Value) (fs : List Tr) (w : World) (hv : RT w v fs) :
    Calls Try.prog 44 #[.agg #[.int .i64 s, v]] w fun e w' => e = .returned (.bool (acyB s fs)) ∧ Bel w w' := by
  obtain ⟨A, c, rfl, _, _, hA⟩ := id hv
  have X0 := Blk.new w 73 #[.int .i64 s, .slice A fs.length c]
  have Y0 : Bel w (w.alloc (.cells #[.int .i64 s, .slice A fs.length c] 73)) := (Bel.refl _).alloc _
  obtain ⟨cx, _, zx⟩ := X0.facts
  go_enter Try.func44, Try.ntmps44
  go_wp2_with fail
  refine (graphS s _ fs _ (hv.keep Y0)).mono ?_
  rintro e w1 ⟨rfl, hb1⟩
  have X1 := hb1.keep X0
  have Y1 := Y0.trans hb1
  clear cx zx X0 Y0 hb1
  cases hg : graphB s fs
  · have HF := Lib.hid (acy_bad hg)
    go_wp2
    go_ret
    exact ⟨by rw [HF.out]; rfl, Y1⟩
  obtain ⟨n, rfl, hn1, hn8, hin, hf20⟩ := graph_in hg
  have HG := Lib.hid hg
  have HI := Lib.hid hin
  clear hg hin
  go_wp2
  go_loopg [3] n (fun f i wr => ∃ k : Nat, k + f = n ∧ i = .int .i64 k ∧ Blk wr w.heap.size 73 #[.int .i64 (n : Int), .slice A fs.length c] ∧ Bel w wr ∧ Hid (∀ a, a < k → ¬ Rch (prs fs) a a))
  case atStart => exact ⟨0, by omega, rfl, X1, Y1, Lib.hid (fun a ha => absurd ha (by omega))⟩
  case round =>
    clear X1 Y1
    obtain ⟨k, hk, rfl, X, Y, HC⟩ := hrel
    have hk2 : k ≤ n := by omega
    have HK := Lib.hid hk
    clear hk
    obtain ⟨cx, _, zx⟩ := X.facts
    by_cases hlt : k < n
    · have i1 : (k : Int) < (n : Int) := by omega
      have i0 : (0 : Int) ≤ (k : Int) := by omega
      obtain ⟨wi, hwi⟩ : ∃ x, x = wr := ⟨_, rfl⟩
      subst hwi
      have O0 := OI.empty wi
      have Yi : Bel wi (wi.alloc (.cells #[] 3)) := (Bel.refl _).alloc _
      have X2 := X.alloc (.cells #[] 3)
      obtain ⟨cx2, _, zx2⟩ := X2.facts
      go_wp2_with fail
      refine (edFromS (n : Int) (k : Int) _ fs _ (hv.keep (Y.trans Yi)) (by omega)).mono ?_
      rintro e w3 ⟨r, rfl, O3, hb3⟩
      have X3 := hb3.keep X2
      have Y3 := Yi.trans hb3
      have N3 := O0.keep hb3
      have z3 : wi.heap.size + 1 ≤ w3.heap.size := hb3.sz1
      have hLl := edgL_len (edFrom (k : Int)) fs
      have hLm : Hid (∀ x ∈ edgL (edFrom (k : Int)) fs, ∃ (j : Nat) (f : Tr), fs[j]? = some f ∧ edFrom (k : Int) f = true ∧ x = (j : Int)) := Lib.hid (fun x hx => edgL_mem.1 hx)
      have HNX : Hid (nxL fs (k : Int) = (edgL (edFrom (k : Int)) fs).map (toN fs)) := rfl
      have hnl : (nxL fs (k : Int)).length = (edgL (edFrom (k : Int)) fs).length := List.length_map _
      have HNL := Lib.hid hnl
      generalize edgL (edFrom (k : Int)) fs = L at *
      clear hnl cx zx cx2 zx2 X2
      have N3' : OI w3 wi.heap.size (.slice (some ⟨wi.heap.size, 0, none⟩) 0 0) ((L.map (toN fs)).take 0) := N3
      obtain ⟨B, d, er, _, _, _⟩ := O3.reads
      subst er
      clear N3
      go_wp2
      have HLT := Lib.hid hlt
      have oL : ∀ q, (Value.slice B L.length d).ownBlock = some q → wi.heap.size + 1 ≤ q ∧ q < w3.heap.size := fun q hq => by have h9 := O3.block q hq; rw [World.size_alloc] at h9; exact h9
      have HOL := Lib.hid oL
      clear oL
      go_loopg [4, 6] L.length (fun f o i wr => ∃ j : Nat, j + f = L.length ∧ i = .int .i64 j ∧ Blk wr w.heap.size 73 #[.int .i64 (n : Int), .slice A fs.length c] ∧ OI wr wi.heap.size o ((L.map (toN fs)).take j) ∧ (∀ q, o.ownBlock = some q → q < wi.heap.size + 1 ∨ w3.heap.size ≤ q) ∧ Bel wi wr ∧ OI wr (wi.heap.size + 1) (.slice B L.length d) L ∧ w3.heap.size ≤ wr.heap.size)
      case atStart => exact ⟨0, by omega, rfl, X3, N3', fun q hq => (by simp [Value.ownBlock] at hq; omega), Y3, O3.low (by simp), Nat.le_refl _⟩
      case round =>
        clear N3' X3 Y3 O3 hb3
        obtain ⟨j, hj, rfl, X4, O4, hne, Y4, L4, hz4⟩ := hrel
        have hj2 : j ≤ L.length := by omega
        have HJ := Lib.hid hj
        have HNE := Lib.hid hne
        clear hj hne
        obtain ⟨cx, _, zx⟩ := X4.facts
        have rx : wr.cell? ⟨w.heap.size, 1, none⟩ = some (.slice A fs.length c) := cx 1
        by_cases hlt2 : j < L.length
        · obtain ⟨B', d', eB, _, _, hB⟩ := L4.reads
          injection eB with eB1 eB2 eB3
          subst eB1
          subst eB3
          obtain ⟨b2, o2, rfl, z2, hc2⟩ := hB (by omega)
          have hx : Hid (L[j]? = some (L[j]'hlt2)) := List.getElem?_eq_getElem hlt2
          have g2 := hc2 j _ hx.out
          obtain ⟨q, f, hq, hfr, hxq⟩ := hLm.out _ (List.getElem_mem hlt2)
          have hql := (List.getElem?_eq_some_iff.1 hq).1
          have HT : Hid ((L.map (toN fs)).take (j + 1) = (L.map (toN fs)).take j ++ [f.2.1]) := Lib.hid (by
            rw [take_map_snoc hx.out]
            have : toN fs (L[j]'hlt2) = f.2.1 := by rw [hxq]; unfold toN; simp [List.getD, hq]
            rw [this])
          rw [hxq] at g2
          obtain ⟨b1, o1, rfl, z1, hc1⟩ := hA (by omega)
          obtain ⟨_, g1, _⟩ := hc1 q _ hq
          replace g1 := (Y.trans Y4).cell1 z1 g1
          obtain ⟨x, y, z⟩ := f
          dsimp only at *
          have j0 : (0 : Int) ≤ (j : Int) := by omega
          have j1 : (j : Int) < (L.length : Int) := by omega
          have j2 : (0 : Int) ≤ (q : Int) := by omega
          have j3 : (q : Int) < (fs.length : Int) := by omega
          have hlen : ((L.map (toN fs)).take j).length ≤ 20 := by rw [List.length_take, List.length_map]; omega
          generalize (L.map (toN fs)).take j = LT at *
          clear hB hc2 hc1 hx hxq hfr hq cx eB2
          go_wp2
          go_region_law (first
            | (refine step_appJ _ (by rfl) _ _ (by rfl) wi.heap.size _ _ LT [y] (by rfl) (by rfl) (by first | exact O4.keep (((Bel.refl _).drew).alloc _) | exact O4.keep (((Bel.refl _).alloc _).drew)) (by first | exact RI.lit1 _ _ _ | exact (RI.lit1 wr _ _).keep ((Bel.refl _).drew)) (by simp only [List.length_cons, List.length_nil]; omega) (by first | exact Nat.le_trans Y4.size (((Bel.refl wr).drew).alloc _).size | exact Nat.le_trans Y4.size (((Bel.refl wr).alloc _).drew).size) ?_; intro v2 w5 O5 hG ho5))
          all_goals (
            have hWB : ∃ W, Bel wr W ∧ W.grownBy w5 u4.ownBlock ∧ (v2.ownBlock = u4.ownBlock ∨ v2.ownBlock = some W.heap.size) := by
              first
                | exact ⟨_, ((Bel.refl wr).drew).alloc _, hG, ho5⟩
                | exact ⟨_, ((Bel.refl wr).alloc _).drew, hG, ho5⟩
            clear hG ho5
            obtain ⟨W, hWB, hG, ho5⟩ := hWB
            have X5 := (hWB.keep X4).grown hG (fun e => by have := (O4.block _ e).1; have := X.lt; omega)
            have Y5 : Bel wi w5 := (Y4.trans hWB).grown hG (fun r hr => (O4.block r hr).1)
            have L5 := (L4.keep hWB).far hG (.inr (fun e => by
              cases h8 : u4.ownBlock with
              | none => rw [h8] at e; simp [Value.ownBlock] at e
              | some r =>
                have h9 := HNE.out r h8
                rw [h8] at e
                have h10 := HOL.out r e
                omega))
            have hz5 : w3.heap.size ≤ w5.heap.size := Nat.le_trans (Nat.le_trans hz4 hWB.size) hG.size
            have hne5 : ∀ q, v2.ownBlock = some q → q < wi.heap.size + 1 ∨ w3.heap.size ≤ q := fun r hr => by
              rcases ho5 with h | h
              · rw [h] at hr; exact HNE.out r hr
              · rw [h] at hr
                have h7 : W.heap.size = r := by injection hr
                have := hWB.size
                omega
            clear hG ho5 rx hWB
            go_wp2
            go_roundg (L.length - (j + 1))
            case measure => have := HJ.out; omega
            case rel => exact ⟨j + 1, by omega, by go_num, X5, by rw [HT.out]; exact O5, hne5, Y5, L5, hz5⟩)
        · have hje : j = L.length := by omega
          have j1 : ¬ (j : Int) < (L.length : Int) := by omega
          have O6 : OI wr wi.heap.size u4 (nxL fs (k : Int)) := by
            rw [HNX.out]
            rw [hje, List.take_of_length_le (by simp)] at O4
            exact O4
          obtain ⟨A6, c6, e6, _, _, _⟩ := O6.reads
          subst e6
          clear O4 L4 hje
          go_wp2_with fail
          refine (reachS n _ _ fs (nxL fs (k : Int)) _ (hv.keep (Y.trans Y4)) O6.reads hn8 HI.out (nxL_in HI.out)).mono ?_
          rintro e w7 ⟨g, rfl, G7, hb7⟩
          have X7 := hb7.keep X4
          have Y7 := (Y.trans Y4).trans hb7
          have hsl : (sweeps (prs fs) n (markL n ((nxL fs (k : Int)).map Int.toNat))).length = n := (sweeps_len _ _ _).trans (markL_len _ _)
          have r7 := (G7.facts.1 k).trans (bArr_at (by rw [hsl]; exact HLT.out))
          have hsn := seenB (a := k) HI.out k
          have k0 : k < n := HLT.out
          clear hsl G7
          cases hb : at_ (sweeps (prs fs) n (markL n ((nxL fs (k : Int)).map Int.toNat))) k
          · rw [hb] at r7 hsn
            have HC7 : Hid (∀ a, a < k + 1 → ¬ Rch (prs fs) a a) := Lib.hid (fun a ha hr => by
              rcases Nat.lt_or_ge a k with h | h
              · exact HC.out a h hr
              · obtain rfl : a = k := by omega
                exact Bool.noConfusion (hsn.2 hr))
            clear hsn hb cx zx
            go_wp2
            go_roundg (n - (k + 1))
            case measure => have := HK.out; omega
            case rel => exact ⟨k + 1, by omega, by go_num, X7, Y7, HC7⟩
          · rw [hb] at r7 hsn
            have HF : Hid (acyB (n : Int) fs = false) := Lib.hid (acy_no HI.out (hsn.1 rfl))
            clear hsn hb cx zx
            go_wp2
            go_ret
            exact ⟨by rw [HF.out]; rfl, Y7⟩
    · have hke : k = n := by omega
      subst hke
      have i1 : ¬ (k : Int) < (k : Int) := by omega
      have HF : Hid (acyB (k : Int) fs = true) := Lib.hid (acy_yes HG.out HI.out (fun a ha => HC.out a ha))
      go_wp2
      go_ret
      exact ⟨by rw [HF.out]; rfl, Y⟩
end Go.Proofs.Ytjlcnbicehjjjaa
