/-
  The program's insert of a vector into a basis, in place: its contract. Conditions: a reduced basis of width c at most 40, whose rows are its own; a valid vector of that width.
-/
import Derived.Test.YtjaagabbbnokdaaBas1
import Derived.Test.YtjaagabbbnokdaaIns2
namespace Go.Proofs.Ytjaagabbbnokdaa
open Go.ChangeShapes Go.WideShapes Go.ChangeAt Go.RowKit
set_option linter.unusedVariables false
set_option maxRecDepth 100000

theorem clrAll_lead {c : Nat} {b : List (List Int)} {P : Nat → Nat} (h : Red c b P) {xs : List Int} (hv : Row c xs) (hi : innB b xs = true) : ∀ i, i < b.length → lead (rw_ (clrAll b (unitZ (reduceZ b xs)) (lead (reduceZ b xs))) i) = P i := by
  unfold innB at hi
  rw [decide_eq_true_eq] at hi
  have hw := reduce_row h hv
  have hz := reduce_piv h hv
  generalize reduceZ b xs = w at *
  have ru : Row c (unitZ w) := row_scale _ hw
  have u0 : ∀ l, ent w l = 0 → ent (unitZ w) l = 0 := by intro l hl; unfold unitZ; rw [ent_scaleZ, hl]; simp
  have lb := fun l => lead_before (r := w) (k := l)
  intro i hi2
  rw [clrAll_row hi2]
  refine lead_eq ?_ fun l hl => ?_
  · rw [clr1_j (mtx_row h.mtx hi2) ru (u0 _ (hz i hi2)), h.one i hi2]; decide
  · rcases Nat.lt_or_ge l (lead w) with h1 | h1
    · rw [clr1_j (mtx_row h.mtx hi2) ru (u0 _ (lb l h1))]; exact h.lead i hi2 l hl
    · rw [clr1_0 (h.lead i hi2 (lead w) (by omega))]; exact h.lead i hi2 l hl
/-- The first k rows are cleared. -/
def clrK (m : List (List Int)) (u : List Int) (p k : Nat) : List (List Int) := m.mapIdx fun i r => if i < k then clr1 r u p else r
theorem clrK_len (m : List (List Int)) (u : List Int) (p k : Nat) : (clrK m u p k).length = m.length := by simp [clrK]
theorem clrK_row {m : List (List Int)} {u : List Int} {p k i : Nat} (h : i < m.length) : rw_ (clrK m u p k) i = if i < k then clr1 (rw_ m i) u p else rw_ m i := by
  apply rw_in; simp [clrK, List.getElem?_mapIdx, rw_get h]
theorem clrK_zero (m : List (List Int)) (u : List Int) (p : Nat) : clrK m u p 0 = m := by
  apply mat_ext (clrK_len _ _ _ _)
  intro i hi
  rw [clrK_len] at hi
  rw [clrK_row hi, if_neg (by omega)]
theorem clrK_all (m : List (List Int)) (u : List Int) (p : Nat) : clrK m u p m.length = clrAll m u p := by
  apply mat_ext (by rw [clrK_len, clrAll_len])
  intro i hi
  rw [clrK_len] at hi
  rw [clrK_row hi, if_pos hi, clrAll_row hi]
theorem clrK_step {m : List (List Int)} {u : List Int} {p k : Nat} (hk : k < m.length) : clrK m u p (k + 1) = (clrK m u p k).set k (clr1 (rw_ m k) u p) := by
  apply mat_ext (by rw [List.length_set, clrK_len, clrK_len])
  intro i hi
  rw [clrK_len] at hi
  rw [clrK_row hi]
  by_cases e : i = k
  · subst e
    rw [if_pos (by omega)]
    symm
    apply rw_in; rw [List.getElem?_set_self (by rw [clrK_len]; exact hi)]
  · have : rw_ ((clrK m u p k).set k (clr1 (rw_ m k) u p)) i = rw_ (clrK m u p k) i := by
      unfold rw_ List.getD; rw [List.getElem?_set_ne (Ne.symm e)]
    rw [this, clrK_row hi]
    rcases Nat.lt_trichotomy i k with h1 | h1 | h1
    · rw [if_pos (by omega), if_pos h1]
    · omega
    · rw [if_neg (by omega), if_neg (by omega)]
theorem clrK_same {m : List (List Int)} {u : List Int} {p k : Nat} (h : ent (rw_ m k) p = 0) : clrK m u p (k + 1) = clrK m u p k := by
  apply mat_ext (by rw [clrK_len, clrK_len])
  intro i hi
  rw [clrK_len] at hi
  rw [clrK_row hi, clrK_row hi]
  rcases Nat.lt_trichotomy i k with h1 | h1 | h1
  · rw [if_pos (by omega), if_pos h1]
  · subst h1
    rw [if_pos (show i < i + 1 by omega), if_neg (show ¬ i < i by omega)]
    exact clr1_0 h
  · rw [if_neg (by omega), if_neg (by omega)]
theorem insB_no {b : List (List Int)} {v : List Int} (h : innB b v = false) : insB b v = b := by unfold insB; rw [h]; rfl
theorem insB_yes {b : List (List Int)} {v : List Int} (h : innB b v = true) : insB b v = insZ b v := by unfold insB; rw [h]; rfl
theorem Mid.store {lo hi g i : Nat} {w : World} (z : Value) (hg : lo ≤ g ∧ g < hi) : Mid lo hi w (w.setCell ⟨g, i, none⟩ z) :=
  ⟨rfl, rfl, rfl, by simp [World.setCell], fun k hk ho => Below.heap_setCell w ⟨g, i, none⟩ z k (by dsimp only; omega)⟩

set_option maxHeartbeats 1600000 in
theorem insertI (d : Int) (v u : Value) (m : List (List Int)) (xs : List Int) (c pb lo hi : Nat) (P : Nat → Nat) (w : World) (hB : Blk w pb 39 #[.int .i64 d, v]) (hv : OII w lo hi v m) (hlo : lo ≤ hi) (hhi : hi ≤ w.heap.size) (hpb : pb < lo) (hu : RI w u xs) (hR : Red c m P) (hx : Row c xs) (hc : c ≤ 40) (hm : m.length ≤ 1048575) :
    Calls Try.prog 55 #[.pointer (some ⟨pb, 0, none⟩), u] w fun e w' => ∃ v', e = .returned (.bool (innB m xs)) ∧ Blk w' pb 39 #[.int .i64 d, v'] ∧ OM w' lo v' (insB m xs) ∧ Mid pb hi w w' := by
  have HR := Lib.hid hR
  have HX := Lib.hid hx
  have HZR := Lib.hid (reduce_row hR hx)
  have HIN : Hid (innB m xs = decide (lead (reduceZ m xs) < (reduceZ m xs).length)) := rfl
  have HNO : Hid (innB m xs = false → insB m xs = m) := Lib.hid insB_no
  have HYES : Hid (innB m xs = true → insB m xs = insZ m xs) := Lib.hid insB_yes
  have HCL : Hid (innB m xs = true → ∀ i, i < m.length → lead (rw_ (clrAll m (unitZ (reduceZ m xs)) (lead (reduceZ m xs))) i) = P i) := Lib.hid (clrAll_lead hR hx)
  have HIZ : Hid (insZ m xs = putZ (clrAll m (unitZ (reduceZ m xs)) (lead (reduceZ m xs))) (atS (clrAll m (unitZ (reduceZ m xs)) (lead (reduceZ m xs))) (lead (reduceZ m xs)) m.length) (unitZ (reduceZ m xs))) := rfl
  have HRD := Lib.hid (fun (W : World) (h : Bel w W) => reduceI d v u m xs c P W (hv.reads.keep h) (hu.keep h) hR hx hc)
  clear hR hx
  obtain ⟨A, cp, ev, k1, k2, _⟩ := hv.reads
  subst ev
  obtain ⟨cb, fb, zb⟩ := hB.facts
  go_enter Try.func55, Try.ntmps55
  go_wp2_with fail
  refine (HRD.out _ (Bel.refl _)).mono ?_
  rintro e w1 ⟨r, rfl, O1, hb1⟩
  have B1 := hb1.keep hB
  have V1 := hv.keep hhi hb1
  have s1 := hb1.size
  obtain ⟨z, hz⟩ : ∃ z, z = reduceZ m xs := ⟨_, rfl⟩
  rw [← hz] at O1 HZR HIN HCL HIZ
  clear hz HRD cb fb zb
  obtain ⟨Ar, cr, er, r1, r2, hr1⟩ := O1.reads
  subst er
  go_wp2_with fail
  refine (leadI _ z _ O1.reads).mono ?_
  rintro e w1' ⟨rfl, rfl⟩
  by_cases hin : lead z < z.length
  · have HI : Hid (innB m xs = true) := Lib.hid (by rw [HIN.out]; exact decide_eq_true hin)
    rw [leadV_yes hin]
    have hld : decide ((lead z : Int) < 0) = false := decide_eq_false (by omega)
    obtain ⟨bz, oz, rfl, _, hcz⟩ := hr1 (by omega)
    have gz := hcz _ _ (ent_get hin)
    have HBZ := Lib.hid (ent_bd HZR.out (lead z))
    have HNZ := Lib.hid (lead_hit hin)
    have zl : z.length = c := HZR.out.1
    have p0 : (0 : Int) ≤ (lead z : Int) := by omega
    have p1 : (lead z : Int) < (z.length : Int) := by omega
    have hpc : lead z < c := by omega
    have HUZ : Hid (unitZ z = scaleZ z (invZ (ent z (lead z)))) := rfl
    have RZ := Lib.hid O1.reads
    have HVZ := Lib.hid (row_vecB HZR.out hc)
    have HUR : Hid (Row c (unitZ z)) := Lib.hid (row_scale _ HZR.out)
    obtain ⟨p, hp⟩ : ∃ p, p = lead z := ⟨_, rfl⟩
    obtain ⟨x, hxx⟩ : ∃ x, x = ent z (lead z) := ⟨_, rfl⟩
    rw [← hp] at gz p0 p1 hpc HCL HIZ hld ⊢
    rw [hp, ← hxx] at gz
    rw [← hp] at gz
    rw [← hxx] at HBZ HUZ HNZ
    clear hcz hr1 hin hxx zl hp
    go_wp2_with fail
    refine (invI x _ (elB_yes HBZ.out)).mono ?_
    rintro e w1' ⟨rfl, rfl⟩
    go_wp2_with fail
    refine (scaleI _ (invZ x) z _ RZ.out HVZ.out (elB_yes (invZ_bd x))).mono ?_
    rintro e w2 ⟨r5, rfl, O2, hb2⟩
    rw [← HUZ.out] at O2
    have B2 := hb2.keep B1
    have V2 := OII.keep V1 (Nat.le_trans hhi s1) hb2
    have s2 := hb2.size
    have Y2 := hb1.trans hb2
    obtain ⟨uz, huz⟩ : ∃ uz, uz = unitZ z := ⟨_, rfl⟩
    rw [← huz] at O2 HCL HIZ HUR
    clear huz HUZ RZ HVZ gz V1 O1
    obtain ⟨A5, c5, e5, _, _, _⟩ := O2.reads
    subst e5
    have O2' : OI w2 hi (.slice A5 uz.length c5) uz := O2.low (by omega)
    have V2' : OII w2 lo hi (.slice A m.length cp) (clrK m uz p 0) := by rw [clrK_zero]; exact V2
    have M2 : Mid pb hi w w2 := Mid.ofBel Y2
    obtain ⟨cb, fb, zb⟩ := B2.facts
    clear O2 V2
    go_wp2
    clear cb fb
    go_loopg [7, 32] m.length (fun f a i wr => ∃ k : Nat, k + f = m.length ∧ i = .int .i64 k ∧ a = .int .i64 (atS (clrAll m uz p) p k : Int) ∧ Blk wr pb 39 #[.int .i64 d, .slice A m.length cp] ∧ OII wr lo hi (.slice A m.length cp) (clrK m uz p k) ∧ OI wr hi (.slice A5 uz.length c5) uz ∧ Mid pb hi w wr ∧ hi ≤ wr.heap.size)
    case atStart => exact ⟨0, by omega, rfl, rfl, B2, V2', O2', M2, by omega⟩
    case round =>
      clear B2 V2' O2' M2 B1 Y2 zb hB hv s1 s2
      obtain ⟨k, hk, rfl, rfl, B, V, O, M, hs⟩ := hrel
      have hk2 : k ≤ m.length := by omega
      have HK := Lib.hid hk
      clear hk
      have hat := atS_le (clrAll m uz p) p k
      by_cases hlt : k < m.length
      · obtain ⟨ur, g, cap, ev, q1, q2, zg, cu, Ou, hne, hup⟩ := V.upd (j := k) (by rw [clrK_len]; exact hlt)
        injection ev with e1 e2 e3
        subst e1 e3
        clear e2 q1
        rw [clrK_row hlt, if_neg (by omega)] at Ou
        have HUP := Lib.hid hup
        have rowk := mtx_row HR.out.mtx hlt
        have HRK := Lib.hid rowk
        have hrl : (rw_ m k).length = c := rowk.1
        have HST := Lib.hid (clrK_step (u := uz) (p := p) hlt)
        obtain ⟨gr, capr, er, t1, t2, t3, t4, t6, t5⟩ := Ou.1.cells (by omega)
        subst er
        have cx := t5 _ _ (ent_get (show p < (rw_ m k).length by omega))
        have HBX := Lib.hid (ent_bd rowk p)
        have HOU := Lib.hid Ou
        have HLD := Lib.hid (HCL.out HI.out k hlt)
        have hlow : P k < c := HR.out.low k hlt
        have RX : Hid (RIx wr 0 (some gr) (.slice A5 uz.length c5) uz) := Lib.hid ((O.low (Nat.zero_le _)).rx (fun q hq e => by injection e with e; have h8 := (O.block q hq).1; have h9 := Ou.2 gr rfl; omega))
        have HRW : Hid (rw_ (clrAll m uz p) k = clr1 (rw_ m k) uz p) := Lib.hid (clrAll_row hlt)
        have HAS : Hid (atS (clrAll m uz p) p (k + 1) = if lead (rw_ (clrAll m uz p) k) < p then k + 1 else atS (clrAll m uz p) p k) := rfl
        rw [HLD.out] at HAS
        rw [HRW.out] at HLD
        have i0 : (0 : Int) ≤ (k : Int) := by omega
        have i1 : (k : Int) < (m.length : Int) := by omega
        have p2 : (p : Int) < ((rw_ m k).length : Int) := by omega
        obtain ⟨y, hy⟩ : ∃ y, y = ent (rw_ m k) p := ⟨_, rfl⟩
        rw [← hy] at cx HBX
        have HYY := Lib.hid hy
        have HC1 : Hid (Row c (clr1 (rw_ m k) uz p)) := Lib.hid (clr1_row rowk HUR.out)
        clear t5 t6 hup rowk hy Ou t3 hrl
        cases hq : (y != 0)
        · have HN : Hid (clrK m uz p (k + 1) = clrK m uz p k) := Lib.hid (clrK_same (by rw [← HYY.out]; simpa using hq))
          have HC : Hid (clr1 (rw_ m k) uz p = rw_ m k) := Lib.hid (clr1_0 (by rw [← HYY.out]; simpa using hq))
          rw [HC.out] at HLD
          have HLV : Hid (leadV (rw_ m k) = (P k : Int)) := Lib.hid (by rw [leadV_yes (by rw [HLD.out, HRK.out.1]; exact hlow), HLD.out])
          rw [← HN.out] at V
          go_wp2_with fail
          refine (leadI _ _ _ HOU.out.reads).mono ?_
          rintro e w3 ⟨rfl, rfl⟩
          rw [HLV.out]
          by_cases hlp : P k < p
          · have hd : decide ((P k : Int) < (p : Int)) = true := decide_eq_true (by omega)
            rw [if_pos hlp] at HAS
            go_wp2
            go_roundg (m.length - (k + 1))
            case measure => have := HK.out; omega
            case rel => exact ⟨k + 1, by omega, by go_num, by rw [HAS.out]; go_num, B, V, O, M, hs⟩
          · have hd : decide ((P k : Int) < (p : Int)) = false := decide_eq_false (by omega)
            rw [if_neg hlp] at HAS
            go_wp2
            go_roundg (m.length - (k + 1))
            case measure => have := HK.out; omega
            case rel => exact ⟨k + 1, by omega, by go_num, by rw [HAS.out], B, V, O, M, hs⟩
        · obtain ⟨y0, y1⟩ := HBX.out
          have y2 : y ≠ 0 := by simpa using hq
          have HQB : Hid (0 ≤ 1019 - y ∧ 1019 - y ≤ 1018) := Lib.hid (by omega)
          have HC : Hid (clr1 (rw_ m k) uz p = addsZ (rw_ m k) uz (1019 - y)) := Lib.hid (by unfold clr1; rw [← HYY.out, hq]; rfl)
          have HLL : Hid (uz.length = (rw_ m k).length) := Lib.hid (by rw [HUR.out.1, HRK.out.1])
          clear y2
          go_wp2_with fail
          refine (addsI _ _ (1019 - y) (rw_ m k) uz lo _ HOU.out.1 RX.out HLL.out HRK.out.2 HUR.out.2 HQB.out).mono ?_
          rintro e w3 ⟨rfl, O3, G3⟩
          have V3 := HUP.out w3 _ G3 O3
          rw [← HC.out, ← HST.out] at V3
          rw [← HC.out] at O3
          have M3 := M.trans (Mid.ofGrown (lo := pb) (hi := hi) G3 (fun q hq => by have := (HOU.out.1.block q hq).1; have := HOU.out.2 q hq; omega))
          have B3 := B.mid (Mid.ofGrown (lo := lo) (hi := hi) G3 (fun q hq => ⟨(HOU.out.1.block q hq).1, HOU.out.2 q hq⟩)) (.inl hpb)
          have O3' := O.far G3 (by
            cases hy : (Value.slice A5 uz.length c5).ownBlock with
            | none => exact .inl rfl
            | some q => exact .inr (fun e => by have h8 := (O.block q hy).1; have h9 := HOU.out.2 q e.symm; omega))
          have hs3 := Nat.le_trans hs G3.size
          have HLV : Hid (leadV (clr1 (rw_ m k) uz p) = (P k : Int)) := Lib.hid (by rw [leadV_yes (by rw [HLD.out, HC1.out.1]; exact hlow), HLD.out])
          clear G3 cu cx V O M B
          go_wp2_with fail
          refine (leadI _ _ _ O3.reads).mono ?_
          rintro e w4 ⟨rfl, rfl⟩
          rw [HLV.out]
          by_cases hlp : P k < p
          · have hd : decide ((P k : Int) < (p : Int)) = true := decide_eq_true (by omega)
            rw [if_pos hlp] at HAS
            go_wp2
            go_roundg (m.length - (k + 1))
            case measure => have := HK.out; omega
            case rel => exact ⟨k + 1, by omega, by go_num, by rw [HAS.out]; go_num, B3, V3, O3', M3, hs3⟩
          · have hd : decide ((P k : Int) < (p : Int)) = false := decide_eq_false (by omega)
            rw [if_neg hlp] at HAS
            go_wp2
            go_roundg (m.length - (k + 1))
            case measure => have := HK.out; omega
            case rel => exact ⟨k + 1, by omega, by go_num, by rw [HAS.out], B3, V3, O3', M3, hs3⟩
      · obtain rfl : k = m.length := by omega
        have i1 : ¬ (m.length : Int) < (m.length : Int) := by omega
        have HCA : Hid (clrK m uz p m.length = clrAll m uz p) := Lib.hid (clrK_all m uz p)
        rw [HCA.out] at V
        have HLA : Hid ((clrAll m uz p).length = m.length) := Lib.hid (clrAll_len m uz p)
        have Ba := B.alloc (.cells #[.slice A5 uz.length c5] 59)
        have Va := V.keep hs ((Bel.refl wr).alloc (.cells #[.slice A5 uz.length c5] 59))
        have Oa := O.keep ((Bel.refl wr).alloc (.cells #[.slice A5 uz.length c5] 59))
        have Na := Blk.new wr 59 #[.slice A5 uz.length c5]
        have Ma := M.trans (Mid.ofBel (lo := pb) (hi := hi) ((Bel.refl wr).alloc (.cells #[.slice A5 uz.length c5] 59)))
        obtain ⟨cb, fb, zb⟩ := B.facts
        obtain ⟨a, ha⟩ : ∃ a, a = atS (clrAll m uz p) p m.length := ⟨_, rfl⟩
        rw [← ha] at HIZ hat ⊢
        clear ha
        go_wp2_with fail
        refine (insM _ (.slice A5 uz.length c5) a wr.heap.size (clrAll m uz p) uz lo hi _ Va hlo (by simp only [World.size_alloc]; omega) (by rw [HLA.out]; omega) (by rw [HLA.out]; exact hat) Na hs Oa).mono ?_
        rintro e w6 ⟨r6, rfl, O6, G6⟩
        rw [← HIZ.out, ← HYES.out HI.out] at O6
        have M6 := Ma.trans (Mid.ofGrown (lo := pb) (hi := hi) G6 (fun q hq => by have := V.block q hq; omega))
        have B6 := Ba.mid (Mid.ofGrown (lo := lo) (hi := hi) G6 (fun q hq => V.block q hq)) (.inl hpb)
        obtain ⟨A6, c6, e6, _, _, _⟩ := O6.reads
        subst e6
        clear cb fb zb
        obtain ⟨cb, fb, zb⟩ := B6.facts
        have O7 := OM.setFar O6 (p := ⟨pb, 1, none⟩) hpb (.slice A6 (insB m xs).length c6)
        have B7 : Blk (w6.setCell ⟨pb, 1, none⟩ (.slice A6 (insB m xs).length c6)) pb 39 #[.int .i64 d, .slice A6 (insB m xs).length c6] := B6.set 1 (.slice A6 (insB m xs).length c6)
        have M7 := M6.trans (Mid.store (lo := pb) (hi := hi) (i := 1) (.slice A6 (insB m xs).length c6) ⟨Nat.le_refl pb, by omega⟩)
        clear G6 Va Oa Na Ma
        go_wp2
        go_ret
        exact ⟨_, by rw [HI.out]; rfl, B7, O7, M7⟩
  · have HI : Hid (innB m xs = false) := Lib.hid (by rw [HIN.out]; exact decide_eq_false hin)
    rw [leadV_no hin]
    have V1' : OM w1 lo (.slice A m.length cp) m := V1.wide (Nat.le_refl _) (Nat.le_trans hhi s1)
    go_wp2
    go_ret
    exact ⟨_, by rw [HI.out]; rfl, B1, by rw [HNO.out HI.out]; exact V1', Mid.ofBel hb1⟩
end Go.Proofs.Ytjaagabbbnokdaa
