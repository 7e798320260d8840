/-
  The elimination of the reference (l7Reduce), RowReduce, Rank, IsReduced: contracts. Condition: a valid matrix, of at most 2^20 rows.
-/
import Derived.Test.YtjaagabbbnokdaaMx3
import Derived.Deep.RegionHeld3
import Derived.Deep.RegionWith
namespace Go.Proofs.Ytjaagabbbnokdaa
open Go.ChangeShapes Go.WideShapes Go.ChangeAt Go.RowKit
set_option linter.unusedVariables false
set_option maxRecDepth 100000

/-- The first j rows are cleared. -/
def clrTo (S : List (List Int)) (t k j : Nat) : List (List Int) := S.mapIdx fun i r => if i < j then (if i = t then r else clr1 r (rw_ S t) k) else r
theorem clrTo_len (S : List (List Int)) (t k j : Nat) : (clrTo S t k j).length = S.length := by simp [clrTo]
theorem clrTo_row {S : List (List Int)} {t k j i : Nat} (h : i < S.length) : rw_ (clrTo S t k j) i = if i < j then (if i = t then rw_ S i else clr1 (rw_ S i) (rw_ S t) k) else rw_ S i := by
  apply rw_in; simp [clrTo, List.getElem?_mapIdx, rw_get h]
theorem clrTo_zero (S : List (List Int)) (t k : Nat) : clrTo S t k 0 = S := by
  apply mat_ext (clrTo_len _ _ _ _)
  intro i hi
  rw [clrTo_len] at hi
  rw [clrTo_row hi, if_neg (by omega)]
theorem clrTo_all (S : List (List Int)) (t k : Nat) : clrTo S t k S.length = clr S t k := by
  apply mat_ext (by rw [clrTo_len, clr_len])
  intro i hi
  rw [clrTo_len] at hi
  rw [clrTo_row hi, if_pos hi]
  by_cases e : i = t
  · subst e; rw [if_pos rfl, clr_t]
  · rw [if_neg e, clr_o hi e]
theorem clrTo_same {S : List (List Int)} {t k j : Nat} (h : j = t ∨ ent (rw_ S j) k = 0) : clrTo S t k (j + 1) = clrTo S t k j := by
  apply mat_ext (by rw [clrTo_len, clrTo_len])
  intro i hi
  rw [clrTo_len] at hi
  rw [clrTo_row hi, clrTo_row hi]
  rcases Nat.lt_trichotomy i j with h1 | h1 | h1
  · rw [if_pos (by omega), if_pos h1]
  · subst h1
    rw [if_pos (show i < i + 1 by omega), if_neg (show ¬ i < i by omega)]
    by_cases e : i = t
    · rw [if_pos e]
    · rw [if_neg e]
      rcases h with h | h
      · exact absurd h e
      · exact clr1_0 h
  · rw [if_neg (by omega), if_neg (by omega)]
theorem clrTo_step {S : List (List Int)} {t k j : Nat} (hj : j < S.length) (hne : j ≠ t) (hx : (ent (rw_ S j) k != 0) = true) : clrTo S t k (j + 1) = (clrTo S t k j).set j (addsZ (rw_ S j) (rw_ S t) (1019 - ent (rw_ S j) k)) := by
  apply mat_ext (by rw [List.length_set, clrTo_len, clrTo_len])
  intro i hi
  rw [clrTo_len] at hi
  rw [clrTo_row hi]
  by_cases e : i = j
  · subst e
    rw [if_pos (by omega), if_neg hne]
    have : rw_ ((clrTo S t k i).set i (addsZ (rw_ S i) (rw_ S t) (1019 - ent (rw_ S i) k))) i = addsZ (rw_ S i) (rw_ S t) (1019 - ent (rw_ S i) k) := by
      apply rw_in; rw [List.getElem?_set_self (by rw [clrTo_len]; exact hi)]
    rw [this]
    unfold clr1
    rw [hx]; rfl
  · have : rw_ ((clrTo S t k j).set j (addsZ (rw_ S j) (rw_ S t) (1019 - ent (rw_ S j) k))) i = rw_ (clrTo S t k j) i := by
      unfold rw_ List.getD; rw [List.getElem?_set_ne (Ne.symm e)]
    rw [this, clrTo_row hi]
    rcases Nat.lt_trichotomy i j with h1 | h1 | h1
    · rw [if_pos (by omega), if_pos h1]
    · omega
    · rw [if_neg (by omega), if_neg (by omega)]
theorem redS_full {m : List (List Int)} {k : Nat} (h : (redS m k).2 = m.length) : ∀ j, k ≤ j → redS m j = redS m k := by
  intro j hj
  induction j with
  | zero => have : k = 0 := by omega
            subst this; rfl
  | succ j ih =>
    rcases Nat.lt_or_eq_of_le hj with h1 | h1
    · have e := ih (by omega)
      show stp (redS m j) j = _
      rw [e]
      unfold stp
      rw [if_neg]
      have := piv_ge (redS m k).1 (redS m k).2 j
      rw [redS_len]
      omega
    · rw [h1]
theorem piv_is {rows : List (List Int)} {t k q : Nat} (htq : t ≤ q) (hq : q < rows.length) (h0 : ∀ i, t ≤ i → i < q → ent (rw_ rows i) k = 0) (h : (ent (rw_ rows q) k == 0) = false) : piv rows t k = q := by
  have hne : ent (rw_ rows q) k ≠ 0 := by simpa using h
  rcases Nat.lt_trichotomy (piv rows t k) q with h1 | h1 | h1
  · exact absurd (h0 _ (piv_ge _ _ _) h1) (piv_hit (by omega))
  · exact h1
  · exact absurd (piv_before htq h1 hq) hne
theorem piv_none {rows : List (List Int)} {t k : Nat} (h0 : ∀ i, t ≤ i → i < rows.length → ent (rw_ rows i) k = 0) : ¬ piv rows t k < rows.length :=
  fun h => piv_hit h (h0 _ (piv_ge _ _ _) h)
theorem pair_rows {c : Nat} {a b : List Int} (ha : Row c a) (hb : Row c b) (hc : c ≤ 40) : pairB a b = true := by
  unfold pairB
  rw [row_vecB ha hc, row_vecB hb hc, ha.1, hb.1]
  simp
theorem redS_hit {m : List (List Int)} {k p : Nat} (h : piv (redS m k).1 (redS m k).2 k = p) (hp : p < m.length) : redS m (k + 1) = (clr (swp (redS m k).1 (redS m k).2 p k) (redS m k).2 k, (redS m k).2 + 1) := by
  show stp (redS m k) k = _
  unfold stp
  rw [h, redS_len, if_pos hp]
theorem redS_miss {m : List (List Int)} {k : Nat} (h : ¬ piv (redS m k).1 (redS m k).2 k < (redS m k).1.length) : redS m (k + 1) = redS m k := by
  show stp (redS m k) k = _
  unfold stp
  rw [if_neg h]
set_option maxHeartbeats 8000000 in
theorem elimS (v : Value) (m : List (List Int)) (c : Nat) (w : World) (hv : RII w v m) (hm : Mtx c m) (hc : c ≤ 40) (hn : m.length ≤ 1048576) :
    Calls Try.prog 138 #[v, .int .i64 (c : Int)] w fun e w' => ∃ r, e = .returned r ∧ ML w' w.heap.size r (redZ m c) ∧ Bel w w' := by
  have HM := Lib.hid hm
  clear hm
  go_enter Try.func138, Try.ntmps138
  go_wp2_with fail
  refine (copyS v m _ hv hn (fun xs hx => by have := (HM.out xs hx).1; omega)).mono ?_
  rintro e w1 ⟨r, rfl, O0, Y0⟩
  obtain ⟨A, cap, rfl, hcap, hcap2⟩ := O0.shape
  go_wp2
  go_loopg [6, 7] c (fun f a i wr => ∃ k : Nat, k + f = c ∧ i = .int .i64 k ∧ a = .int .i64 ((redS m k).2 : Int) ∧ ML wr w.heap.size (.slice A m.length cap) (redS m k).1 ∧ Bel w wr)
  case atStart => exact ⟨0, by omega, rfl, rfl, O0, Y0⟩
  case round =>
    clear O0 Y0
    obtain ⟨k, hk, rfl, rfl, O, Y⟩ := hrel
    have hk2 : k ≤ c := by omega
    have HK := Lib.hid hk
    clear hk
    have HIV := Lib.hid (redS_inv HM.out k)
    have htl : (redS m k).2 ≤ m.length := by obtain ⟨P, hP⟩ := HIV.out; have := hP.tle; rw [redS_len] at this; exact this
    have HMT : Hid (Mtx c (redS m k).1) := Lib.hid (by obtain ⟨P, hP⟩ := HIV.out; exact hP.mtx)
    have HLN := Lib.hid (redS_len m k)
    by_cases hlt : k < c ∧ (redS m k).2 < m.length
    · obtain ⟨hkc, htn⟩ := hlt
      have HRS : Hid (∀ p, piv (redS m k).1 (redS m k).2 k = p → p < m.length → redS m (k + 1) = (clr (swp (redS m k).1 (redS m k).2 p k) (redS m k).2 k, (redS m k).2 + 1)) := Lib.hid (fun p h1 h2 => redS_hit h1 h2)
      have HRM : Hid (¬ piv (redS m k).1 (redS m k).2 k < (redS m k).1.length → redS m (k + 1) = redS m k) := Lib.hid (fun h => redS_miss h)
      have HE1 : Hid ((redS m k).1 = (redS m k).1) := Lib.hid rfl
      obtain ⟨rows, hrows⟩ : ∃ x, x = (redS m k).1 := ⟨_, rfl⟩
      obtain ⟨t, ht⟩ : ∃ x, x = (redS m k).2 := ⟨_, rfl⟩
      have HR0 := Lib.hid hrows
      have HT0 := Lib.hid ht
      rw [← hrows] at O HMT HLN HRS HRM
      rw [← ht] at htl htn HRS HRM ⊢
      clear hrows ht HIV HE1
      obtain ⟨g, cap', eA, g1, g2, g3, g4, g6, g5⟩ := O.cells (by rw [HLN.out]; omega)
      injection eA with eA1 eA2 eA3
      subst eA1 eA3
      rw [HLN.out] at g5
      have HC := Lib.hid g5
      have HF6 := Lib.hid g6
      clear g3 g5 g6 eA2
      have i1 : (k : Int) < (c : Int) := by omega
      have i2 : (t : Int) < (m.length : Int) := by omega
      have i0 : (0 : Int) ≤ (k : Int) := by omega
      have i3 : (0 : Int) ≤ (t : Int) := by omega
      go_wp2
      go_loopg [8] (m.length - t) (fun f p wq => ∃ q : Nat, t ≤ q ∧ q + f = m.length ∧ p = .int .i64 q ∧ wq = wr ∧ Hid (∀ i, t ≤ i → i < q → ent (rw_ rows i) k = 0))
      case atStart => exact ⟨t, Nat.le_refl _, by omega, rfl, rfl, Lib.hid (fun i h1 h2 => by omega)⟩
      case round =>
        obtain ⟨q, hq0, hq, rfl, rfl, HQ⟩ := hrel
        have hq2 : q ≤ m.length := by omega
        have HG2 := Lib.hid hq
        clear hq
        by_cases hltq : q < m.length
        · obtain ⟨up, cq, rq⟩ := HC.out q hltq
          have rowq := mtx_row HMT.out (show q < rows.length by rw [HLN.out]; exact hltq)
          have RQ := Lib.hid rq
          obtain ⟨Aq, cq2, rfl, _, _, hq3⟩ := id rq
          obtain ⟨bq, oq, rfl, _, hbq, hnq, hcq⟩ := hq3 (by rw [rowq.1]; omega)
          have gq := hcq k _ (ent_get (by rw [rowq.1]; exact hkc))
          have HBQ := Lib.hid (ent_bd rowq k)
          have HRQ := Lib.hid rowq
          have j0 : (0 : Int) ≤ (q : Int) := by omega
          have j1 : (q : Int) < (m.length : Int) := by omega
          have j2 : (k : Int) < ((rw_ rows q).length : Int) := by rw [rowq.1]; omega
          clear hq3 hcq rowq rq
          cases hz : (ent (rw_ rows q) k == 0)
          · have HPV := Lib.hid (piv_is hq0 (show q < rows.length by rw [HLN.out]; exact hltq) HQ.out hz)
            have HNZ : Hid (ent (rw_ rows q) k ≠ 0) := Lib.hid (by simpa using hz)
            have HRS2 := Lib.hid (HRS.out q HPV.out hltq)
            have hqe : ((q : Int) == (m.length : Int)) = false := beq_eq_false_iff_ne.2 (by omega)
            obtain ⟨ut, ct, rt⟩ := HC.out t htn
            obtain ⟨At, ct2, rfl, _, _, _⟩ := id rt
            have fq := HF6.out q
            have hOS := O.store' (i := q) HLN.out (show q < rows.length by rw [HLN.out]; exact hltq) rt
            have RQ2 := Lib.hid (RIx.store (i := q) RQ.out (.slice At (rw_ rows t).length ct2))
            have gq2 : (wr.setCell ⟨g, q, none⟩ (.slice At (rw_ rows t).length ct2)).cell? ⟨bq, oq + k, none⟩ = some (.int .i64 (ent (rw_ rows q) k)) := by
              rw [← gq]
              exact World.cell?_of_block (Below.heap_setCell wr ⟨g, q, none⟩ _ bq (fun e => hnq (by rw [e])))
            have HL1 : Hid ((rows.set q (rw_ rows t)).length = m.length) := Lib.hid (by rw [List.length_set]; exact HLN.out)
            have YS : Bel w (wr.setCell ⟨g, q, none⟩ (.slice At (rw_ rows t).length ct2)) := Y.setCell g1 _
            obtain ⟨x, hx⟩ : ∃ x, x = ent (rw_ rows q) k := ⟨_, rfl⟩
            have HX := Lib.hid hx
            rw [← hx] at gq gq2 hz HBQ HNZ
            clear hx rt
            go_wp2_with fail
            refine (invS x _ (elB_yes HBQ.out) HNZ.out).mono ?_
            rintro e w2 ⟨rfl, rfl⟩
            go_wp2_with fail
            refine (scaleS _ (invZ x) (rw_ rows q) _ RQ2.out.reads (row_vecB HRQ.out hc) (elB_yes (invZ_bd x))).mono ?_
            rintro e w3 ⟨r, rfl, Ov, hb3⟩
            have O3 := hOS.keep hb3
            have Y3 := YS.trans hb3
            have hgw : g < (wr.setCell ⟨g, q, none⟩ (.slice At (rw_ rows t).length ct2)).heap.size := by simpa [World.setCell] using g2
            obtain ⟨g', cap', eB, _, g2', _, _, g6', g5'⟩ := O3.cells (by rw [HL1.out]; omega)
            injection eB with eB1 eB2 eB3
            injection eB1 with eB1
            injection eB1 with eB1
            subst eB1
            clear eB2 eB3
            obtain ⟨ut3, ct3, _⟩ := g5' t (by rw [HL1.out]; exact htn)
            have ft3 := g6' t
            have O4 := O3.store' (i := t) (u := r) (xs := scaleZ (rw_ rows q) (invZ x)) HL1.out (by rw [HL1.out]; exact htn) ((Ov.low YS.size).rx (fun p hp e => by injection e with e; have := (Ov.block p hp).1; omega))
            obtain ⟨Ar, cr, er, _, _, _⟩ := Ov.reads
            subst er
            have Y4 := Y3.setCell (p := ⟨g, t, none⟩) g1 (.slice Ar (scaleZ (rw_ rows q) (invZ x)).length cr)
            obtain ⟨S, hS⟩ : ∃ S, S = swp rows t q k := ⟨_, rfl⟩
            have O5 : ML (w3.setCell ⟨g, t, none⟩ (.slice Ar (scaleZ (rw_ rows q) (invZ x)).length cr)) w.heap.size (.slice (some ⟨g, 0, none⟩) m.length cap) (clrTo S t k 0) := by
              rw [clrTo_zero, hS]; unfold swp; rw [← HX.out]; exact O4
            have HSL : Hid (S.length = m.length) := Lib.hid (by rw [hS, swp_len]; exact HLN.out)
            have HSM : Hid (Mtx c S) := Lib.hid (by rw [hS]; exact swp_mtx HMT.out (by rw [HLN.out]; exact htn) (by rw [HLN.out]; exact hltq))
            have HRS3 : Hid (redS m (k + 1) = (clr S t k, t + 1)) := Lib.hid (by rw [hS]; exact HRS2.out)
            clear O3 O4 O hOS Y3 YS RQ2 gq gq2 cq ct hS g5' g6' g2'
            go_wp2
            clear ct3 ft3
            go_loopg [10] m.length (fun f i wz => ∃ j : Nat, j + f = m.length ∧ i = .int .i64 j ∧ ML wz w.heap.size (.slice (some ⟨g, 0, none⟩) m.length cap) (clrTo S t k j) ∧ Bel w wz)
            case atStart => exact ⟨0, by omega, rfl, O5, Y4⟩
            case round =>
              clear O5 Y4
              obtain ⟨j, hj, rfl, OJ, YJ⟩ := hrel
              have hj2 : j ≤ m.length := by omega
              have HJ := Lib.hid hj
              clear hj
              have HLJ : Hid ((clrTo S t k j).length = m.length) := Lib.hid (by rw [clrTo_len]; exact HSL.out)
              by_cases hltj : j < m.length
              · have e0 : (0 : Int) ≤ (j : Int) := by omega
                have e1 : (j : Int) < (m.length : Int) := by omega
                by_cases hjt : j = t
                · have hb : ((j : Int) != (t : Int)) = false := by simp; omega
                  have HN := Lib.hid (clrTo_same (S := S) (k := k) (Or.inl hjt))
                  rw [← HN.out] at OJ
                  clear hjt
                  go_wp2
                  go_roundg (m.length - (j + 1))
                  case measure => have := HJ.out; omega
                  case rel => exact ⟨j + 1, by omega, by go_num, OJ, YJ⟩
                · have hb : ((j : Int) != (t : Int)) = true := by simp; omega
                  have HJT := Lib.hid hjt
                  clear hjt
                  obtain ⟨g', cap', eB, _, zg, _, _, g6', g5'⟩ := OJ.cells (by rw [HLJ.out]; omega)
                  injection eB with eB1 eB2 eB3
                  injection eB1 with eB1
                  injection eB1 with eB1
                  subst eB1
                  clear eB2 eB3
                  obtain ⟨uj, cj, rj⟩ := g5' j (by rw [HLJ.out]; exact hltj)
                  obtain ⟨ut, ct, rt⟩ := g5' t (by rw [HLJ.out]; exact htn)
                  have fj := g6' j
                  rw [clrTo_row (by rw [HSL.out]; exact hltj), if_neg (by omega)] at rj
                  have et : rw_ (clrTo S t k j) t = rw_ S t := by
                    rw [clrTo_row (by rw [HSL.out]; exact htn)]
                    split
                    · rw [if_pos rfl]
                    · rfl
                  rw [et] at rt
                  have rowj := mtx_row HSM.out (show j < S.length by rw [HSL.out]; exact hltj)
                  have rowt := mtx_row HSM.out (show t < S.length by rw [HSL.out]; exact htn)
                  have HPR := Lib.hid (pair_rows rowj rowt hc)
                  have HBX := Lib.hid (ent_bd rowj k)
                  have RJ := Lib.hid rj.reads
                  have RTT := Lib.hid rt.reads
                  obtain ⟨At', ct2', rfl, _, _, _⟩ := id rt
                  obtain ⟨Aj, cj2, rfl, _, _, hj3⟩ := id rj
                  obtain ⟨bj, oj, rfl, _, hbj, hnj, hcj⟩ := hj3 (by rw [rowj.1]; omega)
                  have gj := hcj k _ (ent_get (by rw [rowj.1]; exact hkc))
                  have j2 : (k : Int) < ((rw_ S j).length : Int) := by rw [rowj.1]; omega
                  clear g5' g6' hj3 hcj rj rt et
                  obtain ⟨y, hy⟩ : ∃ y, y = ent (rw_ S j) k := ⟨_, rfl⟩
                  have HY := Lib.hid hy
                  rw [← hy] at gj HBX
                  cases hx : (y != 0)
                  · have HN := Lib.hid (clrTo_same (S := S) (t := t) (k := k) (j := j) (Or.inr (by rw [← hy]; simpa using hx)))
                    rw [← HN.out] at OJ
                    clear hy
                    go_wp2
                    go_roundg (m.length - (j + 1))
                    case measure => have := HJ.out; omega
                    case rel => exact ⟨j + 1, by omega, by go_num, OJ, YJ⟩
                  · have HN := Lib.hid (clrTo_step (S := S) (t := t) (k := k) (j := j) (by rw [HSL.out]; exact hltj) HJT.out (by rw [← hy]; exact hx))
                    obtain ⟨yb0, yb1⟩ := HBX.out
                    have yb2 : y ≠ 0 := by simpa using hx
                    have m1 : IntKind.i64.wrap (1019 - y) = 1019 - y := IntWalk.i64_in _ (by omega)
                    have HEL : Hid (elB (1019 - y) = true) := Lib.hid (elB_yes (by omega))
                    have Yd := (Bel.refl wr).drew
                    have fjd := fun (W : World) (h : Bel wr W) => (h.cells.2 g j zg).trans fj
                    clear hy yb2
                    go_wp2_with fail
                    go_region_with (first | (go_at_call 129; refine (addsS _ _ (1019 - y) (rw_ S j) (rw_ S t) _ ?_ ?_ HPR.out HEL.out).mono ?_; exact RJ.out.keep Yd; exact RTT.out.keep Yd; rintro e wT ⟨r, rfl, Ov, hbT⟩; obtain ⟨Ar, cr, er, _, _, _⟩ := Ov.reads; subst er; have cj9 := hbT.cell1 zg cj; have fj9 := (hbT.cells.2 g j zg).trans fj))
                    all_goals (
                      have O6 := (OJ.keep (Yd.trans hbT)).store' (i := j) (u := .slice Ar (addsZ (rw_ S j) (rw_ S t) (1019 - y)).length cr) (xs := addsZ (rw_ S j) (rw_ S t) (1019 - y)) HLJ.out (by rw [HLJ.out]; exact hltj) ((Ov.low YJ.size).rx (fun p hp e => by injection e with e; have h9 := (Ov.block p hp).1; have h8 : wr.drew.heap.size = wr.heap.size := rfl; omega))
                      have Y6 := (YJ.trans (Yd.trans hbT)).setCell (p := ⟨g, j, none⟩) g1 (.slice Ar (addsZ (rw_ S j) (rw_ S t) (1019 - y)).length cr)
                      rw [HY.out, ← HN.out] at O6
                      rw [← HY.out] at O6
                      clear hbT Ov OJ YJ Yd cj9 fj9 cj ct gj fj fjd
                      go_wp2
                      go_roundg (m.length - (j + 1))
                      case measure => have := HJ.out; omega
                      case rel => exact ⟨j + 1, by omega, by go_num, O6, Y6⟩)
              · obtain rfl : j = m.length := by omega
                have e1 : ¬ (m.length : Int) < (m.length : Int) := by omega
                have HA : Hid (clrTo S t k m.length = clr S t k) := Lib.hid (by rw [← HSL.out]; exact clrTo_all S t k)
                rw [HA.out] at OJ
                go_wp2
                go_roundg (c - (k + 1))
                case measure => have := HK.out; omega
                case rel => exact ⟨k + 1, by omega, by go_num, by rw [HRS3.out]; go_num, by rw [HRS3.out]; exact OJ, YJ⟩
          · have HQ' : Hid (∀ i, t ≤ i → i < q + 1 → ent (rw_ rows i) k = 0) := Lib.hid (fun i h1 h2 => by
              rcases Nat.lt_or_eq_of_le (Nat.le_of_lt_succ h2) with h | h
              · exact HQ.out i h1 h
              · rw [h]; simpa using hz)
            go_wp2
            go_roundg (m.length - (q + 1))
            case measure => have := HG2.out; omega
            case rel => exact ⟨q + 1, by omega, by omega, by go_num, rfl, HQ'⟩
        · obtain rfl : q = m.length := by omega
          have j1 : ¬ (m.length : Int) < (m.length : Int) := by omega
          have HNO := Lib.hid (HRM.out (piv_none (fun i h1 h2 => HQ.out i h1 (by rw [HLN.out] at h2; exact h2))))
          go_wp2
          go_roundg (c - (k + 1))
          case measure => have := HK.out; omega
          case rel => exact ⟨k + 1, by omega, by go_num, by rw [HNO.out, ← HT0.out], by rw [HNO.out, ← HR0.out]; exact O, Y⟩
    · have HRZ : Hid (redZ m c = (redS m k).1.take (redS m k).2) := Lib.hid (by
        unfold redZ
        by_cases hkc : k < c
        · rw [redS_full (k := k) (by omega) c (by omega)]
        · have e : k = c := by omega
          rw [e])
      have O7 := O.cut' HLN.out htl
      rw [← HRZ.out] at O7
      have HLT := Lib.hid hlt
      clear hlt
      generalize (redS m k).2 = t at *
      have t0 : (0 : Int) ≤ (t : Int) := by omega
      have t1 : (t : Int) ≤ (cap : Int) := by omega
      rcases O.form with ⟨e, h9⟩ | ⟨g, cap', e, _, _⟩
      · injection e with e1 e2 e3
        subst e1 e3
        have ht0 : t = 0 := by omega
        subst ht0
        by_cases hkc : k < c
        · have a0 : (k : Int) < (c : Int) := by omega
          have a1 : ¬ ((0 : Nat) : Int) < (m.length : Int) := by omega
          have a2 : decide (((0 : Nat) : Int) < (m.length : Int)) = false := decide_eq_false a1
          clear hkc
          go_wp2
          go_ret
          exact ⟨_, rfl, O7, Y⟩
        · have a0 : ¬ (k : Int) < (c : Int) := by omega
          have a2 : decide ((k : Int) < (c : Int)) = false := decide_eq_false a0
          go_wp2
          go_ret
          exact ⟨_, rfl, O7, Y⟩
      · injection e with e1 e2 e3
        subst e1 e3
        clear e2
        by_cases hkc : k < c
        · have a0 : (k : Int) < (c : Int) := by omega
          have a1 : ¬ (t : Int) < (m.length : Int) := by have := HLT.out; omega
          have a2 : decide ((t : Int) < (m.length : Int)) = false := decide_eq_false a1
          clear hkc
          go_wp2
          go_ret
          exact ⟨_, rfl, O7, Y⟩
        · have a0 : ¬ (k : Int) < (c : Int) := by omega
          have a2 : decide ((k : Int) < (c : Int)) = false := decide_eq_false a0
          go_wp2
          go_ret
          exact ⟨_, rfl, O7, Y⟩
end Go.Proofs.Ytjaagabbbnokdaa
