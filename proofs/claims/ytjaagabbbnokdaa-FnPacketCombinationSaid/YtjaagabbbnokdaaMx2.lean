/-
  The program's IsReduced: its contract. No condition.
-/
import Derived.Test.YtjaagabbbnokdaaMx1
namespace Go.Proofs.Ytjaagabbbnokdaa
open Go.ChangeShapes Go.WideShapes Go.ChangeAt Go.RowKit
set_option linter.unusedVariables false
set_option maxRecDepth 100000

def redB (m : List (List Int)) : Bool := mtxB m && rdB m
theorem redB_no {m : List (List Int)} (h : mtxB m = false) : redB m = false := by unfold redB; rw [h]; rfl
theorem redB_row {m : List (List Int)} {k : Nat} (hk : k < m.length) (h : rowB m k = false) : redB m = false := by
  unfold redB
  have : rdB m = false := by
    unfold rdB
    rw [decide_eq_false_iff_not]
    intro hall
    rw [hall k hk] at h
    cases h
  rw [this, Bool.and_false]
theorem redB_yes {m : List (List Int)} (h : mtxB m = true) (hr : ∀ i, i < m.length → rowB m i = true) : redB m = true := by
  unfold redB rdB; rw [h, decide_eq_true hr]; rfl
/-- The pivot of the row before row k, as the program keeps it. -/
def lastV (m : List (List Int)) (k : Nat) : Int := if k = 0 then -1 else (lead (rw_ m (k - 1)) : Int)
theorem last_le {m : List (List Int)} {k : Nat} (h : ¬ (lead (rw_ m k) < (rw_ m k).length ∧ (k = 0 ∨ lead (rw_ m (k - 1)) < lead (rw_ m k)))) : decide (leadV (rw_ m k) ≤ lastV m k) = true := by
  rw [decide_eq_true_eq]
  unfold leadV lastV
  split
  · split <;> omega
  · split <;> omega
theorem last_gt {m : List (List Int)} {k : Nat} (h : lead (rw_ m k) < (rw_ m k).length ∧ (k = 0 ∨ lead (rw_ m (k - 1)) < lead (rw_ m k))) : decide ((lead (rw_ m k) : Int) ≤ lastV m k) = false := by
  rw [decide_eq_false_iff_not]
  unfold lastV
  split <;> omega
theorem row_piv {m : List (List Int)} {k : Nat} (h : ¬ (lead (rw_ m k) < (rw_ m k).length ∧ (k = 0 ∨ lead (rw_ m (k - 1)) < lead (rw_ m k)))) : rowB m k = false := by
  cases hr : rowB m k
  · rfl
  · exfalso
    simp only [rowB, Bool.and_eq_true, decide_eq_true_eq] at hr
    exact h ⟨hr.1.1.1, hr.1.1.2⟩
theorem row_one {m : List (List Int)} {k : Nat} (h : (ent (rw_ m k) (lead (rw_ m k)) != 1) = true) : rowB m k = false := by
  cases hr : rowB m k
  · rfl
  · exfalso
    simp only [rowB, Bool.and_eq_true, decide_eq_true_eq, beq_iff_eq] at hr
    simp at h
    exact h hr.1.2
theorem row_col {m : List (List Int)} {k q : Nat} (hq : q < m.length) (hne : q ≠ k) (h : (ent (rw_ m q) (lead (rw_ m k)) != 0) = true) : rowB m k = false := by
  cases hr : rowB m k
  · rfl
  · exfalso
    simp only [rowB, Bool.and_eq_true, decide_eq_true_eq] at hr
    simp at h
    exact h (hr.2 q hq hne)
theorem row_yes {m : List (List Int)} {k : Nat} (h : lead (rw_ m k) < (rw_ m k).length ∧ (k = 0 ∨ lead (rw_ m (k - 1)) < lead (rw_ m k))) (h1 : (ent (rw_ m k) (lead (rw_ m k)) != 1) = false) (hc : ∀ i, i < m.length → i ≠ k → ent (rw_ m i) (lead (rw_ m k)) = 0) : rowB m k = true := by
  simp only [rowB, Bool.and_eq_true, decide_eq_true_eq, beq_iff_eq]
  exact ⟨⟨h, by simpa using h1⟩, hc⟩
theorem lastV_succ (m : List (List Int)) (k : Nat) : lastV m (k + 1) = (lead (rw_ m k) : Int) := by unfold lastV; rw [if_neg (by omega)]; rfl

set_option maxHeartbeats 4000000 in
theorem rdI (v : Value) (xss : List (List Int)) (w : World) (hv : RII w v xss) :
    Calls Try.prog 153 #[v] w fun e w' => e = .returned (.bool (redB xss)) ∧ w = w' := by
  obtain ⟨A, c, rfl, h2, h3, hA⟩ := id hv
  go_enter Try.func153, Try.ntmps153
  go_wp2_with fail
  refine (mtxI _ xss _ hv).mono ?_
  rintro e w1 ⟨rfl, rfl⟩
  cases hm : mtxB xss
  · have HF := Lib.hid (redB_no hm)
    go_wp2
    go_ret
    exact ⟨by rw [HF.out]; rfl, rfl⟩
  obtain ⟨hM, hM1, hM2⟩ := mtxB_facts hm
  have HM := Lib.hid hM
  have Hm := Lib.hid hm
  clear hM hm
  go_wp2
  go_loopg [3, 14] xss.length (fun f l i wr => ∃ k : Nat, k + f = xss.length ∧ i = .int .i64 k ∧ l = .int .i64 (lastV xss k) ∧ w = wr ∧ Hid (∀ i, i < k → rowB xss i = true))
  case atStart => exact ⟨0, by omega, rfl, rfl, rfl, Lib.hid (fun j hj => by omega)⟩
  case round =>
    obtain ⟨k, hk, rfl, rfl, rfl, HK⟩ := hrel
    have hk2 : k ≤ xss.length := by omega
    have HG := Lib.hid hk
    clear hk
    by_cases hlt : k < xss.length
    · obtain ⟨b1, o1, rfl, z1, hc1⟩ := hA (by omega)
      have HC := Lib.hid hc1
      obtain ⟨u, g1, ru⟩ := hc1 k _ (rw_get hlt)
      clear hc1 hA
      have i0 : (0 : Int) ≤ (k : Int) := by omega
      have i1 : (k : Int) < (xss.length : Int) := by omega
      go_wp2_with fail
      refine (leadI _ _ _ ru).mono ?_
      rintro e w1 ⟨rfl, rfl⟩
      by_cases hp : lead (rw_ xss k) < (rw_ xss k).length ∧ (k = 0 ∨ lead (rw_ xss (k - 1)) < lead (rw_ xss k))
      · have hd := last_gt hp
        have HP := Lib.hid hp
        rw [leadV_yes hp.1]
        have hpl := hp.1
        have HL := Lib.hid hpl
        have hcol := (mtx_row HM.out hlt).1
        have Hcol := Lib.hid hcol
        obtain ⟨Au, cu, rfl, _, _, hu⟩ := id ru
        obtain ⟨bu, ou, rfl, _, hcu⟩ := hu (by omega)
        have g2 := hcu _ _ (ent_get hpl)
        have p0 : (0 : Int) ≤ (lead (rw_ xss k) : Int) := by omega
        have p1 : (lead (rw_ xss k) : Int) < ((rw_ xss k).length : Int) := by omega
        clear hcu hu hp
        cases h1 : (ent (rw_ xss k) (lead (rw_ xss k)) != 1)
        · have H1 := Lib.hid h1
          go_wp2
          go_loopg [33] xss.length (fun f j wr => ∃ q : Nat, q + f = xss.length ∧ j = .int .i64 q ∧ w = wr ∧ Hid (∀ i, i < q → i ≠ k → ent (rw_ xss i) (lead (rw_ xss k)) = 0))
          case atStart => exact ⟨0, by omega, rfl, rfl, Lib.hid (fun j hj => by omega)⟩
          case round =>
            obtain ⟨q, hq, rfl, rfl, HQ⟩ := hrel
            have hq2 : q ≤ xss.length := by omega
            have HG2 := Lib.hid hq
            clear hq
            by_cases hltq : q < xss.length
            · obtain ⟨u9, g9, r9⟩ := HC.out q _ (rw_get hltq)
              have j0 : (0 : Int) ≤ (q : Int) := by omega
              have j1 : (q : Int) < (xss.length : Int) := by omega
              by_cases hqk : q = k
              · have hb : ((q : Int) != (k : Int)) = false := by simp; omega
                have HF : Hid (∀ i, i < q + 1 → i ≠ k → ent (rw_ xss i) (lead (rw_ xss k)) = 0) := Lib.hid (fun i hi hne => HQ.out i (by omega) hne)
                clear hqk
                go_wp2
                go_roundg (xss.length - (q + 1))
                case measure => have := HG2.out; omega
                case rel => exact ⟨q + 1, by omega, by go_num, rfl, HF⟩
              · have hb : ((q : Int) != (k : Int)) = true := by simp; omega
                have hcol2 := (mtx_row HM.out hltq).1
                have p9 : lead (rw_ xss k) < (rw_ xss q).length := by have := Hcol.out; have := HL.out; omega
                obtain ⟨A9, c9, rfl, _, _, hu9⟩ := id r9
                obtain ⟨b9, o9, rfl, _, hcu9⟩ := hu9 (by omega)
                have g8 := hcu9 _ _ (ent_get p9)
                have p2 : (lead (rw_ xss k) : Int) < ((rw_ xss q).length : Int) := by omega
                clear hcu9 hu9
                cases h0 : (ent (rw_ xss q) (lead (rw_ xss k)) != 0)
                · have HF : Hid (∀ i, i < q + 1 → i ≠ k → ent (rw_ xss i) (lead (rw_ xss k)) = 0) := Lib.hid (fun i hi hne => by
                    rcases Nat.lt_or_eq_of_le (Nat.le_of_lt_succ hi) with h | h
                    · exact HQ.out i h hne
                    · rw [h]; simpa using h0)
                  clear hqk
                  go_wp2
                  go_roundg (xss.length - (q + 1))
                  case measure => have := HG2.out; omega
                  case rel => exact ⟨q + 1, by omega, by go_num, rfl, HF⟩
                · have HF := Lib.hid (redB_row hlt (row_col hltq hqk h0))
                  clear hqk
                  go_wp2
                  go_ret
                  exact ⟨by rw [HF.out]; rfl, rfl⟩
            · obtain rfl : q = xss.length := by omega
              have j1 : ¬ (xss.length : Int) < (xss.length : Int) := by omega
              have HR : Hid (∀ i, i < k + 1 → rowB xss i = true) := Lib.hid (fun i hi => by
                rcases Nat.lt_or_eq_of_le (Nat.le_of_lt_succ hi) with h | h
                · exact HK.out i h
                · rw [h]; exact row_yes HP.out H1.out HQ.out)
              have HS := Lib.hid (lastV_succ xss k)
              go_wp2
              go_roundg (xss.length - (k + 1))
              case measure => have := HG.out; omega
              case rel => exact ⟨k + 1, by omega, by go_num, by rw [HS.out], rfl, HR⟩
        · have HF := Lib.hid (redB_row hlt (row_one h1))
          go_wp2
          go_ret
          exact ⟨by rw [HF.out]; rfl, rfl⟩
      · have hd := last_le hp
        have HF := Lib.hid (redB_row hlt (row_piv hp))
        clear hp
        go_wp2
        go_ret
        exact ⟨by rw [HF.out]; rfl, rfl⟩
    · obtain rfl : k = xss.length := by omega
      have i1 : ¬ (xss.length : Int) < (xss.length : Int) := by omega
      have HF := Lib.hid (redB_yes Hm.out HK.out)
      go_wp2
      go_ret
      exact ⟨by rw [HF.out]; rfl, rfl⟩
end Go.Proofs.Ytjaagabbbnokdaa
