/-
  FnWindows: for every drawn window at most the stated number of generations is active, each is started once, and all are finished in the end. No condition.
-/
import Derived.Test.YtchodlfkoafeaaaDrwj
import Derived.Test.YtchodlfkoafeaaaWinP
import Derived.Test.YtchodlfkoafeaaaBq
namespace Go.Proofs.Ytchodlfkoafeaaa.fnWindows
open Go.ChangeShapes Go.WideShapes Go.ChangeAt Go.RowKit
set_option linter.unusedVariables false
set_option maxRecDepth 100000

set_option maxHeartbeats 4000000 in
theorem walk (w : World) (v0 : Value) (x0 : Nat) (f0 : IsBytes w v0 x0) :
    Calls Try.prog 6 #[v0] w fun e w' => e = .returned (.bool true) ∧ Below w.heap.size w w' := by
  have hv : RB w v0 x0 := f0
  by_cases hbig : (1048576 : Int) < (x0 : Int)
  · have HD : Hid (decide ((1048576 : Int) < (x0 : Int)) = true) := Lib.hid (decide_eq_true hbig)
    go_enter Try.func6, Try.ntmps6
    go_wp2_with fail
    refine (bigL _ x0 _ hv).mono ?_
    rintro e w1 ⟨rfl, rfl⟩
    rw [HD.out]
    go_wp2
    go_ret
    exact ⟨rfl, Bel.refl _⟩
  have hn : x0 ≤ 1048576 := by omega
  have HD : Hid (decide ((1048576 : Int) < (x0 : Int)) = false) := Lib.hid (decide_eq_false hbig)
  clear hbig
  go_enter Try.func6, Try.ntmps6
  go_wp2_with fail
  refine (bigL _ x0 _ hv).mono ?_
  rintro e w1 ⟨rfl, rfl⟩
  rw [HD.out]
  go_wp2_with fail
  refine (drawSgS _ x0 _ hv hn).mono ?_
  rintro e w1 ⟨b, n, d, t, rfl, Y1⟩
  unfold win
  have K2 : Blk (w1.alloc (.cells #[.int .i64 b, .int .i64 n, .int .i64 d, .int .i64 t] 61)) w1.heap.size 61 #[.int .i64 b, .int .i64 n, .int .i64 d, .int .i64 t] := Blk.new w1 _ _
  have Y2 := Y1.alloc (.cells #[.int .i64 b, .int .i64 n, .int .i64 d, .int .i64 t] 61)
  have hz1 := Y1.size
  cases hw : winB b n d t
  · have hst : startB b n d t = false := by unfold startB; rw [hw]; rfl
    have HS := Lib.hid (fun W => startI_any b n d t W)
    rw [startV_no hst] at HS
    have HV := Lib.hid (fun W => winS_any b n d t W)
    have HI := Lib.hid (fun W => winI_any b n d t W)
    have HA := Lib.hid (fun W => actI_any b n d t W)
    rw [hw] at HV HI
    rw [act_no hw] at HA
    unfold win at HS HV HI HA
    clear hst hw
    obtain ⟨ck, fk, zk⟩ := K2.facts
    go_wp2_with fail
    refine (HS.out _).mono ?_
    rintro e w3 ⟨rfl, hb3⟩
    have K4 := (hb3.keep K2).alloc (.cells #[.int .i64 b, .int .i64 n, .int .i64 d, .int .i64 t] 61)
    have X4 : Blk (w3.alloc (.cells #[.int .i64 b, .int .i64 n, .int .i64 d, .int .i64 t] 61)) w3.heap.size 61 #[.int .i64 b, .int .i64 n, .int .i64 d, .int .i64 t] := Blk.new w3 _ _
    have Y4 := (Y2.trans hb3).alloc (.cells #[.int .i64 b, .int .i64 n, .int .i64 d, .int .i64 t] 61)
    clear ck fk zk
    obtain ⟨ck, fk, zk⟩ := K4.facts
    obtain ⟨cx, fx, zx⟩ := X4.facts
    go_wp2_with fail
    refine (HV.out _).mono ?_
    rintro e w5 ⟨rfl, hb5⟩
    have K5 := hb5.keep K4
    have X5 := hb5.keep X4
    have Y5 := Y4.trans hb5
    clear ck fk zk cx fx zx
    obtain ⟨ck, fk, zk⟩ := K5.facts
    obtain ⟨cx, fx, zx⟩ := X5.facts
    go_wp2_with fail
    refine (HA.out _).mono ?_
    rintro e w6 ⟨v6, rfl, O6, hb6⟩
    obtain ⟨A6, c6, e6, _, _, _⟩ := O6.reads
    subst e6
    have K6 := hb6.keep K5
    have Y6 := Y5.trans hb6
    clear ck fk zk cx fx zx
    obtain ⟨ck, fk, zk⟩ := K6.facts
    go_wp2_with fail
    refine (HI.out _).mono ?_
    rintro e w7 ⟨rfl, hb7⟩
    go_wp2
    go_ret
    exact ⟨rfl, Y6.trans hb7⟩
  have HW := Lib.hid hw
  have HV := Lib.hid (fun W => winS_any b n d t W)
  have HA := Lib.hid (fun W => actI_any b n d t W)
  have HS := Lib.hid (fun W => startI_any b n d t W)
  have hal := activeL_len b n d t
  obtain ⟨xs, hxs⟩ : ∃ xs, xs = activeL b n d t := ⟨_, rfl⟩
  have HXS := Lib.hid hxs.symm
  rw [hw] at HV
  rw [HXS.out] at HA
  rw [HXS.out] at hal
  unfold win at HV HA
  clear hw hxs
  obtain ⟨ck, fk, zk⟩ := K2.facts
  cases hs : startB b n d t
  · rw [startV_no hs] at HS
    unfold win at HS
    clear hs
    go_wp2_with fail
    refine (HS.out _).mono ?_
    rintro e w3 ⟨rfl, hb3⟩
    have K4 := (hb3.keep K2).alloc (.cells #[.int .i64 b, .int .i64 n, .int .i64 d, .int .i64 t] 61)
    have Y4 := (Y2.trans hb3).alloc (.cells #[.int .i64 b, .int .i64 n, .int .i64 d, .int .i64 t] 61)
    clear ck fk zk K2
    generalize w1.heap.size = gB at *
    have hgB : w.heap.size ≤ gB := hz1
    obtain ⟨ck, fk, zk⟩ := K4.facts
    go_wp2_with fail
    refine (HV.out _).mono ?_
    rintro e w5 ⟨rfl, hb5⟩
    have K5 := hb5.keep K4
    have Y5 := Y4.trans hb5
    clear ck fk zk K4
    obtain ⟨ck, fk, zk⟩ := K5.facts
    go_wp2_with fail
    refine (HA.out _).mono ?_
    rintro e w6 ⟨v6, rfl, O8, hb6⟩
    obtain ⟨A6, c6, e6, _, _, _⟩ := O8.reads
    subst e6
    have K8 := hb6.keep K5
    have Y8 := Y5.trans hb6
    clear ck fk zk K5
    have h4 : ¬ (4 : Int) < (xs.length : Int) := by omega
    obtain ⟨ck, fk, zk⟩ := K8.facts
    go_wp2
    clear ck fk zk
    go_loopg [8] xs.length (fun f i wr => ∃ k : Nat, k + f = xs.length ∧ i = .int .i64 k ∧ Bel w6 wr)
    case atStart => exact ⟨0, by omega, rfl, Bel.refl _⟩
    case round =>
      obtain ⟨k, hk, rfl, Yr⟩ := hrel
      have hk2 : k ≤ xs.length := by omega
      have HK := Lib.hid hk
      clear hk
      by_cases hlt : k < xs.length
      · have K := Yr.keep K8
        have rl := O8.reads.keep Yr
        have hx : xs[k]? = some (xs[k]'hlt) := List.getElem?_eq_getElem hlt
        have hnx := nextZ_in hx
        have C1 := Lib.hid (fun W => nextI_any b n d t (k : Int) W)
        have C2 := Lib.hid (fun W => nextI_any b n d t ((k : Int) + (xs.length : Int)) W)
        rw [HXS.out, hnx.1] at C1
        rw [HXS.out, hnx.2] at C2
        unfold win at C1 C2
        obtain ⟨Al, cl, el, _, _, hAl⟩ := rl
        injection el with el1 el2 el3
        subst el1
        subst el3
        obtain ⟨b1, o1, rfl, z1, hc1⟩ := hAl (by omega)
        have g1 := hc1 k _ hx
        clear hnx hx hc1 hAl el2
        generalize xs[k]'hlt = x at *
        have i0 : (0 : Int) ≤ (k : Int) := by omega
        have i1 : (k : Int) < (xs.length : Int) := by omega
        obtain ⟨ck, fk, zk⟩ := K.facts
        have r0 : wr.cell? ⟨gB, 0, none⟩ = some (.int .i64 b) := ck 0
        have r1 : wr.cell? ⟨gB, 1, none⟩ = some (.int .i64 n) := ck 1
        have r2 : wr.cell? ⟨gB, 2, none⟩ = some (.int .i64 d) := ck 2
        have r3 : wr.cell? ⟨gB, 3, none⟩ = some (.int .i64 t) := ck 3
        have qq0 := Bw.cell r0 zk
        have qq1 := Bw.cell r1 zk
        have qq2 := Bw.cell r2 zk
        have qq3 := Bw.cell r3 zk
        have qq4 := Bw.cell g1 z1
        clear ck fk
        go_wp2
        refine wp_region_bel (by kernel_rfl) (by kernel_rfl) ?_
        repeat (first | go_big_quiet_step (first | (go_at_call 36; first | (with_reducible exact belQ (C1.out _)) | (with_reducible exact belQ (C2.out _)))) | quiet_step (first | (go_at_call 36; first | (with_reducible exact belQ (C1.out _)) | (with_reducible exact belQ (C2.out _)))))
        refine wpQuiet_nil ?_
        rintro w9 ⟨⟨_, hb9⟩, rfl⟩
        clear qq0 qq1 qq2 qq3 qq4 r0 r1 r2 r3
        go_wp2
        go_roundg (xs.length - (k + 1))
        case measure => have := HK.out; omega
        case rel => exact ⟨k + 1, by omega, by go_num, Yr.trans hb9⟩
      · have hke : k = xs.length := by omega
        subst hke
        have i1 : ¬ (xs.length : Int) < (xs.length : Int) := by omega
        have K := Yr.keep K8
        have Y9 := Y8.trans Yr
        obtain ⟨w9, hw9⟩ : ∃ x, x = wr := ⟨_, rfl⟩
        subst hw9
        have hm0 : 2 * (t - n) + ((activeL b n d t).length : Int) ≤ 128 := by have h4 := activeL_len b n d t; have h5 := (winB_all HW.out).1; omega
        have hn0 : (0 : Int) ≤ n := by have h5 := (winB_all HW.out).1; omega
        clear O8 K8 Y8 Yr
        go_wp2
        go_loopg [9, 10] 128 (fun f s i wr => ∃ (k : Nat) (s' b n d : Int), k + f = 128 ∧ i = .int .i64 k ∧ s = .int .i64 s' ∧ Blk wr gB 61 #[.int .i64 b, .int .i64 n, .int .i64 d, .int .i64 t] ∧ winB b n d t = true ∧ (0 ≤ s' ∧ s' ≤ n) ∧ 2 * (t - n) + ((activeL b n d t).length : Int) ≤ (f : Int) ∧ Bel w wr)
        case atStart => exact ⟨0, 0, b, n, d, by omega, rfl, rfl, K, HW.out, ⟨by omega, hn0⟩, by simpa using hm0, Y9⟩
        case round =>
          clear K Y9 hm0 hn0
          obtain ⟨k, s', b2, n2, d2, hk, rfl, rfl, K, hwv, ⟨hs0, hs1⟩, hm, Y⟩ := hrel
          obtain ⟨⟨v1, v2, v3, v4, v5, v6⟩, _, _⟩ := winB_all hwv
          have HK := Lib.hid hk
          have HM := Lib.hid hm
          have HV := Lib.hid hwv
          have hk128 : k ≤ 128 := by omega
          clear hk hm hwv
          obtain ⟨ck, fk, zk⟩ := K.facts
          by_cases hlt : k < 128
          · have i1 : (k : Int) < 128 := by omega
            have HS := Lib.hid (fun W => startI_any b2 n2 d2 t W)
            cases hs : startB b2 n2 d2 t
            · rw [startV_no hs] at HS
              have HST := Lib.hid hs
              clear hs
              unfold win at HS
              go_wp2_with fail
              refine (HS.out _).mono ?_
              rintro e w3 ⟨rfl, hb3⟩
              have K3 := (hb3.keep K).alloc (.cells #[.int .i64 b2, .int .i64 n2, .int .i64 d2, .int .i64 t] 61)
              have Y3 := (Y.trans hb3).alloc (.cells #[.int .i64 b2, .int .i64 n2, .int .i64 d2, .int .i64 t] 61)
              clear ck fk zk K
              obtain ⟨ck, fk, zk⟩ := K3.facts
              have HA := Lib.hid (fun W => actI_any b2 n2 d2 t W)
              unfold win at HA
              go_wp2_with fail
              refine (HA.out _).mono ?_
              rintro e w4 ⟨l4, rfl, O4, hb4⟩
              have hl4 := activeL_len b2 n2 d2 t
              have HX4 : Hid (∀ z ∈ activeL b2 n2 d2 t, ∃ b' d', endV b2 n2 d2 t z = win b' n2 d' t ∧ winB b' n2 d' t = true ∧ (activeL b' n2 d' t).length + 1 = (activeL b2 n2 d2 t).length) := Lib.hid (fun z hz => win_fin HV.out hz)
              have HN4 : Hid ((activeL b2 n2 d2 t).length = 0 → b2 = n2 ∧ n2 = t) := Lib.hid (fun h => by
                have e1 := win_none HV.out h
                refine ⟨e1, ?_⟩
                rcases Decidable.em (n2 = t) with h7 | h7
                · exact h7
                · have := (startB_iff HV.out).2 ⟨h7, by omega⟩
                  rw [HST.out] at this
                  exact Bool.noConfusion this)
              have K4 := hb4.keep K3
              have Y4 := Y3.trans hb4
              obtain ⟨ys, hys⟩ : ∃ ys, ys = activeL b2 n2 d2 t := ⟨_, rfl⟩
              rw [← hys] at O4 hl4 HX4 HN4 HM
              have HYS := Lib.hid hys
              clear hys ck fk zk K3
              obtain ⟨A4, c4, e4, _, _, hA4⟩ := O4.reads
              subst e4
              obtain ⟨ck, fk, zk⟩ := K4.facts
              by_cases h0 : 0 < ys.length
              · have j0 : (0 : Int) < (ys.length : Int) := by omega
                have hnil : ¬ ys = [] := fun h => by rw [h] at h0; simp at h0
                obtain ⟨b1, o1, rfl, z1, hc1⟩ := hA4 h0
                have r0 : w4.cell? ⟨gB, 0, none⟩ = some (.int .i64 b2) := ck 0
                have r1 : w4.cell? ⟨gB, 1, none⟩ = some (.int .i64 n2) := ck 1
                have r2 : w4.cell? ⟨gB, 2, none⟩ = some (.int .i64 d2) := ck 2
                have r3 : w4.cell? ⟨gB, 3, none⟩ = some (.int .i64 t) := ck 3
                have HE := Lib.hid (fun (z : Int) (W : World) => endI_any b2 n2 d2 t z W)
                unfold win at HE
                clear ck fk hA4
                go_wp2
                go_region_law (first
                  | (go_simp; go_at_call 38; refine (atL _ x0 k _ (by exact hv.keep Y4.drew) hn (by omega)).mono ?_; rintro e wT ⟨y, rfl, ⟨y0, y1⟩, rfl⟩; obtain ⟨r, hr⟩ : ∃ r : Nat, y % (ys.length : Int) = (r : Int) := Int.eq_ofNat_of_zero_le (Int.emod_nonneg _ (by omega)); have ht : y.tmod (ys.length : Int) = (r : Int) := (by rw [Int.tmod_eq_emod_of_nonneg y0]; exact hr); have hrl : r < ys.length := (by have := Int.emod_lt_of_pos y j0; omega); have hrm := Lib.hid (List.getElem_mem hrl); have g1 := hc1 r _ (List.getElem?_eq_getElem hrl); have q0 : (0 : Int) ≤ (r : Int) := (by omega); have q1 : (r : Int) < (ys.length : Int) := (by omega); obtain ⟨x, hx⟩ : ∃ x, x = ys[r]'hrl := ⟨_, rfl⟩; rw [← hx] at g1 hrm; clear hx hc1; obtain ⟨b3, d3, f1, f2, f3⟩ := HX4.out x hrm.out)
                  | (go_simp; go_at_call 37; refine (HE.out _ _).mono ?_; rintro e wU ⟨rfl, hbU⟩; rw [f1]; unfold win; have KU := hbU.keep K4.drew; have YU := Y4.drew.trans hbU; have u0 := KU.facts.1 0; have u1 := KU.facts.1 1; have u2 := KU.facts.1 2; have u3 := KU.facts.1 3; have w0 := KU.facts.2.1 0; have w1 := KU.facts.2.1 1; have w2 := KU.facts.2.1 2; have w3 := KU.facts.2.1 3))
                all_goals (
                  have K6 := KU.set4 (.int .i64 b3) (.int .i64 n2) (.int .i64 d3) (.int .i64 t)
                  have Y6 := (((YU.setCell (p := ⟨gB, 0, none⟩) hgB (.int .i64 b3)).setCell (p := ⟨gB, 1, none⟩) hgB (.int .i64 n2)).setCell (p := ⟨gB, 2, none⟩) hgB (.int .i64 d3)).setCell (p := ⟨gB, 3, none⟩) hgB (.int .i64 t)
                  have HM6 : Hid (2 * (t - n2) + ((activeL b3 n2 d3 t).length : Int) + 1 ≤ ((128 - k : Nat) : Int)) := Lib.hid (by have := HM.out; have := HK.out; omega)
                  have HW6 := Lib.hid f2
                  clear f1 f2 f3 hr ht g1 KU YU u0 u1 u2 u3 w0 w1 w2 w3 r0 r1 r2 r3
                  go_wp2
                  go_roundg (128 - (k + 1))
                  case measure => have := HK.out; omega
                  case rel => exact ⟨k + 1, s', b3, n2, d3, by omega, by go_num, rfl, K6, HW6.out, ⟨hs0, hs1⟩, by have := HM6.out; omega, Y6⟩)
              · have j0 : ¬ (0 : Int) < (ys.length : Int) := by omega
                have hst := HN4.out (by omega)
                have HM6 : Hid (2 * (t - n2) + ((activeL b2 n2 d2 t).length : Int) = 0) := Lib.hid (by rw [← HYS.out]; omega)
                clear hA4 hst
                go_wp2
                go_roundg (128 - (k + 1))
                case measure => have := HK.out; omega
                case rel => exact ⟨k + 1, s', b2, n2, d2, by omega, by go_num, rfl, K4, HV.out, ⟨hs0, hs1⟩, by rw [HM6.out]; omega, Y4⟩
            · have hsp := (startB_iff HV.out).1 hs
              obtain ⟨hv2, ha2⟩ := win_start HV.out hsp.1 hsp.2
              have HV2 := Lib.hid hv2
              have HM6 : Hid (2 * (t - (n2 + 1)) + ((activeL b2 (n2 + 1) d2 t).length : Int) + 1 ≤ ((128 - k : Nat) : Int)) := Lib.hid (by rw [ha2, List.length_append]; have := HM.out; have := HK.out; simp; omega)
              rw [startV_yes hs] at HS
              clear hs hsp hv2 ha2
              unfold win at HS
              go_wp2_with fail
              refine (HS.out _).mono ?_
              rintro e w3 ⟨rfl, hb3⟩
              have K3 := (hb3.keep K).alloc (.cells #[.int .i64 b2, .int .i64 (n2 + 1), .int .i64 d2, .int .i64 t] 61)
              have X3 : Blk (w3.alloc (.cells #[.int .i64 b2, .int .i64 (n2 + 1), .int .i64 d2, .int .i64 t] 61)) w3.heap.size 61 #[.int .i64 b2, .int .i64 (n2 + 1), .int .i64 d2, .int .i64 t] := Blk.new w3 _ _
              have Y3 := (Y.trans hb3).alloc (.cells #[.int .i64 b2, .int .i64 (n2 + 1), .int .i64 d2, .int .i64 t] 61)
              have K6 := K3.set4 (.int .i64 b2) (.int .i64 (n2 + 1)) (.int .i64 d2) (.int .i64 t)
              have Y6 := (((Y3.setCell (p := ⟨gB, 0, none⟩) hgB (.int .i64 b2)).setCell (p := ⟨gB, 1, none⟩) hgB (.int .i64 (n2 + 1))).setCell (p := ⟨gB, 2, none⟩) hgB (.int .i64 d2)).setCell (p := ⟨gB, 3, none⟩) hgB (.int .i64 t)
              clear ck fk zk K
              obtain ⟨ck, fk, zk⟩ := K3.facts
              obtain ⟨cx, fx, zx⟩ := X3.facts
              go_wp2
              go_roundg (128 - (k + 1))
              case measure => have := HK.out; omega
              case rel => exact ⟨k + 1, s' + 1, b2, n2 + 1, d2, by omega, by go_num, by go_num, K6, HV2.out, ⟨by omega, by omega⟩, by have := HM6.out; omega, Y6⟩
          · have hke : k = 128 := by omega
            subst hke
            have hst : b2 = n2 ∧ n2 = t := by
              have h5 := HM.out
              have h6 := HK.out
              have h7 := win_none HV.out (by omega)
              exact ⟨h7, by omega⟩
            obtain ⟨rfl, rfl⟩ := hst
            have hal : activeL b2 b2 d2 b2 = [] := List.eq_nil_of_length_eq_zero (by have := HM.out; have := HK.out; omega)
            have HF := Lib.hid (fun W => finI_any b2 b2 d2 b2 W)
            have HN := Lib.hid (fun W => nextI_any b2 b2 d2 b2 0 W)
            have HA := Lib.hid (fun W => actI_any b2 b2 d2 b2 W)
            have hfb : finB b2 b2 d2 b2 = true := by unfold finB; rw [HV.out]; simp
            rw [hfb] at HF
            rw [hal, nextZ_nil] at HN
            rw [hal] at HA
            unfold win at HF HN HA
            clear hfb hal
            go_wp2_with fail
            refine (HF.out _).mono ?_
            rintro e w3 ⟨rfl, hb3⟩
            have K3 := hb3.keep K
            clear ck fk zk
            obtain ⟨ck, fk, zk⟩ := K3.facts
            go_wp2_with fail
            refine (HN.out _).mono ?_
            rintro e w4 ⟨rfl, hb4⟩
            have K4 := hb4.keep K3
            clear ck fk zk
            obtain ⟨ck, fk, zk⟩ := K4.facts
            go_wp2_with fail
            refine (HA.out _).mono ?_
            rintro e w5 ⟨v5', rfl, O5, hb5⟩
            obtain ⟨A5, c5, e5, _, _, _⟩ := O5.reads
            subst e5
            go_wp2
            go_ret
            exact ⟨rfl, ((Y.trans hb3).trans hb4).trans hb5⟩
  · have hsp := (startB_iff HW.out).1 hs
    obtain ⟨hv2, ha2⟩ := win_start HW.out hsp.1 hsp.2
    have HA2 := Lib.hid (fun W => actI_any b (n + 1) d t W)
    rw [ha2, HXS.out] at HA2
    have HI1 : Hid (decide (n ∈ xs ++ [n]) = true) := Lib.hid (decide_eq_true (by simp))
    have HI2 : Hid (decide (n ∈ xs) = false) := Lib.hid (decide_eq_false (fun h => by rw [← HXS.out] at h; have := (win_lt HW.out h).2; omega))
    rw [startV_yes hs] at HS
    unfold win at HS HA2
    clear hs hsp hv2 ha2
    go_wp2_with fail
    refine (HS.out _).mono ?_
    rintro e w3 ⟨rfl, hb3⟩
    have K4 := (hb3.keep K2).alloc (.cells #[.int .i64 b, .int .i64 (n + 1), .int .i64 d, .int .i64 t] 61)
    have X4 : Blk (w3.alloc (.cells #[.int .i64 b, .int .i64 (n + 1), .int .i64 d, .int .i64 t] 61)) w3.heap.size 61 #[.int .i64 b, .int .i64 (n + 1), .int .i64 d, .int .i64 t] := Blk.new w3 _ _
    have Y4 := (Y2.trans hb3).alloc (.cells #[.int .i64 b, .int .i64 (n + 1), .int .i64 d, .int .i64 t] 61)
    clear ck fk zk K2
    generalize w1.heap.size = gB at *
    have hgB : w.heap.size ≤ gB := hz1
    obtain ⟨ck, fk, zk⟩ := K4.facts
    go_wp2_with fail
    refine (HV.out _).mono ?_
    rintro e w5 ⟨rfl, hb5⟩
    have K5 := hb5.keep K4
    have X5 := hb5.keep X4
    have Y5 := Y4.trans hb5
    clear ck fk zk K4 X4
    obtain ⟨ck, fk, zk⟩ := K5.facts
    go_wp2_with fail
    refine (HA.out _).mono ?_
    rintro e w6 ⟨v6, rfl, O6, hb6⟩
    obtain ⟨A6, c6, e6, _, _, _⟩ := O6.reads
    subst e6
    have K6 := hb6.keep K5
    have X6 := hb6.keep X5
    have Y6 := Y5.trans hb6
    clear ck fk zk K5 X5
    have h4 : ¬ (4 : Int) < (xs.length : Int) := by omega
    obtain ⟨ck, fk, zk⟩ := K6.facts
    obtain ⟨cx, fx, zx⟩ := X6.facts
    go_wp2_with fail
    refine (HA2.out _).mono ?_
    rintro e w7 ⟨v7, rfl, O7, hb7⟩
    have K7 := hb7.keep K6
    have Y7 := Y6.trans hb7
    have O67 := O6.keep hb7
    clear ck fk zk cx fx zx K6 X6
    go_wp2_with fail
    refine (hasL _ (xs ++ [n]) n _ O7.reads).mono ?_
    rintro e w8 ⟨rfl, rfl⟩
    rw [HI1.out]
    go_wp2_with fail
    refine (hasL _ xs n _ O67.reads).mono ?_
    rintro e w8 ⟨rfl, rfl⟩
    rw [HI2.out]
    have K8 := K7
    have Y8 := Y7
    have O8 := O67
    obtain ⟨ck, fk, zk⟩ := K7.facts
    go_wp2
    clear ck fk zk K7 Y7 O67
    go_loopg [8] xs.length (fun f i wr => ∃ k : Nat, k + f = xs.length ∧ i = .int .i64 k ∧ Bel w7 wr)
    case atStart => exact ⟨0, by omega, rfl, Bel.refl _⟩
    case round =>
      obtain ⟨k, hk, rfl, Yr⟩ := hrel
      have hk2 : k ≤ xs.length := by omega
      have HK := Lib.hid hk
      clear hk
      by_cases hlt : k < xs.length
      · have K := Yr.keep K8
        have rl := O8.reads.keep Yr
        have hx : xs[k]? = some (xs[k]'hlt) := List.getElem?_eq_getElem hlt
        have hnx := nextZ_in hx
        have C1 := Lib.hid (fun W => nextI_any b n d t (k : Int) W)
        have C2 := Lib.hid (fun W => nextI_any b n d t ((k : Int) + (xs.length : Int)) W)
        rw [HXS.out, hnx.1] at C1
        rw [HXS.out, hnx.2] at C2
        unfold win at C1 C2
        obtain ⟨Al, cl, el, _, _, hAl⟩ := rl
        injection el with el1 el2 el3
        subst el1
        subst el3
        obtain ⟨b1, o1, rfl, z1, hc1⟩ := hAl (by omega)
        have g1 := hc1 k _ hx
        clear hnx hx hc1 hAl el2
        generalize xs[k]'hlt = x at *
        have i0 : (0 : Int) ≤ (k : Int) := by omega
        have i1 : (k : Int) < (xs.length : Int) := by omega
        obtain ⟨ck, fk, zk⟩ := K.facts
        have r0 : wr.cell? ⟨gB, 0, none⟩ = some (.int .i64 b) := ck 0
        have r1 : wr.cell? ⟨gB, 1, none⟩ = some (.int .i64 n) := ck 1
        have r2 : wr.cell? ⟨gB, 2, none⟩ = some (.int .i64 d) := ck 2
        have r3 : wr.cell? ⟨gB, 3, none⟩ = some (.int .i64 t) := ck 3
        have qq0 := Bw.cell r0 zk
        have qq1 := Bw.cell r1 zk
        have qq2 := Bw.cell r2 zk
        have qq3 := Bw.cell r3 zk
        have qq4 := Bw.cell g1 z1
        clear ck fk
        go_wp2
        refine wp_region_bel (by kernel_rfl) (by kernel_rfl) ?_
        repeat (first | go_big_quiet_step (first | (go_at_call 36; first | (with_reducible exact belQ (C1.out _)) | (with_reducible exact belQ (C2.out _)))) | quiet_step (first | (go_at_call 36; first | (with_reducible exact belQ (C1.out _)) | (with_reducible exact belQ (C2.out _)))))
        refine wpQuiet_nil ?_
        rintro w9 ⟨⟨_, hb9⟩, rfl⟩
        clear qq0 qq1 qq2 qq3 qq4 r0 r1 r2 r3
        go_wp2
        go_roundg (xs.length - (k + 1))
        case measure => have := HK.out; omega
        case rel => exact ⟨k + 1, by omega, by go_num, Yr.trans hb9⟩
      · have hke : k = xs.length := by omega
        subst hke
        have i1 : ¬ (xs.length : Int) < (xs.length : Int) := by omega
        have K := Yr.keep K8
        have Y9 := Y8.trans Yr
        obtain ⟨w9, hw9⟩ : ∃ x, x = wr := ⟨_, rfl⟩
        subst hw9
        have hm0 : 2 * (t - n) + ((activeL b n d t).length : Int) ≤ 128 := by have h4 := activeL_len b n d t; have h5 := (winB_all HW.out).1; omega
        have hn0 : (0 : Int) ≤ n := by have h5 := (winB_all HW.out).1; omega
        clear O8 K8 Y8 Yr
        go_wp2
        go_loopg [9, 10] 128 (fun f s i wr => ∃ (k : Nat) (s' b n d : Int), k + f = 128 ∧ i = .int .i64 k ∧ s = .int .i64 s' ∧ Blk wr gB 61 #[.int .i64 b, .int .i64 n, .int .i64 d, .int .i64 t] ∧ winB b n d t = true ∧ (0 ≤ s' ∧ s' ≤ n) ∧ 2 * (t - n) + ((activeL b n d t).length : Int) ≤ (f : Int) ∧ Bel w wr)
        case atStart => exact ⟨0, 0, b, n, d, by omega, rfl, rfl, K, HW.out, ⟨by omega, hn0⟩, by simpa using hm0, Y9⟩
        case round =>
          clear K Y9 hm0 hn0
          obtain ⟨k, s', b2, n2, d2, hk, rfl, rfl, K, hwv, ⟨hs0, hs1⟩, hm, Y⟩ := hrel
          obtain ⟨⟨v1, v2, v3, v4, v5, v6⟩, _, _⟩ := winB_all hwv
          have HK := Lib.hid hk
          have HM := Lib.hid hm
          have HV := Lib.hid hwv
          have hk128 : k ≤ 128 := by omega
          clear hk hm hwv
          obtain ⟨ck, fk, zk⟩ := K.facts
          by_cases hlt : k < 128
          · have i1 : (k : Int) < 128 := by omega
            have HS := Lib.hid (fun W => startI_any b2 n2 d2 t W)
            cases hs : startB b2 n2 d2 t
            · rw [startV_no hs] at HS
              have HST := Lib.hid hs
              clear hs
              unfold win at HS
              go_wp2_with fail
              refine (HS.out _).mono ?_
              rintro e w3 ⟨rfl, hb3⟩
              have K3 := (hb3.keep K).alloc (.cells #[.int .i64 b2, .int .i64 n2, .int .i64 d2, .int .i64 t] 61)
              have Y3 := (Y.trans hb3).alloc (.cells #[.int .i64 b2, .int .i64 n2, .int .i64 d2, .int .i64 t] 61)
              clear ck fk zk K
              obtain ⟨ck, fk, zk⟩ := K3.facts
              have HA := Lib.hid (fun W => actI_any b2 n2 d2 t W)
              unfold win at HA
              go_wp2_with fail
              refine (HA.out _).mono ?_
              rintro e w4 ⟨l4, rfl, O4, hb4⟩
              have hl4 := activeL_len b2 n2 d2 t
              have HX4 : Hid (∀ z ∈ activeL b2 n2 d2 t, ∃ b' d', endV b2 n2 d2 t z = win b' n2 d' t ∧ winB b' n2 d' t = true ∧ (activeL b' n2 d' t).length + 1 = (activeL b2 n2 d2 t).length) := Lib.hid (fun z hz => win_fin HV.out hz)
              have HN4 : Hid ((activeL b2 n2 d2 t).length = 0 → b2 = n2 ∧ n2 = t) := Lib.hid (fun h => by
                have e1 := win_none HV.out h
                refine ⟨e1, ?_⟩
                rcases Decidable.em (n2 = t) with h7 | h7
                · exact h7
                · have := (startB_iff HV.out).2 ⟨h7, by omega⟩
                  rw [HST.out] at this
                  exact Bool.noConfusion this)
              have K4 := hb4.keep K3
              have Y4 := Y3.trans hb4
              obtain ⟨ys, hys⟩ : ∃ ys, ys = activeL b2 n2 d2 t := ⟨_, rfl⟩
              rw [← hys] at O4 hl4 HX4 HN4 HM
              have HYS := Lib.hid hys
              clear hys ck fk zk K3
              obtain ⟨A4, c4, e4, _, _, hA4⟩ := O4.reads
              subst e4
              obtain ⟨ck, fk, zk⟩ := K4.facts
              by_cases h0 : 0 < ys.length
              · have j0 : (0 : Int) < (ys.length : Int) := by omega
                have hnil : ¬ ys = [] := fun h => by rw [h] at h0; simp at h0
                obtain ⟨b1, o1, rfl, z1, hc1⟩ := hA4 h0
                have r0 : w4.cell? ⟨gB, 0, none⟩ = some (.int .i64 b2) := ck 0
                have r1 : w4.cell? ⟨gB, 1, none⟩ = some (.int .i64 n2) := ck 1
                have r2 : w4.cell? ⟨gB, 2, none⟩ = some (.int .i64 d2) := ck 2
                have r3 : w4.cell? ⟨gB, 3, none⟩ = some (.int .i64 t) := ck 3
                have HE := Lib.hid (fun (z : Int) (W : World) => endI_any b2 n2 d2 t z W)
                unfold win at HE
                clear ck fk hA4
                go_wp2
                go_region_law (first
                  | (go_simp; go_at_call 38; refine (atL _ x0 k _ (by exact hv.keep Y4.drew) hn (by omega)).mono ?_; rintro e wT ⟨y, rfl, ⟨y0, y1⟩, rfl⟩; obtain ⟨r, hr⟩ : ∃ r : Nat, y % (ys.length : Int) = (r : Int) := Int.eq_ofNat_of_zero_le (Int.emod_nonneg _ (by omega)); have ht : y.tmod (ys.length : Int) = (r : Int) := (by rw [Int.tmod_eq_emod_of_nonneg y0]; exact hr); have hrl : r < ys.length := (by have := Int.emod_lt_of_pos y j0; omega); have hrm := Lib.hid (List.getElem_mem hrl); have g1 := hc1 r _ (List.getElem?_eq_getElem hrl); have q0 : (0 : Int) ≤ (r : Int) := (by omega); have q1 : (r : Int) < (ys.length : Int) := (by omega); obtain ⟨x, hx⟩ : ∃ x, x = ys[r]'hrl := ⟨_, rfl⟩; rw [← hx] at g1 hrm; clear hx hc1; obtain ⟨b3, d3, f1, f2, f3⟩ := HX4.out x hrm.out)
                  | (go_simp; go_at_call 37; refine (HE.out _ _).mono ?_; rintro e wU ⟨rfl, hbU⟩; rw [f1]; unfold win; have KU := hbU.keep K4.drew; have YU := Y4.drew.trans hbU; have u0 := KU.facts.1 0; have u1 := KU.facts.1 1; have u2 := KU.facts.1 2; have u3 := KU.facts.1 3; have w0 := KU.facts.2.1 0; have w1 := KU.facts.2.1 1; have w2 := KU.facts.2.1 2; have w3 := KU.facts.2.1 3))
                all_goals (
                  have K6 := KU.set4 (.int .i64 b3) (.int .i64 n2) (.int .i64 d3) (.int .i64 t)
                  have Y6 := (((YU.setCell (p := ⟨gB, 0, none⟩) hgB (.int .i64 b3)).setCell (p := ⟨gB, 1, none⟩) hgB (.int .i64 n2)).setCell (p := ⟨gB, 2, none⟩) hgB (.int .i64 d3)).setCell (p := ⟨gB, 3, none⟩) hgB (.int .i64 t)
                  have HM6 : Hid (2 * (t - n2) + ((activeL b3 n2 d3 t).length : Int) + 1 ≤ ((128 - k : Nat) : Int)) := Lib.hid (by have := HM.out; have := HK.out; omega)
                  have HW6 := Lib.hid f2
                  clear f1 f2 f3 hr ht g1 KU YU u0 u1 u2 u3 w0 w1 w2 w3 r0 r1 r2 r3
                  go_wp2
                  go_roundg (128 - (k + 1))
                  case measure => have := HK.out; omega
                  case rel => exact ⟨k + 1, s', b3, n2, d3, by omega, by go_num, rfl, K6, HW6.out, ⟨hs0, hs1⟩, by have := HM6.out; omega, Y6⟩)
              · have j0 : ¬ (0 : Int) < (ys.length : Int) := by omega
                have hst := HN4.out (by omega)
                have HM6 : Hid (2 * (t - n2) + ((activeL b2 n2 d2 t).length : Int) = 0) := Lib.hid (by rw [← HYS.out]; omega)
                clear hA4 hst
                go_wp2
                go_roundg (128 - (k + 1))
                case measure => have := HK.out; omega
                case rel => exact ⟨k + 1, s', b2, n2, d2, by omega, by go_num, rfl, K4, HV.out, ⟨hs0, hs1⟩, by rw [HM6.out]; omega, Y4⟩
            · have hsp := (startB_iff HV.out).1 hs
              obtain ⟨hv2, ha2⟩ := win_start HV.out hsp.1 hsp.2
              have HV2 := Lib.hid hv2
              have HM6 : Hid (2 * (t - (n2 + 1)) + ((activeL b2 (n2 + 1) d2 t).length : Int) + 1 ≤ ((128 - k : Nat) : Int)) := Lib.hid (by rw [ha2, List.length_append]; have := HM.out; have := HK.out; simp; omega)
              rw [startV_yes hs] at HS
              clear hs hsp hv2 ha2
              unfold win at HS
              go_wp2_with fail
              refine (HS.out _).mono ?_
              rintro e w3 ⟨rfl, hb3⟩
              have K3 := (hb3.keep K).alloc (.cells #[.int .i64 b2, .int .i64 (n2 + 1), .int .i64 d2, .int .i64 t] 61)
              have X3 : Blk (w3.alloc (.cells #[.int .i64 b2, .int .i64 (n2 + 1), .int .i64 d2, .int .i64 t] 61)) w3.heap.size 61 #[.int .i64 b2, .int .i64 (n2 + 1), .int .i64 d2, .int .i64 t] := Blk.new w3 _ _
              have Y3 := (Y.trans hb3).alloc (.cells #[.int .i64 b2, .int .i64 (n2 + 1), .int .i64 d2, .int .i64 t] 61)
              have K6 := K3.set4 (.int .i64 b2) (.int .i64 (n2 + 1)) (.int .i64 d2) (.int .i64 t)
              have Y6 := (((Y3.setCell (p := ⟨gB, 0, none⟩) hgB (.int .i64 b2)).setCell (p := ⟨gB, 1, none⟩) hgB (.int .i64 (n2 + 1))).setCell (p := ⟨gB, 2, none⟩) hgB (.int .i64 d2)).setCell (p := ⟨gB, 3, none⟩) hgB (.int .i64 t)
              clear ck fk zk K
              obtain ⟨ck, fk, zk⟩ := K3.facts
              obtain ⟨cx, fx, zx⟩ := X3.facts
              go_wp2
              go_roundg (128 - (k + 1))
              case measure => have := HK.out; omega
              case rel => exact ⟨k + 1, s' + 1, b2, n2 + 1, d2, by omega, by go_num, by go_num, K6, HV2.out, ⟨by omega, by omega⟩, by have := HM6.out; omega, Y6⟩
          · have hke : k = 128 := by omega
            subst hke
            have hst : b2 = n2 ∧ n2 = t := by
              have h5 := HM.out
              have h6 := HK.out
              have h7 := win_none HV.out (by omega)
              exact ⟨h7, by omega⟩
            obtain ⟨rfl, rfl⟩ := hst
            have hal : activeL b2 b2 d2 b2 = [] := List.eq_nil_of_length_eq_zero (by have := HM.out; have := HK.out; omega)
            have HF := Lib.hid (fun W => finI_any b2 b2 d2 b2 W)
            have HN := Lib.hid (fun W => nextI_any b2 b2 d2 b2 0 W)
            have HA := Lib.hid (fun W => actI_any b2 b2 d2 b2 W)
            have hfb : finB b2 b2 d2 b2 = true := by unfold finB; rw [HV.out]; simp
            rw [hfb] at HF
            rw [hal, nextZ_nil] at HN
            rw [hal] at HA
            unfold win at HF HN HA
            clear hfb hal
            go_wp2_with fail
            refine (HF.out _).mono ?_
            rintro e w3 ⟨rfl, hb3⟩
            have K3 := hb3.keep K
            clear ck fk zk
            obtain ⟨ck, fk, zk⟩ := K3.facts
            go_wp2_with fail
            refine (HN.out _).mono ?_
            rintro e w4 ⟨rfl, hb4⟩
            have K4 := hb4.keep K3
            clear ck fk zk
            obtain ⟨ck, fk, zk⟩ := K4.facts
            go_wp2_with fail
            refine (HA.out _).mono ?_
            rintro e w5 ⟨v5', rfl, O5, hb5⟩
            obtain ⟨A5, c5, e5, _, _, _⟩ := O5.reads
            subst e5
            go_wp2
            go_ret
            exact ⟨rfl, ((Y.trans hb3).trans hb4).trans hb5⟩

set_option maxRecDepth 100000 in
theorem lifted (os : Os) (started : os.Started) (H : Type) (enc : TypeId × Value → H) :
    ReturnsInHanded {} Try.checked os 6 .any (Rows.fnWindowsSpec.pre6 enc Try.prog Try.f6 Rows.fnWindowsRow.domain false) (Rows.fnWindowsSpec.post enc Try.prog Try.f6 false true false false) := by
  refine returnsInHanded_of_change (C := Try.checked) own started (by kernel_rfl) Try.func6
    (ChangeSpec.witness6 (enc := enc) (C := Try.checked) false ⟨#[], #[.slice none 0 0], []⟩ 8 (by kernel_rfl) (by kernel_rfl) (by kernel_rfl) (by kernel_rfl)) ?_
  intro W base args ds gs before hval0 hW hcnd _
  have hval : ∀ (j : Nat) t v, Try.f6.params[j]? = some t → args[j]? = some v → Value.okWide Try.prog W .any base t v := hval0
  have hW' := hW
  obtain ⟨p, q, hA0, hV, rfl, hfz, hnd⟩ := hW
  have hA : DataW.TrodAll enc Try.prog W 0 (fun _ => true) true Try.f6.params.toList args.toList ds p := hA0
  rw [Try.params6] at hA hval
  obtain ⟨v0, vs0, d0, ds0, p0, q0, hargs, rfl, rfl, h0, r0⟩ := trodAll_cons hA
  obtain ⟨rfl, rfl, rfl⟩ := trodAll_nil r0
  obtain rfl : args = #[v0] := by cases args; simp_all
  obtain ⟨rfl, rfl⟩ := trodVars_none hV
  have k0 := h0
  have lt0 : ∀ x ∈ p0, x.block < W.heap.size := by obtain ⟨m, hm⟩ := k0; exact DataW.trod_lt m _ _ _ hm
  obtain ⟨x0, f0⟩ := openBytes (hval 0 48 v0 rfl rfl) h0
  clear hA0 hval0
  refine (walk W v0 x0 f0).mono fun e W' ⟨he, bel⟩ => ?_
  subst he
  exact ⟨_, rfl, _, _, _, [], _, [], hW', trodAll_mk1 (shut_bool Try.underlying4 _), (trodAll_cons_mk (Below.trod laidOut (by kernel_rfl) (of_decide_eq_true (by kernel_rfl)) k0 bel lt0) trodAll_mk0), rfl, bel.frame _, fun h => by cases h⟩

theorem over : Rows.fnWindowsRow.holds Try.pinned (OpenSpec.ofChange Rows.fnWindowsSpec) :=
  OpenClaim.holds_of_wide 6 Try.f6 rfl rfl rfl rfl rfl rfl rfl ⟨rfl, rfl, rfl, rfl, rfl⟩ rfl rfl rfl rfl rfl (by kernel_rfl) Try.func6 (by kernel_rfl)
    (of_decide_eq_true (by kernel_rfl)) (by unfold Func.isWrapper; first | (rw [if_pos (by decide +kernel)]; kernel_rfl) | (rw [if_neg (by decide +kernel)]; exact ⟨rfl, rfl⟩))
    (fun os started H enc _ => lifted os started H enc)

theorem proved : Rows.FnWindowsSaid := over
#print axioms proved
end Go.Proofs.Ytchodlfkoafeaaa.fnWindows
