/-
  FnHomomorphicHashes: for every drawn generation and key the hash of a combination follows from the hashes of the symbols. No condition.
-/
import Derived.Test.YtjlcnbicehjjjaaGM
import Derived.Test.YtjlcnbicehjjjaaGP
import Derived.Test.YtjlcnbicehjjjaaGA
import Derived.Test.YtjlcnbicehjjjaaBq
import Derived.Deep.RegionHeld3
namespace Go.Proofs.Ytjlcnbicehjjjaa.fnHomomorphicHashes
open Go.ChangeShapes Go.WideShapes Go.ChangeAt Go.RowKit
set_option linter.unusedVariables false
set_option maxRecDepth 100000

theorem addVS (v u : Value) (xs ys : List Int) (w : World) (hv : RI w v xs) (hu : RI w u ys) (hp : pairB xs ys = true) :
    Calls Try.prog 36 #[v, u] w fun e w' => ∃ r, e = .returned r ∧ OI w' w.heap.size r (addsZ xs ys 1) ∧ Bel w w' := by
  go_enter Try.func36, Try.ntmps36
  go_wp2_with fail
  refine (addsS _ _ 1 xs ys _ hv hu hp (by decide)).mono ?_
  rintro e w1 ⟨r, rfl, O, hb⟩
  go_wp2
  go_ret
  exact ⟨_, rfl, O, hb⟩
set_option maxHeartbeats 4000000 in
theorem walk (w : World) (v0 : Value) (x0 : Nat) (f0 : IsBytes w v0 x0) :
    Calls Try.prog 6 #[v0] w fun e w' => e = .returned (.bool true) ∧ Below w.heap.size w w' := by
  have hv : RB w v0 x0 := f0
  by_cases hbig : (1048576 : Int) < (x0 : Int)
  · have HD : Hid (decide ((1048576 : Int) < (x0 : Int)) = true) := Lib.hid (decide_eq_true hbig)
    go_enter Try.func6, Try.ntmps6
    go_wp2_with fail
    refine (bigL _ x0 _ hv).mono ?_
    rintro e w1 ⟨rfl, rfl⟩
    rw [HD.out]
    go_wp2
    go_ret
    exact ⟨rfl, Bel.refl _⟩
  have hn : x0 ≤ 1048576 := by omega
  have HD : Hid (decide ((1048576 : Int) < (x0 : Int)) = false) := Lib.hid (decide_eq_false hbig)
  go_enter Try.func6, Try.ntmps6
  go_wp2_with fail
  refine (bigL _ x0 _ hv).mono ?_
  rintro e w1 ⟨rfl, rfl⟩
  rw [HD.out]
  go_wp2_with fail
  refine (drawHdS _ x0 _ hv hn).mono ?_
  rintro e w1 ⟨a, gv, m, kv, s, rfl, M1, K1, hg, Y1⟩
  obtain ⟨f0, f1, f2, f3, _⟩ := gnrB_facts hg
  obtain ⟨hk, hkl0⟩ := nh_valid (s := s) f2.1 f2.2
  generalize nhZ s (colN m : Int) = gs at *
  have hm0 : Mtx gs.length m := by rw [hkl0]; exact f3
  have hsy : hsyZ gs a m = m.map (hashZ gs) := hsy_yes (by unfold hsyB; rw [hk, hg, hkl0]; simp)
  have hgl : 1 ≤ gs.length ∧ gs.length ≤ 16 := (hkB_facts hk).2
  have HKL := Lib.hid hkl0
  have HM := Lib.hid hm0
  have HK := Lib.hid hk
  have HG := Lib.hid hg
  have HSY := Lib.hid hsy
  clear hkl0 hm0 hk hg hsy f0 f2 f3
  obtain ⟨A, c, rfl, _, _, hA⟩ := id M1
  obtain ⟨B, d, rfl, _, _, _⟩ := id K1
  have G2 := (Blk.new w1 47 #[.int .i64 a, .slice A m.length c]).alloc (.cells #[.slice B gs.length d] 24)
  have Q2 := Blk.new2 w1 (.cells #[.int .i64 a, .slice A m.length c] 47) 24 #[.slice B gs.length d]
  have Y2 : Bel w1 ((w1.alloc (.cells #[.int .i64 a, .slice A m.length c] 47)).alloc (.cells #[.slice B gs.length d] 24)) := ((Bel.refl _).alloc _).alloc _
  go_wp2_with fail
  refine (hsyI a _ _ m gs _ (K1.keep Y2) (M1.keep Y2)).mono ?_
  rintro e w3 ⟨h, rfl, O3, hb3⟩
  rw [HSY.out] at O3
  have hlen : (m.map (hashZ gs)).length = m.length := List.length_map _
  have HHS : Hid (∀ k, k ≤ m.length → True) := Lib.hid (fun _ _ => trivial)
  obtain ⟨hs, hhs⟩ : ∃ hs, hs = m.map (hashZ gs) := ⟨_, rfl⟩
  rw [← hhs] at O3 hlen
  have HHS := Lib.hid hhs
  have G3 := hb3.keep G2
  have Q3 := hb3.keep Q2
  have Y3 := Y2.trans hb3
  have z3 : w1.heap.size + 2 ≤ w3.heap.size := hb3.sz2
  obtain ⟨Ah, ch, eh, _, _, _⟩ := O3.reads
  rw [hlen] at eh
  subst eh
  have HLN := Lib.hid hlen
  clear hhs hlen G2 Q2 Y2 hb3
  obtain ⟨cq, fq, zq⟩ := Q3.facts
  obtain ⟨cg, fg, zg⟩ := G3.facts
  have hne : ((m.length : Int) != (m.length : Int)) = false := by simp
  go_wp2_with fail
  refine (hkI _ gs _ (K1.keep Y3)).mono ?_
  rintro e w4 ⟨rfl, hb4⟩
  rw [HK.out]
  have G4 := hb4.keep G3
  have Q4 := hb4.keep Q3
  have Y4 := Y3.trans hb4
  have O4 := O3.keep hb4
  have z4 := Nat.le_trans z3 hb4.size
  have hmk := mkInts m.length (by omega)
  have Oc := OI.made w4 m.length (by omega)
  have Yc : Bel w4 (w4.alloc (.cells (madeCells #[.int .i64 0] m.length) 3)) := (Bel.refl _).alloc _
  generalize hgA : w1.heap.size = gA at *
  have HGA := Lib.hid hgA
  clear hgA cq fq zq cg fg zg G3 Q3 O3 hb4
  obtain ⟨cg, fg, zg⟩ := G4.facts
  go_wp2
  generalize (w4.alloc (.cells (madeCells #[.int .i64 0] m.length) 3)) = w5 at *
  clear hmk cg fg zg
  go_loopg [7] m.length (fun f i wr => ∃ (k : Nat) (cs : List Int), k + f = m.length ∧ i = .int .i64 k ∧ OI wr w4.heap.size (.slice (some ⟨w4.heap.size, 0, none⟩) m.length m.length) cs ∧ (cs.length = m.length ∧ ∀ x ∈ cs, 0 ≤ x ∧ x ≤ 1018) ∧ Bel w4 wr)
  case atStart => exact ⟨0, _, by omega, rfl, Oc, ⟨by simp, fun x hx => by rw [(List.mem_replicate.1 hx).2]; omega⟩, Yc⟩
  case round =>
    clear Oc Yc
    obtain ⟨k, cs, hkf, rfl, Oc, ⟨hcl, hcb⟩, Yr⟩ := hrel
    have hk2 : k ≤ m.length := by omega
    have HKF := Lib.hid hkf
    have HCL := Lib.hid hcl
    have HCB := Lib.hid hcb
    clear hkf hcl hcb
    by_cases hlt : k < m.length
    · have i0 : (0 : Int) ≤ (k : Int) := by omega
      have i1 : (k : Int) < (m.length : Int) := by omega
      obtain ⟨g9, cap9, e9, _, _, _, _, fz, cs9⟩ := Oc.cells (by rw [HCL.out]; omega)
      injection e9 with e91 e92 e93
      injection e91 with e91
      injection e91 with e91
      subst e91
      have fk := fz k
      have ck := cs9 k _ (getD_at (show k < cs.length by rw [HCL.out]; exact hlt))
      clear e92 e93 fz cs9
      go_wp2_with fail
      refine (atL _ x0 k _ (hv.keep (Y1.trans (Y4.trans Yr))) hn (by omega)).mono ?_
      rintro e w6 ⟨y, rfl, ⟨y0, y1⟩, rfl⟩
      have O6 := Oc.store (i := k) hlt (y * 3)
      have Y6 := Yr.setCell (p := ⟨w4.heap.size, k, none⟩) (Nat.le_refl _) (.int .i64 (y * 3))
      go_wp2
      go_roundg (m.length - (k + 1))
      case measure => have := HKF.out; omega
      case rel => exact ⟨k + 1, _, by omega, by go_num, O6, ⟨by rw [List.length_set]; exact HCL.out, fun x hx => by
        rcases List.mem_or_eq_of_mem_set hx with h1 | h1
        · exact HCB.out x h1
        · omega⟩, Y6⟩
    · have hke : k = m.length := by omega
      subst hke
      have i1 : ¬ (m.length : Int) < (m.length : Int) := by omega
      have hvc : vecB cs = true := by unfold vecB; rw [List.all_eq_true.2 (fun x hx => elB_yes (HCB.out x hx)), decide_eq_true (by rw [HCL.out]; omega)]; rfl
      have HVC := Lib.hid hvc
      have HCP : Hid (cpB a m cs = true) := Lib.hid (by unfold cpB; rw [HG.out, hvc, HCL.out]; simp)
      have G5 := Yr.keep G4
      have Q5 := Yr.keep Q4
      have Y5 := Y4.trans Yr
      have O5 := O4.keep Yr
      clear hvc G4 Q4 O4
      obtain ⟨cg, fg, zg⟩ := G5.facts
      go_wp2_with fail
      refine (cpS a _ _ m cs _ (M1.keep Y5) Oc.reads HCP.out).mono ?_
      rintro e w7 ⟨r1, r2, rfl, P1, P2, hb7⟩
      have hpr : Row gs.length (lcZ m cs) := by
        have h9 := lcZ_row (vs := m) (cs := cs) (by rw [← HKL.out]; exact HM.out)
        rwa [← HKL.out] at h9
      have hvh : vhB gs hs cs (lcZ m cs) = true := by rw [HHS.out]; exact hash_vh HK.out HM.out (by omega) HVC.out HCL.out
      have hlc : hashZ gs (lcZ m cs) = combZ hs cs := by rw [HHS.out]; exact hash_lc HK.out HM.out (by omega) HVC.out HCL.out
      have hpl := hpr.1
      have HVH := Lib.hid hvh
      have HLC := Lib.hid hlc
      clear hvh hlc hpr
      generalize lcZ m cs = pa at *
      obtain ⟨A1, c1, e1, _, _, _⟩ := P1.reads
      rw [HCL.out] at e1
      subst e1
      obtain ⟨A2, c2, e2, _, _, _⟩ := P2.reads
      rw [hpl] at e2
      subst e2
      clear hpl
      have K7 : Blk (w7.alloc (.cells #[.int .i64 a, .slice A1 m.length c1, .slice A2 gs.length c2] 53)) w7.heap.size 53 #[.int .i64 a, .slice A1 m.length c1, .slice A2 gs.length c2] := Blk.new w7 _ _
      have y8 : Bel wr (w7.alloc (.cells #[.int .i64 a, .slice A1 m.length c1, .slice A2 gs.length c2] 53)) := hb7.alloc _
      have G8 := y8.keep G5
      have Q8 := y8.keep Q5
      have Y8 := Y5.trans y8
      have O8 := O5.keep y8
      have C8 := Oc.keep y8
      have P18 := P1.keep ((Bel.refl w7).alloc (.cells #[.int .i64 a, .slice A1 m.length c1, .slice A2 gs.length c2] 53))
      have P28 := P2.keep ((Bel.refl w7).alloc (.cells #[.int .i64 a, .slice A1 m.length c1, .slice A2 gs.length c2] 53))
      obtain ⟨b, off, rfl, hbl, hrow⟩ := hA (by omega)
      obtain ⟨l, hl⟩ : ∃ l, m.length = l + 1 := ⟨m.length - 1, by omega⟩
      have m0 := rw_get (show 0 < m.length by omega)
      have ml := rw_get (show l < m.length by omega)
      obtain ⟨ru, g0, qu⟩ := hrow 0 _ m0
      obtain ⟨rv, g1, qv⟩ := hrow l _ ml
      have hu := mtx_row HM.out (show 0 < m.length by omega)
      have hw := mtx_row HM.out (show l < m.length by omega)
      have HU := Lib.hid hu
      have HW := Lib.hid hw
      have hul := hu.1
      have hwl := hw.1
      clear m0 ml hrow hA hu hw hb7 cg fg zg
      generalize rw_ m 0 = xu at *
      generalize rw_ m l = xv at *
      obtain ⟨Au, cu, eu, _, _, _⟩ := id qu
      rw [hul] at eu
      subst eu
      obtain ⟨Av, cv, ev, _, _, _⟩ := id qv
      rw [hwl] at ev
      subst ev
      rw [Nat.add_zero] at g0
      have hbl1 : b < w1.heap.size := by rw [HGA.out]; exact hbl
      have g08 := Y8.cell1 hbl1 g0
      have g18 := Y8.cell1 hbl1 g1
      have ru8 := qu.keep (Y8)
      have rv8 := qv.keep (Y8)
      have rk8 := K1.keep Y8
      have i2 : (0 : Int) < (m.length : Int) := by omega
      have i3 : (0 : Int) ≤ (l : Int) := by omega
      have i4 : (l : Int) < (m.length : Int) := by omega
      have j0 : 0 < m.length := by omega
      have el : (m.length : Int) - 1 = (l : Int) := by omega
      clear hl hul hwl g0 g1 G5 Q5 Y5 O5 y8 P1 P2
      obtain ⟨cg, fg, zg⟩ := G8.facts
      obtain ⟨ck, fk, zk⟩ := K7.facts
      obtain ⟨cq, fq, zq⟩ := Q8.facts
      go_wp2
      clear el cg fg zg ck fk zk cq fq zq
      generalize hw8 : (w7.alloc (.cells #[.int .i64 a, .slice A1 m.length c1, .slice A2 gs.length c2] 53)) = w8 at *
      generalize w7.heap.size = gP at *
      clear hw8
      obtain ⟨y, hy⟩ : ∃ y, y = hashZ gs xu := ⟨_, rfl⟩
      obtain ⟨z, hz⟩ : ∃ z, z = hashZ gs xv := ⟨_, rfl⟩
      obtain ⟨x, hx⟩ : ∃ x, x = combZ hs cs := ⟨_, rfl⟩
      have hyg : grB y = true := by rw [hy]; exact hash_pos HK.out HU.out
      have hzg : grB z = true := by rw [hz]; exact hash_pos HK.out HW.out
      have HADD : Hid (hashZ gs (addsZ xu xv 1) = y * z % 2039) := Lib.hid (by rw [hy, hz]; exact hash_add HK.out HU.out HW.out)
      have HZRO := Lib.hid (hash_zero HK.out)
      have HPB : Hid (pairB xu xv = true) := Lib.hid (pair_rows HU.out HW.out (by omega))
      have V1 : Hid (∀ W : World, Bel w8 W → Calls Try.prog 34 #[.agg #[.slice B gs.length d], .slice Ah m.length ch, .agg #[.int .i64 a, .slice A1 m.length c1, .slice A2 gs.length c2]] W fun e w' => e = .returned (.bool true) ∧ Bel W w') := Lib.hid (fun W hW => by
        have t := vhI a (.slice B gs.length d) (.slice Ah m.length ch) (.slice A1 m.length c1) (.slice A2 gs.length c2) gs hs cs pa W (rk8.keep hW) (O8.reads.keep hW) (P18.reads.keep hW) (P28.reads.keep hW)
        rw [HVH.out] at t
        exact t)
      have V2 : Hid (∀ W : World, Bel w8 W → Calls Try.prog 28 #[.agg #[.slice B gs.length d], .slice A2 gs.length c2] W fun e w' => e = .returned (.int .i64 x) ∧ Bel W w') := Lib.hid (fun W hW => by
        have t := hashI (.slice B gs.length d) (.slice A2 gs.length c2) gs pa W (rk8.keep hW) (P28.reads.keep hW)
        rw [HLC.out, ← hx] at t
        exact t)
      have V3 : Hid (∀ W : World, Bel w8 W → Calls Try.prog 35 #[.slice Ah m.length ch, .slice (some ⟨w4.heap.size, 0, none⟩) m.length m.length] W fun e w' => e = .returned (.int .i64 x) ∧ Bel W w') := Lib.hid (fun W hW => by
        have t := combIB (.slice Ah m.length ch) (.slice (some ⟨w4.heap.size, 0, none⟩) m.length m.length) hs cs W (O8.reads.keep hW) (C8.reads.keep hW)
        rw [← hx] at t
        exact t)
      have V6 : Hid (∀ W : World, Bel w8 W → Calls Try.prog 28 #[.agg #[.slice B gs.length d], .slice Au gs.length cu] W fun e w' => e = .returned (.int .i64 y) ∧ Bel W w') := Lib.hid (fun W hW => by
        have t := hashI (.slice B gs.length d) (.slice Au gs.length cu) gs xu W (rk8.keep hW) (ru8.keep hW)
        rw [← hy] at t
        exact t)
      have V7 : Hid (∀ W : World, Bel w8 W → Calls Try.prog 28 #[.agg #[.slice B gs.length d], .slice Av gs.length cv] W fun e w' => e = .returned (.int .i64 z) ∧ Bel W w') := Lib.hid (fun W hW => by
        have t := hashI (.slice B gs.length d) (.slice Av gs.length cv) gs xv W (rk8.keep hW) (rv8.keep hW)
        rw [← hz] at t
        exact t)
      have V8 : Hid (∀ W : World, Calls Try.prog 37 #[.int .i64 y, .int .i64 z] W fun e w' => e = .returned (.int .i64 (y * z % 2039)) ∧ W = w') := Lib.hid (fun W => mulGS y z W hyg hzg)
      have hmk := mkInts gs.length (by omega)
      have r0 : w8.cell? ⟨gA + 1, 0, none⟩ = some (.slice B gs.length d) := Q8.facts.1 0
      have r1 : w8.cell? ⟨gP, 0, none⟩ = some (.int .i64 a) := K7.facts.1 0
      have r2 : w8.cell? ⟨gP, 1, none⟩ = some (.slice A1 m.length c1) := K7.facts.1 1
      have r3 : w8.cell? ⟨gP, 2, none⟩ = some (.slice A2 gs.length c2) := K7.facts.1 2
      have zQ := Q8.lt
      have zP := K7.lt
      clear hy hz hx
      generalize hmq : y * z % 2039 = q at *
      clear hmq hyg hzg
      have Yd := (Bel.refl w8).drew
      go_region_held3 (fun w' => w'.cell? ⟨gA + 1, 0, none⟩ = some (.slice B gs.length d) ∧ w'.cell? ⟨gP, 0, none⟩ = some (.int .i64 a) ∧ w'.cell? ⟨gP, 1, none⟩ = some (.slice A1 m.length c1) ∧ w'.cell? ⟨gP, 2, none⟩ = some (.slice A2 gs.length c2)) (first | exact ⟨hbA.cell1 (zQ) (r0), hbA.cell1 (zP) (r1), hbA.cell1 (zP) (r2), hbA.cell1 (zP) (r3)⟩ | exact ⟨hbB.cell1 (Nat.lt_of_lt_of_le (zQ) hbA.size) (hbA.cell1 (zQ) (r0)), hbB.cell1 (Nat.lt_of_lt_of_le (zP) hbA.size) (hbA.cell1 (zP) (r1)), hbB.cell1 (Nat.lt_of_lt_of_le (zP) hbA.size) (hbA.cell1 (zP) (r2)), hbB.cell1 (Nat.lt_of_lt_of_le (zP) hbA.size) (hbA.cell1 (zP) (r3))⟩ | exact ⟨hbC.cell1 (Nat.lt_of_lt_of_le (Nat.lt_of_lt_of_le (zQ) hbA.size) hbB.size) (hbB.cell1 (Nat.lt_of_lt_of_le (zQ) hbA.size) (hbA.cell1 (zQ) (r0))), hbC.cell1 (Nat.lt_of_lt_of_le (Nat.lt_of_lt_of_le (zP) hbA.size) hbB.size) (hbB.cell1 (Nat.lt_of_lt_of_le (zP) hbA.size) (hbA.cell1 (zP) (r1))), hbC.cell1 (Nat.lt_of_lt_of_le (Nat.lt_of_lt_of_le (zP) hbA.size) hbB.size) (hbB.cell1 (Nat.lt_of_lt_of_le (zP) hbA.size) (hbA.cell1 (zP) (r2))), hbC.cell1 (Nat.lt_of_lt_of_le (Nat.lt_of_lt_of_le (zP) hbA.size) hbB.size) (hbB.cell1 (Nat.lt_of_lt_of_le (zP) hbA.size) (hbA.cell1 (zP) (r3)))⟩ | exact ⟨hbD.cell1 (Nat.lt_of_lt_of_le (Nat.lt_of_lt_of_le (Nat.lt_of_lt_of_le (zQ) hbA.size) hbB.size) hbC.size) (hbC.cell1 (Nat.lt_of_lt_of_le (Nat.lt_of_lt_of_le (zQ) hbA.size) hbB.size) (hbB.cell1 (Nat.lt_of_lt_of_le (zQ) hbA.size) (hbA.cell1 (zQ) (r0)))), hbD.cell1 (Nat.lt_of_lt_of_le (Nat.lt_of_lt_of_le (Nat.lt_of_lt_of_le (zP) hbA.size) hbB.size) hbC.size) (hbC.cell1 (Nat.lt_of_lt_of_le (Nat.lt_of_lt_of_le (zP) hbA.size) hbB.size) (hbB.cell1 (Nat.lt_of_lt_of_le (zP) hbA.size) (hbA.cell1 (zP) (r1)))), hbD.cell1 (Nat.lt_of_lt_of_le (Nat.lt_of_lt_of_le (Nat.lt_of_lt_of_le (zP) hbA.size) hbB.size) hbC.size) (hbC.cell1 (Nat.lt_of_lt_of_le (Nat.lt_of_lt_of_le (zP) hbA.size) hbB.size) (hbB.cell1 (Nat.lt_of_lt_of_le (zP) hbA.size) (hbA.cell1 (zP) (r2)))), hbD.cell1 (Nat.lt_of_lt_of_le (Nat.lt_of_lt_of_le (Nat.lt_of_lt_of_le (zP) hbA.size) hbB.size) hbC.size) (hbC.cell1 (Nat.lt_of_lt_of_le (Nat.lt_of_lt_of_le (zP) hbA.size) hbB.size) (hbB.cell1 (Nat.lt_of_lt_of_le (zP) hbA.size) (hbA.cell1 (zP) (r3))))⟩ | exact ⟨hbE.cell1 (Nat.lt_of_lt_of_le (Nat.lt_of_lt_of_le (Nat.lt_of_lt_of_le (Nat.lt_of_lt_of_le (zQ) hbA.size) hbB.size) hbC.size) hbD.size) (hbD.cell1 (Nat.lt_of_lt_of_le (Nat.lt_of_lt_of_le (Nat.lt_of_lt_of_le (zQ) hbA.size) hbB.size) hbC.size) (hbC.cell1 (Nat.lt_of_lt_of_le (Nat.lt_of_lt_of_le (zQ) hbA.size) hbB.size) (hbB.cell1 (Nat.lt_of_lt_of_le (zQ) hbA.size) (hbA.cell1 (zQ) (r0))))), hbE.cell1 (Nat.lt_of_lt_of_le (Nat.lt_of_lt_of_le (Nat.lt_of_lt_of_le (Nat.lt_of_lt_of_le (zP) hbA.size) hbB.size) hbC.size) hbD.size) (hbD.cell1 (Nat.lt_of_lt_of_le (Nat.lt_of_lt_of_le (Nat.lt_of_lt_of_le (zP) hbA.size) hbB.size) hbC.size) (hbC.cell1 (Nat.lt_of_lt_of_le (Nat.lt_of_lt_of_le (zP) hbA.size) hbB.size) (hbB.cell1 (Nat.lt_of_lt_of_le (zP) hbA.size) (hbA.cell1 (zP) (r1))))), hbE.cell1 (Nat.lt_of_lt_of_le (Nat.lt_of_lt_of_le (Nat.lt_of_lt_of_le (Nat.lt_of_lt_of_le (zP) hbA.size) hbB.size) hbC.size) hbD.size) (hbD.cell1 (Nat.lt_of_lt_of_le (Nat.lt_of_lt_of_le (Nat.lt_of_lt_of_le (zP) hbA.size) hbB.size) hbC.size) (hbC.cell1 (Nat.lt_of_lt_of_le (Nat.lt_of_lt_of_le (zP) hbA.size) hbB.size) (hbB.cell1 (Nat.lt_of_lt_of_le (zP) hbA.size) (hbA.cell1 (zP) (r2))))), hbE.cell1 (Nat.lt_of_lt_of_le (Nat.lt_of_lt_of_le (Nat.lt_of_lt_of_le (Nat.lt_of_lt_of_le (zP) hbA.size) hbB.size) hbC.size) hbD.size) (hbD.cell1 (Nat.lt_of_lt_of_le (Nat.lt_of_lt_of_le (Nat.lt_of_lt_of_le (zP) hbA.size) hbB.size) hbC.size) (hbC.cell1 (Nat.lt_of_lt_of_le (Nat.lt_of_lt_of_le (zP) hbA.size) hbB.size) (hbB.cell1 (Nat.lt_of_lt_of_le (zP) hbA.size) (hbA.cell1 (zP) (r3)))))⟩ | exact ⟨hbF.cell1 (Nat.lt_of_lt_of_le (Nat.lt_of_lt_of_le (Nat.lt_of_lt_of_le (Nat.lt_of_lt_of_le (Nat.lt_of_lt_of_le (zQ) hbA.size) hbB.size) hbC.size) hbD.size) hbE.size) (hbE.cell1 (Nat.lt_of_lt_of_le (Nat.lt_of_lt_of_le (Nat.lt_of_lt_of_le (Nat.lt_of_lt_of_le (zQ) hbA.size) hbB.size) hbC.size) hbD.size) (hbD.cell1 (Nat.lt_of_lt_of_le (Nat.lt_of_lt_of_le (Nat.lt_of_lt_of_le (zQ) hbA.size) hbB.size) hbC.size) (hbC.cell1 (Nat.lt_of_lt_of_le (Nat.lt_of_lt_of_le (zQ) hbA.size) hbB.size) (hbB.cell1 (Nat.lt_of_lt_of_le (zQ) hbA.size) (hbA.cell1 (zQ) (r0)))))), hbF.cell1 (Nat.lt_of_lt_of_le (Nat.lt_of_lt_of_le (Nat.lt_of_lt_of_le (Nat.lt_of_lt_of_le (Nat.lt_of_lt_of_le (zP) hbA.size) hbB.size) hbC.size) hbD.size) hbE.size) (hbE.cell1 (Nat.lt_of_lt_of_le (Nat.lt_of_lt_of_le (Nat.lt_of_lt_of_le (Nat.lt_of_lt_of_le (zP) hbA.size) hbB.size) hbC.size) hbD.size) (hbD.cell1 (Nat.lt_of_lt_of_le (Nat.lt_of_lt_of_le (Nat.lt_of_lt_of_le (zP) hbA.size) hbB.size) hbC.size) (hbC.cell1 (Nat.lt_of_lt_of_le (Nat.lt_of_lt_of_le (zP) hbA.size) hbB.size) (hbB.cell1 (Nat.lt_of_lt_of_le (zP) hbA.size) (hbA.cell1 (zP) (r1)))))), hbF.cell1 (Nat.lt_of_lt_of_le (Nat.lt_of_lt_of_le (Nat.lt_of_lt_of_le (Nat.lt_of_lt_of_le (Nat.lt_of_lt_of_le (zP) hbA.size) hbB.size) hbC.size) hbD.size) hbE.size) (hbE.cell1 (Nat.lt_of_lt_of_le (Nat.lt_of_lt_of_le (Nat.lt_of_lt_of_le (Nat.lt_of_lt_of_le (zP) hbA.size) hbB.size) hbC.size) hbD.size) (hbD.cell1 (Nat.lt_of_lt_of_le (Nat.lt_of_lt_of_le (Nat.lt_of_lt_of_le (zP) hbA.size) hbB.size) hbC.size) (hbC.cell1 (Nat.lt_of_lt_of_le (Nat.lt_of_lt_of_le (zP) hbA.size) hbB.size) (hbB.cell1 (Nat.lt_of_lt_of_le (zP) hbA.size) (hbA.cell1 (zP) (r2)))))), hbF.cell1 (Nat.lt_of_lt_of_le (Nat.lt_of_lt_of_le (Nat.lt_of_lt_of_le (Nat.lt_of_lt_of_le (Nat.lt_of_lt_of_le (zP) hbA.size) hbB.size) hbC.size) hbD.size) hbE.size) (hbE.cell1 (Nat.lt_of_lt_of_le (Nat.lt_of_lt_of_le (Nat.lt_of_lt_of_le (Nat.lt_of_lt_of_le (zP) hbA.size) hbB.size) hbC.size) hbD.size) (hbD.cell1 (Nat.lt_of_lt_of_le (Nat.lt_of_lt_of_le (Nat.lt_of_lt_of_le (zP) hbA.size) hbB.size) hbC.size) (hbC.cell1 (Nat.lt_of_lt_of_le (Nat.lt_of_lt_of_le (zP) hbA.size) hbB.size) (hbB.cell1 (Nat.lt_of_lt_of_le (zP) hbA.size) (hbA.cell1 (zP) (r3))))))⟩ | exact ⟨hbG.cell1 (Nat.lt_of_lt_of_le (Nat.lt_of_lt_of_le (Nat.lt_of_lt_of_le (Nat.lt_of_lt_of_le (Nat.lt_of_lt_of_le (Nat.lt_of_lt_of_le (zQ) hbA.size) hbB.size) hbC.size) hbD.size) hbE.size) hbF.size) (hbF.cell1 (Nat.lt_of_lt_of_le (Nat.lt_of_lt_of_le (Nat.lt_of_lt_of_le (Nat.lt_of_lt_of_le (Nat.lt_of_lt_of_le (zQ) hbA.size) hbB.size) hbC.size) hbD.size) hbE.size) (hbE.cell1 (Nat.lt_of_lt_of_le (Nat.lt_of_lt_of_le (Nat.lt_of_lt_of_le (Nat.lt_of_lt_of_le (zQ) hbA.size) hbB.size) hbC.size) hbD.size) (hbD.cell1 (Nat.lt_of_lt_of_le (Nat.lt_of_lt_of_le (Nat.lt_of_lt_of_le (zQ) hbA.size) hbB.size) hbC.size) (hbC.cell1 (Nat.lt_of_lt_of_le (Nat.lt_of_lt_of_le (zQ) hbA.size) hbB.size) (hbB.cell1 (Nat.lt_of_lt_of_le (zQ) hbA.size) (hbA.cell1 (zQ) (r0))))))), hbG.cell1 (Nat.lt_of_lt_of_le (Nat.lt_of_lt_of_le (Nat.lt_of_lt_of_le (Nat.lt_of_lt_of_le (Nat.lt_of_lt_of_le (Nat.lt_of_lt_of_le (zP) hbA.size) hbB.size) hbC.size) hbD.size) hbE.size) hbF.size) (hbF.cell1 (Nat.lt_of_lt_of_le (Nat.lt_of_lt_of_le (Nat.lt_of_lt_of_le (Nat.lt_of_lt_of_le (Nat.lt_of_lt_of_le (zP) hbA.size) hbB.size) hbC.size) hbD.size) hbE.size) (hbE.cell1 (Nat.lt_of_lt_of_le (Nat.lt_of_lt_of_le (Nat.lt_of_lt_of_le (Nat.lt_of_lt_of_le (zP) hbA.size) hbB.size) hbC.size) hbD.size) (hbD.cell1 (Nat.lt_of_lt_of_le (Nat.lt_of_lt_of_le (Nat.lt_of_lt_of_le (zP) hbA.size) hbB.size) hbC.size) (hbC.cell1 (Nat.lt_of_lt_of_le (Nat.lt_of_lt_of_le (zP) hbA.size) hbB.size) (hbB.cell1 (Nat.lt_of_lt_of_le (zP) hbA.size) (hbA.cell1 (zP) (r1))))))), hbG.cell1 (Nat.lt_of_lt_of_le (Nat.lt_of_lt_of_le (Nat.lt_of_lt_of_le (Nat.lt_of_lt_of_le (Nat.lt_of_lt_of_le (Nat.lt_of_lt_of_le (zP) hbA.size) hbB.size) hbC.size) hbD.size) hbE.size) hbF.size) (hbF.cell1 (Nat.lt_of_lt_of_le (Nat.lt_of_lt_of_le (Nat.lt_of_lt_of_le (Nat.lt_of_lt_of_le (Nat.lt_of_lt_of_le (zP) hbA.size) hbB.size) hbC.size) hbD.size) hbE.size) (hbE.cell1 (Nat.lt_of_lt_of_le (Nat.lt_of_lt_of_le (Nat.lt_of_lt_of_le (Nat.lt_of_lt_of_le (zP) hbA.size) hbB.size) hbC.size) hbD.size) (hbD.cell1 (Nat.lt_of_lt_of_le (Nat.lt_of_lt_of_le (Nat.lt_of_lt_of_le (zP) hbA.size) hbB.size) hbC.size) (hbC.cell1 (Nat.lt_of_lt_of_le (Nat.lt_of_lt_of_le (zP) hbA.size) hbB.size) (hbB.cell1 (Nat.lt_of_lt_of_le (zP) hbA.size) (hbA.cell1 (zP) (r2))))))), hbG.cell1 (Nat.lt_of_lt_of_le (Nat.lt_of_lt_of_le (Nat.lt_of_lt_of_le (Nat.lt_of_lt_of_le (Nat.lt_of_lt_of_le (Nat.lt_of_lt_of_le (zP) hbA.size) hbB.size) hbC.size) hbD.size) hbE.size) hbF.size) (hbF.cell1 (Nat.lt_of_lt_of_le (Nat.lt_of_lt_of_le (Nat.lt_of_lt_of_le (Nat.lt_of_lt_of_le (Nat.lt_of_lt_of_le (zP) hbA.size) hbB.size) hbC.size) hbD.size) hbE.size) (hbE.cell1 (Nat.lt_of_lt_of_le (Nat.lt_of_lt_of_le (Nat.lt_of_lt_of_le (Nat.lt_of_lt_of_le (zP) hbA.size) hbB.size) hbC.size) hbD.size) (hbD.cell1 (Nat.lt_of_lt_of_le (Nat.lt_of_lt_of_le (Nat.lt_of_lt_of_le (zP) hbA.size) hbB.size) hbC.size) (hbC.cell1 (Nat.lt_of_lt_of_le (Nat.lt_of_lt_of_le (zP) hbA.size) hbB.size) (hbB.cell1 (Nat.lt_of_lt_of_le (zP) hbA.size) (hbA.cell1 (zP) (r3)))))))⟩ | exact ⟨hbH.cell1 (by rw [World.size_alloc]; exact Nat.lt_succ_of_lt (Nat.lt_of_lt_of_le (Nat.lt_of_lt_of_le (Nat.lt_of_lt_of_le (Nat.lt_of_lt_of_le (Nat.lt_of_lt_of_le (Nat.lt_of_lt_of_le (Nat.lt_of_lt_of_le (zQ) hbA.size) hbB.size) hbC.size) hbD.size) hbE.size) hbF.size) hbG.size)) (((Bel.refl _).alloc _).cell1 (Nat.lt_of_lt_of_le (Nat.lt_of_lt_of_le (Nat.lt_of_lt_of_le (Nat.lt_of_lt_of_le (Nat.lt_of_lt_of_le (Nat.lt_of_lt_of_le (Nat.lt_of_lt_of_le (zQ) hbA.size) hbB.size) hbC.size) hbD.size) hbE.size) hbF.size) hbG.size) (hbG.cell1 (Nat.lt_of_lt_of_le (Nat.lt_of_lt_of_le (Nat.lt_of_lt_of_le (Nat.lt_of_lt_of_le (Nat.lt_of_lt_of_le (Nat.lt_of_lt_of_le (zQ) hbA.size) hbB.size) hbC.size) hbD.size) hbE.size) hbF.size) (hbF.cell1 (Nat.lt_of_lt_of_le (Nat.lt_of_lt_of_le (Nat.lt_of_lt_of_le (Nat.lt_of_lt_of_le (Nat.lt_of_lt_of_le (zQ) hbA.size) hbB.size) hbC.size) hbD.size) hbE.size) (hbE.cell1 (Nat.lt_of_lt_of_le (Nat.lt_of_lt_of_le (Nat.lt_of_lt_of_le (Nat.lt_of_lt_of_le (zQ) hbA.size) hbB.size) hbC.size) hbD.size) (hbD.cell1 (Nat.lt_of_lt_of_le (Nat.lt_of_lt_of_le (Nat.lt_of_lt_of_le (zQ) hbA.size) hbB.size) hbC.size) (hbC.cell1 (Nat.lt_of_lt_of_le (Nat.lt_of_lt_of_le (zQ) hbA.size) hbB.size) (hbB.cell1 (Nat.lt_of_lt_of_le (zQ) hbA.size) (hbA.cell1 (zQ) (r0))))))))), hbH.cell1 (by rw [World.size_alloc]; exact Nat.lt_succ_of_lt (Nat.lt_of_lt_of_le (Nat.lt_of_lt_of_le (Nat.lt_of_lt_of_le (Nat.lt_of_lt_of_le (Nat.lt_of_lt_of_le (Nat.lt_of_lt_of_le (Nat.lt_of_lt_of_le (zP) hbA.size) hbB.size) hbC.size) hbD.size) hbE.size) hbF.size) hbG.size)) (((Bel.refl _).alloc _).cell1 (Nat.lt_of_lt_of_le (Nat.lt_of_lt_of_le (Nat.lt_of_lt_of_le (Nat.lt_of_lt_of_le (Nat.lt_of_lt_of_le (Nat.lt_of_lt_of_le (Nat.lt_of_lt_of_le (zP) hbA.size) hbB.size) hbC.size) hbD.size) hbE.size) hbF.size) hbG.size) (hbG.cell1 (Nat.lt_of_lt_of_le (Nat.lt_of_lt_of_le (Nat.lt_of_lt_of_le (Nat.lt_of_lt_of_le (Nat.lt_of_lt_of_le (Nat.lt_of_lt_of_le (zP) hbA.size) hbB.size) hbC.size) hbD.size) hbE.size) hbF.size) (hbF.cell1 (Nat.lt_of_lt_of_le (Nat.lt_of_lt_of_le (Nat.lt_of_lt_of_le (Nat.lt_of_lt_of_le (Nat.lt_of_lt_of_le (zP) hbA.size) hbB.size) hbC.size) hbD.size) hbE.size) (hbE.cell1 (Nat.lt_of_lt_of_le (Nat.lt_of_lt_of_le (Nat.lt_of_lt_of_le (Nat.lt_of_lt_of_le (zP) hbA.size) hbB.size) hbC.size) hbD.size) (hbD.cell1 (Nat.lt_of_lt_of_le (Nat.lt_of_lt_of_le (Nat.lt_of_lt_of_le (zP) hbA.size) hbB.size) hbC.size) (hbC.cell1 (Nat.lt_of_lt_of_le (Nat.lt_of_lt_of_le (zP) hbA.size) hbB.size) (hbB.cell1 (Nat.lt_of_lt_of_le (zP) hbA.size) (hbA.cell1 (zP) (r1))))))))), hbH.cell1 (by rw [World.size_alloc]; exact Nat.lt_succ_of_lt (Nat.lt_of_lt_of_le (Nat.lt_of_lt_of_le (Nat.lt_of_lt_of_le (Nat.lt_of_lt_of_le (Nat.lt_of_lt_of_le (Nat.lt_of_lt_of_le (Nat.lt_of_lt_of_le (zP) hbA.size) hbB.size) hbC.size) hbD.size) hbE.size) hbF.size) hbG.size)) (((Bel.refl _).alloc _).cell1 (Nat.lt_of_lt_of_le (Nat.lt_of_lt_of_le (Nat.lt_of_lt_of_le (Nat.lt_of_lt_of_le (Nat.lt_of_lt_of_le (Nat.lt_of_lt_of_le (Nat.lt_of_lt_of_le (zP) hbA.size) hbB.size) hbC.size) hbD.size) hbE.size) hbF.size) hbG.size) (hbG.cell1 (Nat.lt_of_lt_of_le (Nat.lt_of_lt_of_le (Nat.lt_of_lt_of_le (Nat.lt_of_lt_of_le (Nat.lt_of_lt_of_le (Nat.lt_of_lt_of_le (zP) hbA.size) hbB.size) hbC.size) hbD.size) hbE.size) hbF.size) (hbF.cell1 (Nat.lt_of_lt_of_le (Nat.lt_of_lt_of_le (Nat.lt_of_lt_of_le (Nat.lt_of_lt_of_le (Nat.lt_of_lt_of_le (zP) hbA.size) hbB.size) hbC.size) hbD.size) hbE.size) (hbE.cell1 (Nat.lt_of_lt_of_le (Nat.lt_of_lt_of_le (Nat.lt_of_lt_of_le (Nat.lt_of_lt_of_le (zP) hbA.size) hbB.size) hbC.size) hbD.size) (hbD.cell1 (Nat.lt_of_lt_of_le (Nat.lt_of_lt_of_le (Nat.lt_of_lt_of_le (zP) hbA.size) hbB.size) hbC.size) (hbC.cell1 (Nat.lt_of_lt_of_le (Nat.lt_of_lt_of_le (zP) hbA.size) hbB.size) (hbB.cell1 (Nat.lt_of_lt_of_le (zP) hbA.size) (hbA.cell1 (zP) (r2))))))))), hbH.cell1 (by rw [World.size_alloc]; exact Nat.lt_succ_of_lt (Nat.lt_of_lt_of_le (Nat.lt_of_lt_of_le (Nat.lt_of_lt_of_le (Nat.lt_of_lt_of_le (Nat.lt_of_lt_of_le (Nat.lt_of_lt_of_le (Nat.lt_of_lt_of_le (zP) hbA.size) hbB.size) hbC.size) hbD.size) hbE.size) hbF.size) hbG.size)) (((Bel.refl _).alloc _).cell1 (Nat.lt_of_lt_of_le (Nat.lt_of_lt_of_le (Nat.lt_of_lt_of_le (Nat.lt_of_lt_of_le (Nat.lt_of_lt_of_le (Nat.lt_of_lt_of_le (Nat.lt_of_lt_of_le (zP) hbA.size) hbB.size) hbC.size) hbD.size) hbE.size) hbF.size) hbG.size) (hbG.cell1 (Nat.lt_of_lt_of_le (Nat.lt_of_lt_of_le (Nat.lt_of_lt_of_le (Nat.lt_of_lt_of_le (Nat.lt_of_lt_of_le (Nat.lt_of_lt_of_le (zP) hbA.size) hbB.size) hbC.size) hbD.size) hbE.size) hbF.size) (hbF.cell1 (Nat.lt_of_lt_of_le (Nat.lt_of_lt_of_le (Nat.lt_of_lt_of_le (Nat.lt_of_lt_of_le (Nat.lt_of_lt_of_le (zP) hbA.size) hbB.size) hbC.size) hbD.size) hbE.size) (hbE.cell1 (Nat.lt_of_lt_of_le (Nat.lt_of_lt_of_le (Nat.lt_of_lt_of_le (Nat.lt_of_lt_of_le (zP) hbA.size) hbB.size) hbC.size) hbD.size) (hbD.cell1 (Nat.lt_of_lt_of_le (Nat.lt_of_lt_of_le (Nat.lt_of_lt_of_le (zP) hbA.size) hbB.size) hbC.size) (hbC.cell1 (Nat.lt_of_lt_of_le (Nat.lt_of_lt_of_le (zP) hbA.size) hbB.size) (hbB.cell1 (Nat.lt_of_lt_of_le (zP) hbA.size) (hbA.cell1 (zP) (r3)))))))))⟩ | exact ⟨((Bel.refl _).alloc _).cell1 (Nat.lt_of_lt_of_le (Nat.lt_of_lt_of_le (Nat.lt_of_lt_of_le (Nat.lt_of_lt_of_le (Nat.lt_of_lt_of_le (Nat.lt_of_lt_of_le (Nat.lt_of_lt_of_le (zQ) hbA.size) hbB.size) hbC.size) hbD.size) hbE.size) hbF.size) hbG.size) (hbG.cell1 (Nat.lt_of_lt_of_le (Nat.lt_of_lt_of_le (Nat.lt_of_lt_of_le (Nat.lt_of_lt_of_le (Nat.lt_of_lt_of_le (Nat.lt_of_lt_of_le (zQ) hbA.size) hbB.size) hbC.size) hbD.size) hbE.size) hbF.size) (hbF.cell1 (Nat.lt_of_lt_of_le (Nat.lt_of_lt_of_le (Nat.lt_of_lt_of_le (Nat.lt_of_lt_of_le (Nat.lt_of_lt_of_le (zQ) hbA.size) hbB.size) hbC.size) hbD.size) hbE.size) (hbE.cell1 (Nat.lt_of_lt_of_le (Nat.lt_of_lt_of_le (Nat.lt_of_lt_of_le (Nat.lt_of_lt_of_le (zQ) hbA.size) hbB.size) hbC.size) hbD.size) (hbD.cell1 (Nat.lt_of_lt_of_le (Nat.lt_of_lt_of_le (Nat.lt_of_lt_of_le (zQ) hbA.size) hbB.size) hbC.size) (hbC.cell1 (Nat.lt_of_lt_of_le (Nat.lt_of_lt_of_le (zQ) hbA.size) hbB.size) (hbB.cell1 (Nat.lt_of_lt_of_le (zQ) hbA.size) (hbA.cell1 (zQ) (r0)))))))), ((Bel.refl _).alloc _).cell1 (Nat.lt_of_lt_of_le (Nat.lt_of_lt_of_le (Nat.lt_of_lt_of_le (Nat.lt_of_lt_of_le (Nat.lt_of_lt_of_le (Nat.lt_of_lt_of_le (Nat.lt_of_lt_of_le (zP) hbA.size) hbB.size) hbC.size) hbD.size) hbE.size) hbF.size) hbG.size) (hbG.cell1 (Nat.lt_of_lt_of_le (Nat.lt_of_lt_of_le (Nat.lt_of_lt_of_le (Nat.lt_of_lt_of_le (Nat.lt_of_lt_of_le (Nat.lt_of_lt_of_le (zP) hbA.size) hbB.size) hbC.size) hbD.size) hbE.size) hbF.size) (hbF.cell1 (Nat.lt_of_lt_of_le (Nat.lt_of_lt_of_le (Nat.lt_of_lt_of_le (Nat.lt_of_lt_of_le (Nat.lt_of_lt_of_le (zP) hbA.size) hbB.size) hbC.size) hbD.size) hbE.size) (hbE.cell1 (Nat.lt_of_lt_of_le (Nat.lt_of_lt_of_le (Nat.lt_of_lt_of_le (Nat.lt_of_lt_of_le (zP) hbA.size) hbB.size) hbC.size) hbD.size) (hbD.cell1 (Nat.lt_of_lt_of_le (Nat.lt_of_lt_of_le (Nat.lt_of_lt_of_le (zP) hbA.size) hbB.size) hbC.size) (hbC.cell1 (Nat.lt_of_lt_of_le (Nat.lt_of_lt_of_le (zP) hbA.size) hbB.size) (hbB.cell1 (Nat.lt_of_lt_of_le (zP) hbA.size) (hbA.cell1 (zP) (r1)))))))), ((Bel.refl _).alloc _).cell1 (Nat.lt_of_lt_of_le (Nat.lt_of_lt_of_le (Nat.lt_of_lt_of_le (Nat.lt_of_lt_of_le (Nat.lt_of_lt_of_le (Nat.lt_of_lt_of_le (Nat.lt_of_lt_of_le (zP) hbA.size) hbB.size) hbC.size) hbD.size) hbE.size) hbF.size) hbG.size) (hbG.cell1 (Nat.lt_of_lt_of_le (Nat.lt_of_lt_of_le (Nat.lt_of_lt_of_le (Nat.lt_of_lt_of_le (Nat.lt_of_lt_of_le (Nat.lt_of_lt_of_le (zP) hbA.size) hbB.size) hbC.size) hbD.size) hbE.size) hbF.size) (hbF.cell1 (Nat.lt_of_lt_of_le (Nat.lt_of_lt_of_le (Nat.lt_of_lt_of_le (Nat.lt_of_lt_of_le (Nat.lt_of_lt_of_le (zP) hbA.size) hbB.size) hbC.size) hbD.size) hbE.size) (hbE.cell1 (Nat.lt_of_lt_of_le (Nat.lt_of_lt_of_le (Nat.lt_of_lt_of_le (Nat.lt_of_lt_of_le (zP) hbA.size) hbB.size) hbC.size) hbD.size) (hbD.cell1 (Nat.lt_of_lt_of_le (Nat.lt_of_lt_of_le (Nat.lt_of_lt_of_le (zP) hbA.size) hbB.size) hbC.size) (hbC.cell1 (Nat.lt_of_lt_of_le (Nat.lt_of_lt_of_le (zP) hbA.size) hbB.size) (hbB.cell1 (Nat.lt_of_lt_of_le (zP) hbA.size) (hbA.cell1 (zP) (r2)))))))), ((Bel.refl _).alloc _).cell1 (Nat.lt_of_lt_of_le (Nat.lt_of_lt_of_le (Nat.lt_of_lt_of_le (Nat.lt_of_lt_of_le (Nat.lt_of_lt_of_le (Nat.lt_of_lt_of_le (Nat.lt_of_lt_of_le (zP) hbA.size) hbB.size) hbC.size) hbD.size) hbE.size) hbF.size) hbG.size) (hbG.cell1 (Nat.lt_of_lt_of_le (Nat.lt_of_lt_of_le (Nat.lt_of_lt_of_le (Nat.lt_of_lt_of_le (Nat.lt_of_lt_of_le (Nat.lt_of_lt_of_le (zP) hbA.size) hbB.size) hbC.size) hbD.size) hbE.size) hbF.size) (hbF.cell1 (Nat.lt_of_lt_of_le (Nat.lt_of_lt_of_le (Nat.lt_of_lt_of_le (Nat.lt_of_lt_of_le (Nat.lt_of_lt_of_le (zP) hbA.size) hbB.size) hbC.size) hbD.size) hbE.size) (hbE.cell1 (Nat.lt_of_lt_of_le (Nat.lt_of_lt_of_le (Nat.lt_of_lt_of_le (Nat.lt_of_lt_of_le (zP) hbA.size) hbB.size) hbC.size) hbD.size) (hbD.cell1 (Nat.lt_of_lt_of_le (Nat.lt_of_lt_of_le (Nat.lt_of_lt_of_le (zP) hbA.size) hbB.size) hbC.size) (hbC.cell1 (Nat.lt_of_lt_of_le (Nat.lt_of_lt_of_le (zP) hbA.size) hbB.size) (hbB.cell1 (Nat.lt_of_lt_of_le (zP) hbA.size) (hbA.cell1 (zP) (r3))))))))⟩ | go_keep) (first | (go_at_call 34; ((with_reducible refine (V1.out _ (by exact Yd)).mono ?_); rintro e wA ⟨rfl, hbA⟩)) | (go_at_call 28; ((with_reducible refine (V2.out _ (by exact (Yd).trans hbA)).mono ?_); rintro e wB ⟨rfl, hbB⟩)) | (go_at_call 35; ((with_reducible refine (V3.out _ (by exact ((Yd).trans hbA).trans hbB)).mono ?_); rintro e wC ⟨rfl, hbC⟩)) | (go_at_call 36; ((with_reducible refine (addVS _ _ xu xv _ (by exact ru8.keep ((((Yd).trans hbA).trans hbB).trans hbC)) (by exact rv8.keep ((((Yd).trans hbA).trans hbB).trans hbC)) HPB.out).mono ?_); rintro e wD ⟨rr, rfl, OR, hbD⟩)) | (go_at_call 28; ((with_reducible refine (hashI _ rr gs (addsZ xu xv 1) _ (by exact rk8.keep (((((Yd).trans hbA).trans hbB).trans hbC).trans hbD)) (by exact OR.reads)).mono ?_); rintro e wE ⟨rfl, hbE⟩; rw [HADD.out])) | (go_at_call 28; ((with_reducible refine (V6.out _ (by exact (((((Yd).trans hbA).trans hbB).trans hbC).trans hbD).trans hbE)).mono ?_); rintro e wF ⟨rfl, hbF⟩)) | (go_at_call 28; ((with_reducible refine (V7.out _ (by exact ((((((Yd).trans hbA).trans hbB).trans hbC).trans hbD).trans hbE).trans hbF)).mono ?_); rintro e wG ⟨rfl, hbG⟩)) | (go_at_call 37; ((with_reducible refine (V8.out _).mono ?_); rintro e wI ⟨rfl, rfl⟩)) | (go_at_call 28; ((with_reducible refine (hashI _ _ gs (List.replicate gs.length 0) _ (by exact rk8.keep (((((((((Yd).trans hbA).trans hbB).trans hbC).trans hbD).trans hbE).trans hbF).trans hbG).alloc _)) (by exact (OI.made _ gs.length (by omega)).reads)).mono ?_); rintro e wH ⟨rfl, hbH⟩; rw [HZRO.out])))
      have YF : Bel w8 wH := ((((((((((Yd).trans hbA).trans hbB).trans hbC).trans hbD).trans hbE).trans hbF).trans hbG)).alloc _).trans hbH
      go_wp2
      go_ret
      exact ⟨rfl, Y1.trans (Y8.trans YF)⟩

set_option maxRecDepth 100000 in
theorem lifted (os : Os) (started : os.Started) (H : Type) (enc : TypeId × Value → H) :
    ReturnsInHanded {} Try.checked os 6 .any (Rows.fnHomomorphicHashesSpec.pre6 enc Try.prog Try.f6 Rows.fnHomomorphicHashesRow.domain false) (Rows.fnHomomorphicHashesSpec.post enc Try.prog Try.f6 false true false false) := by
  refine returnsInHanded_of_change (C := Try.checked) own started (by kernel_rfl) Try.func6
    (ChangeSpec.witness6 (enc := enc) (C := Try.checked) false ⟨#[], #[.slice none 0 0], []⟩ 8 (by kernel_rfl) (by kernel_rfl) (by kernel_rfl) (by kernel_rfl)) ?_
  intro W base args ds gs before hval0 hW hcnd _
  have hval : ∀ (j : Nat) t v, Try.f6.params[j]? = some t → args[j]? = some v → Value.okWide Try.prog W .any base t v := hval0
  have hW' := hW
  obtain ⟨p, q, hA0, hV, rfl, hfz, hnd⟩ := hW
  have hA : DataW.TrodAll enc Try.prog W 0 (fun _ => true) true Try.f6.params.toList args.toList ds p := hA0
  rw [Try.params6] at hA hval
  obtain ⟨v0, vs0, d0, ds0, p0, q0, hargs, rfl, rfl, h0, r0⟩ := trodAll_cons hA
  obtain ⟨rfl, rfl, rfl⟩ := trodAll_nil r0
  obtain rfl : args = #[v0] := by cases args; simp_all
  obtain ⟨rfl, rfl⟩ := trodVars_none hV
  have k0 := h0
  have lt0 : ∀ x ∈ p0, x.block < W.heap.size := by obtain ⟨m, hm⟩ := k0; exact DataW.trod_lt m _ _ _ hm
  obtain ⟨x0, f0⟩ := openBytes (hval 0 38 v0 rfl rfl) h0
  clear hA0 hval0
  refine (walk W v0 x0 f0).mono fun e W' ⟨he, bel⟩ => ?_
  subst he
  exact ⟨_, rfl, _, _, _, [], _, [], hW', trodAll_mk1 (shut_bool Try.underlying4 _), (trodAll_cons_mk (Below.trod laidOut (by kernel_rfl) (of_decide_eq_true (by kernel_rfl)) k0 bel lt0) trodAll_mk0), rfl, bel.frame _, fun h => by cases h⟩

theorem over : Rows.fnHomomorphicHashesRow.holds Try.pinned (OpenSpec.ofChange Rows.fnHomomorphicHashesSpec) :=
  OpenClaim.holds_of_wide 6 Try.f6 rfl rfl rfl rfl rfl rfl rfl ⟨rfl, rfl, rfl, rfl, rfl⟩ rfl rfl rfl rfl rfl (by kernel_rfl) Try.func6 (by kernel_rfl)
    (of_decide_eq_true (by kernel_rfl)) (by unfold Func.isWrapper; first | (rw [if_pos (by decide +kernel)]; kernel_rfl) | (rw [if_neg (by decide +kernel)]; exact ⟨rfl, rfl⟩))
    (fun os started H enc _ => lifted os started H enc)

theorem proved : Rows.FnHomomorphicHashesSaid := over
#print axioms proved
end Go.Proofs.Ytjlcnbicehjjjaa.fnHomomorphicHashes
