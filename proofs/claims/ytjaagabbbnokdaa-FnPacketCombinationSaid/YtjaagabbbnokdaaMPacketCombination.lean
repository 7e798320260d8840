/-
  FnPacketCombination: the program's combination of drawn packets is the reference's, and a relay's packets combine to a consistent packet. No condition.
-/
import Derived.Test.YtjaagabbbnokdaaPC
import Derived.Test.YtjaagabbbnokdaaPG
import Derived.Test.YtjaagabbbnokdaaPI
import Derived.Test.YtjaagabbbnokdaaPM
import Derived.Test.YtjaagabbbnokdaaPK
namespace Go.Proofs.Ytjaagabbbnokdaa.fnPacketCombination
open Go.ChangeShapes Go.WideShapes Go.ChangeAt Go.RowKit Go.Joins Go.Deep
set_option linter.unusedVariables false
set_option maxRecDepth 100000

set_option maxHeartbeats 4000000 in
theorem walk (w : World) (v0 : Value) (x0 : Nat) (f0 : IsBytes w v0 x0) :
    Calls Try.prog 7 #[v0] w fun e w' => e = .returned (.bool true) ∧ Below w.heap.size w w' := by
  have hv : RB w v0 x0 := f0
  by_cases hbig : (1048576 : Int) < (x0 : Int)
  · have HD : Hid (decide ((1048576 : Int) < (x0 : Int)) = true) := Lib.hid (decide_eq_true hbig)
    go_enter Try.func7, Try.ntmps7
    go_wp2_with fail
    refine (bigL _ x0 _ hv).mono ?_
    rintro e w1 ⟨rfl, rfl⟩
    rw [HD.out]
    go_wp2
    go_ret
    exact ⟨rfl, Bel.refl _⟩
  have hn : x0 ≤ 1048576 := by omega
  have HD : Hid (decide ((1048576 : Int) < (x0 : Int)) = false) := Lib.hid (decide_eq_false hbig)
  clear hbig
  go_enter Try.func7, Try.ntmps7
  go_wp2_with fail
  refine (bigL _ x0 _ hv).mono ?_
  rintro e w1 ⟨rfl, rfl⟩
  rw [HD.out]
  clear HD
  go_wp2_with fail
  refine (drawCpS _ x0 _ hv hn).mono ?_
  rintro e w1 ⟨l, ps, u, cs, rfl, L1, U1, hsm, hl10, b1⟩
  obtain ⟨Al, cl, rfl, _, _, _⟩ := id L1
  obtain ⟨Au, cu, rfl, _, _, _⟩ := id U1
  have HSM := Lib.hid hsm
  clear hsm
  go_wp2_with fail
  refine (cpkI _ _ ps cs _ L1 U1 (by omega)).mono ?_
  rintro e w2 ⟨r1, r2, rfl, O1, O2, b2⟩
  have L2 := L1.keep b2
  have U2 := U1.keep b2
  have Y2 := b1.trans b2
  obtain ⟨P, hP⟩ : ∃ P, P = cpkZ ps cs := ⟨_, rfl⟩
  obtain ⟨bq, hbq⟩ : ∃ b, b = cpkB ps cs := ⟨_, rfl⟩
  rw [← hP] at O1 O2 ⊢
  rw [← hbq]
  have HP := Lib.hid hP
  have HB := Lib.hid hbq
  clear hP hbq b1 b2 L1 U1
  obtain ⟨A1, c1, e1, _, _, _⟩ := O1.reads
  obtain ⟨A2, c2, e2, _, _, _⟩ := O2.reads
  subst e1 e2
  have B3 := (Bel.refl w2).alloc (.cells #[.int .i64 P.1, .slice A1 P.2.1.length c1, .slice A2 P.2.2.length c2] 63)
  have K3 := Blk.new w2 63 #[.int .i64 P.1, .slice A1 P.2.1.length c1, .slice A2 P.2.2.length c2]
  have L3 := L2.keep B3
  have U3 := U2.keep B3
  have P1 := O1.reads.keep B3
  have P2 := O2.reads.keep B3
  have Y3 := Y2.trans B3
  clear L2 U2 O1 O2 Y2 B3
  go_upto_region 5 with fail
  generalize w2.alloc (.cells #[.int .i64 P.1, .slice A1 P.2.1.length c1, .slice A2 P.2.2.length c2] 63) = w3 at *
  generalize w2.heap.size = g5 at *
  go_wp2_with fail
  refine (cpkS _ _ ps cs _ L3 U3 HSM.out (by omega)).mono ?_
  rintro e w4 ⟨r3, r4, rfl, O3, O4, b4⟩
  rw [← HP.out] at O3 O4 ⊢
  rw [← HB.out]
  clear HSM HP HB
  obtain ⟨A3, c3, e3, _, _, _⟩ := O3.reads
  obtain ⟨A4, c4, e4, _, _, _⟩ := O4.reads
  subst e3 e4
  have B5 := (Bel.refl w4).alloc (.cells #[.int .i64 P.1, .slice A3 P.2.1.length c3, .slice A4 P.2.2.length c4] 63)
  have K5 := Blk.new w4 63 #[.int .i64 P.1, .slice A3 P.2.1.length c3, .slice A4 P.2.2.length c4]
  have K35 := B5.keep (b4.keep K3)
  have P15 := (P1.keep b4).keep B5
  have P25 := (P2.keep b4).keep B5
  have P35 := O3.reads.keep B5
  have P45 := O4.reads.keep B5
  have Y5 := (Y3.trans b4).trans B5
  clear K3 P1 P2 O3 O4 Y3 b4 B5 L3 U3
  go_upto_region 6 with fail
  generalize w4.alloc (.cells #[.int .i64 P.1, .slice A3 P.2.1.length c3, .slice A4 P.2.2.length c4] 63) = w5 at *
  generalize w4.heap.size = g7 at *
  have hne : (bq != bq) = false := by simp
  obtain ⟨ck, fk, zk⟩ := K35.facts
  obtain ⟨cz, fz, zz⟩ := K5.facts
  go_wp2_with fail
  refine (sameP P.1 P.2.1 P.2.2 _ _ _ _ _ P15 P25 P35 P45).mono ?_
  rintro e w6 ⟨rfl, b6⟩
  clear ck fk zk cz fz zz
  have Y6 := Y5.trans b6
  clear K35 K5 P15 P25 P35 P45 Y5 b6
  go_wp2_with fail
  refine (drawReS _ x0 _ (hv.keep Y6) hn).mono ?_
  rintro e w7 ⟨a, gv, m, r, nn, qs, rfl, M7, R7, hg, ⟨h8, hcons⟩, b7⟩
  have HG := Lib.hid hg
  have HC := Lib.hid hcons
  clear hg hcons
  obtain ⟨Ag, cg, rfl, _, _, _⟩ := id M7
  obtain ⟨Ar, cr, rfl, _, _, _⟩ := id R7
  have B8 := ((Bel.refl w7).alloc (.cells #[.int .i64 a, .slice Ag m.length cg] 41)).alloc (.cells #[.int .i64 a, .int .i64 (m.length : Int), .int .i64 (colN m : Int), .slice Ar qs.length cr, .int .i64 nn] 29)
  have K8 := (Blk.new w7 41 #[.int .i64 a, .slice Ag m.length cg]).alloc (.cells #[.int .i64 a, .int .i64 (m.length : Int), .int .i64 (colN m : Int), .slice Ar qs.length cr, .int .i64 nn] 29)
  have Q8 := Blk.new2 w7 (.cells #[.int .i64 a, .slice Ag m.length cg] 41) 29 #[.int .i64 a, .int .i64 (m.length : Int), .int .i64 (colN m : Int), .slice Ar qs.length cr, .int .i64 nn]
  have M8 := M7.keep B8
  have R8 := R7.keep B8
  have Y8 := (Y6.trans b7).trans B8
  clear M7 R7 Y6 b7 B8
  go_upto_region 9 with fail
  generalize (w7.alloc (.cells #[.int .i64 a, .slice Ag m.length cg] 41)).alloc (.cells #[.int .i64 a, .int .i64 (m.length : Int), .int .i64 (colN m : Int), .slice Ar qs.length cr, .int .i64 nn] 29) = w8 at *
  generalize w7.heap.size = gG at *
  obtain ⟨cq, fq, zq⟩ := Q8.facts
  cases h0 : ((qs.length : Int) == 0) with
  | true =>
    go_wp2
    go_ret
    exact ⟨rfl, Y8⟩
  | false =>
    have hq0 : 0 < qs.length := by have := beq_eq_false_iff_ne.1 h0; omega
    have hmk := mkInts qs.length (by omega)
    have O9 := OI.made w8 qs.length (by omega)
    have B9 : Bel w8 (w8.alloc (.cells (madeCells #[.int .i64 0] qs.length) 3)) := (Bel.refl w8).alloc _
    generalize madeCells #[.int .i64 0] qs.length = C at *
    obtain ⟨L, hL⟩ : ∃ L, L = qs.length := ⟨_, rfl⟩
    go_wp2
    clear hmk cq fq zq
    go_loopg [12] qs.length (fun f i wr => ∃ (j : Nat) (ds : List Int), j + f = qs.length ∧ i = .int .i64 (j : Int) ∧ OI wr w8.heap.size (.slice (some ⟨w8.heap.size, 0, none⟩) qs.length qs.length) ds ∧ Hid (ds.length = qs.length ∧ ∀ x ∈ ds, 0 ≤ x ∧ x ≤ 255) ∧ Bel w8 wr)
    case atStart => exact ⟨0, _, by omega, rfl, O9, Lib.hid ⟨by simp, fun x hx => by rw [(List.mem_replicate.1 hx).2]; omega⟩, B9⟩
    case round =>
      clear O9 B9
      obtain ⟨j, ds, hj, rfl, O, HDS, B⟩ := hrel
      have HJ := Lib.hid hj
      have hj8 : j ≤ qs.length := by omega
      clear hj
      by_cases hlt : j < qs.length
      · have i0 : (0 : Int) ≤ (j : Int) := by omega
        have i1 : (j : Int) < (qs.length : Int) := by omega
        go_wp2_with fail
        refine (atL _ x0 j _ ((hv.keep Y8).keep B) hn (by omega)).mono ?_
        rintro e w9 ⟨x, rfl, hx, rfl⟩
        have hwc : ∃ z, wr.cell? ⟨w8.heap.size, j, none⟩ = some z := by
          obtain ⟨A, c, e, _, _, h9⟩ := O.reads
          have hl := HDS.out.1
          obtain ⟨b, off, hA, _, hc⟩ := h9 (by omega)
          injection e with e1 e2 e3
          rw [← e1] at hA
          injection hA with hA
          injection hA with hA1 hA2
          subst hA1 hA2
          exact ⟨_, by have := hc j _ (List.getElem?_eq_getElem (by omega)); rwa [Nat.zero_add] at this⟩
        obtain ⟨z, hz⟩ := hwc
        have hfz : wr.frozen? ⟨w8.heap.size, j, none⟩ = false := by
          obtain ⟨hl, ⟨e, h9⟩ | ⟨g2, cap, cur, e, _, hh, _⟩⟩ := id O
          · cases e
          · injection e with e1 e2 e3
            injection e1 with e1
            injection e1 with e1 e5
            rw [← e1] at hh
            exact (Blk.facts hh).2.1 j
        have O9 := O.store hlt x
        have B9 : Bel w8 (wr.setCell ⟨w8.heap.size, j, none⟩ (.int .i64 x)) := B.setCell (p := ⟨w8.heap.size, j, none⟩) (Nat.le_refl _) _
        have HD9 : Hid ((ds.set j x).length = qs.length ∧ ∀ y ∈ ds.set j x, 0 ≤ y ∧ y ≤ 255) := Lib.hid ⟨by rw [List.length_set]; exact HDS.out.1, fun y hy => by
          rcases List.mem_or_eq_of_mem_set hy with h1 | h1
          · exact HDS.out.2 y h1
          · rw [h1]; exact hx⟩
        go_wp2
        go_roundg (qs.length - (j + 1))
        case measure => have := HJ.out; omega
        case rel => exact ⟨j + 1, _, by omega, by go_num, O9, HD9, B9⟩
      · have i1 : ¬ (j : Int) < (qs.length : Int) := by omega
        obtain ⟨hB, hC⟩ := cons_com (cs := ds) HG.out HC.out hq0 (vecB_of255 (by have := HDS.out.1; omega) HDS.out.2) HDS.out.1
        have Q9 := B.keep Q8
        obtain ⟨cq, fq, zq⟩ := Q9.facts
        go_wp2_with fail
        refine (cpkI _ _ qs ds _ (R8.keep B) O.reads (by omega)).mono ?_
        rintro e w9 ⟨r5, r6, rfl, O5, O6, b9⟩
        clear cq fq zq
        rw [hB]
        generalize cpkZ qs ds = Z at *
        obtain ⟨A5, c5, e5, _, _, _⟩ := O5.reads
        obtain ⟨A6, c6, e6, _, _, _⟩ := O6.reads
        subst e5 e6
        have BA := (Bel.refl w9).alloc (.cells #[.int .i64 Z.1, .slice A5 Z.2.1.length c5, .slice A6 Z.2.2.length c6] 63)
        have KA := Blk.new w9 63 #[.int .i64 Z.1, .slice A5 Z.2.1.length c5, .slice A6 Z.2.2.length c6]
        have GA := BA.keep (b9.keep (B.keep K8))
        have MA := ((M8.keep B).keep b9).keep BA
        have V5 := O5.reads.keep BA
        have V6 := O6.reads.keep BA
        have YA := ((Y8.trans B).trans b9).trans BA
        have HZ := Lib.hid hC
        have HE := Lib.hid (eqPk_self Z)
        clear hB hC O5 O6 Q9 Q8 O B b9 BA K8 M8 R8 Y8 HDS
        go_upto_region 17 with fail
        generalize w9.alloc (.cells #[.int .i64 Z.1, .slice A5 Z.2.1.length c5, .slice A6 Z.2.2.length c6] 63) = wA at *
        generalize w9.heap.size = g13 at *
        obtain ⟨ck, fk, zk⟩ := KA.facts
        obtain ⟨cg', fg', zg'⟩ := GA.facts
        go_wp2_with fail
        refine (iscS a _ m Z _ _ _ MA V5 V6 HG.out HZ.out).mono ?_
        rintro e wB ⟨rfl, bB⟩
        clear ck fk zk cg' fg' zg'
        have KB := bB.keep KA
        have YB := YA.trans bB
        obtain ⟨ck, fk, zk⟩ := KB.facts
        go_wp2_with fail
        refine (eqPkI Z Z _ _ _ _ _ (V5.keep bB) (V6.keep bB) (V5.keep bB) (V6.keep bB)).mono ?_
        rintro e wC ⟨rfl, bC⟩
        rw [HE.out]
        have YC := YB.trans bC
        clear ck fk zk
        go_wp2
        go_ret
        exact ⟨rfl, YC⟩
set_option maxRecDepth 100000 in
theorem lifted (os : Os) (started : os.Started) (H : Type) (enc : TypeId × Value → H) :
    ReturnsInHanded {} Try.checked os 7 .any (Rows.fnPacketCombinationSpec.pre6 enc Try.prog Try.f7 Rows.fnPacketCombinationRow.domain false) (Rows.fnPacketCombinationSpec.post enc Try.prog Try.f7 false true false false) := by
  refine returnsInHanded_of_change (C := Try.checked) own started (by kernel_rfl) Try.func7
    (ChangeSpec.witness6 (enc := enc) (C := Try.checked) false ⟨#[], #[.slice none 0 0], []⟩ 8 (by kernel_rfl) (by kernel_rfl) (by kernel_rfl) (by kernel_rfl)) ?_
  intro W base args ds gs before hval0 hW hcnd _
  have hval : ∀ (j : Nat) t v, Try.f7.params[j]? = some t → args[j]? = some v → Value.okWide Try.prog W .any base t v := hval0
  have hW' := hW
  obtain ⟨p, q, hA0, hV, rfl, hfz, hnd⟩ := hW
  have hA : DataW.TrodAll enc Try.prog W 0 (fun _ => true) true Try.f7.params.toList args.toList ds p := hA0
  rw [Try.params7] at hA hval
  obtain ⟨v0, vs0, d0, ds0, p0, q0, hargs, rfl, rfl, h0, r0⟩ := trodAll_cons hA
  obtain ⟨rfl, rfl, rfl⟩ := trodAll_nil r0
  obtain rfl : args = #[v0] := by cases args; simp_all
  obtain ⟨rfl, rfl⟩ := trodVars_none hV
  have k0 := h0
  have lt0 : ∀ x ∈ p0, x.block < W.heap.size := by obtain ⟨m, hm⟩ := k0; exact DataW.trod_lt m _ _ _ hm
  obtain ⟨x0, f0⟩ := openBytes (hval 0 57 v0 rfl rfl) h0
  clear hA0 hval0
  refine (walk W v0 x0 f0).mono fun e W' ⟨he, bel⟩ => ?_
  subst he
  exact ⟨_, rfl, _, _, _, [], _, [], hW', trodAll_mk1 (shut_bool Try.underlying4 _), (trodAll_cons_mk (Below.trod laidOut (by kernel_rfl) (of_decide_eq_true (by kernel_rfl)) k0 bel lt0) trodAll_mk0), rfl, bel.frame _, fun h => by cases h⟩

theorem over : Rows.fnPacketCombinationRow.holds Try.pinned (OpenSpec.ofChange Rows.fnPacketCombinationSpec) :=
  OpenClaim.holds_of_wide 7 Try.f7 rfl rfl rfl rfl rfl rfl rfl ⟨rfl, rfl, rfl, rfl, rfl⟩ rfl rfl rfl rfl rfl (by kernel_rfl) Try.func7 (by kernel_rfl)
    (of_decide_eq_true (by kernel_rfl)) (by unfold Func.isWrapper; first | (rw [if_pos (by decide +kernel)]; kernel_rfl) | (rw [if_neg (by decide +kernel)]; exact ⟨rfl, rfl⟩))
    (fun os started H enc _ => lifted os started H enc)

theorem proved : Rows.FnPacketCombinationSaid := over
#print axioms proved
end Go.Proofs.Ytjaagabbbnokdaa.fnPacketCombination
