/-
  FnExactIsValidHashKey: for every hash key the program's IsValidHashKey returns what the reference's returns, and leaves its argument alone. No condition.
-/
import Derived.Test.YtapjnaebdmdefaaOpenS
import Derived.Test.YtapjnaebdmdefaaHk
import Derived.Deep.RegionHeld3
namespace Go.Proofs.Ytapjnaebdmdefaa.fnExactIsValidHashKey
open Go.ChangeShapes Go.WideShapes Go.ChangeAt Go.RowKit
set_option linter.unusedVariables false
set_option maxRecDepth 100000

set_option maxHeartbeats 1000000 in
theorem walk (w : World) (v : Value) (xs : List Int) (f : IsHkey w v xs) :
    Calls Try.prog 10 #[v] w fun e w' => e = .returned (.bool true) ∧ Below w.heap.size w w' := by
  obtain ⟨v, rfl, hv, _⟩ := f
  by_cases hn : xs.length ≤ 1048576
  · have hd : decide ((1048576 : Int) - (xs.length : Int) < 0) = false := by simp; omega
    go_enter Try.func10, Try.ntmps10
    go_wp2_with fail
    refine (szHk_ok v xs 1048576 _ (hv.keep ((Bel.refl _).alloc _)) (by omega) (by omega)).mono ?_
    rintro e w1 ⟨rfl, hb1⟩
    have X1 := hb1.keep (Blk.new w _ _)
    have Y1 : Bel w w1 := ((Bel.refl _).alloc _).trans hb1
    clear hb1
    obtain ⟨c1, _, _⟩ := X1.facts
    go_wp2_with fail
    refine (toHk v xs _ (hv.keep Y1) hn).mono ?_
    rintro e w2 ⟨u, rfl, O2, hb2⟩
    have X2 := hb2.keep X1
    have Y2 := Y1.trans hb2
    clear c1
    go_wp2_with fail
    refine (hkS u xs _ O2.reads).mono ?_
    rintro e w3 ⟨rfl, hb3⟩
    have X3 := hb3.keep X2
    have Y3 := Y2.trans hb3
    obtain ⟨c3, _, _⟩ := X3.facts
    go_wp2_with fail
    refine (toHk v xs _ (hv.keep Y3) hn).mono ?_
    rintro e w4 ⟨u4, rfl, O4, hb4⟩
    obtain ⟨A4, c4, e4, _, _, _⟩ := O4.reads
    subst e4
    have X4 := (hb4.keep X3).alloc (.cells #[.slice A4 xs.length c4] 79)
    have Y4 := (Y3.trans hb4).alloc (.cells #[.slice A4 xs.length c4] 79)
    have R4 := O4.reads.keep ((Bel.refl _).alloc (.cells #[.slice A4 xs.length c4] 79))
    have Z4 := Blk.new w4 79 #[.slice A4 xs.length c4]
    have hG : w.heap.size ≤ w4.heap.size := (Y3.trans hb4).size
    clear c3 hb2 hb3 hb4 O4
    go_wp2_with fail
    refine (hkI _ xs _ R4).mono ?_
    rintro e w5 ⟨rfl, hb5⟩
    have X5 := hb5.keep X4
    have Y5 := Y4.trans hb5
    have Z5 := hb5.keep Z4
    have R5 := R4.keep hb5
    generalize w4.heap.size = G at *
    clear X4 Y4 R4 Z4 hb5 X1 Y1 X2 Y2 X3 Y3 O2
    obtain ⟨c1, _, z1⟩ := X5.facts
    obtain ⟨c2, _, z2⟩ := Z5.facts
    have r1 := c1 0
    have r2 := c2 0
    simp at r1 r2
    clear c1 c2
    go_wp2_with fail
    go_region_held3 (fun w' => w'.cell? ⟨w.heap.size, 0, none⟩ = some v ∧ w'.cell? ⟨G, 0, none⟩ = some (.slice A4 xs.length c4))
      (first | exact ⟨hbT.cell1 z1 r1, hbT.cell1 z2 r2⟩ | exact ⟨hbE.cell1 (Nat.lt_of_lt_of_le z1 hbT.size) (hbT.cell1 z1 r1), hbE.cell1 (Nat.lt_of_lt_of_le z2 hbT.size) (hbT.cell1 z2 r2)⟩ | go_keep)
      (first | (go_at_call 52; refine (toHk v xs _ (hv.keep (by first | exact Y5 | exact Y5.drew | exact Y5.drewN _)) hn).mono ?_; rintro e wT ⟨uT, rfl, OT, hbT⟩) | (go_at_call 54; refine (eqHk _ _ xs xs _ (R5.keep (by first | exact hbT | exact Bel.trans (Bel.drew (Bel.refl _)) hbT)) OT.reads).mono ?_; rintro e wE ⟨rfl, hbE⟩))
    have YE : Bel w wE := (Y5.trans (Bel.trans (Bel.drew (Bel.refl _)) hbT)).trans hbE
    go_wp2
    go_ret
    exact ⟨rfl, YE⟩
  · go_enter Try.func10, Try.ntmps10
    go_wp2_with fail
    refine (szHk_no v xs 1048576 _ (hv.keep ((Bel.refl _).alloc _)) (by omega) (by omega) (by omega)).mono ?_
    rintro e w1 ⟨rfl, hb1⟩
    go_wp2
    go_ret
    exact ⟨rfl, ((Bel.refl _).alloc _).trans hb1⟩

set_option maxRecDepth 100000 in
theorem lifted (os : Os) (started : os.Started) (H : Type) (enc : TypeId × Value → H) :
    ReturnsInHanded {} Try.checked os 10 .any (Rows.fnExactIsValidHashKeySpec.pre6 enc Try.prog Try.f10 Rows.fnExactIsValidHashKeyRow.domain false) (Rows.fnExactIsValidHashKeySpec.post enc Try.prog Try.f10 false true false false) := by
  refine returnsInHanded_of_change (C := Try.checked) own started (by kernel_rfl) Try.func10
    (ChangeSpec.witness6 (enc := enc) (C := Try.checked) false ⟨#[], #[.agg #[.slice none 0 0]], []⟩ 8 (by kernel_rfl) (by kernel_rfl) (by kernel_rfl) (by kernel_rfl)) ?_
  intro W base args ds gs before hval0 hW hcnd _
  have hval : ∀ (j : Nat) t v, Try.f10.params[j]? = some t → args[j]? = some v → Value.okWide Try.prog W .any base t v := hval0
  have hW' := hW
  obtain ⟨p, q, hA0, hV, rfl, hfz, hnd⟩ := hW
  have hA : DataW.TrodAll enc Try.prog W 0 (fun _ => true) true Try.f10.params.toList args.toList ds p := hA0
  rw [Try.params10] at hA hval
  obtain ⟨v0, vs0, d0, ds0, p0, q0, hargs, rfl, rfl, h0, r0⟩ := trodAll_cons hA
  obtain ⟨rfl, rfl, rfl⟩ := trodAll_nil r0
  obtain rfl : args = #[v0] := by cases args; simp_all
  obtain ⟨rfl, rfl⟩ := trodVars_none hV
  have k0 := h0
  have lt0 : ∀ x ∈ p0, x.block < W.heap.size := by obtain ⟨m, hm⟩ := k0; exact DataW.trod_lt m _ _ _ hm
  obtain ⟨x0, f0⟩ := openHkey (hval 0 76 v0 rfl rfl) h0
  clear hA0 hval0
  refine (walk W v0 x0 f0).mono fun e W' ⟨he, bel⟩ => ?_
  subst he
  exact ⟨_, rfl, _, _, _, [], _, [], hW', trodAll_mk1 (shut_bool Try.underlying4 _), (trodAll_cons_mk (Below.trod laidOut (by kernel_rfl) (of_decide_eq_true (by kernel_rfl)) k0 bel lt0) trodAll_mk0), rfl, bel.frame _, fun h => by cases h⟩

theorem over : Rows.fnExactIsValidHashKeyRow.holds Try.pinned (OpenSpec.ofChange Rows.fnExactIsValidHashKeySpec) :=
  OpenClaim.holds_of_wide 10 Try.f10 rfl rfl rfl rfl rfl rfl rfl ⟨rfl, rfl, rfl, rfl, rfl⟩ rfl rfl rfl rfl rfl (by kernel_rfl) Try.func10 (by kernel_rfl)
    (of_decide_eq_true (by kernel_rfl)) (by unfold Func.isWrapper; first | (rw [if_pos (by decide +kernel)]; kernel_rfl) | (rw [if_neg (by decide +kernel)]; exact ⟨rfl, rfl⟩))
    (fun os started H enc _ => lifted os started H enc)

theorem proved : Rows.FnExactIsValidHashKeySaid := over
#print axioms proved
end Go.Proofs.Ytapjnaebdmdefaa.fnExactIsValidHashKey
