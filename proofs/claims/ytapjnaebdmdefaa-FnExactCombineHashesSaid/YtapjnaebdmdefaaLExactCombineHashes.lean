/-
  FnExactCombineHashes: for all hashes and coefficients the program's CombineHashes returns what the reference's returns, and leaves its arguments alone. No condition.
-/
import Derived.Test.YtapjnaebdmdefaaOpenS
import Derived.Test.YtapjnaebdmdefaaHash2
import Derived.Deep.RegionHeld3
namespace Go.Proofs.Ytapjnaebdmdefaa.fnExactCombineHashes
open Go.ChangeShapes Go.WideShapes Go.ChangeAt Go.RowKit
set_option linter.unusedVariables false
set_option maxRecDepth 100000

set_option maxHeartbeats 4000000 in
theorem walk (w : World) (v0 : Value) (x0 : List Int) (f0 : IsInts w v0 x0) (v1 : Value) (x1 : List Int) (f1 : IsInts w v1 x1) :
    Calls Try.prog 11 #[v0, v1] w fun e w' => e = .returned (.bool true) ∧ Below w.heap.size w w' := by
  obtain ⟨hv0, kv0⟩ := f0
  obtain ⟨hv1, kv1⟩ := f1
  rcases Or.symm (Decidable.em (x0.length ≤ 1048576)) with nv0 | nv0
  · obtain ⟨Av0, cv0, ev0, _, _, _⟩ := hv0
    subst ev0
    have dv0 : decide ((1048576 : Int) < (x0.length : Int)) = true := by simp; omega
    go_enter Try.func11, Try.ntmps11
    go_wp2
    go_ret
    exact ⟨rfl, (Bel.refl _)⟩
  rcases Or.symm (Decidable.em (x1.length ≤ 1048576)) with nv1 | nv1
  · obtain ⟨Av1, cv1, ev1, _, _, _⟩ := hv1
    subst ev1
    have dv0 : decide ((1048576 : Int) < (x0.length : Int)) = false := by simp; omega
    obtain ⟨Av0, cv0, ev0, _, _, _⟩ := hv0
    subst ev0
    have dv1 : decide ((1048576 : Int) < (x1.length : Int)) = true := by simp; omega
    go_enter Try.func11, Try.ntmps11
    go_wp2
    go_ret
    exact ⟨rfl, (Bel.refl _)⟩
  have dv0 : decide ((1048576 : Int) < (x0.length : Int)) = false := by simp; omega
  have dv1 : decide ((1048576 : Int) < (x1.length : Int)) = false := by simp; omega
  have hhv0 := hv0
  obtain ⟨Av0, cv0, ev0, _, _, _⟩ := hhv0
  subst ev0
  have hhv1 := hv1
  obtain ⟨Av1, cv1, ev1, _, _, _⟩ := hhv1
  subst ev1
  go_enter Try.func11, Try.ntmps11
  go_wp2_with fail
  refine (toInts _ x0 _ (hv0.keep (Bel.refl _)) nv0).mono ?_
  rintro e w1 ⟨sv0, rfl, Ov0s, hb1⟩
  have Y1 : Bel w w1 := (Bel.refl _).trans hb1
  go_wp2_with fail
  refine (toInts _ x1 _ (hv1.keep Y1) nv1).mono ?_
  rintro e w2 ⟨sv1, rfl, Ov1s, hb2⟩
  have Y2 : Bel w w2 := Y1.trans hb2
  have Qv0_2 := (Ov0s.reads).keep hb2
  go_wp2_with fail
  refine (combS _ _ x0 x1 _ (Qv0_2) (Ov1s.reads)).mono ?_
  rintro e w3 ⟨rfl, hb3⟩
  have Y3 : Bel w w3 := Y2.trans hb3
  go_wp2_with fail
  refine (toInts _ x0 _ (hv0.keep Y3) nv0).mono ?_
  rintro e w4 ⟨tv0, rfl, Ov0t, hb4⟩
  have Y4 : Bel w w4 := Y3.trans hb4
  obtain ⟨Atv0, ctv0, etv0, _, _, _⟩ := Ov0t.reads
  subst etv0
  go_wp2_with fail
  refine (toInts _ x1 _ (hv1.keep Y4) nv1).mono ?_
  rintro e w5 ⟨tv1, rfl, Ov1t, hb5⟩
  have Y5 : Bel w w5 := Y4.trans hb5
  have Pv0_5 := (Ov0t.reads).keep hb5
  obtain ⟨Atv1, ctv1, etv1, _, _, _⟩ := Ov1t.reads
  subst etv1
  go_wp2_with fail
  refine (combIB _ _ x0 x1 _ (Pv0_5) (Ov1t.reads)).mono ?_
  rintro e w6 ⟨rfl, hb6⟩
  have Y6 : Bel w w6 := Y5.trans hb6
  have Pv0_6 := (Pv0_5).keep hb6
  have Pv1_6 := (Ov1t.reads).keep hb6
  go_wp2_with fail
  refine (toInts _ x0 _ (hv0.keep Y6) nv0).mono ?_
  rintro e w7 ⟨qv0, rfl, Ov0q, hb7⟩
  have Y7 : Bel w w7 := Y6.trans hb7
  have Pv0_7 := (Pv0_6).keep hb7
  have Pv1_7 := (Pv1_6).keep hb7
  go_wp2_with fail
  refine (eqInts_any _ qv0 x0 x0 _ (Pv0_7) (Ov0q.reads.keep (Bel.refl _))).mono ?_
  rintro e w8 ⟨rfl, hb8⟩
  have Y8 : Bel w w8 := Y7.trans hb8
  have Pv0_8 := (Pv0_7).keep hb8
  have Pv1_8 := (Pv1_7).keep hb8
  rw [decide_eq_true rfl]
  go_wp2_with fail
  refine (toInts _ x1 _ (hv1.keep Y8) nv1).mono ?_
  rintro e w9 ⟨qv1, rfl, Ov1q, hb9⟩
  have Y9 : Bel w w9 := Y8.trans hb9
  have Pv0_9 := (Pv0_8).keep hb9
  have Pv1_9 := (Pv1_8).keep hb9
  go_wp2_with fail
  refine (eqInts_any _ qv1 x1 x1 _ (Pv1_9) (Ov1q.reads.keep (Bel.refl _))).mono ?_
  rintro e w10 ⟨rfl, hb10⟩
  have Y10 : Bel w w10 := Y9.trans hb10
  have Pv0_10 := (Pv0_9).keep hb10
  have Pv1_10 := (Pv1_9).keep hb10
  rw [decide_eq_true rfl]
  go_wp2
  go_ret
  exact ⟨rfl, Y10⟩

set_option maxRecDepth 100000 in
theorem lifted (os : Os) (started : os.Started) (H : Type) (enc : TypeId × Value → H) :
    ReturnsInHanded {} Try.checked os 11 .any (Rows.fnExactCombineHashesSpec.pre6 enc Try.prog Try.f11 Rows.fnExactCombineHashesRow.domain false) (Rows.fnExactCombineHashesSpec.post enc Try.prog Try.f11 false true false false) := by
  refine returnsInHanded_of_change (C := Try.checked) own started (by kernel_rfl) Try.func11
    (ChangeSpec.witness6 (enc := enc) (C := Try.checked) false ⟨#[], #[.slice none 0 0, .slice none 0 0], []⟩ 8 (by kernel_rfl) (by kernel_rfl) (by kernel_rfl) (by kernel_rfl)) ?_
  intro W base args ds gs before hval0 hW hcnd _
  have hval : ∀ (j : Nat) t v, Try.f11.params[j]? = some t → args[j]? = some v → Value.okWide Try.prog W .any base t v := hval0
  have hW' := hW
  obtain ⟨p, q, hA0, hV, rfl, hfz, hnd⟩ := hW
  have hA : DataW.TrodAll enc Try.prog W 0 (fun _ => true) true Try.f11.params.toList args.toList ds p := hA0
  rw [Try.params11] at hA hval
  obtain ⟨v0, vs0, d0, ds0, p0, q0, hargs, rfl, rfl, h0, r0⟩ := trodAll_cons hA
  obtain ⟨v1, vs1, d1, ds1, p1, q1, rfl, rfl, rfl, h1, r1⟩ := trodAll_cons r0
  obtain ⟨rfl, rfl, rfl⟩ := trodAll_nil r1
  obtain rfl : args = #[v0, v1] := by cases args; simp_all
  obtain ⟨rfl, rfl⟩ := trodVars_none hV
  have k0 := h0
  have lt0 : ∀ x ∈ p0, x.block < W.heap.size := by obtain ⟨m, hm⟩ := k0; exact DataW.trod_lt m _ _ _ hm
  obtain ⟨x0, f0⟩ := openInts (hval 0 22 v0 rfl rfl) h0
  have k1 := h1
  have lt1 : ∀ x ∈ p1, x.block < W.heap.size := by obtain ⟨m, hm⟩ := k1; exact DataW.trod_lt m _ _ _ hm
  obtain ⟨x1, f1⟩ := openInts (hval 1 22 v1 rfl rfl) h1
  clear hA0 hval0
  refine (walk W v0 x0 f0 v1 x1 f1).mono fun e W' ⟨he, bel⟩ => ?_
  subst he
  exact ⟨_, rfl, _, _, _, [], _, [], hW', trodAll_mk1 (shut_bool Try.underlying4 _), (trodAll_cons_mk (Below.trod laidOut (by kernel_rfl) (of_decide_eq_true (by kernel_rfl)) k0 bel lt0) (trodAll_cons_mk (Below.trod laidOut (by kernel_rfl) (of_decide_eq_true (by kernel_rfl)) k1 bel lt1) trodAll_mk0)), rfl, bel.frame _, fun h => by cases h⟩

theorem over : Rows.fnExactCombineHashesRow.holds Try.pinned (OpenSpec.ofChange Rows.fnExactCombineHashesSpec) :=
  OpenClaim.holds_of_wide 11 Try.f11 rfl rfl rfl rfl rfl rfl rfl ⟨rfl, rfl, rfl, rfl, rfl⟩ rfl rfl rfl rfl rfl (by kernel_rfl) Try.func11 (by kernel_rfl)
    (of_decide_eq_true (by kernel_rfl)) (by unfold Func.isWrapper; first | (rw [if_pos (by decide +kernel)]; kernel_rfl) | (rw [if_neg (by decide +kernel)]; exact ⟨rfl, rfl⟩))
    (fun os started H enc _ => lifted os started H enc)

theorem proved : Rows.FnExactCombineHashesSaid := over
#print axioms proved
end Go.Proofs.Ytapjnaebdmdefaa.fnExactCombineHashes
