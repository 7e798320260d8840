/-
  FnExactGenerationDone: for every table, generation and list of sinks the program's GenerationDone returns what the reference's returns, and leaves its arguments alone. No condition.
-/
import Derived.Test.YtlofaknehjbdeaaOpenT
import Derived.Test.YtlofaknehjbdeaaKFbt
import Derived.Test.YtlofaknehjbdeaaFb2
import Derived.Deep.RegionHeld3
namespace Go.Proofs.Ytlofaknehjbdeaa.fnExactGenerationDone
open Go.ChangeShapes Go.WideShapes Go.ChangeAt Go.RowKit
set_option linter.unusedVariables false
set_option maxRecDepth 100000

set_option maxHeartbeats 4000000 in
theorem walk (w : World) (v0 : Value) (x0 : List Tr) (f0 : IsFbt w v0 x0) (v1 : Value) (x1 : Int) (f1 : IsI w v1 x1) (v2 : Value) (x2 : List Int) (f2 : IsInts w v2 x2) :
    Calls Try.prog 4 #[v0, v1, v2] w fun e w' => e = .returned (.bool true) ∧ Below w.heap.size w w' := by
  obtain ⟨p0v, rfl, hp0v, kp0v⟩ := f0
  obtain ⟨rfl, b1⟩ := f1
  obtain ⟨hv2, kv2⟩ := f2
  rcases Or.symm (Decidable.em (x2.length ≤ 1048576)) with nv2 | nv2
  · obtain ⟨Av2, cv2, ev2, _, _, _⟩ := hv2
    subst ev2
    have dv2 : decide ((1048576 : Int) < (x2.length : Int)) = true := by simp; omega
    go_enter Try.func4, Try.ntmps4
    go_wp2
    go_ret
    exact ⟨rfl, ((Bel.refl _).alloc _)⟩
  have dv2 : decide ((1048576 : Int) < (x2.length : Int)) = false := by simp; omega
  have hhv2 := hv2
  obtain ⟨Av2, cv2, ev2, _, _, _⟩ := hhv2
  subst ev2
  rcases Or.symm (Decidable.em ((x0.length : Int) ≤ 1048576)) with z0 | z0
  · go_enter Try.func4, Try.ntmps4
    go_wp2_with fail
    refine (szFbt_no p0v x0 (1048576) _ (hp0v.keep ((Bel.refl _).alloc _)) (by omega) (by omega) (by omega)).mono ?_
    rintro e wz ⟨rfl, hbz⟩
    go_wp2
    go_ret
    exact ⟨rfl, ((Bel.refl _).alloc _).trans hbz⟩
  have dz0 : decide (1048576 - ((x0.length : Int)) < 0) = false := by simp; omega
  have np0v : x0.length ≤ 1048576 := by omega
  go_enter Try.func4, Try.ntmps4
  go_wp2_with fail
  refine (szFbt_ok p0v x0 (1048576) _ (hp0v.keep ((Bel.refl _).alloc _)) (by omega) (by omega)).mono ?_
  rintro e w1 ⟨rfl, hb1⟩
  have X0_1 := hb1.keep ((Blk.new w _ _))
  have Y1 : Bel w w1 := ((Bel.refl _).alloc _).trans hb1
  clear hb1
  obtain ⟨cc0, _, _⟩ := X0_1.facts
  try clear cc0
  obtain ⟨cc0, _, _⟩ := X0_1.facts
  go_wp2_with fail
  refine (toFbt p0v x0 _ (hp0v.keep Y1) np0v).mono ?_
  rintro e w2 ⟨sp0v, rfl, Op0vs, hb2⟩
  have X0_2 := hb2.keep X0_1
  have Y2 : Bel w w2 := Y1.trans hb2
  clear cc0
  go_wp2_with fail
  refine (toInts _ x2 _ (hv2.keep Y2) nv2).mono ?_
  rintro e w3 ⟨sv2, rfl, Ov2s, hb3⟩
  have X0_3 := hb3.keep X0_2
  have Y3 : Bel w w3 := Y2.trans hb3
  have Qp0v_3 := (Op0vs.reads).keep hb3
  go_wp2_with fail
  refine (doneS x1 _ _ x0 x2 _ (Qp0v_3) (Ov2s.reads)).mono ?_
  rintro e w4 ⟨rfl, hb4⟩
  have X0_4 := hb4.keep X0_3
  have Y4 : Bel w w4 := Y3.trans hb4
  try clear cc0
  obtain ⟨cc0, _, _⟩ := X0_4.facts
  go_wp2_with fail
  refine (toFbt p0v x0 _ (hp0v.keep Y4) np0v).mono ?_
  rintro e w5 ⟨tp0v, rfl, Op0vt, hb5⟩
  have X0_5 := hb5.keep X0_4
  have Y5 : Bel w w5 := Y4.trans hb5
  clear cc0
  obtain ⟨Atp0v, ctp0v, etp0v, _, _, _⟩ := Op0vt.reads
  subst etp0v
  have X0_5a := X0_5.alloc (.cells #[(.slice Atp0v x0.length ctp0v)] 29)
  have Z0_5a := Blk.new w5 29 #[(.slice Atp0v x0.length ctp0v)]
  have Y5a := Y5.alloc (.cells #[(.slice Atp0v x0.length ctp0v)] 29)
  have Pp0v_5a := Op0vt.reads.keep ((Bel.refl _).alloc (.cells #[(.slice Atp0v x0.length ctp0v)] 29))
  obtain ⟨g0, hg0⟩ : ∃ g, w5.heap.size = g := ⟨_, rfl⟩
  rw [hg0] at Z0_5a
  have HG0 := Lib.hid hg0
  clear hg0
  go_wp2_with fail
  refine (toInts _ x2 _ (hv2.keep Y5a) nv2).mono ?_
  rintro e w6 ⟨tv2, rfl, Ov2t, hb6⟩
  have X0_6 := hb6.keep X0_5a
  have Z0_6 := hb6.keep Z0_5a
  have Y6 : Bel w w6 := Y5a.trans hb6
  have Pp0v_6 := (Pp0v_5a).keep hb6
  obtain ⟨Atv2, ctv2, etv2, _, _, _⟩ := Ov2t.reads
  subst etv2
  have Z0_p := Z0_6
  rw [← HG0.out] at Z0_p
  try clear cc0
  obtain ⟨ccz0, _, _⟩ := Z0_p.facts
  go_wp2_with fail
  refine (doneI x1 _ _ x0 x2 _ (Pp0v_6) (Ov2t.reads)).mono ?_
  rintro e w7 ⟨rfl, hb7⟩
  have X0_7 := hb7.keep X0_6
  have Z0_7 := hb7.keep Z0_p
  have Y7 : Bel w w7 := Y6.trans hb7
  have Pp0v_7 := (Pp0v_6).keep hb7
  have Pv2_7 := (Ov2t.reads).keep hb7
  clear ccz0
  obtain ⟨hcX07, _, hzX07⟩ := X0_7.facts
  have rX07o0 : w7.cell? ⟨w.heap.size, 0, none⟩ = some (p0v) := hcX07 0
  clear hcX07
  obtain ⟨hcZ07, _, hzZ07⟩ := Z0_7.facts
  have rZ07o0 : w7.cell? ⟨w5.heap.size, 0, none⟩ = some ((.slice Atp0v x0.length ctp0v)) := hcZ07 0
  clear hcZ07
  have Yd := Y7.drew
  go_wp2_with fail
  go_region_held3 (fun w' => w'.cell? ⟨w.heap.size, 0, none⟩ = some (p0v) ∧ w'.cell? ⟨w5.heap.size, 0, none⟩ = some ((.slice Atp0v x0.length ctp0v))) (first | exact ⟨hbT.cell1 hzX07 rX07o0, hbT.cell1 hzZ07 rZ07o0⟩ | exact ⟨hbE.cell1 (Nat.lt_of_lt_of_le hzX07 hbT.size) (hbT.cell1 hzX07 rX07o0), hbE.cell1 (Nat.lt_of_lt_of_le hzZ07 hbT.size) (hbT.cell1 hzZ07 rZ07o0)⟩ | go_keep) (first | (go_at_call 17; ((with_reducible refine (toFbt p0v x0 _ (by exact hp0v.keep Yd) np0v).mono ?_); rintro e wT ⟨qp0v, rfl, Op0vq, hbT⟩)) | (go_at_call 19; ((with_reducible refine (eqFbt_same  _ x0 _ _ (by exact (Pp0v_7).keep (((Bel.refl _).drew).trans hbT)) (by exact Op0vq.reads)).mono ?_); rintro e wE ⟨rfl, hbE⟩)))
  have hbR := (((Bel.refl w7).drew).trans hbT).trans hbE
  clear rX07o0 rZ07o0 Yd
  obtain ⟨w8, hw8⟩ : ∃ x, x = wE := ⟨_, rfl⟩
  subst hw8
  have X0_8 := hbR.keep X0_7
  have Z0_8 := hbR.keep Z0_7
  have Y8 := Y7.trans hbR
  have Pp0v_8 := (Pp0v_7).keep hbR
  have Pv2_8 := (Pv2_7).keep hbR
  clear hbR hbT hbE
  go_wp2_with fail
  refine (toInts _ x2 _ (hv2.keep Y8) nv2).mono ?_
  rintro e w9 ⟨qv2, rfl, Ov2q, hb9⟩
  have X0_9 := hb9.keep X0_8
  have Z0_9 := hb9.keep Z0_8
  have Y9 : Bel w w9 := Y8.trans hb9
  have Pp0v_9 := (Pp0v_8).keep hb9
  have Pv2_9 := (Pv2_8).keep hb9
  go_wp2_with fail
  refine (eqInts_any _ qv2 x2 x2 _ (Pv2_9) (Ov2q.reads.keep (Bel.refl _))).mono ?_
  rintro e w10 ⟨rfl, hb10⟩
  have X0_10 := hb10.keep X0_9
  have Z0_10 := hb10.keep Z0_9
  have Y10 : Bel w w10 := Y9.trans hb10
  have Pp0v_10 := (Pp0v_9).keep hb10
  have Pv2_10 := (Pv2_9).keep hb10
  rw [decide_eq_true rfl]
  go_wp2
  go_ret
  exact ⟨rfl, Y10⟩

set_option maxRecDepth 100000 in
theorem lifted (os : Os) (started : os.Started) (H : Type) (enc : TypeId × Value → H) :
    ReturnsInHanded {} Try.checked os 4 .any (Rows.fnExactGenerationDoneSpec.pre6 enc Try.prog Try.f4 Rows.fnExactGenerationDoneRow.domain false) (Rows.fnExactGenerationDoneSpec.post enc Try.prog Try.f4 false true false false) := by
  refine returnsInHanded_of_change (C := Try.checked) own started (by kernel_rfl) Try.func4
    (ChangeSpec.witness6 (enc := enc) (C := Try.checked) false ⟨#[], #[.agg #[.slice none 0 0], .int .i64 0, .slice none 0 0], []⟩ 8 (by kernel_rfl) (by kernel_rfl) (by kernel_rfl) (by kernel_rfl)) ?_
  intro W base args ds gs before hval0 hW hcnd _
  have hval : ∀ (j : Nat) t v, Try.f4.params[j]? = some t → args[j]? = some v → Value.okWide Try.prog W .any base t v := hval0
  have hW' := hW
  obtain ⟨p, q, hA0, hV, rfl, hfz, hnd⟩ := hW
  have hA : DataW.TrodAll enc Try.prog W 0 (fun _ => true) true Try.f4.params.toList args.toList ds p := hA0
  rw [Try.params4] at hA hval
  obtain ⟨v0, vs0, d0, ds0, p0, q0, hargs, rfl, rfl, h0, r0⟩ := trodAll_cons hA
  obtain ⟨v1, vs1, d1, ds1, p1, q1, rfl, rfl, rfl, h1, r1⟩ := trodAll_cons r0
  obtain ⟨v2, vs2, d2, ds2, p2, q2, rfl, rfl, rfl, h2, r2⟩ := trodAll_cons r1
  obtain ⟨rfl, rfl, rfl⟩ := trodAll_nil r2
  obtain rfl : args = #[v0, v1, v2] := by cases args; simp_all
  obtain ⟨rfl, rfl⟩ := trodVars_none hV
  have k0 := h0
  have lt0 : ∀ x ∈ p0, x.block < W.heap.size := by obtain ⟨m, hm⟩ := k0; exact DataW.trod_lt m _ _ _ hm
  obtain ⟨x0, f0⟩ := openFbt (hval 0 24 v0 rfl rfl) h0
  have k1 := h1
  have lt1 : ∀ x ∈ p1, x.block < W.heap.size := by obtain ⟨m, hm⟩ := k1; exact DataW.trod_lt m _ _ _ hm
  obtain ⟨x1, f1⟩ := openI (hval 1 3 v1 rfl rfl) h1
  have k2 := h2
  have lt2 : ∀ x ∈ p2, x.block < W.heap.size := by obtain ⟨m, hm⟩ := k2; exact DataW.trod_lt m _ _ _ hm
  obtain ⟨x2, f2⟩ := openInts (hval 2 32 v2 rfl rfl) h2
  clear hA0 hval0
  refine (walk W v0 x0 f0 v1 x1 f1 v2 x2 f2).mono fun e W' ⟨he, bel⟩ => ?_
  subst he
  exact ⟨_, rfl, _, _, _, [], _, [], hW', trodAll_mk1 (shut_bool Try.underlying4 _), (trodAll_cons_mk (Below.trod laidOut (by kernel_rfl) (of_decide_eq_true (by kernel_rfl)) k0 bel lt0) (trodAll_cons_mk (Below.trod laidOut (by kernel_rfl) (of_decide_eq_true (by kernel_rfl)) k1 bel lt1) (trodAll_cons_mk (Below.trod laidOut (by kernel_rfl) (of_decide_eq_true (by kernel_rfl)) k2 bel lt2) trodAll_mk0))), rfl, bel.frame _, fun h => by cases h⟩

theorem over : Rows.fnExactGenerationDoneRow.holds Try.pinned (OpenSpec.ofChange Rows.fnExactGenerationDoneSpec) :=
  OpenClaim.holds_of_wide 4 Try.f4 rfl rfl rfl rfl rfl rfl rfl ⟨rfl, rfl, rfl, rfl, rfl⟩ rfl rfl rfl rfl rfl (by kernel_rfl) Try.func4 (by kernel_rfl)
    (of_decide_eq_true (by kernel_rfl)) (by unfold Func.isWrapper; first | (rw [if_pos (by decide +kernel)]; kernel_rfl) | (rw [if_neg (by decide +kernel)]; exact ⟨rfl, rfl⟩))
    (fun os started H enc _ => lifted os started H enc)

theorem proved : Rows.FnExactGenerationDoneSaid := over
#print axioms proved
end Go.Proofs.Ytlofaknehjbdeaa.fnExactGenerationDone
