/-
  FnExactMakeFeedback: for every sink and decoder the program's MakeFeedback returns what the reference's returns, and leaves its argument alone. No condition.
-/
import Derived.Test.YtamiamogablglaaOpenM
import Derived.Test.YtamiamogablglaaKDec
import Derived.Test.YtamiamogablglaaDec9
import Derived.Deep.RegionHeld3
namespace Go.Proofs.Ytamiamogablglaa.fnExactMakeFeedback
open Go.ChangeShapes Go.WideShapes Go.ChangeAt Go.RowKit
set_option linter.unusedVariables false
set_option maxRecDepth 100000

theorem eqFbk_same (x y z : Int) (w : World) : Calls Try.prog 26 #[.agg #[.int .i64 x, .int .i64 y, .int .i64 z], .agg #[.int .i64 x, .int .i64 y, .int .i64 z]] w fun e w' => e = .returned (.bool true) ∧ Bel w w' := by
  go_enter Try.func26, Try.ntmps26
  go_wp2
  go_ret
  exact ⟨rfl, ((Bel.refl _).alloc _).alloc _⟩
set_option maxHeartbeats 4000000 in
theorem walk (w : World) (v0 : Value) (x0 : Int) (f0 : IsI w v0 x0) (v1 : Value) (x1 : Int × Int × Int × Int × List (List Int)) (f1 : IsDec w v1 x1) :
    Calls Try.prog 6 #[v0, v1] w fun e w' => e = .returned (.bool true) ∧ Below w.heap.size w w' := by
  obtain ⟨rfl, b0⟩ := f0
  obtain ⟨p1a, p1b, p1c, p1d, xp1v⟩ := x1
  obtain ⟨p1v, rfl, hp1v, kp1v, b1⟩ := f1
  dsimp only at *
  rcases Or.symm (Decidable.em ((szM xp1v : Int) ≤ 1048576)) with z0 | z0
  · go_enter Try.func6, Try.ntmps6
    go_wp2_with fail
    refine (szDec_no p1a p1b p1c p1d p1v xp1v (1048576) _ (hp1v.keep ((Bel.refl _).alloc _)) (by omega) (by omega) (by omega)).mono ?_
    rintro e wz ⟨rfl, hbz⟩
    go_wp2
    go_ret
    exact ⟨rfl, ((Bel.refl _).alloc _).trans hbz⟩
  have dz0 : decide (1048576 - ((szM xp1v : Int)) < 0) = false := by simp; omega
  have np1v : szM xp1v ≤ 1048576 := by omega
  go_enter Try.func6, Try.ntmps6
  go_wp2_with fail
  refine (szDec_ok p1a p1b p1c p1d p1v xp1v (1048576) _ (hp1v.keep ((Bel.refl _).alloc _)) (by omega) (by omega)).mono ?_
  rintro e w1 ⟨rfl, hb1⟩
  have X0_1 := hb1.keep (Blk.new w _ _)
  have Y1 : Bel w w1 := ((Bel.refl _).alloc _).trans hb1
  clear hb1
  obtain ⟨cc0, _, _⟩ := X0_1.facts
  try clear cc0
  obtain ⟨cc0, _, _⟩ := X0_1.facts
  go_wp2_with fail
  refine (toDec p1a p1b p1c p1d p1v xp1v _ (hp1v.keep Y1) np1v).mono ?_
  rintro e w2 ⟨sp1v, rfl, Op1vs, hb2⟩
  have X0_2 := hb2.keep X0_1
  have Y2 : Bel w w2 := Y1.trans hb2
  clear cc0
  go_wp2_with fail
  refine (mfS x0 p1a p1b p1c p1d _ xp1v _ (Op1vs.reads)).mono ?_
  rintro e w3 ⟨rfl, hb3⟩
  have X0_3 := hb3.keep X0_2
  have Y3 : Bel w w3 := Y2.trans hb3
  have hff : ((mfB x0 p1a p1b p1c p1d xp1v) != (mfB x0 p1a p1b p1c p1d xp1v)) = false := by simp
  have X0_3a := X0_3.alloc (.cells #[.int .i64 (mfZ x0 p1a p1b p1c p1d xp1v x0), .int .i64 (mfZ x0 p1a p1b p1c p1d xp1v p1a), .int .i64 (mfZ x0 p1a p1b p1c p1d xp1v (missZ p1a p1b p1c p1d xp1v))] 37)
  have W_3a := Blk.new w3 37 #[.int .i64 (mfZ x0 p1a p1b p1c p1d xp1v x0), .int .i64 (mfZ x0 p1a p1b p1c p1d xp1v p1a), .int .i64 (mfZ x0 p1a p1b p1c p1d xp1v (missZ p1a p1b p1c p1d xp1v))]
  have Y3a := Y3.alloc (.cells #[.int .i64 (mfZ x0 p1a p1b p1c p1d xp1v x0), .int .i64 (mfZ x0 p1a p1b p1c p1d xp1v p1a), .int .i64 (mfZ x0 p1a p1b p1c p1d xp1v (missZ p1a p1b p1c p1d xp1v))] 37)
  try clear cc0
  obtain ⟨cc0, _, _⟩ := X0_3a.facts
  go_wp2_with fail
  refine (toDec p1a p1b p1c p1d p1v xp1v _ (hp1v.keep Y3a) np1v).mono ?_
  rintro e w4 ⟨tp1v, rfl, Op1vt, hb4⟩
  have X0_4 := hb4.keep X0_3a
  have W_4 := hb4.keep W_3a
  have Y4 : Bel w w4 := Y3a.trans hb4
  clear cc0
  obtain ⟨Atp1v, ctp1v, etp1v, _, _, _⟩ := Op1vt.reads
  subst etp1v
  have X0_4a := X0_4.alloc (.cells #[.int .i64 p1a, .int .i64 p1b, .int .i64 p1c, .int .i64 p1d, (.slice Atp1v xp1v.length ctp1v)] 31)
  have W_4a := W_4.alloc (.cells #[.int .i64 p1a, .int .i64 p1b, .int .i64 p1c, .int .i64 p1d, (.slice Atp1v xp1v.length ctp1v)] 31)
  have Z1_4a := Blk.new w4 31 #[.int .i64 p1a, .int .i64 p1b, .int .i64 p1c, .int .i64 p1d, (.slice Atp1v xp1v.length ctp1v)]
  have Y4a := Y4.alloc (.cells #[.int .i64 p1a, .int .i64 p1b, .int .i64 p1c, .int .i64 p1d, (.slice Atp1v xp1v.length ctp1v)] 31)
  have Pp1v_4a := Op1vt.reads.keep ((Bel.refl _).alloc (.cells #[.int .i64 p1a, .int .i64 p1b, .int .i64 p1c, .int .i64 p1d, (.slice Atp1v xp1v.length ctp1v)] 31))
  obtain ⟨g1, hg1⟩ : ∃ g, w4.heap.size = g := ⟨_, rfl⟩
  rw [hg1] at Z1_4a
  have HG1 := Lib.hid hg1
  clear hg1
  have Z1_p := Z1_4a
  rw [← HG1.out] at Z1_p
  try clear cc0
  obtain ⟨ccz1, _, _⟩ := Z1_p.facts
  go_wp2_with fail
  refine (mfI x0 p1a p1b p1c p1d _ xp1v _ (Pp1v_4a)).mono ?_
  rintro e w5 ⟨rfl, hb5⟩
  have X0_5 := hb5.keep X0_4a
  have Z1_5 := hb5.keep Z1_p
  have W_5 := hb5.keep W_4a
  have Y5 : Bel w w5 := Y4a.trans hb5
  have Pp1v_5 := (Pp1v_4a).keep hb5
  clear ccz1
  have X0_5a := X0_5.alloc (.cells #[.int .i64 (mfZ x0 p1a p1b p1c p1d xp1v x0), .int .i64 (mfZ x0 p1a p1b p1c p1d xp1v p1a), .int .i64 (mfZ x0 p1a p1b p1c p1d xp1v (missZ p1a p1b p1c p1d xp1v))] 37)
  have Z1_5a := Z1_5.alloc (.cells #[.int .i64 (mfZ x0 p1a p1b p1c p1d xp1v x0), .int .i64 (mfZ x0 p1a p1b p1c p1d xp1v p1a), .int .i64 (mfZ x0 p1a p1b p1c p1d xp1v (missZ p1a p1b p1c p1d xp1v))] 37)
  have W_5a := W_5.alloc (.cells #[.int .i64 (mfZ x0 p1a p1b p1c p1d xp1v x0), .int .i64 (mfZ x0 p1a p1b p1c p1d xp1v p1a), .int .i64 (mfZ x0 p1a p1b p1c p1d xp1v (missZ p1a p1b p1c p1d xp1v))] 37)
  have G_5a := Blk.new w5 37 #[.int .i64 (mfZ x0 p1a p1b p1c p1d xp1v x0), .int .i64 (mfZ x0 p1a p1b p1c p1d xp1v p1a), .int .i64 (mfZ x0 p1a p1b p1c p1d xp1v (missZ p1a p1b p1c p1d xp1v))]
  have Y5a := Y5.alloc (.cells #[.int .i64 (mfZ x0 p1a p1b p1c p1d xp1v x0), .int .i64 (mfZ x0 p1a p1b p1c p1d xp1v p1a), .int .i64 (mfZ x0 p1a p1b p1c p1d xp1v (missZ p1a p1b p1c p1d xp1v))] 37)
  have P_5a := Pp1v_5.keep ((Bel.refl _).alloc (.cells #[.int .i64 (mfZ x0 p1a p1b p1c p1d xp1v x0), .int .i64 (mfZ x0 p1a p1b p1c p1d xp1v p1a), .int .i64 (mfZ x0 p1a p1b p1c p1d xp1v (missZ p1a p1b p1c p1d xp1v))] 37))
  obtain ⟨ccw, _, _⟩ := W_5a.facts
  obtain ⟨ccg, _, _⟩ := G_5a.facts
  go_wp2_with fail
  refine (eqFbk_same _ _ _ _).mono ?_
  rintro e w5b ⟨rfl, hb5b⟩
  clear ccw ccg
  have X0_5b := hb5b.keep X0_5a
  have Z1_5b := hb5b.keep Z1_5a
  have Y5b := Y5a.trans hb5b
  have Pp1v_5b := P_5a.keep hb5b
  obtain ⟨hcX05, _, hzX05⟩ := X0_5b.facts
  have rX05o0 : w5b.cell? ⟨w.heap.size, 0, none⟩ = some (.int .i64 p1a) := hcX05 0
  have rX05o1 : w5b.cell? ⟨w.heap.size, 1, none⟩ = some (.int .i64 p1b) := hcX05 1
  have rX05o2 : w5b.cell? ⟨w.heap.size, 2, none⟩ = some (.int .i64 p1c) := hcX05 2
  have rX05o3 : w5b.cell? ⟨w.heap.size, 3, none⟩ = some (.int .i64 p1d) := hcX05 3
  have rX05o4 : w5b.cell? ⟨w.heap.size, 4, none⟩ = some (p1v) := hcX05 4
  clear hcX05
  obtain ⟨hcZ15, _, hzZ15⟩ := Z1_5b.facts
  have rZ15o0 : w5b.cell? ⟨w4.heap.size, 0, none⟩ = some (.int .i64 p1a) := hcZ15 0
  have rZ15o1 : w5b.cell? ⟨w4.heap.size, 1, none⟩ = some (.int .i64 p1b) := hcZ15 1
  have rZ15o2 : w5b.cell? ⟨w4.heap.size, 2, none⟩ = some (.int .i64 p1c) := hcZ15 2
  have rZ15o3 : w5b.cell? ⟨w4.heap.size, 3, none⟩ = some (.int .i64 p1d) := hcZ15 3
  have rZ15o4 : w5b.cell? ⟨w4.heap.size, 4, none⟩ = some ((.slice Atp1v xp1v.length ctp1v)) := hcZ15 4
  clear hcZ15
  have Yd := Y5b.drew
  go_wp2_with fail
  go_region_held3 (fun w' => w'.cell? ⟨w.heap.size, 0, none⟩ = some (.int .i64 p1a) ∧ w'.cell? ⟨w.heap.size, 1, none⟩ = some (.int .i64 p1b) ∧ w'.cell? ⟨w.heap.size, 2, none⟩ = some (.int .i64 p1c) ∧ w'.cell? ⟨w.heap.size, 3, none⟩ = some (.int .i64 p1d) ∧ w'.cell? ⟨w.heap.size, 4, none⟩ = some (p1v) ∧ w'.cell? ⟨w4.heap.size, 0, none⟩ = some (.int .i64 p1a) ∧ w'.cell? ⟨w4.heap.size, 1, none⟩ = some (.int .i64 p1b) ∧ w'.cell? ⟨w4.heap.size, 2, none⟩ = some (.int .i64 p1c) ∧ w'.cell? ⟨w4.heap.size, 3, none⟩ = some (.int .i64 p1d) ∧ w'.cell? ⟨w4.heap.size, 4, none⟩ = some ((.slice Atp1v xp1v.length ctp1v))) (first | exact ⟨hbT.cell1 hzX05 rX05o0, hbT.cell1 hzX05 rX05o1, hbT.cell1 hzX05 rX05o2, hbT.cell1 hzX05 rX05o3, hbT.cell1 hzX05 rX05o4, hbT.cell1 hzZ15 rZ15o0, hbT.cell1 hzZ15 rZ15o1, hbT.cell1 hzZ15 rZ15o2, hbT.cell1 hzZ15 rZ15o3, hbT.cell1 hzZ15 rZ15o4⟩ | exact ⟨hbE.cell1 (Nat.lt_of_lt_of_le hzX05 hbT.size) (hbT.cell1 hzX05 rX05o0), hbE.cell1 (Nat.lt_of_lt_of_le hzX05 hbT.size) (hbT.cell1 hzX05 rX05o1), hbE.cell1 (Nat.lt_of_lt_of_le hzX05 hbT.size) (hbT.cell1 hzX05 rX05o2), hbE.cell1 (Nat.lt_of_lt_of_le hzX05 hbT.size) (hbT.cell1 hzX05 rX05o3), hbE.cell1 (Nat.lt_of_lt_of_le hzX05 hbT.size) (hbT.cell1 hzX05 rX05o4), hbE.cell1 (Nat.lt_of_lt_of_le hzZ15 hbT.size) (hbT.cell1 hzZ15 rZ15o0), hbE.cell1 (Nat.lt_of_lt_of_le hzZ15 hbT.size) (hbT.cell1 hzZ15 rZ15o1), hbE.cell1 (Nat.lt_of_lt_of_le hzZ15 hbT.size) (hbT.cell1 hzZ15 rZ15o2), hbE.cell1 (Nat.lt_of_lt_of_le hzZ15 hbT.size) (hbT.cell1 hzZ15 rZ15o3), hbE.cell1 (Nat.lt_of_lt_of_le hzZ15 hbT.size) (hbT.cell1 hzZ15 rZ15o4)⟩ | go_keep) (first | (go_at_call 17; ((with_reducible refine (toDec p1a p1b p1c p1d p1v xp1v _ (by exact hp1v.keep Yd) np1v).mono ?_); rintro e wT ⟨qp1v, rfl, Op1vq, hbT⟩)) | (go_at_call 19; ((with_reducible refine (eqDec_same p1a p1b p1c p1d _ xp1v _ _ (by exact (Pp1v_5b).keep (((Bel.refl _).drew).trans hbT)) (by exact Op1vq.reads)).mono ?_); rintro e wE ⟨rfl, hbE⟩)))
  have hbR := (((Bel.refl w5b).drew).trans hbT).trans hbE
  clear rX05o0 rX05o1 rX05o2 rX05o3 rX05o4 rZ15o0 rZ15o1 rZ15o2 rZ15o3 rZ15o4 Yd
  obtain ⟨w6, hw6⟩ : ∃ x, x = wE := ⟨_, rfl⟩
  subst hw6
  have X0_6 := hbR.keep X0_5b
  have Z1_6 := hbR.keep Z1_5b
  have Y6 := Y5b.trans hbR
  have Pp1v_6 := (Pp1v_5b).keep hbR
  clear hbR hbT hbE
  go_wp2
  go_ret
  exact ⟨rfl, Y6⟩

set_option maxRecDepth 100000 in
theorem lifted (os : Os) (started : os.Started) (H : Type) (enc : TypeId × Value → H) :
    ReturnsInHanded {} Try.checked os 6 .any (Rows.fnExactMakeFeedbackSpec.pre6 enc Try.prog Try.f6 Rows.fnExactMakeFeedbackRow.domain false) (Rows.fnExactMakeFeedbackSpec.post enc Try.prog Try.f6 false true false false) := by
  refine returnsInHanded_of_change (C := Try.checked) own started (by kernel_rfl) Try.func6
    (ChangeSpec.witness6 (enc := enc) (C := Try.checked) false ⟨#[], #[.int .i64 0, .agg #[.int .i64 0, .int .i64 0, .int .i64 0, .int .i64 0, .slice none 0 0]], []⟩ 8 (by kernel_rfl) (by kernel_rfl) (by kernel_rfl) (by kernel_rfl)) ?_
  intro W base args ds gs before hval0 hW hcnd _
  have hval : ∀ (j : Nat) t v, Try.f6.params[j]? = some t → args[j]? = some v → Value.okWide Try.prog W .any base t v := hval0
  have hW' := hW
  obtain ⟨p, q, hA0, hV, rfl, hfz, hnd⟩ := hW
  have hA : DataW.TrodAll enc Try.prog W 0 (fun _ => true) true Try.f6.params.toList args.toList ds p := hA0
  rw [Try.params6] at hA hval
  obtain ⟨v0, vs0, d0, ds0, p0, q0, hargs, rfl, rfl, h0, r0⟩ := trodAll_cons hA
  obtain ⟨v1, vs1, d1, ds1, p1, q1, rfl, rfl, rfl, h1, r1⟩ := trodAll_cons r0
  obtain ⟨rfl, rfl, rfl⟩ := trodAll_nil r1
  obtain rfl : args = #[v0, v1] := by cases args; simp_all
  obtain ⟨rfl, rfl⟩ := trodVars_none hV
  have k0 := h0
  have lt0 : ∀ x ∈ p0, x.block < W.heap.size := by obtain ⟨m, hm⟩ := k0; exact DataW.trod_lt m _ _ _ hm
  obtain ⟨x0, f0⟩ := openI (hval 0 3 v0 rfl rfl) h0
  have k1 := h1
  have lt1 : ∀ x ∈ p1, x.block < W.heap.size := by obtain ⟨m, hm⟩ := k1; exact DataW.trod_lt m _ _ _ hm
  obtain ⟨x1, f1⟩ := openDec (hval 1 26 v1 rfl rfl) h1
  clear hA0 hval0
  refine (walk W v0 x0 f0 v1 x1 f1).mono fun e W' ⟨he, bel⟩ => ?_
  subst he
  exact ⟨_, rfl, _, _, _, [], _, [], hW', trodAll_mk1 (shut_bool Try.underlying4 _), (trodAll_cons_mk (Below.trod laidOut (by kernel_rfl) (of_decide_eq_true (by kernel_rfl)) k0 bel lt0) (trodAll_cons_mk (Below.trod laidOut (by kernel_rfl) (of_decide_eq_true (by kernel_rfl)) k1 bel lt1) trodAll_mk0)), rfl, bel.frame _, fun h => by cases h⟩

theorem over : Rows.fnExactMakeFeedbackRow.holds Try.pinned (OpenSpec.ofChange Rows.fnExactMakeFeedbackSpec) :=
  OpenClaim.holds_of_wide 6 Try.f6 rfl rfl rfl rfl rfl rfl rfl ⟨rfl, rfl, rfl, rfl, rfl⟩ rfl rfl rfl rfl rfl (by kernel_rfl) Try.func6 (by kernel_rfl)
    (of_decide_eq_true (by kernel_rfl)) (by unfold Func.isWrapper; first | (rw [if_pos (by decide +kernel)]; kernel_rfl) | (rw [if_neg (by decide +kernel)]; exact ⟨rfl, rfl⟩))
    (fun os started H enc _ => lifted os started H enc)

theorem proved : Rows.FnExactMakeFeedbackSaid := over
#print axioms proved
end Go.Proofs.Ytamiamogablglaa.fnExactMakeFeedback
