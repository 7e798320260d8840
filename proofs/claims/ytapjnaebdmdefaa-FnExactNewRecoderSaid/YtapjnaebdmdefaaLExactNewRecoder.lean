/-
  FnExactNewRecoder: for every generation, size and width the program's NewRecoder returns what the reference's returns. No condition.
-/
import Derived.Test.YtapjnaebdmdefaaOpen
import Derived.Test.YtapjnaebdmdefaaRec1
namespace Go.Proofs.Ytapjnaebdmdefaa.fnExactNewRecoder
open Go.ChangeShapes Go.WideShapes Go.ChangeAt Go.RowKit
set_option linter.unusedVariables false
set_option maxRecDepth 100000

set_option maxHeartbeats 1000000 in
theorem walk (w : World) (v0 : Value) (x0 : Int) (f0 : IsI w v0 x0) (v1 : Value) (x1 : Int) (f1 : IsI w v1 x1) (v2 : Value) (x2 : Int) (f2 : IsI w v2 x2) :
    Calls Try.prog 9 #[v0, v1, v2] w fun e w' => e = .returned (.bool true) ∧ Below w.heap.size w w' := by
  obtain ⟨rfl, _⟩ := f0
  obtain ⟨rfl, _⟩ := f1
  obtain ⟨rfl, _⟩ := f2
  have HI := Lib.hid (fun w => newRI x0 x1 x2 w)
  have HS := Lib.hid (fun w => newRS x0 x1 x2 w)
  generalize recV x0 x1 x2 = r at *
  obtain ⟨a, b, c⟩ := r
  dsimp only at HI HS
  go_enter Try.func9, Try.ntmps9
  go_wp2_with fail
  refine (HS.out _).mono ?_
  rintro e w1 ⟨rfl, hb1⟩
  have X1 := Blk.new w1 69 #[.int .i64 a, .int .i64 b, .int .i64 c, .slice none 0 0, .int .i64 0]
  have Y1 : Bel w (w1.alloc (.cells #[.int .i64 a, .int .i64 b, .int .i64 c, .slice none 0 0, .int .i64 0] 69)) := hb1.alloc _
  go_wp2_with fail
  refine (HI.out _).mono ?_
  rintro e w2 ⟨rfl, hb2⟩
  have X2 := (hb2.keep X1).alloc (.cells #[.int .i64 a, .int .i64 b, .int .i64 c, .slice none 0 0, .int .i64 0] 69)
  have Z2 := Blk.new w2 69 #[.int .i64 a, .int .i64 b, .int .i64 c, .slice none 0 0, .int .i64 0]
  have Y2 := (Y1.trans hb2).alloc (.cells #[.int .i64 a, .int .i64 b, .int .i64 c, .slice none 0 0, .int .i64 0] 69)
  obtain ⟨c2, _, _⟩ := (hb2.keep X1).facts
  clear X1 Y1
  go_wp2_with fail
  refine (eqRec0 a b c _).mono ?_
  rintro e w3 ⟨rfl, hb3⟩
  have X3 := hb3.keep X2
  have Z3 := hb3.keep Z2
  have Y3 := Y2.trans hb3
  clear c2 X2 Z2 Y2
  obtain ⟨cx, _, _⟩ := X3.facts
  obtain ⟨cz, _, _⟩ := Z3.facts
  go_wp2_with fail
  refine (markRec0 a b c 1 _).mono ?_
  rintro e w4 ⟨rfl, hb4⟩
  have X4 := hb4.keep X3
  have Z4 := hb4.keep Z3
  have Y4 := Y3.trans hb4
  clear cx cz X3 Z3 Y3
  obtain ⟨cx, _, _⟩ := X4.facts
  obtain ⟨cz, _, _⟩ := Z4.facts
  go_wp2_with fail
  refine (heldRec0 a b c 1 _ (by omega)).mono ?_
  rintro e w5 ⟨rfl, hb5⟩
  have X5 := hb5.keep X4
  have Z5 := hb5.keep Z4
  have Y5 := Y4.trans hb5
  clear cx cz X4 Z4 Y4
  go_wp2_with fail
  refine (HI.out _).mono ?_
  rintro e w6 ⟨rfl, hb6⟩
  have X6 := (hb6.keep X5).alloc (.cells #[.int .i64 a, .int .i64 b, .int .i64 c, .slice none 0 0, .int .i64 0] 69)
  have Z6 := (hb6.keep Z5).alloc (.cells #[.int .i64 a, .int .i64 b, .int .i64 c, .slice none 0 0, .int .i64 0] 69)
  have Y6 := (Y5.trans hb6).alloc (.cells #[.int .i64 a, .int .i64 b, .int .i64 c, .slice none 0 0, .int .i64 0] 69)
  obtain ⟨cx, _, _⟩ := (hb6.keep X5).facts
  clear X5 Z5 Y5
  go_wp2_with fail
  refine (eqRec0 a b c _).mono ?_
  rintro e w7 ⟨rfl, hb7⟩
  have Z7 := hb7.keep Z6
  have Y7 := Y6.trans hb7
  clear cx X6 Z6 Y6
  obtain ⟨cz, _, _⟩ := Z7.facts
  go_wp2_with fail
  refine (heldRec0 a b c 1 _ (by omega)).mono ?_
  rintro e w8 ⟨rfl, hb8⟩
  go_wp2
  go_ret
  exact ⟨rfl, Y7.trans hb8⟩

set_option maxRecDepth 100000 in
theorem lifted (os : Os) (started : os.Started) (H : Type) (enc : TypeId × Value → H) :
    ReturnsInHanded {} Try.checked os 9 .any (Rows.fnExactNewRecoderSpec.pre6 enc Try.prog Try.f9 Rows.fnExactNewRecoderRow.domain false) (Rows.fnExactNewRecoderSpec.post enc Try.prog Try.f9 false true false false) := by
  refine returnsInHanded_of_change (C := Try.checked) own started (by kernel_rfl) Try.func9
    (ChangeSpec.witness6 (enc := enc) (C := Try.checked) false ⟨#[], #[.int .i64 0, .int .i64 0, .int .i64 0], []⟩ 8 (by kernel_rfl) (by kernel_rfl) (by kernel_rfl) (by kernel_rfl)) ?_
  intro W base args ds gs before hval0 hW hcnd _
  have hval : ∀ (j : Nat) t v, Try.f9.params[j]? = some t → args[j]? = some v → Value.okWide Try.prog W .any base t v := hval0
  have hW' := hW
  obtain ⟨p, q, hA0, hV, rfl, hfz, hnd⟩ := hW
  have hA : DataW.TrodAll enc Try.prog W 0 (fun _ => true) true Try.f9.params.toList args.toList ds p := hA0
  rw [Try.params9] at hA hval
  obtain ⟨v0, vs0, d0, ds0, p0, q0, hargs, rfl, rfl, h0, r0⟩ := trodAll_cons hA
  obtain ⟨v1, vs1, d1, ds1, p1, q1, rfl, rfl, rfl, h1, r1⟩ := trodAll_cons r0
  obtain ⟨v2, vs2, d2, ds2, p2, q2, rfl, rfl, rfl, h2, r2⟩ := trodAll_cons r1
  obtain ⟨rfl, rfl, rfl⟩ := trodAll_nil r2
  obtain rfl : args = #[v0, v1, v2] := by cases args; simp_all
  obtain ⟨rfl, rfl⟩ := trodVars_none hV
  have k0 := h0
  have lt0 : ∀ x ∈ p0, x.block < W.heap.size := by obtain ⟨m, hm⟩ := k0; exact DataW.trod_lt m _ _ _ hm
  obtain ⟨x0, f0⟩ := openI (hval 0 3 v0 rfl rfl) h0
  have k1 := h1
  have lt1 : ∀ x ∈ p1, x.block < W.heap.size := by obtain ⟨m, hm⟩ := k1; exact DataW.trod_lt m _ _ _ hm
  obtain ⟨x1, f1⟩ := openI (hval 1 3 v1 rfl rfl) h1
  have k2 := h2
  have lt2 : ∀ x ∈ p2, x.block < W.heap.size := by obtain ⟨m, hm⟩ := k2; exact DataW.trod_lt m _ _ _ hm
  obtain ⟨x2, f2⟩ := openI (hval 2 3 v2 rfl rfl) h2
  clear hA0 hval0
  refine (walk W v0 x0 f0 v1 x1 f1 v2 x2 f2).mono fun e W' ⟨he, bel⟩ => ?_
  subst he
  exact ⟨_, rfl, _, _, _, [], _, [], hW', trodAll_mk1 (shut_bool Try.underlying4 _), (trodAll_cons_mk (Below.trod laidOut (by kernel_rfl) (of_decide_eq_true (by kernel_rfl)) k0 bel lt0) (trodAll_cons_mk (Below.trod laidOut (by kernel_rfl) (of_decide_eq_true (by kernel_rfl)) k1 bel lt1) (trodAll_cons_mk (Below.trod laidOut (by kernel_rfl) (of_decide_eq_true (by kernel_rfl)) k2 bel lt2) trodAll_mk0))), rfl, bel.frame _, fun h => by cases h⟩

theorem over : Rows.fnExactNewRecoderRow.holds Try.pinned (OpenSpec.ofChange Rows.fnExactNewRecoderSpec) :=
  OpenClaim.holds_of_wide 9 Try.f9 rfl rfl rfl rfl rfl rfl rfl ⟨rfl, rfl, rfl, rfl, rfl⟩ rfl rfl rfl rfl rfl (by kernel_rfl) Try.func9 (by kernel_rfl)
    (of_decide_eq_true (by kernel_rfl)) (by unfold Func.isWrapper; first | (rw [if_pos (by decide +kernel)]; kernel_rfl) | (rw [if_neg (by decide +kernel)]; exact ⟨rfl, rfl⟩))
    (fun os started H enc _ => lifted os started H enc)

theorem proved : Rows.FnExactNewRecoderSaid := over
#print axioms proved
end Go.Proofs.Ytapjnaebdmdefaa.fnExactNewRecoder
