/-
  FnExactStartGeneration: for every window the program's StartGeneration returns what the reference's returns. No condition.
-/
import Derived.Test.YtelioajodmgkdaaOpen
import Derived.Test.YtelioajodmgkdaaWin2
namespace Go.Proofs.Ytelioajodmgkdaa.fnExactStartGeneration
open Go.ChangeShapes Go.WideShapes Go.ChangeAt Go.RowKit
set_option linter.unusedVariables false

set_option maxHeartbeats 1000000 in
theorem walk (w : World) (v : Value) (x : Int × Int × Int × Int) (f : IsWin w v x) :
    Calls Try.prog 8 #[v] w fun e w' => e = .returned (.bool true) ∧ Below w.heap.size w w' := by
  obtain ⟨b, n, d, t⟩ := x
  obtain ⟨rfl, _, _, _, _⟩ := f
  dsimp only
  obtain ⟨m, g, q, hm⟩ : ∃ (m g : Int) (q : Bool), startV b n d t = .tuple #[.agg #[.int .i64 b, .int .i64 m, .int .i64 d, .int .i64 t], .int .i64 g, .bool q] := ⟨_, _, _, rfl⟩
  have HI := Lib.hid (fun w => startI_any b n d t w)
  have HS := Lib.hid (fun w => startS_any b n d t w)
  rw [hm] at HI HS
  clear hm
  go_enter Try.func8, Try.ntmps8
  go_wp2_with fail
  refine (toWin_any b n d t _).mono ?_
  rintro e w1 ⟨rfl, hb1⟩
  go_wp2_with fail
  refine (HS.out _).mono ?_
  rintro e w2 ⟨rfl, hb2⟩
  obtain ⟨c2, _, _⟩ := ((hb1.trans hb2).box)
  go_wp2_with fail
  refine (toWin_any b n d t _).mono ?_
  rintro e w3 ⟨rfl, hb3⟩
  go_wp2_with fail
  refine (HI.out _).mono ?_
  rintro e w4 ⟨rfl, hb4⟩
  obtain ⟨c4, _, _⟩ := ((hb3.trans hb4).box)
  go_wp2_with fail
  refine (eqWin_same b m d t _).mono ?_
  rintro e w5 ⟨rfl, hb5⟩
  go_wp2
  go_ret
  exact ⟨rfl, ((((((Bel.refl _).alloc _).trans (hb1.trans hb2)).alloc _).trans (hb3.trans hb4)).alloc _).trans hb5⟩

set_option maxRecDepth 100000 in
theorem lifted (os : Os) (started : os.Started) (H : Type) (enc : TypeId × Value → H) :
    ReturnsInHanded {} Try.checked os 8 .any (Rows.fnExactStartGenerationSpec.pre6 enc Try.prog Try.f8 Rows.fnExactStartGenerationRow.domain false) (Rows.fnExactStartGenerationSpec.post enc Try.prog Try.f8 false true false false) := by
  refine returnsInHanded_of_change (C := Try.checked) own started (by kernel_rfl) Try.func8
    (ChangeSpec.witness6 (enc := enc) (C := Try.checked) false ⟨#[], #[.agg #[.int .i64 0, .int .i64 0, .int .i64 0, .int .i64 0]], []⟩ 8 (by kernel_rfl) (by kernel_rfl) (by kernel_rfl) (by kernel_rfl)) ?_
  intro W base args ds gs before hval0 hW hcnd _
  have hval : ∀ (j : Nat) t v, Try.f8.params[j]? = some t → args[j]? = some v → Value.okWide Try.prog W .any base t v := hval0
  have hW' := hW
  obtain ⟨p, q, hA0, hV, rfl, hfz, hnd⟩ := hW
  have hA : DataW.TrodAll enc Try.prog W 0 (fun _ => true) true Try.f8.params.toList args.toList ds p := hA0
  rw [Try.params8] at hA hval
  obtain ⟨v0, vs0, d0, ds0, p0, q0, hargs, rfl, rfl, h0, r0⟩ := trodAll_cons hA
  obtain ⟨rfl, rfl, rfl⟩ := trodAll_nil r0
  obtain rfl : args = #[v0] := by cases args; simp_all
  obtain ⟨rfl, rfl⟩ := trodVars_none hV
  have k0 := h0
  have lt0 : ∀ x ∈ p0, x.block < W.heap.size := by obtain ⟨m, hm⟩ := k0; exact DataW.trod_lt m _ _ _ hm
  obtain ⟨x0, f0⟩ := openWin (hval 0 30 v0 rfl rfl) h0
  clear hA0 hval0
  refine (walk W v0 x0 f0).mono fun e W' ⟨he, bel⟩ => ?_
  subst he
  exact ⟨_, rfl, _, _, _, [], _, [], hW', trodAll_mk1 (shut_bool Try.underlying4 _), (trodAll_cons_mk (Below.trod laidOut (by kernel_rfl) (of_decide_eq_true (by kernel_rfl)) k0 bel lt0) trodAll_mk0), rfl, bel.frame _, fun h => by cases h⟩

theorem over : Rows.fnExactStartGenerationRow.holds Try.pinned (OpenSpec.ofChange Rows.fnExactStartGenerationSpec) :=
  OpenClaim.holds_of_wide 8 Try.f8 rfl rfl rfl rfl rfl rfl rfl ⟨rfl, rfl, rfl, rfl, rfl⟩ rfl rfl rfl rfl rfl (by kernel_rfl) Try.func8 (by kernel_rfl)
    (of_decide_eq_true (by kernel_rfl)) (by unfold Func.isWrapper; first | (rw [if_pos (by decide +kernel)]; kernel_rfl) | (rw [if_neg (by decide +kernel)]; exact ⟨rfl, rfl⟩))
    (fun os started H enc _ => lifted os started H enc)

theorem proved : Rows.FnExactStartGenerationSaid := over
#print axioms proved
end Go.Proofs.Ytelioajodmgkdaa.fnExactStartGeneration
