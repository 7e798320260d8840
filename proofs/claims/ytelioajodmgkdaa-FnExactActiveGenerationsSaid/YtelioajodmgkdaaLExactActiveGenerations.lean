/-
  FnExactActiveGenerations: for every window the program's ActiveGenerations returns what the reference's returns, in memory of its own. No condition.
-/
import Derived.Test.YtelioajodmgkdaaOpen
import Derived.Test.YtelioajodmgkdaaWin4
namespace Go.Proofs.Ytelioajodmgkdaa.fnExactActiveGenerations
open Go.ChangeShapes Go.WideShapes Go.ChangeAt Go.RowKit
set_option linter.unusedVariables false

set_option maxHeartbeats 1000000 in
theorem walk (w : World) (v : Value) (x : Int × Int × Int × Int) (f : IsWin w v x) :
    Calls Try.prog 11 #[v] w fun e w' => e = .returned (.bool true) ∧ Below w.heap.size w w' := by
  obtain ⟨b, n, d, t⟩ := x
  obtain ⟨rfl, _, _, _, _⟩ := f
  dsimp only
  have hlen := activeL_len b n d t
  have HI := Lib.hid (fun w => actI_any b n d t w)
  have HS := Lib.hid (fun w => actS_any b n d t w)
  generalize activeL b n d t = xs at *
  go_enter Try.func11, Try.ntmps11
  go_wp2_with fail
  refine (toWin_any b n d t _).mono ?_
  rintro e w1 ⟨rfl, hb1⟩
  have X1 := hb1.keep (Blk.new w _ _)
  have Y1 : Bel w w1 := ((Bel.refl _).alloc _).trans hb1
  clear hb1
  go_wp2_with fail
  refine (HS.out _).mono ?_
  rintro e w2 ⟨v0, rfl, O0, hb2⟩
  have X2 := hb2.keep X1
  have Y2 := Y1.trans hb2
  obtain ⟨c2, _, _⟩ := X2.facts
  go_wp2_with fail
  refine (toWin_any b n d t _).mono ?_
  rintro e w3 ⟨rfl, hb3⟩
  have X3 := hb3.keep X2
  have Y3 := Y2.trans hb3
  have P0 := O0.keep hb3
  clear c2
  go_wp2_with fail
  refine (HI.out _).mono ?_
  rintro e w4 ⟨v1, rfl, O1, hb4⟩
  have X4 := hb4.keep X3
  have Y4 := Y3.trans hb4
  have P1 := P0.keep hb4
  go_wp2_with fail
  refine (eqInts_any v1 v0 xs xs _ O1.reads P1.reads).mono ?_
  rintro e w5 ⟨rfl, hb5⟩
  have X5 := hb5.keep X4
  have Y5 := Y4.trans hb5
  have P5 := P1.keep hb5
  have O5 := O1.keep hb5
  have s0 := O0.block
  have s3 := hb3.size
  have s1 := O5.block
  have y3 := Y3.size
  go_wp2_with fail
  refine (markInts v1 1 xs _ _ O5 (by omega) (by omega)).mono ?_
  rintro e w6 ⟨rfl, O6, G6⟩
  have X6 := X5.grown G6 (fun e => by have := s1 _ e; omega)
  have Y6 : Bel w w6 := Y5.grown G6 (fun k hk => by have := s1 k hk; omega)
  have P6 : OI w6 _ v0 xs := P5.far G6 (by
    cases h : v0.ownBlock with
    | none => exact .inl rfl
    | some k => exact .inr (fun e => by have a := s0 k h; have c := s1 k e.symm; omega))
  clear s0 s3 s1 y3
  go_wp2_with fail
  refine (heldInts v1 1 xs.length _ O6.reads (by omega) (by omega)).mono ?_
  rintro e w6' ⟨rfl, rfl⟩
  obtain ⟨c6, _, _⟩ := X6.facts
  have q1 : decide (1 + (xs.length : Int) < 0) = false := by simp; omega
  go_wp2_with fail
  refine (toWin_any b n d t _).mono ?_
  rintro e w7 ⟨rfl, hb7⟩
  clear c6
  go_wp2_with fail
  refine (HI.out _).mono ?_
  rintro e w8 ⟨v2, rfl, O8, hb8⟩
  have P8 := (P6.keep hb7).keep hb8
  have R8 := (O6.keep hb7).keep hb8
  go_wp2_with fail
  refine (eqInts_any v2 v0 xs xs _ O8.reads P8.reads).mono ?_
  rintro e w9 ⟨rfl, hb9⟩
  go_wp2_with fail
  refine (heldInts v1 1 xs.length _ (R8.keep hb9).reads (by omega) (by omega)).mono ?_
  rintro e w9' ⟨rfl, rfl⟩
  go_wp2
  go_ret
  exact ⟨rfl, ((Y6.trans hb7).trans hb8).trans hb9⟩

set_option maxRecDepth 100000 in
theorem lifted (os : Os) (started : os.Started) (H : Type) (enc : TypeId × Value → H) :
    ReturnsInHanded {} Try.checked os 11 .any (Rows.fnExactActiveGenerationsSpec.pre6 enc Try.prog Try.f11 Rows.fnExactActiveGenerationsRow.domain false) (Rows.fnExactActiveGenerationsSpec.post enc Try.prog Try.f11 false true false false) := by
  refine returnsInHanded_of_change (C := Try.checked) own started (by kernel_rfl) Try.func11
    (ChangeSpec.witness6 (enc := enc) (C := Try.checked) false ⟨#[], #[.agg #[.int .i64 0, .int .i64 0, .int .i64 0, .int .i64 0]], []⟩ 8 (by kernel_rfl) (by kernel_rfl) (by kernel_rfl) (by kernel_rfl)) ?_
  intro W base args ds gs before hval0 hW hcnd _
  have hval : ∀ (j : Nat) t v, Try.f11.params[j]? = some t → args[j]? = some v → Value.okWide Try.prog W .any base t v := hval0
  have hW' := hW
  obtain ⟨p, q, hA0, hV, rfl, hfz, hnd⟩ := hW
  have hA : DataW.TrodAll enc Try.prog W 0 (fun _ => true) true Try.f11.params.toList args.toList ds p := hA0
  rw [Try.params11] at hA hval
  obtain ⟨v0, vs0, d0, ds0, p0, q0, hargs, rfl, rfl, h0, r0⟩ := trodAll_cons hA
  obtain ⟨rfl, rfl, rfl⟩ := trodAll_nil r0
  obtain rfl : args = #[v0] := by cases args; simp_all
  obtain ⟨rfl, rfl⟩ := trodVars_none hV
  have k0 := h0
  have lt0 : ∀ x ∈ p0, x.block < W.heap.size := by obtain ⟨m, hm⟩ := k0; exact DataW.trod_lt m _ _ _ hm
  obtain ⟨x0, f0⟩ := openWin (hval 0 30 v0 rfl rfl) h0
  clear hA0 hval0
  refine (walk W v0 x0 f0).mono fun e W' ⟨he, bel⟩ => ?_
  subst he
  exact ⟨_, rfl, _, _, _, [], _, [], hW', trodAll_mk1 (shut_bool Try.underlying4 _), (trodAll_cons_mk (Below.trod laidOut (by kernel_rfl) (of_decide_eq_true (by kernel_rfl)) k0 bel lt0) trodAll_mk0), rfl, bel.frame _, fun h => by cases h⟩

theorem over : Rows.fnExactActiveGenerationsRow.holds Try.pinned (OpenSpec.ofChange Rows.fnExactActiveGenerationsSpec) :=
  OpenClaim.holds_of_wide 11 Try.f11 rfl rfl rfl rfl rfl rfl rfl ⟨rfl, rfl, rfl, rfl, rfl⟩ rfl rfl rfl rfl rfl (by kernel_rfl) Try.func11 (by kernel_rfl)
    (of_decide_eq_true (by kernel_rfl)) (by unfold Func.isWrapper; first | (rw [if_pos (by decide +kernel)]; kernel_rfl) | (rw [if_neg (by decide +kernel)]; exact ⟨rfl, rfl⟩))
    (fun os started H enc _ => lifted os started H enc)

theorem proved : Rows.FnExactActiveGenerationsSaid := over
#print axioms proved
end Go.Proofs.Ytelioajodmgkdaa.fnExactActiveGenerations
