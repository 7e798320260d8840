/-
  FnExactFormatGraph: for every graph the program's FormatGraph returns what the reference's returns, and leaves its argument alone. The library's table of powers of ten lies as its text says. No condition.
-/
import Derived.Test.YtgdainjconfnfaaDoorOpenT
import Derived.Test.YtgdainjconfnfaaDoorKGraph
import Derived.Test.YtgdainjconfnfaaDoorFmt2
import Derived.Deep.RegionHeld3
import Derived.Lib.LaidTab
import Derived.Lib.LaidIn
import Derived.Stop.LaidErr
import Derived.Stop.Joined
import Derived.SevenTiedAt
import Derived.Test.YtgdainjconfnfaaDoorCards
import Derived.Test.YtgdainjconfnfaaDoorTie
namespace Go.Proofs.YtgdainjconfnfaaDoor.fnExactFormatGraph
open Go.ChangeShapes Go.WideShapes Go.ChangeAt Go.RowKit
set_option linter.unusedVariables false
set_option maxRecDepth 100000

set_option maxHeartbeats 4000000 in
theorem walk (w : World) (ht : Tb w) (v0 : Value) (x0 : Int × List Tr) (f0 : IsGraph w v0 x0) :
    Calls Tryd.prog 3 #[v0] w fun e w' => e = .returned (.bool true) ∧ Below w.heap.size w w' := by
  have HT := Lib.hid ht
  clear ht
  obtain ⟨p0a, xp0v⟩ := x0
  obtain ⟨p0v, rfl, hp0v, kp0v, b0⟩ := f0
  dsimp only at *
  rcases Or.symm (Decidable.em ((xp0v.length : Int) ≤ 1048576)) with z0 | z0
  · go_enter Tryd.func3, Tryd.ntmps3
    go_wp2_with fail
    refine (szGraph_no p0a p0v xp0v (1048576) _ (hp0v.keep ((Bel.refl _).alloc _)) (by omega) (by omega) (by omega)).mono ?_
    rintro e wz ⟨rfl, hbz⟩
    go_wp2
    go_ret
    exact ⟨rfl, ((Bel.refl _).alloc _).trans hbz⟩
  have dz0 : decide (1048576 - ((xp0v.length : Int)) < 0) = false := by simp; omega
  have np0v : xp0v.length ≤ 1048576 := by omega
  go_enter Tryd.func3, Tryd.ntmps3
  go_wp2_with fail
  refine (szGraph_ok p0a p0v xp0v (1048576) _ (hp0v.keep ((Bel.refl _).alloc _)) (by omega) (by omega)).mono ?_
  rintro e w1 ⟨rfl, hb1⟩
  have X0_1 := hb1.keep (Blk.new w _ _)
  have Y1 : Bel w w1 := ((Bel.refl _).alloc _).trans hb1
  clear hb1
  obtain ⟨cc0, _, _⟩ := X0_1.facts
  try clear cc0
  obtain ⟨cc0, _, _⟩ := X0_1.facts
  go_wp2_with fail
  refine (toGraph p0a p0v xp0v _ (hp0v.keep Y1) np0v).mono ?_
  rintro e w2 ⟨sp0v, rfl, Op0vs, hb2⟩
  have X0_2 := hb2.keep X0_1
  have Y2 : Bel w w2 := Y1.trans hb2
  clear cc0
  go_wp2_with fail
  refine (fmtGS p0a _ xp0v _ (Op0vs.reads) b0 kp0v np0v).mono ?_
  rintro e w3 ⟨rfl, hb3⟩
  have X0_3 := hb3.keep X0_2
  have Y3 : Bel w w3 := Y2.trans hb3
  try clear cc0
  obtain ⟨cc0, _, _⟩ := X0_3.facts
  go_wp2_with fail
  refine (toGraph p0a p0v xp0v _ (hp0v.keep Y3) np0v).mono ?_
  rintro e w4 ⟨tp0v, rfl, Op0vt, hb4⟩
  have X0_4 := hb4.keep X0_3
  have Y4 : Bel w w4 := Y3.trans hb4
  clear cc0
  obtain ⟨Atp0v, ctp0v, etp0v, _, _, _⟩ := Op0vt.reads
  subst etp0v
  have X0_4a := X0_4.alloc (.cells #[.int .i64 p0a, (.slice Atp0v xp0v.length ctp0v)] 29)
  have Z0_4a := Blk.new w4 29 #[.int .i64 p0a, (.slice Atp0v xp0v.length ctp0v)]
  have Y4a := Y4.alloc (.cells #[.int .i64 p0a, (.slice Atp0v xp0v.length ctp0v)] 29)
  have Pp0v_4a := Op0vt.reads.keep ((Bel.refl _).alloc (.cells #[.int .i64 p0a, (.slice Atp0v xp0v.length ctp0v)] 29))
  obtain ⟨g0, hg0⟩ : ∃ g, w4.heap.size = g := ⟨_, rfl⟩
  rw [hg0] at Z0_4a
  have HG0 := Lib.hid hg0
  clear hg0
  have Z0_p := Z0_4a
  rw [← HG0.out] at Z0_p
  try clear cc0
  obtain ⟨ccz0, _, _⟩ := Z0_p.facts
  go_wp2_with fail
  refine (fmtGI p0a _ xp0v _ (Pp0v_4a) b0 kp0v np0v (HT.out.keep (by assumption))).mono ?_
  rintro e w5 ⟨rfl, hb5⟩
  have X0_5 := hb5.keep X0_4a
  have Z0_5 := hb5.keep Z0_p
  have Y5 : Bel w w5 := Y4a.trans hb5
  have Pp0v_5 := (Pp0v_4a).keep hb5
  clear ccz0
  obtain ⟨hcX05, _, hzX05⟩ := X0_5.facts
  have rX05o0 : w5.cell? ⟨w.heap.size, 0, none⟩ = some (.int .i64 p0a) := hcX05 0
  have rX05o1 : w5.cell? ⟨w.heap.size, 1, none⟩ = some (p0v) := hcX05 1
  clear hcX05
  obtain ⟨hcZ05, _, hzZ05⟩ := Z0_5.facts
  have rZ05o0 : w5.cell? ⟨w4.heap.size, 0, none⟩ = some (.int .i64 p0a) := hcZ05 0
  have rZ05o1 : w5.cell? ⟨w4.heap.size, 1, none⟩ = some ((.slice Atp0v xp0v.length ctp0v)) := hcZ05 1
  clear hcZ05
  have Yd := Y5.drew
  go_wp2_with fail
  go_region_held3 (fun w' => w'.cell? ⟨w.heap.size, 0, none⟩ = some (.int .i64 p0a) ∧ w'.cell? ⟨w.heap.size, 1, none⟩ = some (p0v) ∧ w'.cell? ⟨w4.heap.size, 0, none⟩ = some (.int .i64 p0a) ∧ w'.cell? ⟨w4.heap.size, 1, none⟩ = some ((.slice Atp0v xp0v.length ctp0v))) (first | exact ⟨hbT.cell1 hzX05 rX05o0, hbT.cell1 hzX05 rX05o1, hbT.cell1 hzZ05 rZ05o0, hbT.cell1 hzZ05 rZ05o1⟩ | exact ⟨hbE.cell1 (Nat.lt_of_lt_of_le hzX05 hbT.size) (hbT.cell1 hzX05 rX05o0), hbE.cell1 (Nat.lt_of_lt_of_le hzX05 hbT.size) (hbT.cell1 hzX05 rX05o1), hbE.cell1 (Nat.lt_of_lt_of_le hzZ05 hbT.size) (hbT.cell1 hzZ05 rZ05o0), hbE.cell1 (Nat.lt_of_lt_of_le hzZ05 hbT.size) (hbT.cell1 hzZ05 rZ05o1)⟩ | go_keep) (first | (go_at_call 6; ((with_reducible refine (toGraph p0a p0v xp0v _ (by exact hp0v.keep Yd) np0v).mono ?_); rintro e wT ⟨qp0v, rfl, Op0vq, hbT⟩)) | (go_at_call 8; ((with_reducible refine (eqGraph_same p0a _ xp0v _ _ (by exact (Pp0v_5).keep (((Bel.refl _).drew).trans hbT)) (by exact Op0vq.reads)).mono ?_); rintro e wE ⟨rfl, hbE⟩)))
  have hbR := (((Bel.refl w5).drew).trans hbT).trans hbE
  clear rX05o0 rX05o1 rZ05o0 rZ05o1 Yd
  obtain ⟨w6, hw6⟩ : ∃ x, x = wE := ⟨_, rfl⟩
  subst hw6
  have X0_6 := hbR.keep X0_5
  have Z0_6 := hbR.keep Z0_5
  have Y6 := Y5.trans hbR
  have Pp0v_6 := (Pp0v_5).keep hbR
  clear hbR hbT hbE
  go_wp2
  go_ret
  exact ⟨rfl, Y6⟩

/-- The three tables as the row lists them. -/
def litsOf : DataW Unit → Array Value
  | .agg l => (l.map fun x => match x with | .lit (.int k z) => Value.int k z | _ => undef).toArray
  | _ => #[]
def putCells (cs : Array Value) : Obj → Obj
  | .cells _ t frozen => .cells cs t frozen
  | o => o
noncomputable def laidWorld (os : Os) : World :=
  let w0 := World.plainHolding Tryd.prog os ⟨#[], #[], []⟩
  { w0 with heap := ((w0.heap.modify 0 (putCells (litsOf Rows.laid_internal_strconv_uint64pow10))).modify 1 (putCells (litsOf Rows.laid_math_bits_deBruijn32tab))).modify 2 (putCells (litsOf Rows.laid_math_bits_deBruijn64tab)) }
theorem laid_met (os : Os) (args : Array Value) : laidMet Tryd.prog Rows.fnExactFormatGraphRow.laid ((laidWorld os).forCall (fun _ _ => 0) ⟨#[], args, []⟩).memory :=
  (LaidIn.of_run [0, 1, 2] 8 (by kernel_rfl) (by kernel_rfl) (by kernel_rfl) (by kernel_rfl)).met
theorem tabOf {W : World} (hL : laidMet Tryd.prog Rows.fnExactFormatGraphRow.laid W) : Tb W :=
  Lib.tabIs_of_head (P := Tryd.prog) (g := 0) (t := 52) (e := 45) (n := 20) (by kernel_rfl) (by kernel_rfl) (by kernel_rfl) (by kernel_rfl) (by kernel_rfl) (by kernel_rfl)
    ((show laidMet Tryd.prog (("internal/strconv.uint64pow10", Rows.laid_internal_strconv_uint64pow10) :: []) W = laidMet Tryd.prog (("internal/strconv.uint64pow10", Lib.tabData .u64 Lib.pow10Tab) :: []) W from congrArg (fun d => laidMet Tryd.prog (("internal/strconv.uint64pow10", d) :: []) W) (by kernel_rfl)).mp hL.tail.tail)

set_option maxRecDepth 100000 in
theorem lifted (os : Os) (started : os.Started) (H : Type) (enc : TypeId × Value → H) :
    ReturnsInHanded {} Tryd.checked os 3 .any (fun w args => (Rows.fnExactFormatGraphSpec.pre enc Tryd.prog Tryd.f3 Rows.fnExactFormatGraphRow.domain false w args ∧ laidMet Tryd.prog Rows.fnExactFormatGraphRow.laid w) ∧ sizedMet enc Tryd.prog Tryd.f3 (OpenSpec.ofChange Rows.fnExactFormatGraphSpec) false w args) (Rows.fnExactFormatGraphSpec.post enc Tryd.prog Tryd.f3 false true false false) := by
  refine returnsInHanded_of_change_and (C := Tryd.checked) (X := fun w _ => laidMet Tryd.prog Rows.fnExactFormatGraphRow.laid w) (fun _ _ _ hh h => h.of_heap hh) own started (by kernel_rfl) Tryd.func3
    (ChangeSpec.witness_at (enc := enc) (C := Tryd.checked) (os := os) (X := fun w _ => laidMet Tryd.prog Rows.fnExactFormatGraphRow.laid w) false (laidWorld os) #[.agg #[.int .i64 0, .slice none 0 0]] 8 rfl (by kernel_rfl) (by kernel_rfl) (by kernel_rfl) (by kernel_rfl) (by kernel_rfl) (laid_met os _)) ?_
  intro W base args ds gs before hval0 hW hcnd _ hL _
  have hval : ∀ (j : Nat) t v, Tryd.f3.params[j]? = some t → args[j]? = some v → Value.okWide Tryd.prog W .any base t v := hval0
  have hW' := hW
  obtain ⟨p, q, hA0, hV, rfl, hfz, hnd⟩ := hW
  have hA : DataW.TrodAll enc Tryd.prog W 0 (fun _ => true) true Tryd.f3.params.toList args.toList ds p := hA0
  rw [Tryd.params3] at hA hval
  obtain ⟨v0, vs0, d0, ds0, p0, q0, hargs, rfl, rfl, h0, r0⟩ := trodAll_cons hA
  obtain ⟨rfl, rfl, rfl⟩ := trodAll_nil r0
  obtain rfl : args = #[v0] := by cases args; simp_all
  obtain ⟨rfl, rfl⟩ := trodVars_none hV
  have k0 := h0
  have lt0 : ∀ x ∈ p0, x.block < W.heap.size := by obtain ⟨m, hm⟩ := k0; exact DataW.trod_lt m _ _ _ hm
  obtain ⟨x0, f0⟩ := openGraph (hval 0 24 v0 rfl rfl) h0
  clear hA0 hval0
  refine (walk W (tabOf hL) v0 x0 f0).mono fun e W' ⟨he, bel⟩ => ?_
  subst he
  exact ⟨_, rfl, _, _, _, [], _, [], hW', trodAll_mk1 (shut_bool Tryd.underlying4 _), (trodAll_cons_mk (Below.trod laidOut (by kernel_rfl) (of_decide_eq_true (by kernel_rfl)) k0 bel lt0) trodAll_mk0), rfl, bel.frame _, fun h => by cases h⟩

theorem over : Rows.fnExactFormatGraphRow.holds Tryd.pinned (OpenSpec.ofChange Rows.fnExactFormatGraphSpec) :=
  OpenClaim.holds_of_wide 3 Tryd.f3 rfl rfl rfl rfl rfl rfl rfl ⟨rfl, rfl, rfl, rfl, rfl⟩ rfl rfl rfl rfl rfl (by kernel_rfl) Tryd.func3 (by kernel_rfl)
    (of_decide_eq_true (by kernel_rfl)) (by unfold Func.isWrapper; first | (rw [if_pos (by decide +kernel)]; kernel_rfl) | (rw [if_neg (by decide +kernel)]; exact ⟨rfl, rfl⟩))
    (fun os started H enc _ => lifted os started H enc)

theorem proved : Rows.FnExactFormatGraphCardSaid :=
  Claim7.holds_tied_plain_at .later [] [.data, .data, .data] true (true, "286fc50e954cc4da7a9ffea4cd430db44f7cf343c6d7f2757633ef706f56f2db") false
    over (fun _ h => by cases h) (by kernel_rfl) (fun _ h => by cases h) fnExactFormatGraph_row_tie rfl ⟨rfl, rfl⟩ (by kernel_rfl) rfl
    (fun f fn hf hfn => by
      obtain rfl : f = 3 := Option.some.inj ((show Program.funcNamed Tryd.prog "loop.example/g00513/laws.FnExactFormatGraph" = some 3 by kernel_rfl).symm.trans hf) |>.symm
      obtain rfl : fn = Tryd.f3 := (Option.some.inj (Tryd.func3.symm.trans hfn)).symm
      exact ⟨by kernel_rfl, fun j t ht => by
        rw [Tryd.params3] at ht
        have h3 : t = 24 := by
          rcases j with _ | j
          · simpa using ht.symm
          · simp at ht
        subst h3
        exact (show Program.wantsStandIn Tryd.prog 24 = false by kernel_rfl)⟩)
    (by kernel_rfl)
#print axioms proved
end Go.Proofs.YtgdainjconfnfaaDoor.fnExactFormatGraph
