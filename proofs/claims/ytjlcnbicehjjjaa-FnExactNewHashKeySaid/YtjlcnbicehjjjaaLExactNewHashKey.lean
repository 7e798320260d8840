/-
  FnExactNewHashKey: for every seed and width the program's NewHashKey returns what the reference's returns, in memory of its own. No condition.
-/
import Derived.Test.YtjlcnbicehjjjaaOpenS
import Derived.Test.YtjlcnbicehjjjaaKHkey
import Derived.Test.YtjlcnbicehjjjaaHkM
import Derived.Test.YtjlcnbicehjjjaaNhk
import Derived.Deep.RegionHeld3
namespace Go.Proofs.Ytjlcnbicehjjjaa.fnExactNewHashKey
open Go.ChangeShapes Go.WideShapes Go.ChangeAt Go.RowKit
set_option linter.unusedVariables false
set_option maxRecDepth 100000

set_option maxHeartbeats 4000000 in
theorem walk (w : World) (v0 : Value) (x0 : Int) (f0 : IsI w v0 x0) (v1 : Value) (x1 : Int) (f1 : IsI w v1 x1) :
    Calls Try.prog 3 #[v0, v1] w fun e w' => e = .returned (.bool true) ∧ Below w.heap.size w w' := by
  obtain ⟨rfl, b0⟩ := f0
  obtain ⟨rfl, b1⟩ := f1
  have nD : (nhZ x0 x1).length ≤ 2097152 := by have := nhZ_len x0 x1; omega
  obtain ⟨D, hD⟩ : ∃ D, D = nhZ x0 x1 := ⟨_, rfl⟩
  rw [← hD] at nD
  have HD := Lib.hid hD.symm
  clear hD
  go_enter Try.func3, Try.ntmps3
  go_wp2_with fail
  refine (nhS x0 x1 _ b0 b1).mono ?_
  rintro e w1 ⟨rs, rfl, Os, hb1⟩
  have Y1 : Bel w w1 := (Bel.refl _).trans hb1
  have s1 : Hid (w.heap.size + 0 ≤ w1.heap.size) := Lib.hid hb1.sz0
  rw [HD.out] at Os
  have Ns := Os.loc (hb1.size)
  obtain ⟨Ars, crs, ers, _, _, _⟩ := Os.reads
  subst ers
  have Gs_a := Blk.new w1 24 #[(.slice Ars (D).length crs)]
  have YGs := Y1.alloc (.cells #[(.slice Ars (D).length crs)] 24)
  have Ns_Gs := Ns.keep ((Bel.refl _).alloc (.cells #[(.slice Ars (D).length crs)] 24))
  go_wp2_with fail
  refine (nhI x0 x1 _ b0 b1).mono ?_
  rintro e w2 ⟨rg, rfl, Og, hb2⟩
  have Gs_2 := hb2.keep Gs_a
  have Y2 : Bel w w2 := YGs.trans hb2
  have Ns_2 := Ns_Gs.keep hb2
  have s2 : Hid (w1.heap.size + 1 ≤ w2.heap.size) := Lib.hid hb2.sz1
  rw [HD.out] at Og
  have Ng := Og.loc (hb2.size)
  obtain ⟨Arg, crg, erg, _, _, _⟩ := Og.reads
  subst erg
  have Gg_a := Blk.new w2 24 #[(.slice Arg (D).length crg)]
  have Gs_Gg := Gs_2.alloc (.cells #[(.slice Arg (D).length crg)] 24)
  have YGg := Y2.alloc (.cells #[(.slice Arg (D).length crg)] 24)
  have Ns_Gg := Ns_2.keep ((Bel.refl _).alloc (.cells #[(.slice Arg (D).length crg)] 24))
  have Ng_Gg := Ng.keep ((Bel.refl _).alloc (.cells #[(.slice Arg (D).length crg)] 24))
  obtain ⟨ccGg, _, _⟩ := Gg_a.facts
  obtain ⟨ccGs, _, _⟩ := Gs_Gg.facts
  go_wp2_with fail
  refine (eqHkey_same  _ (D) _ _ (Ng_Gg.out.reads) (Ns_Gg.out.reads)).mono ?_
  rintro e w3 ⟨rfl, hb3⟩
  clear ccGg ccGs
  have Gs_3 := hb3.keep Gs_Gg
  have Gg_3 := hb3.keep Gg_a
  have Y3 : Bel w w3 := YGg.trans hb3
  have Ns_3 := Ns_Gg.keep hb3
  have Ng_3 := Ng_Gg.keep hb3
  have s3 : Hid (w2.heap.size + 1 ≤ w3.heap.size) := Lib.hid hb3.sz1
  obtain ⟨ccGg, _, _⟩ := Gg_3.facts
  go_wp2_with fail
  refine (mkHkey  _ 1 (D) _ _ _ Ng_3 (by omega) (by omega)).mono ?_
  rintro e w4 ⟨rfl, Lm, m4⟩
  clear ccGg
  have Gs_4 := Gs_3.mid m4 (by have as1 := s1.out; have as2 := s2.out; have as3 := s3.out; (try simp only [World.size_alloc]); omega)
  have Gg_4 := Gg_3.mid m4 (by have as1 := s1.out; have as2 := s2.out; have as3 := s3.out; (try simp only [World.size_alloc]); omega)
  have Y4 : Bel w w4 := Y3.mid m4 (by have as1 := s1.out; have as2 := s2.out; have as3 := s3.out; (try simp only [World.size_alloc]); omega)
  have Ns_4 := Ns_3.mid m4 (by have as1 := s1.out; have as2 := s2.out; have as3 := s3.out; (try simp only [World.size_alloc]); omega)
  have s4 : Hid (w3.heap.size + 0 ≤ w4.heap.size) := Lib.hid m4.sz0
  have qm : decide (1 + (((D).length : Nat) : Int) < 0) = false := decide_eq_false (by omega)
  obtain ⟨ccGg, _, _⟩ := Gg_4.facts
  go_wp2_with fail
  refine (hdHkey  _ 1 (D).length _ (Lm.out.reads) (by omega) (by omega)).mono ?_
  rintro e w5 ⟨rfl, hb5⟩
  clear ccGg
  have Gs_5 := hb5.keep Gs_4
  have Gg_5 := hb5.keep Gg_4
  have Y5 : Bel w w5 := Y4.trans hb5
  have Ns_5 := Ns_4.keep hb5
  have Lm_5 := Lm.keep hb5
  have s5 : Hid (w4.heap.size + 0 ≤ w5.heap.size) := Lib.hid hb5.sz0
  go_wp2_with fail
  refine (nhI x0 x1 _ b0 b1).mono ?_
  rintro e w6 ⟨rh, rfl, Oh, hb6⟩
  have Gs_6 := hb6.keep Gs_5
  have Gg_6 := hb6.keep Gg_5
  have Y6 : Bel w w6 := Y5.trans hb6
  have Ns_6 := Ns_5.keep hb6
  have Lm_6 := Lm_5.keep hb6
  have s6 : Hid (w5.heap.size + 0 ≤ w6.heap.size) := Lib.hid hb6.sz0
  rw [HD.out] at Oh
  have Nh := Oh.loc (hb6.size)
  obtain ⟨Arh, crh, erh, _, _, _⟩ := Oh.reads
  subst erh
  have Gh_a := Blk.new w6 24 #[(.slice Arh (D).length crh)]
  have Gs_Gh := Gs_6.alloc (.cells #[(.slice Arh (D).length crh)] 24)
  have Gg_Gh := Gg_6.alloc (.cells #[(.slice Arh (D).length crh)] 24)
  have YGh := Y6.alloc (.cells #[(.slice Arh (D).length crh)] 24)
  have Ns_Gh := Ns_6.keep ((Bel.refl _).alloc (.cells #[(.slice Arh (D).length crh)] 24))
  have Lm_Gh := Lm_6.keep ((Bel.refl _).alloc (.cells #[(.slice Arh (D).length crh)] 24))
  have Nh_Gh := Nh.keep ((Bel.refl _).alloc (.cells #[(.slice Arh (D).length crh)] 24))
  obtain ⟨ccGh, _, _⟩ := Gh_a.facts
  obtain ⟨ccGs, _, _⟩ := Gs_Gh.facts
  go_wp2_with fail
  refine (eqHkey_same  _ (D) _ _ (Nh_Gh.out.reads) (Ns_Gh.out.reads)).mono ?_
  rintro e w7 ⟨rfl, hb7⟩
  clear ccGh ccGs
  have Gs_7 := hb7.keep Gs_Gh
  have Gg_7 := hb7.keep Gg_Gh
  have Gh_7 := hb7.keep Gh_a
  have Y7 : Bel w w7 := YGh.trans hb7
  have Ns_7 := Ns_Gh.keep hb7
  have Lm_7 := Lm_Gh.keep hb7
  have Nh_7 := Nh_Gh.keep hb7
  have s7 : Hid (w6.heap.size + 1 ≤ w7.heap.size) := Lib.hid hb7.sz1
  obtain ⟨ccGg, _, _⟩ := Gg_7.facts
  go_wp2_with fail
  refine (hdHkey  _ 1 (D).length _ (Lm_7.out.reads) (by omega) (by omega)).mono ?_
  rintro e w8 ⟨rfl, hb8⟩
  clear ccGg
  have Gs_8 := hb8.keep Gs_7
  have Gg_8 := hb8.keep Gg_7
  have Gh_8 := hb8.keep Gh_7
  have Y8 : Bel w w8 := Y7.trans hb8
  have Ns_8 := Ns_7.keep hb8
  have Lm_8 := Lm_7.keep hb8
  have Nh_8 := Nh_7.keep hb8
  have s8 : Hid (w7.heap.size + 0 ≤ w8.heap.size) := Lib.hid hb8.sz0
  go_wp2
  go_ret
  exact ⟨rfl, Y8⟩

set_option maxRecDepth 100000 in
theorem lifted (os : Os) (started : os.Started) (H : Type) (enc : TypeId × Value → H) :
    ReturnsInHanded {} Try.checked os 3 .any (Rows.fnExactNewHashKeySpec.pre6 enc Try.prog Try.f3 Rows.fnExactNewHashKeyRow.domain false) (Rows.fnExactNewHashKeySpec.post enc Try.prog Try.f3 false true false false) := by
  refine returnsInHanded_of_change (C := Try.checked) own started (by kernel_rfl) Try.func3
    (ChangeSpec.witness6 (enc := enc) (C := Try.checked) false ⟨#[], #[.int .i64 0, .int .i64 0], []⟩ 8 (by kernel_rfl) (by kernel_rfl) (by kernel_rfl) (by kernel_rfl)) ?_
  intro W base args ds gs before hval0 hW hcnd _
  have hval : ∀ (j : Nat) t v, Try.f3.params[j]? = some t → args[j]? = some v → Value.okWide Try.prog W .any base t v := hval0
  have hW' := hW
  obtain ⟨p, q, hA0, hV, rfl, hfz, hnd⟩ := hW
  have hA : DataW.TrodAll enc Try.prog W 0 (fun _ => true) true Try.f3.params.toList args.toList ds p := hA0
  rw [Try.params3] at hA hval
  obtain ⟨v0, vs0, d0, ds0, p0, q0, hargs, rfl, rfl, h0, r0⟩ := trodAll_cons hA
  obtain ⟨v1, vs1, d1, ds1, p1, q1, rfl, rfl, rfl, h1, r1⟩ := trodAll_cons r0
  obtain ⟨rfl, rfl, rfl⟩ := trodAll_nil r1
  obtain rfl : args = #[v0, v1] := by cases args; simp_all
  obtain ⟨rfl, rfl⟩ := trodVars_none hV
  have k0 := h0
  have lt0 : ∀ x ∈ p0, x.block < W.heap.size := by obtain ⟨m, hm⟩ := k0; exact DataW.trod_lt m _ _ _ hm
  obtain ⟨x0, f0⟩ := openI (hval 0 3 v0 rfl rfl) h0
  have k1 := h1
  have lt1 : ∀ x ∈ p1, x.block < W.heap.size := by obtain ⟨m, hm⟩ := k1; exact DataW.trod_lt m _ _ _ hm
  obtain ⟨x1, f1⟩ := openI (hval 1 3 v1 rfl rfl) h1
  clear hA0 hval0
  refine (walk W v0 x0 f0 v1 x1 f1).mono fun e W' ⟨he, bel⟩ => ?_
  subst he
  exact ⟨_, rfl, _, _, _, [], _, [], hW', trodAll_mk1 (shut_bool Try.underlying4 _), (trodAll_cons_mk (Below.trod laidOut (by kernel_rfl) (of_decide_eq_true (by kernel_rfl)) k0 bel lt0) (trodAll_cons_mk (Below.trod laidOut (by kernel_rfl) (of_decide_eq_true (by kernel_rfl)) k1 bel lt1) trodAll_mk0)), rfl, bel.frame _, fun h => by cases h⟩

theorem over : Rows.fnExactNewHashKeyRow.holds Try.pinned (OpenSpec.ofChange Rows.fnExactNewHashKeySpec) :=
  OpenClaim.holds_of_wide 3 Try.f3 rfl rfl rfl rfl rfl rfl rfl ⟨rfl, rfl, rfl, rfl, rfl⟩ rfl rfl rfl rfl rfl (by kernel_rfl) Try.func3 (by kernel_rfl)
    (of_decide_eq_true (by kernel_rfl)) (by unfold Func.isWrapper; first | (rw [if_pos (by decide +kernel)]; kernel_rfl) | (rw [if_neg (by decide +kernel)]; exact ⟨rfl, rfl⟩))
    (fun os started H enc _ => lifted os started H enc)

theorem proved : Rows.FnExactNewHashKeySaid := over
#print axioms proved
end Go.Proofs.Ytjlcnbicehjjjaa.fnExactNewHashKey
