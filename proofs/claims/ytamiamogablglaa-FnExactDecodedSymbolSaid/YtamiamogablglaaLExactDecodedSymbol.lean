/-
  FnExactDecodedSymbol: for every decoder and index the program's DecodedSymbol returns what the reference's returns, in memory of its own, and leaves its argument alone. No condition.
-/
import Derived.Test.YtamiamogablglaaOpenM
import Derived.Test.YtamiamogablglaaKDec
import Derived.Test.YtamiamogablglaaDec9
import Derived.Deep.RegionHeld3
namespace Go.Proofs.Ytamiamogablglaa.fnExactDecodedSymbol
open Go.ChangeShapes Go.WideShapes Go.ChangeAt Go.RowKit
set_option linter.unusedVariables false
set_option maxRecDepth 100000

set_option maxHeartbeats 4000000 in
theorem walk (w : World) (v0 : Value) (x0 : Int × Int × Int × Int × List (List Int)) (f0 : IsDec w v0 x0) (v1 : Value) (x1 : Int) (f1 : IsI w v1 x1) :
    Calls Try.prog 8 #[v0, v1] w fun e w' => e = .returned (.bool true) ∧ Below w.heap.size w w' := by
  obtain ⟨p0a, p0b, p0c, p0d, xp0v⟩ := x0
  obtain ⟨p0v, rfl, hp0v, kp0v, b0⟩ := f0
  dsimp only at *
  obtain ⟨rfl, b1⟩ := f1
  rcases Or.symm (Decidable.em ((szM xp0v : Int) ≤ 1048576)) with z0 | z0
  · go_enter Try.func8, Try.ntmps8
    go_wp2_with fail
    refine (szDec_no p0a p0b p0c p0d p0v xp0v (1048576) _ (hp0v.keep ((Bel.refl _).alloc _)) (by omega) (by omega) (by omega)).mono ?_
    rintro e wz ⟨rfl, hbz⟩
    go_wp2
    go_ret
    exact ⟨rfl, ((Bel.refl _).alloc _).trans hbz⟩
  have dz0 : decide (1048576 - ((szM xp0v : Int)) < 0) = false := by simp; omega
  have np0v : szM xp0v ≤ 1048576 := by omega
  have flp0v : flN xp0v ≤ 1048576 := by have h9 := np0v; unfold szM at h9; show xp0v.flatten.length ≤ 1048576; omega
  have nD : ((dsymZ p0a p0b p0c p0d xp0v x1).getD []).length ≤ 2097152 := by have := dsymZ_len p0a p0b p0c p0d xp0v x1; omega
  have hff : (((dsymZ p0a p0b p0c p0d xp0v x1).isSome) != ((dsymZ p0a p0b p0c p0d xp0v x1).isSome)) = false := by simp
  obtain ⟨D, hD⟩ : ∃ D, D = (dsymZ p0a p0b p0c p0d xp0v x1).getD [] := ⟨_, rfl⟩
  rw [← hD] at nD
  have HD := Lib.hid hD.symm
  clear hD
  go_enter Try.func8, Try.ntmps8
  go_wp2_with fail
  refine (szDec_ok p0a p0b p0c p0d p0v xp0v (1048576) _ (hp0v.keep ((Bel.refl _).alloc _)) (by omega) (by omega)).mono ?_
  rintro e w1 ⟨rfl, hb1⟩
  have X0_1 := hb1.keep (Blk.new w _ _)
  have Y1 : Bel w w1 := ((Bel.refl _).alloc _).trans hb1
  have s1 : Hid (w.heap.size + 1 ≤ w1.heap.size) := Lib.hid hb1.sz1
  clear hb1
  obtain ⟨cc0, _, _⟩ := X0_1.facts
  clear cc0
  obtain ⟨ccX0, _, _⟩ := X0_1.facts
  go_wp2_with fail
  refine (toDec p0a p0b p0c p0d p0v xp0v _ (hp0v.keep Y1) np0v).mono ?_
  rintro e w2 ⟨sp0v, rfl, Op0vs, hb2⟩
  clear ccX0
  have X0_2 := hb2.keep X0_1
  have Y2 : Bel w w2 := Y1.trans hb2
  have s2 : Hid (w1.heap.size + 0 ≤ w2.heap.size) := Lib.hid hb2.sz0
  have M0s := Op0vs.loc (hb2.size)
  go_wp2_with fail
  refine (dsymS p0a p0b p0c p0d x1 _ xp0v _ (M0s.out.reads)).mono ?_
  rintro e w3 ⟨rs, rfl, Os, hb3⟩
  have X0_3 := hb3.keep X0_2
  have Y3 : Bel w w3 := Y2.trans hb3
  have M0s_3 := M0s.keep hb3
  have s3 : Hid (w2.heap.size + 0 ≤ w3.heap.size) := Lib.hid hb3.sz0
  rw [HD.out] at Os
  have Ns := Os.loc (hb3.size)
  obtain ⟨Ars, crs, ers, _, _, _⟩ := Os.reads
  subst ers
  obtain ⟨ccX0, _, _⟩ := X0_3.facts
  go_wp2_with fail
  refine (toDec p0a p0b p0c p0d p0v xp0v _ (hp0v.keep Y3) np0v).mono ?_
  rintro e w4 ⟨tp0v, rfl, Op0vt, hb4⟩
  clear ccX0
  have X0_4 := hb4.keep X0_3
  have Y4 : Bel w w4 := Y3.trans hb4
  have Ns_4 := Ns.keep hb4
  have s4 : Hid (w3.heap.size + 0 ≤ w4.heap.size) := Lib.hid hb4.sz0
  have M0t := Op0vt.loc (hb4.size)
  obtain ⟨Atp0v, ctp0v, etp0v, _, _, _⟩ := Op0vt.reads
  subst etp0v
  have Z0_a := Blk.new w4 31 #[.int .i64 p0a, .int .i64 p0b, .int .i64 p0c, .int .i64 p0d, (.slice Atp0v xp0v.length ctp0v)]
  have X0_Z0 := X0_4.alloc (.cells #[.int .i64 p0a, .int .i64 p0b, .int .i64 p0c, .int .i64 p0d, (.slice Atp0v xp0v.length ctp0v)] 31)
  have YZ0 := Y4.alloc (.cells #[.int .i64 p0a, .int .i64 p0b, .int .i64 p0c, .int .i64 p0d, (.slice Atp0v xp0v.length ctp0v)] 31)
  have Ns_Z0 := Ns_4.keep ((Bel.refl _).alloc (.cells #[.int .i64 p0a, .int .i64 p0b, .int .i64 p0c, .int .i64 p0d, (.slice Atp0v xp0v.length ctp0v)] 31))
  have M0t_Z0 := M0t.keep ((Bel.refl _).alloc (.cells #[.int .i64 p0a, .int .i64 p0b, .int .i64 p0c, .int .i64 p0d, (.slice Atp0v xp0v.length ctp0v)] 31))
  obtain ⟨ccZ0, _, _⟩ := Z0_a.facts
  go_wp2_with fail
  refine (dsymI p0a p0b p0c p0d x1 _ xp0v _ (M0t_Z0.out.reads)).mono ?_
  rintro e w5 ⟨rg, rfl, Og, hb5⟩
  clear ccZ0
  have X0_5 := hb5.keep X0_Z0
  have Z0_5 := hb5.keep Z0_a
  have Y5 : Bel w w5 := YZ0.trans hb5
  have Ns_5 := Ns_Z0.keep hb5
  have M0t_5 := M0t_Z0.keep hb5
  have s5 : Hid (w4.heap.size + 1 ≤ w5.heap.size) := Lib.hid hb5.sz1
  rw [HD.out] at Og
  have Ng := Og.loc (hb5.size)
  obtain ⟨Arg, crg, erg, _, _, _⟩ := Og.reads
  subst erg
  go_wp2_with fail
  refine (eqInts_same  _ _ (D) _ (Ng.out.reads) (Ns_5.out.reads)).mono ?_
  rintro e w6 ⟨rfl, hb6⟩
  have X0_6 := hb6.keep X0_5
  have Z0_6 := hb6.keep Z0_5
  have Y6 : Bel w w6 := Y5.trans hb6
  have Ns_6 := Ns_5.keep hb6
  have M0t_6 := M0t_5.keep hb6
  have Ng_6 := Ng.keep hb6
  have s6 : Hid (w5.heap.size + 0 ≤ w6.heap.size) := Lib.hid hb6.sz0
  obtain ⟨hcX06, _, hzX06⟩ := X0_6.facts
  have rX06o0 : w6.cell? ⟨w.heap.size, 0, none⟩ = some (.int .i64 p0a) := hcX06 0
  have rX06o1 : w6.cell? ⟨w.heap.size, 1, none⟩ = some (.int .i64 p0b) := hcX06 1
  have rX06o2 : w6.cell? ⟨w.heap.size, 2, none⟩ = some (.int .i64 p0c) := hcX06 2
  have rX06o3 : w6.cell? ⟨w.heap.size, 3, none⟩ = some (.int .i64 p0d) := hcX06 3
  have rX06o4 : w6.cell? ⟨w.heap.size, 4, none⟩ = some (p0v) := hcX06 4
  clear hcX06
  obtain ⟨hcZ06, _, hzZ06⟩ := Z0_6.facts
  have rZ06o0 : w6.cell? ⟨w4.heap.size, 0, none⟩ = some (.int .i64 p0a) := hcZ06 0
  have rZ06o1 : w6.cell? ⟨w4.heap.size, 1, none⟩ = some (.int .i64 p0b) := hcZ06 1
  have rZ06o2 : w6.cell? ⟨w4.heap.size, 2, none⟩ = some (.int .i64 p0c) := hcZ06 2
  have rZ06o3 : w6.cell? ⟨w4.heap.size, 3, none⟩ = some (.int .i64 p0d) := hcZ06 3
  have rZ06o4 : w6.cell? ⟨w4.heap.size, 4, none⟩ = some ((.slice Atp0v xp0v.length ctp0v)) := hcZ06 4
  clear hcZ06
  have Yd := Y6.drew
  go_wp2_with fail
  go_region_held3 (fun w' => w'.cell? ⟨w.heap.size, 0, none⟩ = some (.int .i64 p0a) ∧ w'.cell? ⟨w.heap.size, 1, none⟩ = some (.int .i64 p0b) ∧ w'.cell? ⟨w.heap.size, 2, none⟩ = some (.int .i64 p0c) ∧ w'.cell? ⟨w.heap.size, 3, none⟩ = some (.int .i64 p0d) ∧ w'.cell? ⟨w.heap.size, 4, none⟩ = some (p0v) ∧ w'.cell? ⟨w4.heap.size, 0, none⟩ = some (.int .i64 p0a) ∧ w'.cell? ⟨w4.heap.size, 1, none⟩ = some (.int .i64 p0b) ∧ w'.cell? ⟨w4.heap.size, 2, none⟩ = some (.int .i64 p0c) ∧ w'.cell? ⟨w4.heap.size, 3, none⟩ = some (.int .i64 p0d) ∧ w'.cell? ⟨w4.heap.size, 4, none⟩ = some ((.slice Atp0v xp0v.length ctp0v))) (first | exact ⟨hbT.cell1 hzX06 rX06o0, hbT.cell1 hzX06 rX06o1, hbT.cell1 hzX06 rX06o2, hbT.cell1 hzX06 rX06o3, hbT.cell1 hzX06 rX06o4, hbT.cell1 hzZ06 rZ06o0, hbT.cell1 hzZ06 rZ06o1, hbT.cell1 hzZ06 rZ06o2, hbT.cell1 hzZ06 rZ06o3, hbT.cell1 hzZ06 rZ06o4⟩ | exact ⟨hbE.cell1 (Nat.lt_of_lt_of_le hzX06 hbT.size) (hbT.cell1 hzX06 rX06o0), hbE.cell1 (Nat.lt_of_lt_of_le hzX06 hbT.size) (hbT.cell1 hzX06 rX06o1), hbE.cell1 (Nat.lt_of_lt_of_le hzX06 hbT.size) (hbT.cell1 hzX06 rX06o2), hbE.cell1 (Nat.lt_of_lt_of_le hzX06 hbT.size) (hbT.cell1 hzX06 rX06o3), hbE.cell1 (Nat.lt_of_lt_of_le hzX06 hbT.size) (hbT.cell1 hzX06 rX06o4), hbE.cell1 (Nat.lt_of_lt_of_le hzZ06 hbT.size) (hbT.cell1 hzZ06 rZ06o0), hbE.cell1 (Nat.lt_of_lt_of_le hzZ06 hbT.size) (hbT.cell1 hzZ06 rZ06o1), hbE.cell1 (Nat.lt_of_lt_of_le hzZ06 hbT.size) (hbT.cell1 hzZ06 rZ06o2), hbE.cell1 (Nat.lt_of_lt_of_le hzZ06 hbT.size) (hbT.cell1 hzZ06 rZ06o3), hbE.cell1 (Nat.lt_of_lt_of_le hzZ06 hbT.size) (hbT.cell1 hzZ06 rZ06o4)⟩ | go_keep) (first | (go_at_call 17; ((with_reducible refine (toDec p0a p0b p0c p0d p0v xp0v _ (by exact hp0v.keep Yd) np0v).mono ?_); rintro e wT ⟨qp0v, rfl, Op0vq, hbT⟩)) | (go_at_call 19; ((with_reducible refine (eqDec_same p0a p0b p0c p0d _ xp0v _ _ (by exact (M0t_6.out.reads).keep (((Bel.refl _).drew).trans hbT)) (by exact Op0vq.reads)).mono ?_); rintro e wE ⟨rfl, hbE⟩)))
  have hbR := (((Bel.refl w6).drew).trans hbT).trans hbE
  clear rX06o0 rX06o1 rX06o2 rX06o3 rX06o4 rZ06o0 rZ06o1 rZ06o2 rZ06o3 rZ06o4 Yd
  obtain ⟨w7, hw7⟩ : ∃ x, x = wE := ⟨_, rfl⟩
  subst hw7
  have X0_7 := hbR.keep X0_6
  have Z0_7 := hbR.keep Z0_6
  have Y7 : Bel w w7 := Y6.trans hbR
  have Ns_7 := Ns_6.keep hbR
  have M0t_7 := M0t_6.keep hbR
  have Ng_7 := Ng_6.keep hbR
  have s7 : Hid (w6.heap.size + 0 ≤ w7.heap.size) := Lib.hid hbR.sz0
  clear hbR hbT hbE
  obtain ⟨ccZ0, _, _⟩ := Z0_7.facts
  go_wp2_with fail
  refine (mkDec _ _ _ _ _ _ xp0v _ _ _ M0t_7 (by omega) (by omega)).mono ?_
  rintro e w8 ⟨rfl, _, m8⟩
  clear ccZ0
  have X0_8 := X0_7.mid m8 (by have as1 := s1.out; have as2 := s2.out; have as3 := s3.out; have as4 := s4.out; have as5 := s5.out; have as6 := s6.out; have as7 := s7.out; (try simp only [World.size_alloc]); omega)
  have Z0_8 := Z0_7.mid m8 (by have as1 := s1.out; have as2 := s2.out; have as3 := s3.out; have as4 := s4.out; have as5 := s5.out; have as6 := s6.out; have as7 := s7.out; (try simp only [World.size_alloc]); omega)
  have Y8 : Bel w w8 := Y7.mid m8 (by have as1 := s1.out; have as2 := s2.out; have as3 := s3.out; have as4 := s4.out; have as5 := s5.out; have as6 := s6.out; have as7 := s7.out; (try simp only [World.size_alloc]); omega)
  have Ns_8 := Ns_7.mid m8 (by have as1 := s1.out; have as2 := s2.out; have as3 := s3.out; have as4 := s4.out; have as5 := s5.out; have as6 := s6.out; have as7 := s7.out; (try simp only [World.size_alloc]); omega)
  have Ng_8 := Ng_7.mid m8 (by have as1 := s1.out; have as2 := s2.out; have as3 := s3.out; have as4 := s4.out; have as5 := s5.out; have as6 := s6.out; have as7 := s7.out; (try simp only [World.size_alloc]); omega)
  have s8 : Hid (w7.heap.size + 0 ≤ w8.heap.size) := Lib.hid m8.sz0
  have qk : decide ((1 + ((flN xp0v : Nat) : Int)) < 0) = false := decide_eq_false (by omega)
  go_wp2_with fail
  refine (eqInts_same  _ _ (D) _ (Ng_8.out.reads) (Ns_8.out.reads)).mono ?_
  rintro e w9 ⟨rfl, hb9⟩
  have X0_9 := hb9.keep X0_8
  have Z0_9 := hb9.keep Z0_8
  have Y9 : Bel w w9 := Y8.trans hb9
  have Ns_9 := Ns_8.keep hb9
  have Ng_9 := Ng_8.keep hb9
  have s9 : Hid (w8.heap.size + 0 ≤ w9.heap.size) := Lib.hid hb9.sz0
  go_wp2_with fail
  refine (mkIn _ 1 (D) _ _ _ Ng_9.out Ng_9.1 Ng_9.2.1 (by omega) (by omega)).mono ?_
  rintro e w10 ⟨rfl, Lm, m10⟩
  have X0_10 := X0_9.mid m10 (by have as1 := s1.out; have as2 := s2.out; have as3 := s3.out; have as4 := s4.out; have as5 := s5.out; have as6 := s6.out; have as7 := s7.out; have as8 := s8.out; have as9 := s9.out; (try simp only [World.size_alloc]); omega)
  have Z0_10 := Z0_9.mid m10 (by have as1 := s1.out; have as2 := s2.out; have as3 := s3.out; have as4 := s4.out; have as5 := s5.out; have as6 := s6.out; have as7 := s7.out; have as8 := s8.out; have as9 := s9.out; (try simp only [World.size_alloc]); omega)
  have Y10 : Bel w w10 := Y9.mid m10 (by have as1 := s1.out; have as2 := s2.out; have as3 := s3.out; have as4 := s4.out; have as5 := s5.out; have as6 := s6.out; have as7 := s7.out; have as8 := s8.out; have as9 := s9.out; (try simp only [World.size_alloc]); omega)
  have Ns_10 := Ns_9.mid m10 (by have as1 := s1.out; have as2 := s2.out; have as3 := s3.out; have as4 := s4.out; have as5 := s5.out; have as6 := s6.out; have as7 := s7.out; have as8 := s8.out; have as9 := s9.out; (try simp only [World.size_alloc]); omega)
  have s10 : Hid (w9.heap.size + 0 ≤ w10.heap.size) := Lib.hid m10.sz0
  have qm : decide (1 + (((D).length : Nat) : Int) < 0) = false := decide_eq_false (by omega)
  go_wp2_with fail
  refine (heldInts _ 1 (D).length _ (Lm.out.reads) (by omega) (by omega)).mono ?_
  rintro e wh ⟨rfl, rfl⟩
  obtain ⟨ccX0, _, _⟩ := X0_10.facts
  go_wp2_with fail
  refine (toDec p0a p0b p0c p0d p0v xp0v _ (hp0v.keep Y10) np0v).mono ?_
  rintro e w11 ⟨hp0v, rfl, Op0vh, hb11⟩
  clear ccX0
  have X0_11 := hb11.keep X0_10
  have Z0_11 := hb11.keep Z0_10
  have Y11 : Bel w w11 := Y10.trans hb11
  have Ns_11 := Ns_10.keep hb11
  have Lm_11 := Lm.keep hb11
  have s11 : Hid (w10.heap.size + 0 ≤ w11.heap.size) := Lib.hid hb11.sz0
  have M0h := Op0vh.loc (hb11.size)
  go_wp2_with fail
  refine (dsymI p0a p0b p0c p0d x1 _ xp0v _ (M0h.out.reads)).mono ?_
  rintro e w12 ⟨rh, rfl, Oh, hb12⟩
  have X0_12 := hb12.keep X0_11
  have Z0_12 := hb12.keep Z0_11
  have Y12 : Bel w w12 := Y11.trans hb12
  have Ns_12 := Ns_11.keep hb12
  have Lm_12 := Lm_11.keep hb12
  have M0h_12 := M0h.keep hb12
  have s12 : Hid (w11.heap.size + 0 ≤ w12.heap.size) := Lib.hid hb12.sz0
  rw [HD.out] at Oh
  have Nh := Oh.loc (hb12.size)
  obtain ⟨Arh, crh, erh, _, _, _⟩ := Oh.reads
  subst erh
  go_wp2_with fail
  refine (eqInts_same  _ _ (D) _ (Nh.out.reads) (Ns_12.out.reads)).mono ?_
  rintro e w13 ⟨rfl, hb13⟩
  have X0_13 := hb13.keep X0_12
  have Z0_13 := hb13.keep Z0_12
  have Y13 : Bel w w13 := Y12.trans hb13
  have Ns_13 := Ns_12.keep hb13
  have Lm_13 := Lm_12.keep hb13
  have Nh_13 := Nh.keep hb13
  have s13 : Hid (w12.heap.size + 0 ≤ w13.heap.size) := Lib.hid hb13.sz0
  go_wp2_with fail
  refine (heldInts _ 1 (D).length _ (Lm_13.out.reads) (by omega) (by omega)).mono ?_
  rintro e wh ⟨rfl, rfl⟩
  go_wp2
  go_ret
  exact ⟨rfl, Y13⟩

set_option maxRecDepth 100000 in
theorem lifted (os : Os) (started : os.Started) (H : Type) (enc : TypeId × Value → H) :
    ReturnsInHanded {} Try.checked os 8 .any (Rows.fnExactDecodedSymbolSpec.pre6 enc Try.prog Try.f8 Rows.fnExactDecodedSymbolRow.domain false) (Rows.fnExactDecodedSymbolSpec.post enc Try.prog Try.f8 false true false false) := by
  refine returnsInHanded_of_change (C := Try.checked) own started (by kernel_rfl) Try.func8
    (ChangeSpec.witness6 (enc := enc) (C := Try.checked) false ⟨#[], #[.agg #[.int .i64 0, .int .i64 0, .int .i64 0, .int .i64 0, .slice none 0 0], .int .i64 0], []⟩ 8 (by kernel_rfl) (by kernel_rfl) (by kernel_rfl) (by kernel_rfl)) ?_
  intro W base args ds gs before hval0 hW hcnd _
  have hval : ∀ (j : Nat) t v, Try.f8.params[j]? = some t → args[j]? = some v → Value.okWide Try.prog W .any base t v := hval0
  have hW' := hW
  obtain ⟨p, q, hA0, hV, rfl, hfz, hnd⟩ := hW
  have hA : DataW.TrodAll enc Try.prog W 0 (fun _ => true) true Try.f8.params.toList args.toList ds p := hA0
  rw [Try.params8] at hA hval
  obtain ⟨v0, vs0, d0, ds0, p0, q0, hargs, rfl, rfl, h0, r0⟩ := trodAll_cons hA
  obtain ⟨v1, vs1, d1, ds1, p1, q1, rfl, rfl, rfl, h1, r1⟩ := trodAll_cons r0
  obtain ⟨rfl, rfl, rfl⟩ := trodAll_nil r1
  obtain rfl : args = #[v0, v1] := by cases args; simp_all
  obtain ⟨rfl, rfl⟩ := trodVars_none hV
  have k0 := h0
  have lt0 : ∀ x ∈ p0, x.block < W.heap.size := by obtain ⟨m, hm⟩ := k0; exact DataW.trod_lt m _ _ _ hm
  obtain ⟨x0, f0⟩ := openDec (hval 0 26 v0 rfl rfl) h0
  have k1 := h1
  have lt1 : ∀ x ∈ p1, x.block < W.heap.size := by obtain ⟨m, hm⟩ := k1; exact DataW.trod_lt m _ _ _ hm
  obtain ⟨x1, f1⟩ := openI (hval 1 3 v1 rfl rfl) h1
  clear hA0 hval0
  refine (walk W v0 x0 f0 v1 x1 f1).mono fun e W' ⟨he, bel⟩ => ?_
  subst he
  exact ⟨_, rfl, _, _, _, [], _, [], hW', trodAll_mk1 (shut_bool Try.underlying4 _), (trodAll_cons_mk (Below.trod laidOut (by kernel_rfl) (of_decide_eq_true (by kernel_rfl)) k0 bel lt0) (trodAll_cons_mk (Below.trod laidOut (by kernel_rfl) (of_decide_eq_true (by kernel_rfl)) k1 bel lt1) trodAll_mk0)), rfl, bel.frame _, fun h => by cases h⟩

theorem over : Rows.fnExactDecodedSymbolRow.holds Try.pinned (OpenSpec.ofChange Rows.fnExactDecodedSymbolSpec) :=
  OpenClaim.holds_of_wide 8 Try.f8 rfl rfl rfl rfl rfl rfl rfl ⟨rfl, rfl, rfl, rfl, rfl⟩ rfl rfl rfl rfl rfl (by kernel_rfl) Try.func8 (by kernel_rfl)
    (of_decide_eq_true (by kernel_rfl)) (by unfold Func.isWrapper; first | (rw [if_pos (by decide +kernel)]; kernel_rfl) | (rw [if_neg (by decide +kernel)]; exact ⟨rfl, rfl⟩))
    (fun os started H enc _ => lifted os started H enc)

theorem proved : Rows.FnExactDecodedSymbolSaid := over
#print axioms proved
end Go.Proofs.Ytamiamogablglaa.fnExactDecodedSymbol
