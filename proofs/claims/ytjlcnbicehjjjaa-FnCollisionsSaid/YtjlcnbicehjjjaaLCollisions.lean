/-
  FnCollisions: for every drawn hash key and vector FindCollision finds another vector with the same hash. No condition.
-/
import Derived.Test.YtjlcnbicehjjjaaDre
import Derived.Test.YtjlcnbicehjjjaaCol1
import Derived.Test.YtjlcnbicehjjjaaBq
namespace Go.Proofs.Ytjlcnbicehjjjaa.fnCollisions
open Go.ChangeShapes Go.WideShapes Go.ChangeAt Go.RowKit
set_option linter.unusedVariables false
set_option maxRecDepth 100000

theorem fcolB_no2 {gs xs : List Int} (h : hkB gs = false ∨ vecB xs = false ∨ ((xs.length : Int) == (gs.length : Int)) = false ∨ (xs.length : Int) < 2) : fcolB gs xs = false := by
  unfold fcolB
  rcases h with h | h | h | h
  · rw [h]; rfl
  · rw [h]; simp
  · simp only [bne, h]; simp
  · rw [decide_eq_true h]; simp
set_option maxHeartbeats 4000000 in
theorem walk (w : World) (v0 : Value) (x0 : Nat) (f0 : IsBytes w v0 x0) :
    Calls Try.prog 5 #[v0] w fun e w' => e = .returned (.bool true) ∧ Below w.heap.size w w' := by
  have hv : RB w v0 x0 := f0
  by_cases hbig : (1048576 : Int) < (x0 : Int)
  · have HD : Hid (decide ((1048576 : Int) < (x0 : Int)) = true) := Lib.hid (decide_eq_true hbig)
    go_enter Try.func5, Try.ntmps5
    go_wp2_with fail
    refine (bigL _ x0 _ hv).mono ?_
    rintro e w1 ⟨rfl, rfl⟩
    rw [HD.out]
    go_wp2
    go_ret
    exact ⟨rfl, Bel.refl _⟩
  have hn : x0 ≤ 1048576 := by omega
  have hd : decide ((1048576 : Int) < (x0 : Int)) = false := decide_eq_false hbig
  have HD := Lib.hid hd
  clear hd
  go_enter Try.func5, Try.ntmps5
  go_wp2_with fail
  refine (bigL _ x0 _ hv).mono ?_
  rintro e w1 ⟨rfl, rfl⟩
  rw [HD.out]
  go_wp2_with fail
  refine (drawFcS _ x0 _ hv hn).mono ?_
  rintro e w1 ⟨kv, gs, vv, xs, rfl, G1, V1, hs1, hs2, Y1⟩
  obtain ⟨A, c, er, _, _, _⟩ := G1.reads
  subst er
  obtain ⟨B, d, er, _, _, _⟩ := V1.reads
  subst er
  have K1 : Blk (w1.alloc (.cells #[.slice A gs.length c] 24)) w1.heap.size 24 #[.slice A gs.length c] := Blk.new w1 _ _
  have Y2 := Y1.alloc (.cells #[.slice A gs.length c] 24)
  have rg := G1.reads.keep ((Bel.refl w1).alloc (.cells #[.slice A gs.length c] 24))
  have rv := V1.reads.keep ((Bel.refl w1).alloc (.cells #[.slice A gs.length c] 24))
  clear G1 V1
  obtain ⟨ck, fk, zk⟩ := K1.facts
  go_wp2_with fail
  refine (fcoI _ _ gs xs _ rg rv).mono ?_
  rintro e w2 ⟨r, rfl, O2, hb2⟩
  have K2 := hb2.keep K1
  have Y3 := Y2.trans hb2
  have rg2 := rg.keep hb2
  have rv2 := rv.keep hb2
  have hk : w1.heap.size = w1.heap.size := rfl
  clear ck fk zk K1
  generalize w1.heap.size = gk at *
  obtain ⟨ck, fk, zk⟩ := K2.facts
  go_wp2_with fail
  refine (hkS _ gs _ rg2).mono ?_
  rintro e w3 ⟨rfl, hb3⟩
  have K3 := hb3.keep K2
  have YY := Y3.trans hb3
  have rg3 := rg2.keep hb3
  have rv3 := rv2.keep hb3
  have O3 := O2.keep hb3
  clear ck fk zk K2
  obtain ⟨ck, fk, zk⟩ := K3.facts
  have rk : w3.cell? ⟨gk, 0, none⟩ = some (.slice A gs.length c) := ck 0
  have qq0 := Bw.cell rk zk
  have C1 := Lib.hid (fun (W : World) (h : Bel w3 W) => sameL r _ (fcolZ gs xs) xs W (O3.reads.keep h) (rv3.keep h))
  have C2 := Lib.hid (fun (W : World) (h : Bel w3 W) => hashI _ r gs (fcolZ gs xs) W (rg3.keep h) (O3.reads.keep h))
  have C3 := Lib.hid (fun (W : World) (h : Bel w3 W) => hashI _ _ gs xs W (rg3.keep h) (rv3.keep h))
  have C4 := Lib.hid (fun (W : World) (h : Bel w3 W) => vecS r (fcolZ gs xs) W (O3.reads.keep h))
  cases q1 : hkB gs
  · have HQ : Hid (fcolB gs xs = false) := Lib.hid (by exact fcolB_no2 (.inl q1))
    rw [HQ.out]
    clear q1
    go_wp2
    refine wp_region_bel (by kernel_rfl) (by kernel_rfl) ?_
    repeat (first | go_big_quiet_step (first | (go_at_call 27; exact belQ (C1.out _ (Bw.bel _))) | (go_at_call 28; first | (with_reducible exact belQ (C2.out _ (Bw.bel _))) | (with_reducible exact belQ (C3.out _ (Bw.bel _)))) | (go_at_call 26; exact belQ_same (C4.out _ (Bw.bel _)))) | quiet_step (first | (go_at_call 27; exact belQ (C1.out _ (Bw.bel _))) | (go_at_call 28; first | (with_reducible exact belQ (C2.out _ (Bw.bel _))) | (with_reducible exact belQ (C3.out _ (Bw.bel _)))) | (go_at_call 26; exact belQ_same (C4.out _ (Bw.bel _)))))
    refine wpQuiet_nil ?_
    rintro w9 ⟨⟨_, hb9⟩, rfl⟩
    clear qq0
    go_wp2
    go_ret
    exact ⟨rfl, YY.trans hb9⟩
  go_wp2_with fail
  refine (vecS _ xs _ rv3).mono ?_
  rintro e w4 ⟨rfl, rfl⟩
  cases q2 : vecB xs
  · have HQ : Hid (fcolB gs xs = false) := Lib.hid (by exact fcolB_no2 (.inr (.inl q2)))
    rw [HQ.out]
    clear q1 q2
    go_wp2
    refine wp_region_bel (by kernel_rfl) (by kernel_rfl) ?_
    repeat (first | go_big_quiet_step (first | (go_at_call 27; exact belQ (C1.out _ (Bw.bel _))) | (go_at_call 28; first | (with_reducible exact belQ (C2.out _ (Bw.bel _))) | (with_reducible exact belQ (C3.out _ (Bw.bel _)))) | (go_at_call 26; exact belQ_same (C4.out _ (Bw.bel _)))) | quiet_step (first | (go_at_call 27; exact belQ (C1.out _ (Bw.bel _))) | (go_at_call 28; first | (with_reducible exact belQ (C2.out _ (Bw.bel _))) | (with_reducible exact belQ (C3.out _ (Bw.bel _)))) | (go_at_call 26; exact belQ_same (C4.out _ (Bw.bel _)))))
    refine wpQuiet_nil ?_
    rintro w9 ⟨⟨_, hb9⟩, rfl⟩
    clear qq0
    go_wp2
    go_ret
    exact ⟨rfl, YY.trans hb9⟩
  cases q3 : ((xs.length : Int) == (gs.length : Int))
  · have HQ : Hid (fcolB gs xs = false) := Lib.hid (by exact fcolB_no2 (.inr (.inr (.inl q3))))
    rw [HQ.out]
    clear q1 q2
    go_wp2
    refine wp_region_bel (by kernel_rfl) (by kernel_rfl) ?_
    repeat (first | go_big_quiet_step (first | (go_at_call 27; exact belQ (C1.out _ (Bw.bel _))) | (go_at_call 28; first | (with_reducible exact belQ (C2.out _ (Bw.bel _))) | (with_reducible exact belQ (C3.out _ (Bw.bel _)))) | (go_at_call 26; exact belQ_same (C4.out _ (Bw.bel _)))) | quiet_step (first | (go_at_call 27; exact belQ (C1.out _ (Bw.bel _))) | (go_at_call 28; first | (with_reducible exact belQ (C2.out _ (Bw.bel _))) | (with_reducible exact belQ (C3.out _ (Bw.bel _)))) | (go_at_call 26; exact belQ_same (C4.out _ (Bw.bel _)))))
    refine wpQuiet_nil ?_
    rintro w9 ⟨⟨_, hb9⟩, rfl⟩
    clear qq0
    go_wp2
    go_ret
    exact ⟨rfl, YY.trans hb9⟩
  by_cases q4 : (xs.length : Int) < 2
  · have q5 : ¬ (1 : Int) < (xs.length : Int) := by omega
    have HQ : Hid (fcolB gs xs = false) := Lib.hid (by exact fcolB_no2 (.inr (.inr (.inr q4))))
    rw [HQ.out]
    clear q1 q2
    go_wp2
    refine wp_region_bel (by kernel_rfl) (by kernel_rfl) ?_
    repeat (first | go_big_quiet_step (first | (go_at_call 27; exact belQ (C1.out _ (Bw.bel _))) | (go_at_call 28; first | (with_reducible exact belQ (C2.out _ (Bw.bel _))) | (with_reducible exact belQ (C3.out _ (Bw.bel _)))) | (go_at_call 26; exact belQ_same (C4.out _ (Bw.bel _)))) | quiet_step (first | (go_at_call 27; exact belQ (C1.out _ (Bw.bel _))) | (go_at_call 28; first | (with_reducible exact belQ (C2.out _ (Bw.bel _))) | (with_reducible exact belQ (C3.out _ (Bw.bel _)))) | (go_at_call 26; exact belQ_same (C4.out _ (Bw.bel _)))))
    refine wpQuiet_nil ?_
    rintro w9 ⟨⟨_, hb9⟩, rfl⟩
    clear qq0
    go_wp2
    go_ret
    exact ⟨rfl, YY.trans hb9⟩
  have HQ : Hid (fcolB gs xs = true) := Lib.hid (by unfold fcolB; rw [q1, q2, decide_eq_false q4]; simp only [bne, q3]; rfl)
  have q5 : (1 : Int) < (xs.length : Int) := by omega
  have hl : xs.length = gs.length := by simp at q3; omega
  have n1 : decide (fcolX gs xs = xs) = false := decide_eq_false (col_ne q1 q2 hl (by omega))
  have n2 := col_hash HQ.out
  have n3 := col_vec (gs := gs) q2
  rw [fcol_yes HQ.out] at C1 C2 C4
  rw [n1] at C1
  rw [n2] at C2
  rw [n3] at C4
  clear n1 n2 n3 hl
  generalize hashZ gs xs = h at *
  rw [HQ.out]
  clear q1 q2
  go_wp2
  refine wp_region_bel (by kernel_rfl) (by kernel_rfl) ?_
  repeat (first | go_big_quiet_step (first | (go_at_call 27; exact belQ (C1.out _ (Bw.bel _))) | (go_at_call 28; first | (with_reducible exact belQ (C2.out _ (Bw.bel _))) | (with_reducible exact belQ (C3.out _ (Bw.bel _)))) | (go_at_call 26; exact belQ_same (C4.out _ (Bw.bel _)))) | quiet_step (first | (go_at_call 27; exact belQ (C1.out _ (Bw.bel _))) | (go_at_call 28; first | (with_reducible exact belQ (C2.out _ (Bw.bel _))) | (with_reducible exact belQ (C3.out _ (Bw.bel _)))) | (go_at_call 26; exact belQ_same (C4.out _ (Bw.bel _)))))
  refine wpQuiet_nil ?_
  rintro w9 ⟨⟨_, hb9⟩, rfl⟩
  clear qq0
  go_wp2
  go_ret
  exact ⟨rfl, YY.trans hb9⟩

set_option maxRecDepth 100000 in
theorem lifted (os : Os) (started : os.Started) (H : Type) (enc : TypeId × Value → H) :
    ReturnsInHanded {} Try.checked os 5 .any (Rows.fnCollisionsSpec.pre6 enc Try.prog Try.f5 Rows.fnCollisionsRow.domain false) (Rows.fnCollisionsSpec.post enc Try.prog Try.f5 false true false false) := by
  refine returnsInHanded_of_change (C := Try.checked) own started (by kernel_rfl) Try.func5
    (ChangeSpec.witness6 (enc := enc) (C := Try.checked) false ⟨#[], #[.slice none 0 0], []⟩ 8 (by kernel_rfl) (by kernel_rfl) (by kernel_rfl) (by kernel_rfl)) ?_
  intro W base args ds gs before hval0 hW hcnd _
  have hval : ∀ (j : Nat) t v, Try.f5.params[j]? = some t → args[j]? = some v → Value.okWide Try.prog W .any base t v := hval0
  have hW' := hW
  obtain ⟨p, q, hA0, hV, rfl, hfz, hnd⟩ := hW
  have hA : DataW.TrodAll enc Try.prog W 0 (fun _ => true) true Try.f5.params.toList args.toList ds p := hA0
  rw [Try.params5] at hA hval
  obtain ⟨v0, vs0, d0, ds0, p0, q0, hargs, rfl, rfl, h0, r0⟩ := trodAll_cons hA
  obtain ⟨rfl, rfl, rfl⟩ := trodAll_nil r0
  obtain rfl : args = #[v0] := by cases args; simp_all
  obtain ⟨rfl, rfl⟩ := trodVars_none hV
  have k0 := h0
  have lt0 : ∀ x ∈ p0, x.block < W.heap.size := by obtain ⟨m, hm⟩ := k0; exact DataW.trod_lt m _ _ _ hm
  obtain ⟨x0, f0⟩ := openBytes (hval 0 38 v0 rfl rfl) h0
  clear hA0 hval0
  refine (walk W v0 x0 f0).mono fun e W' ⟨he, bel⟩ => ?_
  subst he
  exact ⟨_, rfl, _, _, _, [], _, [], hW', trodAll_mk1 (shut_bool Try.underlying4 _), (trodAll_cons_mk (Below.trod laidOut (by kernel_rfl) (of_decide_eq_true (by kernel_rfl)) k0 bel lt0) trodAll_mk0), rfl, bel.frame _, fun h => by cases h⟩

theorem over : Rows.fnCollisionsRow.holds Try.pinned (OpenSpec.ofChange Rows.fnCollisionsSpec) :=
  OpenClaim.holds_of_wide 5 Try.f5 rfl rfl rfl rfl rfl rfl rfl ⟨rfl, rfl, rfl, rfl, rfl⟩ rfl rfl rfl rfl rfl (by kernel_rfl) Try.func5 (by kernel_rfl)
    (of_decide_eq_true (by kernel_rfl)) (by unfold Func.isWrapper; first | (rw [if_pos (by decide +kernel)]; kernel_rfl) | (rw [if_neg (by decide +kernel)]; exact ⟨rfl, rfl⟩))
    (fun os started H enc _ => lifted os started H enc)

theorem proved : Rows.FnCollisionsSaid := over
#print axioms proved
end Go.Proofs.Ytjlcnbicehjjjaa.fnCollisions
