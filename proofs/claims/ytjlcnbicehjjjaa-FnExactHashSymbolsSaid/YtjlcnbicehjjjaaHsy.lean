/-
  HashSymbols: contracts of the program's function and of the reference's. No condition.
-/
import Derived.Test.YtjlcnbicehjjjaaGnr
import Derived.Test.YtjlcnbicehjjjaaHash2
import Derived.Test.YtjlcnbicehjjjaaApp
import Derived.Test.YtjlcnbicehjjjaaMl
import Derived.Test.YtjlcnbicehjjjaaBq
import Derived.Deep.RegionLaw
namespace Go.Proofs.Ytjlcnbicehjjjaa
open Go.ChangeShapes Go.WideShapes Go.ChangeAt Go.RowKit
set_option linter.unusedVariables false
set_option maxRecDepth 100000

def hsyB (gs : List Int) (a : Int) (m : List (List Int)) : Bool := hkB gs && gnrB a m && !((colN m : Int) != (gs.length : Int))
def hsyZ (gs : List Int) (a : Int) (m : List (List Int)) : List Int := if hsyB gs a m = true then m.map (hashZ gs) else []
theorem hsy_no {gs : List Int} {a : Int} {m : List (List Int)} (h : hsyB gs a m = false) : hsyZ gs a m = [] := by unfold hsyZ; rw [h]; rfl
theorem hsy_yes {gs : List Int} {a : Int} {m : List (List Int)} (h : hsyB gs a m = true) : hsyZ gs a m = m.map (hashZ gs) := by unfold hsyZ; rw [h]; rfl
theorem hsyB_facts {gs : List Int} {a : Int} {m : List (List Int)} (h : hsyB gs a m = true) : hkB gs = true ∧ gnrB a m = true ∧ colN m = gs.length := by
  unfold hsyB at h
  rw [Bool.and_eq_true, Bool.and_eq_true] at h
  have h3 := h.2
  simp at h3
  exact ⟨h.1.1, h.1.2, by omega⟩
theorem hsyZ_len (gs : List Int) (a : Int) (m : List (List Int)) : (hsyZ gs a m).length ≤ 8 := by
  cases q : hsyB gs a m
  · rw [hsy_no q]; simp
  · rw [hsy_yes q, List.length_map]
    exact (gnrB_facts (hsyB_facts q).2.1).2.1.2
theorem map_step {f : List Int → Int} {m : List (List Int)} {k : Nat} {s : List Int} (h : m[k]? = some s) : (m.take k).map f ++ [f s] = (m.take (k + 1)).map f := by
  rw [List.take_add_one, h, List.map_append]; rfl
theorem hsy_row {gs : List Int} {a : Int} {m : List (List Int)} (h : hsyB gs a m = true) {s : List Int} (hs : s ∈ m) : s.length = gs.length ∧ vecB s = true ∧ (∀ e ∈ s, 0 ≤ e) ∧ hashZ gs s = pwr gs s gs.length := by
  obtain ⟨h1, h2, h3⟩ := hsyB_facts h
  obtain ⟨_, _, _, _, h8⟩ := gnrB_facts h2
  have h9 := List.all_eq_true.1 h8 s hs
  unfold mrowB at h9
  rw [Bool.and_eq_true] at h9
  have hl : s.length = gs.length := by have := h9.2; simp at this; omega
  exact ⟨hl, h9.1, fun e he => ((vecB_facts h9.1).1 e he).1, hashZ_yes h1 h9.1 hl⟩
set_option maxHeartbeats 4000000 in
theorem hsyI (a : Int) (v u : Value) (m : List (List Int)) (gs : List Int) (w : World) (hv : RI w v gs) (hu : RII w u m) :
    Calls Try.prog 30 #[.agg #[v], .agg #[.int .i64 a, u]] w fun e w' => ∃ r, e = .returned r ∧ OI w' w.heap.size r (hsyZ gs a m) ∧ Bel w w' := by
  have HM : Hid (hsyB gs a m = (hkB gs && gnrB a m && !((colN m : Int) != (gs.length : Int)))) := rfl
  obtain ⟨A, c, rfl, h2, h3, hA⟩ := id hv
  obtain ⟨B, d, rfl, h4, h5, hB⟩ := id hu
  have X := (Blk.new w 24 #[.slice A gs.length c]).alloc (.cells #[.int .i64 a, .slice B m.length d] 47)
  have G := Blk.new2 w (.cells #[.slice A gs.length c] 24) 47 #[.int .i64 a, .slice B m.length d]
  have Y : Bel w ((w.alloc (.cells #[.slice A gs.length c] 24)).alloc (.cells #[.int .i64 a, .slice B m.length d] 47)) := ((Bel.refl _).alloc _).alloc _
  have Z : Hid (w.heap.size + 2 ≤ ((w.alloc (.cells #[.slice A gs.length c] 24)).alloc (.cells #[.int .i64 a, .slice B m.length d] 47)).heap.size) := Lib.hid (by simp)
  obtain ⟨cx, _, zx⟩ := X.facts
  obtain ⟨cg, _, zg⟩ := G.facts
  have r0 : ((w.alloc (.cells #[.slice A gs.length c] 24)).alloc (.cells #[.int .i64 a, .slice B m.length d] 47)).cell? ⟨w.heap.size, 0, none⟩ = some (.slice A gs.length c) := cx 0
  have r1 : ((w.alloc (.cells #[.slice A gs.length c] 24)).alloc (.cells #[.int .i64 a, .slice B m.length d] 47)).cell? ⟨w.heap.size + 1, 0, none⟩ = some (.int .i64 a) := cg 0
  have r2 : ((w.alloc (.cells #[.slice A gs.length c] 24)).alloc (.cells #[.int .i64 a, .slice B m.length d] 47)).cell? ⟨w.heap.size + 1, 1, none⟩ = some (.slice B m.length d) := cg 1
  have qq0 := Bw.cell r0 zx
  have qq1 := Bw.cell r1 zg
  have qq2 := Bw.cell r2 zg
  have C1 := Lib.hid (fun (W : World) (h : Bel ((w.alloc (.cells #[.slice A gs.length c] 24)).alloc (.cells #[.int .i64 a, .slice B m.length d] 47)) W) => hkI _ gs W ((hv.keep Y).keep h))
  have C2 := Lib.hid (fun (W : World) (h : Bel ((w.alloc (.cells #[.slice A gs.length c] 24)).alloc (.cells #[.int .i64 a, .slice B m.length d] 47)) W) => gnrI a _ m W ((hu.keep Y).keep h))
  have C3 := Lib.hid (fun (W : World) (h : Bel ((w.alloc (.cells #[.slice A gs.length c] 24)).alloc (.cells #[.int .i64 a, .slice B m.length d] 47)) W) => symwI a _ m W ((hu.keep Y).keep h))
  clear cx cg r0 r1 r2
  have HNO := fun (h : hsyB gs a m = false) => Lib.hid (hsy_no h)
  cases q1 : hkB gs
  · have HN := HNO (by rw [HM.out, q1]; rfl)
    rw [q1] at C1
    go_enter Try.func30, Try.ntmps30
    go_wp2
    refine wp_region_bel (by kernel_rfl) (by kernel_rfl) ?_
    repeat (first | go_big_quiet_step (first | (go_at_call 31; exact belQ (C1.out _ (Bw.bel _))) | (go_at_call 73; exact belQ (C2.out _ (Bw.bel _))) | (go_at_call 74; exact belQ (C3.out _ (Bw.bel _)))) | quiet_step (first | (go_at_call 31; exact belQ (C1.out _ (Bw.bel _))) | (go_at_call 73; exact belQ (C2.out _ (Bw.bel _))) | (go_at_call 74; exact belQ (C3.out _ (Bw.bel _)))))
    refine wpQuiet_nil ?_
    rintro w3 ⟨⟨_, hb3⟩, rfl⟩
    clear qq0 qq1 qq2
    go_wp2
    go_ret
    exact ⟨_, rfl, by rw [HN.out]; exact OI.nil _ _, Y.trans hb3⟩
  rw [q1] at C1
  cases q2 : gnrB a m
  · have HN := HNO (by rw [HM.out, q2]; simp)
    rw [q2] at C2
    go_enter Try.func30, Try.ntmps30
    go_wp2
    refine wp_region_bel (by kernel_rfl) (by kernel_rfl) ?_
    repeat (first | go_big_quiet_step (first | (go_at_call 31; exact belQ (C1.out _ (Bw.bel _))) | (go_at_call 73; exact belQ (C2.out _ (Bw.bel _))) | (go_at_call 74; exact belQ (C3.out _ (Bw.bel _)))) | quiet_step (first | (go_at_call 31; exact belQ (C1.out _ (Bw.bel _))) | (go_at_call 73; exact belQ (C2.out _ (Bw.bel _))) | (go_at_call 74; exact belQ (C3.out _ (Bw.bel _)))))
    refine wpQuiet_nil ?_
    rintro w3 ⟨⟨_, hb3⟩, rfl⟩
    clear qq0 qq1 qq2
    go_wp2
    go_ret
    exact ⟨_, rfl, by rw [HN.out]; exact OI.nil _ _, Y.trans hb3⟩
  rw [q2] at C2
  cases q3 : ((colN m : Int) != (gs.length : Int))
  case true =>
    have HN := HNO (by rw [HM.out, q3]; simp)
    go_enter Try.func30, Try.ntmps30
    go_wp2
    refine wp_region_bel (by kernel_rfl) (by kernel_rfl) ?_
    repeat (first | go_big_quiet_step (first | (go_at_call 31; exact belQ (C1.out _ (Bw.bel _))) | (go_at_call 73; exact belQ (C2.out _ (Bw.bel _))) | (go_at_call 74; exact belQ (C3.out _ (Bw.bel _)))) | quiet_step (first | (go_at_call 31; exact belQ (C1.out _ (Bw.bel _))) | (go_at_call 73; exact belQ (C2.out _ (Bw.bel _))) | (go_at_call 74; exact belQ (C3.out _ (Bw.bel _)))))
    refine wpQuiet_nil ?_
    rintro w3 ⟨⟨_, hb3⟩, rfl⟩
    clear qq0 qq1 qq2
    go_wp2
    go_ret
    exact ⟨_, rfl, by rw [HN.out]; exact OI.nil _ _, Y.trans hb3⟩
  have HQ : Hid (hsyB gs a m = true) := Lib.hid (by rw [HM.out, q1, q2, q3]; rfl)
  have HN := Lib.hid (hsy_yes HQ.out)
  have HG := Lib.hid (fun g (hg : g ∈ gs) => show 0 ≤ g ∧ g ≤ 2038 by have := (grB_facts ((hkB_facts q1).1 g hg).1).1; omega)
  have hm8 : m.length ≤ 8 := (gnrB_facts q2).2.1.2
  clear q1 q2 HM HNO
  go_enter Try.func30, Try.ntmps30
  go_wp2
  refine wp_region_bel (by kernel_rfl) (by kernel_rfl) ?_
  repeat (first | go_big_quiet_step (first | (go_at_call 31; exact belQ (C1.out _ (Bw.bel _))) | (go_at_call 73; exact belQ (C2.out _ (Bw.bel _))) | (go_at_call 74; exact belQ (C3.out _ (Bw.bel _)))) | quiet_step (first | (go_at_call 31; exact belQ (C1.out _ (Bw.bel _))) | (go_at_call 73; exact belQ (C2.out _ (Bw.bel _))) | (go_at_call 74; exact belQ (C3.out _ (Bw.bel _)))))
  refine wpQuiet_nil ?_
  rintro w3 ⟨⟨_, hb3⟩, rfl⟩
  clear qq0 qq1 qq2
  have X3 := hb3.keep X
  have G3 := hb3.keep G
  have Y3 := Y.trans hb3
  have Z3 : Hid (w.heap.size + 2 ≤ w3.heap.size) := Lib.hid (Nat.le_trans Z.out hb3.size)
  clear zx zg X G Y Z hb3 C1 C2 C3
  obtain ⟨cx, _, zx⟩ := X3.facts
  obtain ⟨cg, _, zg⟩ := G3.facts
  go_wp2
  clear cx zx cg zg
  go_loopg [5, 27] m.length (fun f out i wr => ∃ k : Nat, k + f = m.length ∧ i = .int .i64 k ∧ Blk wr w.heap.size 24 #[.slice A gs.length c] ∧ OI wr (w.heap.size + 2) out ((m.take k).map (hashZ gs)) ∧ Bel w wr ∧ w.heap.size + 2 ≤ wr.heap.size)
  case atStart => exact ⟨0, by omega, rfl, X3, OI.nil _ _, Y3, Z3.out⟩
  case round =>
    clear X3 G3 Y3 Z3
    obtain ⟨k, hk, rfl, X, O, Y, hz⟩ := hrel
    have hk2 : k ≤ m.length := by omega
    have HK := Lib.hid hk
    clear hk
    have hlen : ((m.take k).map (hashZ gs)).length ≤ 8 := by rw [List.length_map, List.length_take]; omega
    have HZ := Lib.hid hz
    clear hz
    obtain ⟨cx, _, zx⟩ := X.facts
    by_cases hlt : k < m.length
    · obtain ⟨b1, o1, rfl, z1, hc1⟩ := hB (by omega)
      have hx : Hid (m[k]? = some (m[k]'hlt)) := List.getElem?_eq_getElem hlt
      have hmem : Hid (m[k]'hlt ∈ m) := Lib.hid (List.getElem_mem hlt)
      obtain ⟨us, g1, ru⟩ := hc1 k _ hx.out
      replace g1 := Y.cell1 z1 g1
      replace ru := ru.keep Y
      clear hc1 hB
      generalize m[k]'hlt = s at *
      have HST := Lib.hid (map_step (f := hashZ gs) hx.out)
      have HR := Lib.hid (hsy_row HQ.out hmem.out)
      obtain ⟨As, cs, rfl, _, _, _⟩ := id ru
      have i0 : (0 : Int) ≤ (k : Int) := by omega
      have i1 : (k : Int) < (m.length : Int) := by omega
      generalize hLT : (m.take k).map (hashZ gs) = LT at *
      clear hLT
      go_wp2_with fail
      refine (powersI _ _ gs s _ (hv.keep Y) ru (Nat.le_of_eq HR.out.1.symm) (HG.out) HR.out.2.2.1).mono ?_
      rintro e w4 ⟨rfl, rfl⟩
      rw [← HR.out.2.2.2]
      generalize hashZ gs s = y at *
      go_wp2_with (at_builtin; refine wpList_appI _ rfl _ _ rfl (w.heap.size + 2) _ _ LT [y] rfl rfl (O.keep ((Bel.refl _).alloc _)) (RI.lit1 _ _ _) (by simp only [List.length_cons, List.length_nil]; omega) (by have := HZ.out; simp; omega) ?_)
      intro v2 w2 O2 hG
      have hne : ∀ q, u5.ownBlock = some q → w.heap.size + 2 ≤ q := fun q hq => (O.block q hq).1
      have Y2 : Bel w w2 := (Y.alloc _).grown hG (fun q hq => by have := hne q hq; omega)
      have X2 := (X.alloc (.cells #[.int .i64 y] 3)).grown hG (fun e => by have := hne _ e; omega)
      have z3 : Hid (w.heap.size + 2 ≤ w2.heap.size) := Lib.hid (by have := HZ.out; have := hG.size; simp at this; omega)
      clear hG hne cx zx
      go_wp2
      go_roundg (m.length - (k + 1))
      case measure => have := HK.out; omega
      case rel => exact ⟨k + 1, by omega, by go_num, X2, by rw [← HST.out]; exact O2, Y2, z3.out⟩
    · obtain rfl : k = m.length := by omega
      have i1 : ¬ (m.length : Int) < (m.length : Int) := by omega
      have HE : Hid ((m.take m.length).map (hashZ gs) = m.map (hashZ gs)) := Lib.hid (by rw [List.take_length])
      go_wp2
      go_ret
      exact ⟨_, rfl, by rw [HN.out, ← HE.out]; exact O.low (by omega), Y⟩
set_option maxHeartbeats 4000000 in
theorem hsyS (a : Int) (v u : Value) (m : List (List Int)) (gs : List Int) (w : World) (hv : RI w v gs) (hu : RII w u m) :
    Calls Try.prog 39 #[.agg #[v], .agg #[.int .i64 a, u]] w fun e w' => ∃ r, e = .returned r ∧ OI w' w.heap.size r (hsyZ gs a m) ∧ Bel w w' := by
  have HM : Hid (hsyB gs a m = (hkB gs && gnrB a m && !((colN m : Int) != (gs.length : Int)))) := rfl
  obtain ⟨A, c, rfl, h2, h3, hA⟩ := id hv
  obtain ⟨B, d, rfl, h4, h5, hB⟩ := id hu
  have X := ((Blk.new w 24 #[.slice A gs.length c]).alloc (.cells #[.int .i64 a, .slice B m.length d] 47)).alloc (.cells #[] 3)
  have G := (Blk.new2 w (.cells #[.slice A gs.length c] 24) 47 #[.int .i64 a, .slice B m.length d]).alloc (.cells #[] 3)
  have Y : Bel w (((w.alloc (.cells #[.slice A gs.length c] 24)).alloc (.cells #[.int .i64 a, .slice B m.length d] 47)).alloc (.cells #[] 3)) := (((Bel.refl _).alloc _).alloc _).alloc _
  have Z : Hid (w.heap.size + 2 ≤ (((w.alloc (.cells #[.slice A gs.length c] 24)).alloc (.cells #[.int .i64 a, .slice B m.length d] 47)).alloc (.cells #[] 3)).heap.size) := Lib.hid (by simp)
  have O0 : OI (((w.alloc (.cells #[.slice A gs.length c] 24)).alloc (.cells #[.int .i64 a, .slice B m.length d] 47)).alloc (.cells #[] 3)) (w.heap.size + 2) (.slice (some ⟨w.heap.size + 1 + 1, 0, none⟩) 0 0) [] := by
    have h := OI.empty ((w.alloc (.cells #[.slice A gs.length c] 24)).alloc (.cells #[.int .i64 a, .slice B m.length d] 47))
    simp only [World.size_alloc] at h
    exact h
  have HNO := fun (h : hsyB gs a m = false) => Lib.hid (hsy_no h)
  by_cases h0 : 0 < m.length
  case neg =>
    have hm0 : gnrB a m = false := by
      have e0 : m = [] := List.eq_nil_of_length_eq_zero (by omega)
      subst e0
      unfold gnrB
      simp [inB]
    have HN := HNO (by rw [HM.out, hm0]; simp)
    have i00 : ¬ (0 : Int) < (m.length : Int) := by omega
    obtain ⟨cx, _, zx⟩ := X.facts
    obtain ⟨cg, _, zg⟩ := G.facts
    have r0 : (((w.alloc (.cells #[.slice A gs.length c] 24)).alloc (.cells #[.int .i64 a, .slice B m.length d] 47)).alloc (.cells #[] 3)).cell? ⟨w.heap.size, 0, none⟩ = some (.slice A gs.length c) := cx 0
    have r1 : (((w.alloc (.cells #[.slice A gs.length c] 24)).alloc (.cells #[.int .i64 a, .slice B m.length d] 47)).alloc (.cells #[] 3)).cell? ⟨w.heap.size + 1, 0, none⟩ = some (.int .i64 a) := cg 0
    have r2 : (((w.alloc (.cells #[.slice A gs.length c] 24)).alloc (.cells #[.int .i64 a, .slice B m.length d] 47)).alloc (.cells #[] 3)).cell? ⟨w.heap.size + 1, 1, none⟩ = some (.slice B m.length d) := cg 1
    have qq0 := Bw.cell r0 zx
    have qq1 := Bw.cell r1 zg
    have qq2 := Bw.cell r2 zg
    have C1 := Lib.hid (fun (W : World) (h : Bel (((w.alloc (.cells #[.slice A gs.length c] 24)).alloc (.cells #[.int .i64 a, .slice B m.length d] 47)).alloc (.cells #[] 3)) W) => hkS _ gs W ((hv.keep Y).keep h))
    have C2 := Lib.hid (fun (W : World) (h : Bel (((w.alloc (.cells #[.slice A gs.length c] 24)).alloc (.cells #[.int .i64 a, .slice B m.length d] 47)).alloc (.cells #[] 3)) W) => gnrS a _ m W ((hu.keep Y).keep h))
    have C3 := Lib.hid (fun (W : World) (h : Bel (((w.alloc (.cells #[.slice A gs.length c] 24)).alloc (.cells #[.int .i64 a, .slice B m.length d] 47)).alloc (.cells #[] 3)) W) => colS _ m W ((hu.keep Y).keep h))
    clear cx cg r0 r1 r2
    go_enter Try.func39, Try.ntmps39
    go_wp2
    refine wp_loop_rounds 1 ?_
    rw [rounds_succ]
    go_wp2
    refine wp_region_bel (by kernel_rfl) (by kernel_rfl) ?_
    repeat (first | go_big_quiet_step (first | (go_at_call 76; exact belQ (C2.out _ (Bw.bel _))) | (go_at_call 25; exact belQ (C1.out _ (Bw.bel _))) | (go_at_call 72; exact belQ_same (C3.out _ (Bw.bel _)))) | quiet_step (first | (go_at_call 76; exact belQ (C2.out _ (Bw.bel _))) | (go_at_call 25; exact belQ (C1.out _ (Bw.bel _))) | (go_at_call 72; exact belQ_same (C3.out _ (Bw.bel _)))))
    refine wpQuiet_nil ?_
    rintro w3 ⟨⟨_, hb3⟩, rfl⟩
    clear qq0 qq1 qq2
    go_wp2
    go_ret
    exact ⟨_, rfl, by rw [HN.out]; exact (O0.low (base' := w.heap.size) (by omega)).keep hb3, Y.trans hb3⟩
  have i00 : (0 : Int) < (m.length : Int) := by omega
  cases q2 : gnrB a m
  · have HN := HNO (by rw [HM.out, q2]; simp)
    obtain ⟨cx, _, zx⟩ := X.facts
    obtain ⟨cg, _, zg⟩ := G.facts
    have r0 : (((w.alloc (.cells #[.slice A gs.length c] 24)).alloc (.cells #[.int .i64 a, .slice B m.length d] 47)).alloc (.cells #[] 3)).cell? ⟨w.heap.size, 0, none⟩ = some (.slice A gs.length c) := cx 0
    have r1 : (((w.alloc (.cells #[.slice A gs.length c] 24)).alloc (.cells #[.int .i64 a, .slice B m.length d] 47)).alloc (.cells #[] 3)).cell? ⟨w.heap.size + 1, 0, none⟩ = some (.int .i64 a) := cg 0
    have r2 : (((w.alloc (.cells #[.slice A gs.length c] 24)).alloc (.cells #[.int .i64 a, .slice B m.length d] 47)).alloc (.cells #[] 3)).cell? ⟨w.heap.size + 1, 1, none⟩ = some (.slice B m.length d) := cg 1
    have qq0 := Bw.cell r0 zx
    have qq1 := Bw.cell r1 zg
    have qq2 := Bw.cell r2 zg
    have C1 := Lib.hid (fun (W : World) (h : Bel (((w.alloc (.cells #[.slice A gs.length c] 24)).alloc (.cells #[.int .i64 a, .slice B m.length d] 47)).alloc (.cells #[] 3)) W) => hkS _ gs W ((hv.keep Y).keep h))
    have C2 := Lib.hid (fun (W : World) (h : Bel (((w.alloc (.cells #[.slice A gs.length c] 24)).alloc (.cells #[.int .i64 a, .slice B m.length d] 47)).alloc (.cells #[] 3)) W) => gnrS a _ m W ((hu.keep Y).keep h))
    have C3 := Lib.hid (fun (W : World) (h : Bel (((w.alloc (.cells #[.slice A gs.length c] 24)).alloc (.cells #[.int .i64 a, .slice B m.length d] 47)).alloc (.cells #[] 3)) W) => colS _ m W ((hu.keep Y).keep h))
    clear cx cg r0 r1 r2
    rw [q2] at C2
    go_enter Try.func39, Try.ntmps39
    go_wp2
    refine wp_loop_rounds 1 ?_
    rw [rounds_succ]
    go_wp2
    refine wp_region_bel (by kernel_rfl) (by kernel_rfl) ?_
    repeat (first | go_big_quiet_step (first | (go_at_call 76; exact belQ (C2.out _ (Bw.bel _))) | (go_at_call 25; exact belQ (C1.out _ (Bw.bel _))) | (go_at_call 72; exact belQ_same (C3.out _ (Bw.bel _)))) | quiet_step (first | (go_at_call 76; exact belQ (C2.out _ (Bw.bel _))) | (go_at_call 25; exact belQ (C1.out _ (Bw.bel _))) | (go_at_call 72; exact belQ_same (C3.out _ (Bw.bel _)))))
    refine wpQuiet_nil ?_
    rintro w3 ⟨⟨_, hb3⟩, rfl⟩
    clear qq0 qq1 qq2
    go_wp2
    go_ret
    exact ⟨_, rfl, by rw [HN.out]; exact (O0.low (base' := w.heap.size) (by omega)).keep hb3, Y.trans hb3⟩
  cases q1 : hkB gs
  · have HN := HNO (by rw [HM.out, q1]; simp)
    obtain ⟨cx, _, zx⟩ := X.facts
    obtain ⟨cg, _, zg⟩ := G.facts
    have r0 : (((w.alloc (.cells #[.slice A gs.length c] 24)).alloc (.cells #[.int .i64 a, .slice B m.length d] 47)).alloc (.cells #[] 3)).cell? ⟨w.heap.size, 0, none⟩ = some (.slice A gs.length c) := cx 0
    have r1 : (((w.alloc (.cells #[.slice A gs.length c] 24)).alloc (.cells #[.int .i64 a, .slice B m.length d] 47)).alloc (.cells #[] 3)).cell? ⟨w.heap.size + 1, 0, none⟩ = some (.int .i64 a) := cg 0
    have r2 : (((w.alloc (.cells #[.slice A gs.length c] 24)).alloc (.cells #[.int .i64 a, .slice B m.length d] 47)).alloc (.cells #[] 3)).cell? ⟨w.heap.size + 1, 1, none⟩ = some (.slice B m.length d) := cg 1
    have qq0 := Bw.cell r0 zx
    have qq1 := Bw.cell r1 zg
    have qq2 := Bw.cell r2 zg
    have C1 := Lib.hid (fun (W : World) (h : Bel (((w.alloc (.cells #[.slice A gs.length c] 24)).alloc (.cells #[.int .i64 a, .slice B m.length d] 47)).alloc (.cells #[] 3)) W) => hkS _ gs W ((hv.keep Y).keep h))
    have C2 := Lib.hid (fun (W : World) (h : Bel (((w.alloc (.cells #[.slice A gs.length c] 24)).alloc (.cells #[.int .i64 a, .slice B m.length d] 47)).alloc (.cells #[] 3)) W) => gnrS a _ m W ((hu.keep Y).keep h))
    have C3 := Lib.hid (fun (W : World) (h : Bel (((w.alloc (.cells #[.slice A gs.length c] 24)).alloc (.cells #[.int .i64 a, .slice B m.length d] 47)).alloc (.cells #[] 3)) W) => colS _ m W ((hu.keep Y).keep h))
    clear cx cg r0 r1 r2
    rw [q2] at C2
    rw [q1] at C1
    go_enter Try.func39, Try.ntmps39
    go_wp2
    refine wp_loop_rounds 1 ?_
    rw [rounds_succ]
    go_wp2
    refine wp_region_bel (by kernel_rfl) (by kernel_rfl) ?_
    repeat (first | go_big_quiet_step (first | (go_at_call 76; exact belQ (C2.out _ (Bw.bel _))) | (go_at_call 25; exact belQ (C1.out _ (Bw.bel _))) | (go_at_call 72; exact belQ_same (C3.out _ (Bw.bel _)))) | quiet_step (first | (go_at_call 76; exact belQ (C2.out _ (Bw.bel _))) | (go_at_call 25; exact belQ (C1.out _ (Bw.bel _))) | (go_at_call 72; exact belQ_same (C3.out _ (Bw.bel _)))))
    refine wpQuiet_nil ?_
    rintro w3 ⟨⟨_, hb3⟩, rfl⟩
    clear qq0 qq1 qq2
    go_wp2
    go_ret
    exact ⟨_, rfl, by rw [HN.out]; exact (O0.low (base' := w.heap.size) (by omega)).keep hb3, Y.trans hb3⟩
  cases q3 : ((colN m : Int) == (gs.length : Int))
  · have HN := HNO (by rw [HM.out]; simp only [bne, q3]; simp)
    obtain ⟨cx, _, zx⟩ := X.facts
    obtain ⟨cg, _, zg⟩ := G.facts
    have r0 : (((w.alloc (.cells #[.slice A gs.length c] 24)).alloc (.cells #[.int .i64 a, .slice B m.length d] 47)).alloc (.cells #[] 3)).cell? ⟨w.heap.size, 0, none⟩ = some (.slice A gs.length c) := cx 0
    have r1 : (((w.alloc (.cells #[.slice A gs.length c] 24)).alloc (.cells #[.int .i64 a, .slice B m.length d] 47)).alloc (.cells #[] 3)).cell? ⟨w.heap.size + 1, 0, none⟩ = some (.int .i64 a) := cg 0
    have r2 : (((w.alloc (.cells #[.slice A gs.length c] 24)).alloc (.cells #[.int .i64 a, .slice B m.length d] 47)).alloc (.cells #[] 3)).cell? ⟨w.heap.size + 1, 1, none⟩ = some (.slice B m.length d) := cg 1
    have qq0 := Bw.cell r0 zx
    have qq1 := Bw.cell r1 zg
    have qq2 := Bw.cell r2 zg
    have C1 := Lib.hid (fun (W : World) (h : Bel (((w.alloc (.cells #[.slice A gs.length c] 24)).alloc (.cells #[.int .i64 a, .slice B m.length d] 47)).alloc (.cells #[] 3)) W) => hkS _ gs W ((hv.keep Y).keep h))
    have C2 := Lib.hid (fun (W : World) (h : Bel (((w.alloc (.cells #[.slice A gs.length c] 24)).alloc (.cells #[.int .i64 a, .slice B m.length d] 47)).alloc (.cells #[] 3)) W) => gnrS a _ m W ((hu.keep Y).keep h))
    have C3 := Lib.hid (fun (W : World) (h : Bel (((w.alloc (.cells #[.slice A gs.length c] 24)).alloc (.cells #[.int .i64 a, .slice B m.length d] 47)).alloc (.cells #[] 3)) W) => colS _ m W ((hu.keep Y).keep h))
    clear cx cg r0 r1 r2
    rw [q2] at C2
    rw [q1] at C1
    go_enter Try.func39, Try.ntmps39
    go_wp2
    refine wp_loop_rounds 1 ?_
    rw [rounds_succ]
    go_wp2
    refine wp_region_bel (by kernel_rfl) (by kernel_rfl) ?_
    repeat (first | go_big_quiet_step (first | (go_at_call 76; exact belQ (C2.out _ (Bw.bel _))) | (go_at_call 25; exact belQ (C1.out _ (Bw.bel _))) | (go_at_call 72; exact belQ_same (C3.out _ (Bw.bel _)))) | quiet_step (first | (go_at_call 76; exact belQ (C2.out _ (Bw.bel _))) | (go_at_call 25; exact belQ (C1.out _ (Bw.bel _))) | (go_at_call 72; exact belQ_same (C3.out _ (Bw.bel _)))))
    refine wpQuiet_nil ?_
    rintro w3 ⟨⟨_, hb3⟩, rfl⟩
    clear qq0 qq1 qq2
    go_wp2
    go_ret
    exact ⟨_, rfl, by rw [HN.out]; exact (O0.low (base' := w.heap.size) (by omega)).keep hb3, Y.trans hb3⟩
  have HQ : Hid (hsyB gs a m = true) := Lib.hid (by rw [HM.out, q1, q2]; simp only [bne, q3]; rfl)
  have HN := Lib.hid (hsy_yes HQ.out)
  have HQ1 := Lib.hid q1
  have HQ2 := Lib.hid q2
  have hm8 : m.length ≤ 8 := (gnrB_facts q2).2.1.2
  clear q1 q2 HM HNO
  go_enter Try.func39, Try.ntmps39
  go_wp2
  go_loopg [5, 6] m.length (fun f out i wr => ∃ k : Nat, k + f = m.length ∧ i = .int .i64 k ∧ Blk wr w.heap.size 24 #[.slice A gs.length c] ∧ Blk wr (w.heap.size + 1) 47 #[.int .i64 a, .slice B m.length d] ∧ OI wr (w.heap.size + 2) out ((m.take k).map (hashZ gs)) ∧ Bel w wr ∧ w.heap.size + 2 ≤ wr.heap.size)
  case atStart => exact ⟨0, by omega, rfl, X, G, O0, Y, Z.out⟩
  case round =>
    clear X G Y Z O0
    obtain ⟨k, hk, rfl, X, G, O, Y, hz⟩ := hrel
    have hk2 : k ≤ m.length := by omega
    have HK := Lib.hid hk
    clear hk
    have HZ := Lib.hid hz
    clear hz
    by_cases hlt : k < m.length
    · have i0 : (0 : Int) ≤ (k : Int) := by omega
      have i1 : (k : Int) < (m.length : Int) := by omega
      obtain ⟨cx, _, zx⟩ := X.facts
      obtain ⟨cg, _, zg⟩ := G.facts
      have r0 : wr.cell? ⟨w.heap.size, 0, none⟩ = some (.slice A gs.length c) := cx 0
      have r1 : wr.cell? ⟨w.heap.size + 1, 0, none⟩ = some (.int .i64 a) := cg 0
      have r2 : wr.cell? ⟨w.heap.size + 1, 1, none⟩ = some (.slice B m.length d) := cg 1
      have qq0 := Bw.cell r0 zx
      have qq1 := Bw.cell r1 zg
      have qq2 := Bw.cell r2 zg
      have C1 := Lib.hid (fun (W : World) (h : Bel wr W) => hkS _ gs W ((hv.keep Y).keep h))
      have C2 := Lib.hid (fun (W : World) (h : Bel wr W) => gnrS a _ m W ((hu.keep Y).keep h))
      have C3 := Lib.hid (fun (W : World) (h : Bel wr W) => colS _ m W ((hu.keep Y).keep h))
      clear cx cg r0 r1 r2
      rw [HQ2.out] at C2
      rw [HQ1.out] at C1
      go_wp2
      refine wp_region_bel (by kernel_rfl) (by kernel_rfl) ?_
      repeat (first | go_big_quiet_step (first | (go_at_call 76; exact belQ (C2.out _ (Bw.bel _))) | (go_at_call 25; exact belQ (C1.out _ (Bw.bel _))) | (go_at_call 72; exact belQ_same (C3.out _ (Bw.bel _)))) | quiet_step (first | (go_at_call 76; exact belQ (C2.out _ (Bw.bel _))) | (go_at_call 25; exact belQ (C1.out _ (Bw.bel _))) | (go_at_call 72; exact belQ_same (C3.out _ (Bw.bel _)))))
      refine wpQuiet_nil ?_
      rintro w2 ⟨⟨_, hb3⟩, rfl⟩
      clear qq0 qq1 qq2
      have X2 := hb3.keep X
      have G2 := hb3.keep G
      have Y2 := Y.trans hb3
      have O2 := O.keep hb3
      have Z2 : Hid (w.heap.size + 2 ≤ w2.heap.size) := Lib.hid (Nat.le_trans HZ.out hb3.size)
      clear zx zg X G Y O HZ hb3 C1 C2 C3
      obtain ⟨cx, _, zx⟩ := X2.facts
      obtain ⟨cg, _, zg⟩ := G2.facts
      obtain ⟨b1, o1, rfl, z1, hc1⟩ := hB (by omega)
      have hx : Hid (m[k]? = some (m[k]'hlt)) := List.getElem?_eq_getElem hlt
      obtain ⟨us, g1, ru⟩ := hc1 k _ hx.out
      replace g1 := Y2.cell1 z1 g1
      replace ru := ru.keep Y2
      clear hc1 hB
      generalize m[k]'hlt = s at *
      have HST := Lib.hid (map_step (f := hashZ gs) hx.out)
      obtain ⟨As, cs, rfl, _, _, _⟩ := id ru
      have hlen : ((m.take k).map (hashZ gs)).length ≤ 8 := by rw [List.length_map, List.length_take]; omega
      generalize hLT : (m.take k).map (hashZ gs) = LT at *
      clear hLT
      obtain ⟨y, hy⟩ : ∃ y, hashZ gs s = y := ⟨_, rfl⟩
      have HY := Lib.hid hy
      clear hy
      rw [HY.out] at HST
      have Yd := (Bel.refl w2).drew
      have HON := Lib.hid (fun q hq => (O2.block q hq))
      have rx : w2.cell? ⟨w.heap.size, 0, none⟩ = some (.slice A gs.length c) := cx 0
      have rg : w2.cell? ⟨w.heap.size + 1, 1, none⟩ = some (.slice (some ⟨b1, o1, none⟩) m.length d) := cg 1
      go_wp2
      go_region_law (first
        | (go_simp; go_at_call 80; refine (hashS _ _ gs s _ (by exact hv.keep Y2.drew) (by exact ru.keep Yd)).mono ?_; rintro e wT ⟨rfl, hbT⟩; rw [HY.out])
        | (refine step_appI _ (by rfl) _ _ (by rfl) (w.heap.size + 2) _ _ LT [y] (by rfl) (by rfl) (by exact O2.keep ((Yd.trans hbT).alloc _)) (by exact RI.lit1 _ _ _) (by simp only [List.length_cons, List.length_nil]; omega) (by simp only [World.size_alloc]; have := hbT.size; have h6 : w2.drew.heap.size = w2.heap.size := rfl; have := Z2.out; omega) ?_; intro v2 w4 O3 hG))
      all_goals (
        have Y3 : Bel w w4 := ((Y2.drew.trans hbT).alloc _).grown hG (fun q hq => by have := (HON.out q hq).1; omega)
        have X3 := ((hbT.keep X2.drew).alloc (.cells #[.int .i64 y] 3)).grown hG (fun e => by have := (HON.out _ e).1; omega)
        have G3 := ((hbT.keep G2.drew).alloc (.cells #[.int .i64 y] 3)).grown hG (fun e => by have := (HON.out _ e).1; omega)
        have z3 : Hid (w.heap.size + 2 ≤ w4.heap.size) := Lib.hid (by have h7 := hG.size; rw [World.size_alloc] at h7; have := hbT.size; have h6 : w2.drew.heap.size = w2.heap.size := rfl; have := Z2.out; omega)
        clear hG cx zx cg zg
        go_wp2
        go_roundg (m.length - (k + 1))
        case measure => have := HK.out; omega
        case rel => exact ⟨k + 1, by omega, by go_num, X3, G3, by rw [← HST.out]; exact O3, Y3, z3.out⟩)
    · obtain rfl : k = m.length := by omega
      have i1 : ¬ (m.length : Int) < (m.length : Int) := by omega
      have HE : Hid ((m.take m.length).map (hashZ gs) = m.map (hashZ gs)) := Lib.hid (by rw [List.take_length])
      obtain ⟨cx, _, zx⟩ := X.facts
      obtain ⟨cg, _, zg⟩ := G.facts
      have r0 : wr.cell? ⟨w.heap.size, 0, none⟩ = some (.slice A gs.length c) := cx 0
      have r1 : wr.cell? ⟨w.heap.size + 1, 0, none⟩ = some (.int .i64 a) := cg 0
      have r2 : wr.cell? ⟨w.heap.size + 1, 1, none⟩ = some (.slice B m.length d) := cg 1
      have qq0 := Bw.cell r0 zx
      have qq1 := Bw.cell r1 zg
      have qq2 := Bw.cell r2 zg
      have C1 := Lib.hid (fun (W : World) (h : Bel wr W) => hkS _ gs W ((hv.keep Y).keep h))
      have C2 := Lib.hid (fun (W : World) (h : Bel wr W) => gnrS a _ m W ((hu.keep Y).keep h))
      have C3 := Lib.hid (fun (W : World) (h : Bel wr W) => colS _ m W ((hu.keep Y).keep h))
      clear cx cg r0 r1 r2
      go_wp2
      refine wp_region_bel (by kernel_rfl) (by kernel_rfl) ?_
      repeat (first | go_big_quiet_step (first | (go_at_call 76; exact belQ (C2.out _ (Bw.bel _))) | (go_at_call 25; exact belQ (C1.out _ (Bw.bel _))) | (go_at_call 72; exact belQ_same (C3.out _ (Bw.bel _)))) | quiet_step (first | (go_at_call 76; exact belQ (C2.out _ (Bw.bel _))) | (go_at_call 25; exact belQ (C1.out _ (Bw.bel _))) | (go_at_call 72; exact belQ_same (C3.out _ (Bw.bel _)))))
      refine wpQuiet_nil ?_
      rintro w2 ⟨⟨_, hb3⟩, rfl⟩
      clear qq0 qq1 qq2
      go_wp2
      go_ret
      exact ⟨_, rfl, by rw [HN.out, ← HE.out]; exact (O.low (by omega)).keep hb3, Y.trans hb3⟩
end Go.Proofs.Ytjlcnbicehjjjaa
