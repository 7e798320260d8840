/-
  HashSymbols: contracts of the program's function and of the reference's. No condition.
  The hash of a combination is the combination of the hashes: plain law. Also: a key that NewHashKey makes is valid.
-/
import Derived.Test.YtjlcnbicehjjjaaGA
import Derived.Test.YtjlcnbicehjjjaaHash2
import Derived.Test.YtjlcnbicehjjjaaApp
import Derived.Test.YtjlcnbicehjjjaaMl
import Derived.Test.YtjlcnbicehjjjaaBq
import Derived.Deep.RegionLaw
import Derived.Test.YtjlcnbicehjjjaaGN
import Derived.Test.YtjlcnbicehjjjaaNhk
import Derived.Test.YtjlcnbicehjjjaaVh
namespace Go.Proofs.Ytjlcnbicehjjjaa
open Go.ChangeShapes Go.WideShapes Go.ChangeAt Go.RowKit
set_option linter.unusedVariables false
set_option maxRecDepth 100000

def hsyB (gs : List Int) (a : Int) (m : List (List Int)) : Bool := hkB gs && gnrB a m && !((colN m : Int) != (gs.length : Int))
def hsyZ (gs : List Int) (a : Int) (m : List (List Int)) : List Int := if hsyB gs a m = true then m.map (hashZ gs) else []
theorem hsy_no {gs : List Int} {a : Int} {m : List (List Int)} (h : hsyB gs a m = false) : hsyZ gs a m = [] := by unfold hsyZ; rw [h]; rfl
theorem hsy_yes {gs : List Int} {a : Int} {m : List (List Int)} (h : hsyB gs a m = true) : hsyZ gs a m = m.map (hashZ gs) := by unfold hsyZ; rw [h]; rfl
theorem hsyB_facts {gs : List Int} {a : Int} {m : List (List Int)} (h : hsyB gs a m = true) : hkB gs = true ∧ gnrB a m = true ∧ colN m = gs.length := by
  unfold hsyB at h
  rw [Bool.and_eq_true, Bool.and_eq_true] at h
  have h3 := h.2
  simp at h3
  exact ⟨h.1.1, h.1.2, by omega⟩
theorem hsyZ_len (gs : List Int) (a : Int) (m : List (List Int)) : (hsyZ gs a m).length ≤ 8 := by
  cases q : hsyB gs a m
  · rw [hsy_no q]; simp
  · rw [hsy_yes q, List.length_map]
    exact (gnrB_facts (hsyB_facts q).2.1).2.1.2
theorem map_step {f : List Int → Int} {m : List (List Int)} {k : Nat} {s : List Int} (h : m[k]? = some s) : (m.take k).map f ++ [f s] = (m.take (k + 1)).map f := by
  rw [List.take_add_one, h, List.map_append]; rfl
theorem hsy_row {gs : List Int} {a : Int} {m : List (List Int)} (h : hsyB gs a m = true) {s : List Int} (hs : s ∈ m) : s.length = gs.length ∧ vecB s = true ∧ (∀ e ∈ s, 0 ≤ e) ∧ hashZ gs s = pwr gs s gs.length := by
  obtain ⟨h1, h2, h3⟩ := hsyB_facts h
  obtain ⟨_, _, _, _, h8⟩ := gnrB_facts h2
  have h9 := List.all_eq_true.1 h8 s hs
  unfold mrowB at h9
  rw [Bool.and_eq_true] at h9
  have hl : s.length = gs.length := by have := h9.2; simp at this; omega
  exact ⟨hl, h9.1, fun e he => ((vecB_facts h9.1).1 e he).1, hashZ_yes h1 h9.1 hl⟩
set_option maxHeartbeats 4000000 in
theorem hsyI (a : Int) (v u : Value) (m : List (List Int)) (gs : List Int) (w : World) (hv : RI w v gs) (hu : RII w u m) :
    Calls Try.prog 30 #[.agg #[v], .agg #[.int .i64 a, u]] w fun e w' => ∃ r, e = .returned r ∧ OI w' w.heap.size r (hsyZ gs a m) ∧ Bel w w' := by
  have HM : Hid (hsyB gs a m = (hkB gs && gnrB a m && !((colN m : Int) != (gs.length : Int)))) := rfl
  obtain ⟨A, c, rfl, h2, h3, hA⟩ := id hv
  obtain ⟨B, d, rfl, h4, h5, hB⟩ := id hu
  have X := (Blk.new w 24 #[.slice A gs.length c]).alloc (.cells #[.int .i64 a, .slice B m.length d] 47)
  have G := Blk.new2 w (.cells #[.slice A gs.length c] 24) 47 #[.int .i64 a, .slice B m.length d]
  have Y : Bel w ((w.alloc (.cells #[.slice A gs.length c] 24)).alloc (.cells #[.int .i64 a, .slice B m.length d] 47)) := ((Bel.refl _).alloc _).alloc _
  have Z : Hid (w.heap.size + 2 ≤ ((w.alloc (.cells #[.slice A gs.length c] 24)).alloc (.cells #[.int .i64 a, .slice B m.length d] 47)).heap.size) := Lib.hid (by simp)
  obtain ⟨cx, _, zx⟩ := X.facts
  obtain ⟨cg, _, zg⟩ := G.facts
  have r0 : ((w.alloc (.cells #[.slice A gs.length c] 24)).alloc (.cells #[.int .i64 a, .slice B m.length d] 47)).cell? ⟨w.heap.size, 0, none⟩ = some (.slice A gs.length c) := cx 0
  have r1 : ((w.alloc (.cells #[.slice A gs.length c] 24)).alloc (.cells #[.int .i64 a, .slice B m.length d] 47)).cell? ⟨w.heap.size + 1, 0, none⟩ = some (.int .i64 a) := cg 0
  have r2 : ((w.alloc (.cells #[.slice A gs.length c] 24)).alloc (.cells #[.int .i64 a, .slice B m.length d] 47)).cell? ⟨w.heap.size + 1, 1, none⟩ = some (.slice B m.length d) := cg 1
  have qq0 := Bw.cell r0 zx
  have qq1 := Bw.cell r1 zg
  have qq2 := Bw.cell r2 zg
  have C1 := Lib.hid (fun (W : World) (h : Bel ((w.alloc (.cells #[.slice A gs.length c] 24)).alloc (.cells #[.int .i64 a, .slice B m.length d] 47)) W) => hkI _ gs W ((hv.keep Y).keep h))
  have C2 := Lib.hid (fun (W : World) (h : Bel ((w.alloc (.cells #[.slice A gs.length c] 24)).alloc (.cells #[.int .i64 a, .slice B m.length d] 47)) W) => gnrI a _ m W ((hu.keep Y).keep h))
  have C3 := Lib.hid (fun (W : World) (h : Bel ((w.alloc (.cells #[.slice A gs.length c] 24)).alloc (.cells #[.int .i64 a, .slice B m.length d] 47)) W) => symwI a _ m W ((hu.keep Y).keep h))
  clear cx cg r0 r1 r2
  have HNO := fun (h : hsyB gs a m = false) => Lib.hid (hsy_no h)
  cases q1 : hkB gs
  · have HN := HNO (by rw [HM.out, q1]; rfl)
    rw [q1] at C1
    go_enter Try.func30, Try.ntmps30
    go_wp2
    refine wp_region_bel (by kernel_rfl) (by kernel_rfl) ?_
    repeat (first | go_big_quiet_step (first | (go_at_call 31; exact belQ (C1.out _ (Bw.bel _))) | (go_at_call 73; exact belQ (C2.out _ (Bw.bel _))) | (go_at_call 74; exact belQ (C3.out _ (Bw.bel _)))) | quiet_step (first | (go_at_call 31; exact belQ (C1.out _ (Bw.bel _))) | (go_at_call 73; exact belQ (C2.out _ (Bw.bel _))) | (go_at_call 74; exact belQ (C3.out _ (Bw.bel _)))))
    refine wpQuiet_nil ?_
    rintro w3 ⟨⟨_, hb3⟩, rfl⟩
    clear qq0 qq1 qq2
    go_wp2
    go_ret
    exact ⟨_, rfl, by rw [HN.out]; exact OI.nil _ _, Y.trans hb3⟩
  rw [q1] at C1
  cases q2 : gnrB a m
  · have HN := HNO (by rw [HM.out, q2]; simp)
    rw [q2] at C2
    go_enter Try.func30, Try.ntmps30
    go_wp2
    refine wp_region_bel (by kernel_rfl) (by kernel_rfl) ?_
    repeat (first | go_big_quiet_step (first | (go_at_call 31; exact belQ (C1.out _ (Bw.bel _))) | (go_at_call 73; exact belQ (C2.out _ (Bw.bel _))) | (go_at_call 74; exact belQ (C3.out _ (Bw.bel _)))) | quiet_step (first | (go_at_call 31; exact belQ (C1.out _ (Bw.bel _))) | (go_at_call 73; exact belQ (C2.out _ (Bw.bel _))) | (go_at_call 74; exact belQ (C3.out _ (Bw.bel _)))))
    refine wpQuiet_nil ?_
    rintro w3 ⟨⟨_, hb3⟩, rfl⟩
    clear qq0 qq1 qq2
    go_wp2
    go_ret
    exact ⟨_, rfl, by rw [HN.out]; exact OI.nil _ _, Y.trans hb3⟩
  rw [q2] at C2
  cases q3 : ((colN m : Int) != (gs.length : Int))
  case true =>
    have HN := HNO (by rw [HM.out, q3]; simp)
    go_enter Try.func30, Try.ntmps30
    go_wp2
    refine wp_region_bel (by kernel_rfl) (by kernel_rfl) ?_
    repeat (first | go_big_quiet_step (first | (go_at_call 31; exact belQ (C1.out _ (Bw.bel _))) | (go_at_call 73; exact belQ (C2.out _ (Bw.bel _))) | (go_at_call 74; exact belQ (C3.out _ (Bw.bel _)))) | quiet_step (first | (go_at_call 31; exact belQ (C1.out _ (Bw.bel _))) | (go_at_call 73; exact belQ (C2.out _ (Bw.bel _))) | (go_at_call 74; exact belQ (C3.out _ (Bw.bel _)))))
    refine wpQuiet_nil ?_
    rintro w3 ⟨⟨_, hb3⟩, rfl⟩
    clear qq0 qq1 qq2
    go_wp2
    go_ret
    exact ⟨_, rfl, by rw [HN.out]; exact OI.nil _ _, Y.trans hb3⟩
  have HQ : Hid (hsyB gs a m = true) := Lib.hid (by rw [HM.out, q1, q2, q3]; rfl)
  have HN := Lib.hid (hsy_yes HQ.out)
  have HG := Lib.hid (fun g (hg : g ∈ gs) => show 0 ≤ g ∧ g ≤ 2038 by have := (grB_facts ((hkB_facts q1).1 g hg).1).1; omega)
  have hm8 : m.length ≤ 8 := (gnrB_facts q2).2.1.2
  clear q1 q2 HM HNO
  go_enter Try.func30, Try.ntmps30
  go_wp2
  refine wp_region_bel (by kernel_rfl) (by kernel_rfl) ?_
  repeat (first | go_big_quiet_step (first | (go_at_call 31; exact belQ (C1.out _ (Bw.bel _))) | (go_at_call 73; exact belQ (C2.out _ (Bw.bel _))) | (go_at_call 74; exact belQ (C3.out _ (Bw.bel _)))) | quiet_step (first | (go_at_call 31; exact belQ (C1.out _ (Bw.bel _))) | (go_at_call 73; exact belQ (C2.out _ (Bw.bel _))) | (go_at_call 74; exact belQ (C3.out _ (Bw.bel _)))))
  refine wpQuiet_nil ?_
  rintro w3 ⟨⟨_, hb3⟩, rfl⟩
  clear qq0 qq1 qq2
  have X3 := hb3.keep X
  have G3 := hb3.keep G
  have Y3 := Y.trans hb3
  have Z3 : Hid (w.heap.size + 2 ≤ w3.heap.size) := Lib.hid (Nat.le_trans Z.out hb3.size)
  clear zx zg X G Y Z hb3 C1 C2 C3
  obtain ⟨cx, _, zx⟩ := X3.facts
  obtain ⟨cg, _, zg⟩ := G3.facts
  go_wp2
  clear cx zx cg zg
  go_loopg [5, 27] m.length (fun f out i wr => ∃ k : Nat, k + f = m.length ∧ i = .int .i64 k ∧ Blk wr w.heap.size 24 #[.slice A gs.length c] ∧ OI wr (w.heap.size + 2) out ((m.take k).map (hashZ gs)) ∧ Bel w wr ∧ w.heap.size + 2 ≤ wr.heap.size)
  case atStart => exact ⟨0, by omega, rfl, X3, OI.nil _ _, Y3, Z3.out⟩
  case round =>
    clear X3 G3 Y3 Z3
    obtain ⟨k, hk, rfl, X, O, Y, hz⟩ := hrel
    have hk2 : k ≤ m.length := by omega
    have HK := Lib.hid hk
    clear hk
    have hlen : ((m.take k).map (hashZ gs)).length ≤ 8 := by rw [List.length_map, List.length_take]; omega
    have HZ := Lib.hid hz
    clear hz
    obtain ⟨cx, _, zx⟩ := X.facts
    by_cases hlt : k < m.length
    · obtain ⟨b1, o1, rfl, z1, hc1⟩ := hB (by omega)
      have hx : Hid (m[k]? = some (m[k]'hlt)) := List.getElem?_eq_getElem hlt
      have hmem : Hid (m[k]'hlt ∈ m) := Lib.hid (List.getElem_mem hlt)
      obtain ⟨us, g1, ru⟩ := hc1 k _ hx.out
      replace g1 := Y.cell1 z1 g1
      replace ru := ru.keep Y
      clear hc1 hB
      generalize m[k]'hlt = s at *
      have HST := Lib.hid (map_step (f := hashZ gs) hx.out)
      have HR := Lib.hid (hsy_row HQ.out hmem.out)
      obtain ⟨As, cs, rfl, _, _, _⟩ := id ru
      have i0 : (0 : Int) ≤ (k : Int) := by omega
      have i1 : (k : Int) < (m.length : Int) := by omega
      generalize hLT : (m.take k).map (hashZ gs) = LT at *
      clear hLT
      go_wp2_with fail
      refine (powersI _ _ gs s _ (hv.keep Y) ru (Nat.le_of_eq HR.out.1.symm) (HG.out) HR.out.2.2.1).mono ?_
      rintro e w4 ⟨rfl, rfl⟩
      rw [← HR.out.2.2.2]
      generalize hashZ gs s = y at *
      go_wp2_with (at_builtin; refine wpList_appI _ rfl _ _ rfl (w.heap.size + 2) _ _ LT [y] rfl rfl (O.keep ((Bel.refl _).alloc _)) (RI.lit1 _ _ _) (by simp only [List.length_cons, List.length_nil]; omega) (by have := HZ.out; simp; omega) ?_)
      intro v2 w2 O2 hG
      have hne : ∀ q, u5.ownBlock = some q → w.heap.size + 2 ≤ q := fun q hq => (O.block q hq).1
      have Y2 : Bel w w2 := (Y.alloc _).grown hG (fun q hq => by have := hne q hq; omega)
      have X2 := (X.alloc (.cells #[.int .i64 y] 3)).grown hG (fun e => by have := hne _ e; omega)
      have z3 : Hid (w.heap.size + 2 ≤ w2.heap.size) := Lib.hid (by have := HZ.out; have := hG.size; simp at this; omega)
      clear hG hne cx zx
      go_wp2
      go_roundg (m.length - (k + 1))
      case measure => have := HK.out; omega
      case rel => exact ⟨k + 1, by omega, by go_num, X2, by rw [← HST.out]; exact O2, Y2, z3.out⟩
    · obtain rfl : k = m.length := by omega
      have i1 : ¬ (m.length : Int) < (m.length : Int) := by omega
      have HE : Hid ((m.take m.length).map (hashZ gs) = m.map (hashZ gs)) := Lib.hid (by rw [List.take_length])
      go_wp2
      go_ret
      exact ⟨_, rfl, by rw [HN.out, ← HE.out]; exact O.low (by omega), Y⟩
set_option maxHeartbeats 4000000 in
theorem hsyS (a : Int) (v u : Value) (m : List (List Int)) (gs : List Int) (w : World) (hv : RI w v gs) (hu : RII w u m) :
    Calls Try.prog 39 #[.agg #[v], .agg #[.int .i64 a, u]] w fun e w' => ∃ r, e = .returned r ∧ OI w' w.heap.size r (hsyZ gs a m) ∧ Bel w w' := by
  have HM : Hid (hsyB gs a m = (hkB gs && gnrB a m && !((colN m : Int) != (gs.length : Int)))) := rfl
  obtain ⟨A, c, rfl, h2, h3, hA⟩ := id hv
  obtain ⟨B, d, rfl, h4, h5, hB⟩ := id hu
  have X := ((Blk.new w 24 #[.slice A gs.length c]).alloc (.cells #[.int .i64 a, .slice B m.length d] 47)).alloc (.cells #[] 3)
  have G := (Blk.new2 w (.cells #[.slice A gs.length c] 24) 47 #[.int .i64 a, .slice B m.length d]).alloc (.cells #[] 3)
  have Y : Bel w (((w.alloc (.cells #[.slice A gs.length c] 24)).alloc (.cells #[.int .i64 a, .slice B m.length d] 47)).alloc (.cells #[] 3)) := (((Bel.refl _).alloc _).alloc _).alloc _
  have Z : Hid (w.heap.size + 2 ≤ (((w.alloc (.cells #[.slice A gs.length c] 24)).alloc (.cells #[.int .i64 a, .slice B m.length d] 47)).alloc (.cells #[] 3)).heap.size) := Lib.hid (by simp)
  have O0 : OI (((w.alloc (.cells #[.slice A gs.length c] 24)).alloc (.cells #[.int .i64 a, .slice B m.length d] 47)).alloc (.cells #[] 3)) (w.heap.size + 2) (.slice (some ⟨w.heap.size + 1 + 1, 0, none⟩) 0 0) [] := by
    have h := OI.empty ((w.alloc (.cells #[.slice A gs.length c] 24)).alloc (.cells #[.int .i64 a, .slice B m.length d] 47))
    simp only [World.size_alloc] at h
    exact h
  have HNO := fun (h : hsyB gs a m = false) => Lib.hid (hsy_no h)
  by_cases h0 : 0 < m.length
  case neg =>
    have hm0 : gnrB a m = false := by
      have e0 : m = [] := List.eq_nil_of_length_eq_zero (by omega)
      subst e0
      unfold gnrB
      simp [inB]
    have HN := HNO (by rw [HM.out, hm0]; simp)
    have i00 : ¬ (0 : Int) < (m.length : Int) := by omega
    obtain ⟨cx, _, zx⟩ := X.facts
    obtain ⟨cg, _, zg⟩ := G.facts
    have r0 : (((w.alloc (.cells #[.slice A gs.length c] 24)).alloc (.cells #[.int .i64 a, .slice B m.length d] 47)).alloc (.cells #[] 3)).cell? ⟨w.heap.size, 0, none⟩ = some (.slice A gs.length c) := cx 0
    have r1 : (((w.alloc (.cells #[.slice A gs.length c] 24)).alloc (.cells #[.int .i64 a, .slice B m.length d] 47)).alloc (.cells #[] 3)).cell? ⟨w.heap.size + 1, 0, none⟩ = some (.int .i64 a) := cg 0
    have r2 : (((w.alloc (.cells #[.slice A gs.length c] 24)).alloc (.cells #[.int .i64 a, .slice B m.length d] 47)).alloc (.cells #[] 3)).cell? ⟨w.heap.size + 1, 1, none⟩ = some (.slice B m.length d) := cg 1
    have qq0 := Bw.cell r0 zx
    have qq1 := Bw.cell r1 zg
    have qq2 := Bw.cell r2 zg
    have C1 := Lib.hid (fun (W : World) (h : Bel (((w.alloc (.cells #[.slice A gs.length c] 24)).alloc (.cells #[.int .i64 a, .slice B m.length d] 47)).alloc (.cells #[] 3)) W) => hkS _ gs W ((hv.keep Y).keep h))
    have C2 := Lib.hid (fun (W : World) (h : Bel (((w.alloc (.cells #[.slice A gs.length c] 24)).alloc (.cells #[.int .i64 a, .slice B m.length d] 47)).alloc (.cells #[] 3)) W) => gnrS a _ m W ((hu.keep Y).keep h))
    have C3 := Lib.hid (fun (W : World) (h : Bel (((w.alloc (.cells #[.slice A gs.length c] 24)).alloc (.cells #[.int .i64 a, .slice B m.length d] 47)).alloc (.cells #[] 3)) W) => colS _ m W ((hu.keep Y).keep h))
    clear cx cg r0 r1 r2
    go_enter Try.func39, Try.ntmps39
    go_wp2
    refine wp_loop_rounds 1 ?_
    rw [rounds_succ]
    go_wp2
    refine wp_region_bel (by kernel_rfl) (by kernel_rfl) ?_
    repeat (first | go_big_quiet_step (first | (go_at_call 76; exact belQ (C2.out _ (Bw.bel _))) | (go_at_call 25; exact belQ (C1.out _ (Bw.bel _))) | (go_at_call 72; exact belQ_same (C3.out _ (Bw.bel _)))) | quiet_step (first | (go_at_call 76; exact belQ (C2.out _ (Bw.bel _))) | (go_at_call 25; exact belQ (C1.out _ (Bw.bel _))) | (go_at_call 72; exact belQ_same (C3.out _ (Bw.bel _)))))
    refine wpQuiet_nil ?_
    rintro w3 ⟨⟨_, hb3⟩, rfl⟩
    clear qq0 qq1 qq2
    go_wp2
    go_ret
    exact ⟨_, rfl, by rw [HN.out]; exact (O0.low (base' := w.heap.size) (by omega)).keep hb3, Y.trans hb3⟩
  have i00 : (0 : Int) < (m.length : Int) := by omega
  cases q2 : gnrB a m
  · have HN := HNO (by rw [HM.out, q2]; simp)
    obtain ⟨cx, _, zx⟩ := X.facts
    obtain ⟨cg, _, zg⟩ := G.facts
    have r0 : (((w.alloc (.cells #[.slice A gs.length c] 24)).alloc (.cells #[.int .i64 a, .slice B m.length d] 47)).alloc (.cells #[] 3)).cell? ⟨w.heap.size, 0, none⟩ = some (.slice A gs.length c) := cx 0
    have r1 : (((w.alloc (.cells #[.slice A gs.length c] 24)).alloc (.cells #[.int .i64 a, .slice B m.length d] 47)).alloc (.cells #[] 3)).cell? ⟨w.heap.size + 1, 0, none⟩ = some (.int .i64 a) := cg 0
    have r2 : (((w.alloc (.cells #[.slice A gs.length c] 24)).alloc (.cells #[.int .i64 a, .slice B m.length d] 47)).alloc (.cells #[] 3)).cell? ⟨w.heap.size + 1, 1, none⟩ = some (.slice B m.length d) := cg 1
    have qq0 := Bw.cell r0 zx
    have qq1 := Bw.cell r1 zg
    have qq2 := Bw.cell r2 zg
    have C1 := Lib.hid (fun (W : World) (h : Bel (((w.alloc (.cells #[.slice A gs.length c] 24)).alloc (.cells #[.int .i64 a, .slice B m.length d] 47)).alloc (.cells #[] 3)) W) => hkS _ gs W ((hv.keep Y).keep h))
    have C2 := Lib.hid (fun (W : World) (h : Bel (((w.alloc (.cells #[.slice A gs.length c] 24)).alloc (.cells #[.int .i64 a, .slice B m.length d] 47)).alloc (.cells #[] 3)) W) => gnrS a _ m W ((hu.keep Y).keep h))
    have C3 := Lib.hid (fun (W : World) (h : Bel (((w.alloc (.cells #[.slice A gs.length c] 24)).alloc (.cells #[.int .i64 a, .slice B m.length d] 47)).alloc (.cells #[] 3)) W) => colS _ m W ((hu.keep Y).keep h))
    clear cx cg r0 r1 r2
    rw [q2] at C2
    go_enter Try.func39, Try.ntmps39
    go_wp2
    refine wp_loop_rounds 1 ?_
    rw [rounds_succ]
    go_wp2
    refine wp_region_bel (by kernel_rfl) (by kernel_rfl) ?_
    repeat (first | go_big_quiet_step (first | (go_at_call 76; exact belQ (C2.out _ (Bw.bel _))) | (go_at_call 25; exact belQ (C1.out _ (Bw.bel _))) | (go_at_call 72; exact belQ_same (C3.out _ (Bw.bel _)))) | quiet_step (first | (go_at_call 76; exact belQ (C2.out _ (Bw.bel _))) | (go_at_call 25; exact belQ (C1.out _ (Bw.bel _))) | (go_at_call 72; exact belQ_same (C3.out _ (Bw.bel _)))))
    refine wpQuiet_nil ?_
    rintro w3 ⟨⟨_, hb3⟩, rfl⟩
    clear qq0 qq1 qq2
    go_wp2
    go_ret
    exact ⟨_, rfl, by rw [HN.out]; exact (O0.low (base' := w.heap.size) (by omega)).keep hb3, Y.trans hb3⟩
  cases q1 : hkB gs
  · have HN := HNO (by rw [HM.out, q1]; simp)
    obtain ⟨cx, _, zx⟩ := X.facts
    obtain ⟨cg, _, zg⟩ := G.facts
    have r0 : (((w.alloc (.cells #[.slice A gs.length c] 24)).alloc (.cells #[.int .i64 a, .slice B m.length d] 47)).alloc (.cells #[] 3)).cell? ⟨w.heap.size, 0, none⟩ = some (.slice A gs.length c) := cx 0
    have r1 : (((w.alloc (.cells #[.slice A gs.length c] 24)).alloc (.cells #[.int .i64 a, .slice B m.length d] 47)).alloc (.cells #[] 3)).cell? ⟨w.heap.size + 1, 0, none⟩ = some (.int .i64 a) := cg 0
    have r2 : (((w.alloc (.cells #[.slice A gs.length c] 24)).alloc (.cells #[.int .i64 a, .slice B m.length d] 47)).alloc (.cells #[] 3)).cell? ⟨w.heap.size + 1, 1, none⟩ = some (.slice B m.length d) := cg 1
    have qq0 := Bw.cell r0 zx
    have qq1 := Bw.cell r1 zg
    have qq2 := Bw.cell r2 zg
    have C1 := Lib.hid (fun (W : World) (h : Bel (((w.alloc (.cells #[.slice A gs.length c] 24)).alloc (.cells #[.int .i64 a, .slice B m.length d] 47)).alloc (.cells #[] 3)) W) => hkS _ gs W ((hv.keep Y).keep h))
    have C2 := Lib.hid (fun (W : World) (h : Bel (((w.alloc (.cells #[.slice A gs.length c] 24)).alloc (.cells #[.int .i64 a, .slice B m.length d] 47)).alloc (.cells #[] 3)) W) => gnrS a _ m W ((hu.keep Y).keep h))
    have C3 := Lib.hid (fun (W : World) (h : Bel (((w.alloc (.cells #[.slice A gs.length c] 24)).alloc (.cells #[.int .i64 a, .slice B m.length d] 47)).alloc (.cells #[] 3)) W) => colS _ m W ((hu.keep Y).keep h))
    clear cx cg r0 r1 r2
    rw [q2] at C2
    rw [q1] at C1
    go_enter Try.func39, Try.ntmps39
    go_wp2
    refine wp_loop_rounds 1 ?_
    rw [rounds_succ]
    go_wp2
    refine wp_region_bel (by kernel_rfl) (by kernel_rfl) ?_
    repeat (first | go_big_quiet_step (first | (go_at_call 76; exact belQ (C2.out _ (Bw.bel _))) | (go_at_call 25; exact belQ (C1.out _ (Bw.bel _))) | (go_at_call 72; exact belQ_same (C3.out _ (Bw.bel _)))) | quiet_step (first | (go_at_call 76; exact belQ (C2.out _ (Bw.bel _))) | (go_at_call 25; exact belQ (C1.out _ (Bw.bel _))) | (go_at_call 72; exact belQ_same (C3.out _ (Bw.bel _)))))
    refine wpQuiet_nil ?_
    rintro w3 ⟨⟨_, hb3⟩, rfl⟩
    clear qq0 qq1 qq2
    go_wp2
    go_ret
    exact ⟨_, rfl, by rw [HN.out]; exact (O0.low (base' := w.heap.size) (by omega)).keep hb3, Y.trans hb3⟩
  cases q3 : ((colN m : Int) == (gs.length : Int))
  · have HN := HNO (by rw [HM.out]; simp only [bne, q3]; simp)
    obtain ⟨cx, _, zx⟩ := X.facts
    obtain ⟨cg, _, zg⟩ := G.facts
    have r0 : (((w.alloc (.cells #[.slice A gs.length c] 24)).alloc (.cells #[.int .i64 a, .slice B m.length d] 47)).alloc (.cells #[] 3)).cell? ⟨w.heap.size, 0, none⟩ = some (.slice A gs.length c) := cx 0
    have r1 : (((w.alloc (.cells #[.slice A gs.length c] 24)).alloc (.cells #[.int .i64 a, .slice B m.length d] 47)).alloc (.cells #[] 3)).cell? ⟨w.heap.size + 1, 0, none⟩ = some (.int .i64 a) := cg 0
    have r2 : (((w.alloc (.cells #[.slice A gs.length c] 24)).alloc (.cells #[.int .i64 a, .slice B m.length d] 47)).alloc (.cells #[] 3)).cell? ⟨w.heap.size + 1, 1, none⟩ = some (.slice B m.length d) := cg 1
    have qq0 := Bw.cell r0 zx
    have qq1 := Bw.cell r1 zg
    have qq2 := Bw.cell r2 zg
    have C1 := Lib.hid (fun (W : World) (h : Bel (((w.alloc (.cells #[.slice A gs.length c] 24)).alloc (.cells #[.int .i64 a, .slice B m.length d] 47)).alloc (.cells #[] 3)) W) => hkS _ gs W ((hv.keep Y).keep h))
    have C2 := Lib.hid (fun (W : World) (h : Bel (((w.alloc (.cells #[.slice A gs.length c] 24)).alloc (.cells #[.int .i64 a, .slice B m.length d] 47)).alloc (.cells #[] 3)) W) => gnrS a _ m W ((hu.keep Y).keep h))
    have C3 := Lib.hid (fun (W : World) (h : Bel (((w.alloc (.cells #[.slice A gs.length c] 24)).alloc (.cells #[.int .i64 a, .slice B m.length d] 47)).alloc (.cells #[] 3)) W) => colS _ m W ((hu.keep Y).keep h))
    clear cx cg r0 r1 r2
    rw [q2] at C2
    rw [q1] at C1
    go_enter Try.func39, Try.ntmps39
    go_wp2
    refine wp_loop_rounds 1 ?_
    rw [rounds_succ]
    go_wp2
    refine wp_region_bel (by kernel_rfl) (by kernel_rfl) ?_
    repeat (first | go_big_quiet_step (first | (go_at_call 76; exact belQ (C2.out _ (Bw.bel _))) | (go_at_call 25; exact belQ (C1.out _ (Bw.bel _))) | (go_at_call 72; exact belQ_same (C3.out _ (Bw.bel _)))) | quiet_step (first | (go_at_call 76; exact belQ (C2.out _ (Bw.bel _))) | (go_at_call 25; exact belQ (C1.out _ (Bw.bel _))) | (go_at_call 72; exact belQ_same (C3.out _ (Bw.bel _)))))
    refine wpQuiet_nil ?_
    rintro w3 ⟨⟨_, hb3⟩, rfl⟩
    clear qq0 qq1 qq2
    go_wp2
    go_ret
    exact ⟨_, rfl, by rw [HN.out]; exact (O0.low (base' := w.heap.size) (by omega)).keep hb3, Y.trans hb3⟩
  have HQ : Hid (hsyB gs a m = true) := Lib.hid (by rw [HM.out, q1, q2]; simp only [bne, q3]; rfl)
  have HN := Lib.hid (hsy_yes HQ.out)
  have HQ1 := Lib.hid q1
  have HQ2 := Lib.hid q2
  have hm8 : m.length ≤ 8 := (gnrB_facts q2).2.1.2
  clear q1 q2 HM HNO
  go_enter Try.func39, Try.ntmps39
  go_wp2
  go_loopg [5, 6] m.length (fun f out i wr => ∃ k : Nat, k + f = m.length ∧ i = .int .i64 k ∧ Blk wr w.heap.size 24 #[.slice A gs.length c] ∧ Blk wr (w.heap.size + 1) 47 #[.int .i64 a, .slice B m.length d] ∧ OI wr (w.heap.size + 2) out ((m.take k).map (hashZ gs)) ∧ Bel w wr ∧ w.heap.size + 2 ≤ wr.heap.size)
  case atStart => exact ⟨0, by omega, rfl, X, G, O0, Y, Z.out⟩
  case round =>
    clear X G Y Z O0
    obtain ⟨k, hk, rfl, X, G, O, Y, hz⟩ := hrel
    have hk2 : k ≤ m.length := by omega
    have HK := Lib.hid hk
    clear hk
    have HZ := Lib.hid hz
    clear hz
    by_cases hlt : k < m.length
    · have i0 : (0 : Int) ≤ (k : Int) := by omega
      have i1 : (k : Int) < (m.length : Int) := by omega
      obtain ⟨cx, _, zx⟩ := X.facts
      obtain ⟨cg, _, zg⟩ := G.facts
      have r0 : wr.cell? ⟨w.heap.size, 0, none⟩ = some (.slice A gs.length c) := cx 0
      have r1 : wr.cell? ⟨w.heap.size + 1, 0, none⟩ = some (.int .i64 a) := cg 0
      have r2 : wr.cell? ⟨w.heap.size + 1, 1, none⟩ = some (.slice B m.length d) := cg 1
      have qq0 := Bw.cell r0 zx
      have qq1 := Bw.cell r1 zg
      have qq2 := Bw.cell r2 zg
      have C1 := Lib.hid (fun (W : World) (h : Bel wr W) => hkS _ gs W ((hv.keep Y).keep h))
      have C2 := Lib.hid (fun (W : World) (h : Bel wr W) => gnrS a _ m W ((hu.keep Y).keep h))
      have C3 := Lib.hid (fun (W : World) (h : Bel wr W) => colS _ m W ((hu.keep Y).keep h))
      clear cx cg r0 r1 r2
      rw [HQ2.out] at C2
      rw [HQ1.out] at C1
      go_wp2
      refine wp_region_bel (by kernel_rfl) (by kernel_rfl) ?_
      repeat (first | go_big_quiet_step (first | (go_at_call 76; exact belQ (C2.out _ (Bw.bel _))) | (go_at_call 25; exact belQ (C1.out _ (Bw.bel _))) | (go_at_call 72; exact belQ_same (C3.out _ (Bw.bel _)))) | quiet_step (first | (go_at_call 76; exact belQ (C2.out _ (Bw.bel _))) | (go_at_call 25; exact belQ (C1.out _ (Bw.bel _))) | (go_at_call 72; exact belQ_same (C3.out _ (Bw.bel _)))))
      refine wpQuiet_nil ?_
      rintro w2 ⟨⟨_, hb3⟩, rfl⟩
      clear qq0 qq1 qq2
      have X2 := hb3.keep X
      have G2 := hb3.keep G
      have Y2 := Y.trans hb3
      have O2 := O.keep hb3
      have Z2 : Hid (w.heap.size + 2 ≤ w2.heap.size) := Lib.hid (Nat.le_trans HZ.out hb3.size)
      clear zx zg X G Y O HZ hb3 C1 C2 C3
      obtain ⟨cx, _, zx⟩ := X2.facts
      obtain ⟨cg, _, zg⟩ := G2.facts
      obtain ⟨b1, o1, rfl, z1, hc1⟩ := hB (by omega)
      have hx : Hid (m[k]? = some (m[k]'hlt)) := List.getElem?_eq_getElem hlt
      obtain ⟨us, g1, ru⟩ := hc1 k _ hx.out
      replace g1 := Y2.cell1 z1 g1
      replace ru := ru.keep Y2
      clear hc1 hB
      generalize m[k]'hlt = s at *
      have HST := Lib.hid (map_step (f := hashZ gs) hx.out)
      obtain ⟨As, cs, rfl, _, _, _⟩ := id ru
      have hlen : ((m.take k).map (hashZ gs)).length ≤ 8 := by rw [List.length_map, List.length_take]; omega
      generalize hLT : (m.take k).map (hashZ gs) = LT at *
      clear hLT
      obtain ⟨y, hy⟩ : ∃ y, hashZ gs s = y := ⟨_, rfl⟩
      have HY := Lib.hid hy
      clear hy
      rw [HY.out] at HST
      have Yd := (Bel.refl w2).drew
      have HON := Lib.hid (fun q hq => (O2.block q hq))
      have rx : w2.cell? ⟨w.heap.size, 0, none⟩ = some (.slice A gs.length c) := cx 0
      have rg : w2.cell? ⟨w.heap.size + 1, 1, none⟩ = some (.slice (some ⟨b1, o1, none⟩) m.length d) := cg 1
      go_wp2
      go_region_law (first
        | (go_simp; go_at_call 80; refine (hashS _ _ gs s _ (by exact hv.keep Y2.drew) (by exact ru.keep Yd)).mono ?_; rintro e wT ⟨rfl, hbT⟩; rw [HY.out])
        | (refine step_appI _ (by rfl) _ _ (by rfl) (w.heap.size + 2) _ _ LT [y] (by rfl) (by rfl) (by exact O2.keep ((Yd.trans hbT).alloc _)) (by exact RI.lit1 _ _ _) (by simp only [List.length_cons, List.length_nil]; omega) (by simp only [World.size_alloc]; have := hbT.size; have h6 : w2.drew.heap.size = w2.heap.size := rfl; have := Z2.out; omega) ?_; intro v2 w4 O3 hG))
      all_goals (
        have Y3 : Bel w w4 := ((Y2.drew.trans hbT).alloc _).grown hG (fun q hq => by have := (HON.out q hq).1; omega)
        have X3 := ((hbT.keep X2.drew).alloc (.cells #[.int .i64 y] 3)).grown hG (fun e => by have := (HON.out _ e).1; omega)
        have G3 := ((hbT.keep G2.drew).alloc (.cells #[.int .i64 y] 3)).grown hG (fun e => by have := (HON.out _ e).1; omega)
        have z3 : Hid (w.heap.size + 2 ≤ w4.heap.size) := Lib.hid (by have h7 := hG.size; rw [World.size_alloc] at h7; have := hbT.size; have h6 : w2.drew.heap.size = w2.heap.size := rfl; have := Z2.out; omega)
        clear hG cx zx cg zg
        go_wp2
        go_roundg (m.length - (k + 1))
        case measure => have := HK.out; omega
        case rel => exact ⟨k + 1, by omega, by go_num, X3, G3, by rw [← HST.out]; exact O3, Y3, z3.out⟩)
    · obtain rfl : k = m.length := by omega
      have i1 : ¬ (m.length : Int) < (m.length : Int) := by omega
      have HE : Hid ((m.take m.length).map (hashZ gs) = m.map (hashZ gs)) := Lib.hid (by rw [List.take_length])
      obtain ⟨cx, _, zx⟩ := X.facts
      obtain ⟨cg, _, zg⟩ := G.facts
      have r0 : wr.cell? ⟨w.heap.size, 0, none⟩ = some (.slice A gs.length c) := cx 0
      have r1 : wr.cell? ⟨w.heap.size + 1, 0, none⟩ = some (.int .i64 a) := cg 0
      have r2 : wr.cell? ⟨w.heap.size + 1, 1, none⟩ = some (.slice B m.length d) := cg 1
      have qq0 := Bw.cell r0 zx
      have qq1 := Bw.cell r1 zg
      have qq2 := Bw.cell r2 zg
      have C1 := Lib.hid (fun (W : World) (h : Bel wr W) => hkS _ gs W ((hv.keep Y).keep h))
      have C2 := Lib.hid (fun (W : World) (h : Bel wr W) => gnrS a _ m W ((hu.keep Y).keep h))
      have C3 := Lib.hid (fun (W : World) (h : Bel wr W) => colS _ m W ((hu.keep Y).keep h))
      clear cx cg r0 r1 r2
      go_wp2
      refine wp_region_bel (by kernel_rfl) (by kernel_rfl) ?_
      repeat (first | go_big_quiet_step (first | (go_at_call 76; exact belQ (C2.out _ (Bw.bel _))) | (go_at_call 25; exact belQ (C1.out _ (Bw.bel _))) | (go_at_call 72; exact belQ_same (C3.out _ (Bw.bel _)))) | quiet_step (first | (go_at_call 76; exact belQ (C2.out _ (Bw.bel _))) | (go_at_call 25; exact belQ (C1.out _ (Bw.bel _))) | (go_at_call 72; exact belQ_same (C3.out _ (Bw.bel _)))))
      refine wpQuiet_nil ?_
      rintro w2 ⟨⟨_, hb3⟩, rfl⟩
      clear qq0 qq1 qq2
      go_wp2
      go_ret
      exact ⟨_, rfl, by rw [HN.out, ← HE.out]; exact (O.low (by omega)).keep hb3, Y.trans hb3⟩
end Go.Proofs.Ytjlcnbicehjjjaa

namespace Go.Proofs.Ytjlcnbicehjjjaa
open Go.ChangeShapes Go.WideShapes Go.ChangeAt Go.RowKit
set_option linter.unusedVariables false
set_option maxRecDepth 100000

theorem mod_mul {a b c d M : Int} (h : a % M = b % M) (k : c % M = d % M) : a * c % M = b * d % M := by rw [Int.mul_emod, h, k, ← Int.mul_emod]
theorem mod_pow {a b M : Int} (h : a % M = b % M) : ∀ n : Nat, a ^ n % M = b ^ n % M
  | 0 => by rw [Int.pow_zero, Int.pow_zero]
  | n + 1 => by rw [Int.pow_succ, Int.pow_succ]; exact mod_mul (mod_pow h n) h
theorem mod_self (a M : Int) : a % M % M = a % M := Int.emod_emod _ _
theorem ent_getD (es : List Int) (k : Nat) : es.getD k 0 = ent es k := rfl
theorem pwr_succ (gs es : List Int) (k : Nat) : pwr gs es (k + 1) = pwr gs es k * (gs.getD k 0 ^ (ent es k).toNat % 2039) % 2039 := rfl
theorem pwr_small (gs es : List Int) (k : Nat) : pwr gs es k % 2039 = pwr gs es k := Int.emod_eq_of_lt (pwr_bd gs es k).1 (by have := (pwr_bd gs es k).2; omega)
/-- One exponent of a sum. -/
theorem exp_adds {g x y q : Int} {E : Nat} (hE : ((E : Nat) : Int) = 1019) (hg : g ^ E % 2039 = 1) (hx : 0 ≤ x) (hy : 0 ≤ y) (hq : 0 ≤ q) :
    g ^ ((x + y * q) % 1019).toNat % 2039 = g ^ x.toNat * (g ^ y.toNat) ^ q.toNat % 2039 := by
  obtain ⟨x, rfl⟩ := Int.eq_ofNat_of_zero_le hx
  obtain ⟨y, rfl⟩ := Int.eq_ofNat_of_zero_le hy
  obtain ⟨q, rfl⟩ := Int.eq_ofNat_of_zero_le hq
  have e : ((x : Int) + (y : Int) * (q : Int)) % 1019 = (((x + y * q) % E : Nat) : Int) := by
    rw [← hE]
    simp
  rw [e, Int.toNat_natCast, Int.toNat_natCast, Int.toNat_natCast, Int.toNat_natCast, pow_ord hg, Int.pow_add, Int.pow_mul]
theorem pwr_adds {gs xs ys : List Int} {q : Int} (hg : ∀ g ∈ gs, grB g = true) (hx : Row gs.length xs) (hy : Row gs.length ys) (hq : 0 ≤ q) :
    ∀ k, k ≤ gs.length → pwr gs (addsZ xs ys q) k = pwr gs xs k * pwr gs ys k ^ q.toNat % 2039
  | 0, _ => by
    show (1 : Int) = 1 * 1 ^ q.toNat % 2039
    rw [Int.one_pow]; rfl
  | k + 1, hk => by
    have ih := pwr_adds hg hx hy hq k (by omega)
    have hm : gs.getD k 0 ∈ gs := List.mem_of_getElem? (getD_at (show k < gs.length by omega))
    obtain ⟨E, hE⟩ : ∃ E : Nat, E = 1019 := ⟨_, rfl⟩
    have ho : gs.getD k 0 ^ E % 2039 = 1 := by rw [hE]; exact (grB_facts (hg _ hm)).2
    have he := exp_adds (g := gs.getD k 0) (x := ent xs k) (y := ent ys k) (by rw [hE]; rfl) ho (ent_bd hx k).1 (ent_bd hy k).1 hq
    rw [pwr_succ, pwr_succ gs xs, pwr_succ gs ys, ent_addsZ _ _ _ _ (by rw [hx.1, hy.1]), ih, he]
    generalize gs.getD k 0 ^ (ent xs k).toNat = a
    generalize gs.getD k 0 ^ (ent ys k).toNat = b
    generalize pwr gs xs k = p
    generalize pwr gs ys k = r
    generalize q.toNat = n
    have h1 : p * r ^ n % 2039 * (a * b ^ n % 2039) % 2039 = (p * r ^ n) * (a * b ^ n) % 2039 := mod_mul (mod_self _ _) (mod_self _ _)
    have h2 : p * (a % 2039) % 2039 * (r * (b % 2039) % 2039) ^ n % 2039 = (p * a) * (r * b) ^ n % 2039 :=
      mod_mul ((mod_self _ _).trans (mod_mul rfl (mod_self _ _))) (mod_pow ((mod_self _ _).trans (mod_mul rfl (mod_self _ _))) n)
    rw [h1, h2, Int.mul_pow]
    have h3 : p * r ^ n * (a * b ^ n) = p * a * (r ^ n * b ^ n) := by
      rw [Int.mul_assoc, Int.mul_assoc, Int.mul_left_comm (r ^ n)]
    rw [h3]
theorem pwr_zero (gs : List Int) (n : Nat) : ∀ k, pwr gs (List.replicate n 0) k = 1
  | 0 => rfl
  | k + 1 => by
    have e : ent (List.replicate n 0) k = 0 := by
      unfold ent
      rw [List.getD_eq_getElem?_getD, List.getElem?_replicate]
      split <;> rfl
    rw [pwr_succ, pwr_zero gs n k, e]
    show 1 * (gs.getD k 0 ^ 0 % 2039) % 2039 = 1
    rw [Int.pow_zero]; rfl
theorem row_vec {n : Nat} {xs : List Int} (h : Row n xs) (hn : n ≤ 40) : vecB xs = true := row_vecB h hn
theorem hash_row {gs xs : List Int} (hk : hkB gs = true) (h : Row gs.length xs) : hashZ gs xs = pwr gs xs gs.length := by
  have := (hkB_facts hk).2.2
  exact hashZ_yes hk (row_vecB h (by omega)) h.1
theorem hkB_gr {gs : List Int} (hk : hkB gs = true) : ∀ g ∈ gs, grB g = true := fun g hg => ((hkB_facts hk).1 g hg).1
theorem hash_comb {gs cs : List Int} {m : List (List Int)} (hk : hkB gs = true) (hm : Mtx gs.length m) (hc : ∀ c ∈ cs, 0 ≤ c) :
    ∀ k, k ≤ m.length → pwr gs (lcK gs.length m cs k) gs.length = pwr (m.map (hashZ gs)) cs k
  | 0, _ => pwr_zero gs _ _
  | k + 1, hkk => by
    have ih := hash_comb hk hm hc k (by omega)
    have hr := mtx_row hm (show k < m.length by omega)
    have hcb : 0 ≤ ent cs k := by
      rcases Nat.lt_or_ge k cs.length with h | h
      · exact hc _ (List.mem_of_getElem? (ent_get h))
      · rw [ent_out h]; omega
    rw [show lcK gs.length m cs (k + 1) = addsZ (lcK gs.length m cs k) (rw_ m k) (ent cs k) from rfl, pwr_adds (hkB_gr hk) (lcK_row hm k (by omega)) hr hcb _ (Nat.le_refl _), ih, pwr_succ]
    have e : (m.map (hashZ gs)).getD k 0 = pwr gs (rw_ m k) gs.length := by
      rw [List.getD_eq_getElem?_getD, List.getElem?_map, rw_get (show k < m.length by omega)]
      exact hash_row hk hr
    rw [e]
    exact mod_mul rfl (mod_self _ _).symm
theorem hashes_gr {gs : List Int} {m : List (List Int)} (hk : hkB gs = true) (hm : Mtx gs.length m) : (m.map (hashZ gs)).all grB = true := by
  refine List.all_eq_true.2 fun h hh => ?_
  obtain ⟨r, hr, rfl⟩ := List.mem_map.1 hh
  rw [hash_row hk (hm r hr)]
  exact pwr_gr (hkB_gr hk) _ (Nat.le_refl _)
theorem hash_lc {gs cs : List Int} {m : List (List Int)} (hk : hkB gs = true) (hm : Mtx gs.length m) (h0 : 0 < m.length) (hv : vecB cs = true) (hl : cs.length = m.length) : hashZ gs (lcZ m cs) = combZ (m.map (hashZ gs)) cs := by
  have ec : colN m = gs.length := (mtx_row hm h0).1
  have hr : Row gs.length (lcZ m cs) := by unfold lcZ; rw [ec]; exact lcK_row hm _ (Nat.le_refl _)
  rw [hash_row hk hr, combZ_yes hv (by rw [List.length_map, hl]) (hashes_gr hk hm), List.length_map]
  unfold lcZ
  rw [ec]
  exact hash_comb hk hm (fun c hc => ((vecB_facts hv).1 c hc).1) _ (Nat.le_refl _)
theorem hash_pos {gs xs : List Int} (hk : hkB gs = true) (h : Row gs.length xs) : grB (hashZ gs xs) = true := by rw [hash_row hk h]; exact pwr_gr (hkB_gr hk) _ (Nat.le_refl _)
theorem hash_vh {gs cs : List Int} {m : List (List Int)} (hk : hkB gs = true) (hm : Mtx gs.length m) (h0 : 0 < m.length) (hv : vecB cs = true) (hl : cs.length = m.length) : vhB gs (m.map (hashZ gs)) cs (lcZ m cs) = true := by
  have ec : colN m = gs.length := (mtx_row hm h0).1
  have hr : Row gs.length (lcZ m cs) := by unfold lcZ; rw [ec]; exact lcK_row hm _ (Nat.le_refl _)
  have h1 := (grB_facts (hash_pos hk hr)).1
  unfold vhB
  rw [← hash_lc hk hm h0 hv hl, Bool.and_eq_true]
  refine ⟨?_, by simp⟩
  simp
  omega
theorem hash_add {gs xs ys : List Int} (hk : hkB gs = true) (hx : Row gs.length xs) (hy : Row gs.length ys) : hashZ gs (addsZ xs ys 1) = hashZ gs xs * hashZ gs ys % 2039 := by
  rw [hash_row hk (row_adds 1 hx hy), hash_row hk hx, hash_row hk hy, pwr_adds (hkB_gr hk) hx hy (by decide) _ (Nat.le_refl _)]
  rw [show (1 : Int).toNat = 1 from rfl, Int.pow_succ, Int.pow_zero, Int.one_mul]
theorem hash_zero {gs : List Int} (hk : hkB gs = true) : hashZ gs (List.replicate gs.length 0) = 1 := by rw [hash_row hk (row_zero _)]; exact pwr_zero gs _ _
theorem four_ord : ∀ e : Nat, e < 1018 → 4 ^ (e + 1) % 2039 ≠ 1 := by decide +kernel
theorem four_gen {x : Int} (h1 : 1 ≤ x) (h2 : x ≤ 1018) : genB (4 ^ x.toNat % 2039) = true := by
  obtain ⟨e, rfl⟩ : ∃ e : Nat, x = ((e + 1 : Nat) : Int) := ⟨(x - 1).toNat, by omega⟩
  have h4 := four_ord e (by omega)
  have h5 : (4 : Int) ^ (e + 1) % 2039 = ((4 ^ (e + 1) % 2039 : Nat) : Int) := by simp
  have h6 := grB_pow (e + 1) grB_four
  rw [Int.toNat_natCast]
  unfold genB
  rw [h6, h5]
  generalize 4 ^ (e + 1) % 2039 = z at h4
  have h7 : ((z : Int) == 1) = false := beq_eq_false_iff_ne.2 (by omega)
  rw [h7]
  rfl
theorem nh_valid {s : Int} {n : Nat} (h1 : 1 ≤ n) (h2 : n ≤ 16) : hkB (nhZ s (n : Int)) = true ∧ (nhZ s (n : Int)).length = n := by
  have hb : inB (n : Int) 1 16 = true := by unfold inB; simp; omega
  rw [nhZ_yes hb]
  have hl := nhL_len s n
  refine ⟨hkB_yes (List.all_eq_true.2 fun g hg => ?_) (by rw [hl]; omega), hl⟩
  unfold nhL at hg
  obtain ⟨i, _, rfl⟩ := List.mem_map.1 hg
  obtain ⟨b1, b2⟩ := nhE_bd s i
  exact four_gen b1 b2
end Go.Proofs.Ytjlcnbicehjjjaa
