/-
  Contracts of HashVector and CombineHashes, of the program and of the reference. No condition.
-/
import Derived.Test.YtjlcnbicehjjjaaHash
namespace Go.Proofs.Ytjlcnbicehjjjaa
open Go.ChangeShapes Go.WideShapes Go.ChangeAt Go.RowKit
set_option linter.unusedVariables false
set_option maxRecDepth 100000

theorem hashZ_no {gs v : List Int} (h : ¬ (hkB gs = true ∧ vecB v = true ∧ v.length = gs.length)) : hashZ gs v = 0 := if_neg h
theorem hashZ_yes {gs v : List Int} (h1 : hkB gs = true) (h2 : vecB v = true) (h3 : v.length = gs.length) : hashZ gs v = pwr gs v gs.length := if_pos ⟨h1, h2, h3⟩
theorem combZ_no {gs v : List Int} (h : ¬ (vecB v = true ∧ gs.length = v.length ∧ gs.all grB = true)) : combZ gs v = 0 := if_neg h
theorem combZ_yes {gs v : List Int} (h1 : vecB v = true) (h2 : gs.length = v.length) (h3 : gs.all grB = true) : combZ gs v = pwr gs v gs.length := if_pos ⟨h1, h2, h3⟩
set_option maxHeartbeats 400000 in
theorem hashI_k (v u : Value) (gs es : List Int) (w : World) (hv : RI w v gs) (hu : RI w u es) (h : hkB gs = false) :
    Calls Try.prog 28 #[.agg #[v], u] w fun e w' => e = .returned (.int .i64 (hashZ gs es)) ∧ Bel w w' := by
  rw [hashZ_no (by simp [h])]
  obtain ⟨A, c, rfl, _, _, _⟩ := id hv
  obtain ⟨B, d, rfl, _, _, _⟩ := id hu
  go_enter Try.func28, Try.ntmps28
  go_wp2_with fail
  refine (hkI _ gs _ (hv.keep ((Bel.refl _).alloc _))).mono ?_
  rintro e w1 ⟨rfl, hb1⟩
  have X1 := hb1.keep (Blk.new w _ _)
  have Y1 : Bel w w1 := ((Bel.refl _).alloc _).trans hb1
  obtain ⟨c1, _, _⟩ := X1.facts
  rw [h]
  go_wp2
  go_ret
  exact ⟨rfl, Y1⟩
set_option maxHeartbeats 400000 in
theorem hashI_v (v u : Value) (gs es : List Int) (w : World) (hv : RI w v gs) (hu : RI w u es) (h : hkB gs = true) (h2 : vecB es = false) :
    Calls Try.prog 28 #[.agg #[v], u] w fun e w' => e = .returned (.int .i64 (hashZ gs es)) ∧ Bel w w' := by
  rw [hashZ_no (by simp [h2])]
  obtain ⟨A, c, rfl, _, _, _⟩ := id hv
  obtain ⟨B, d, rfl, _, _, _⟩ := id hu
  go_enter Try.func28, Try.ntmps28
  go_wp2_with fail
  refine (hkI _ gs _ (hv.keep ((Bel.refl _).alloc _))).mono ?_
  rintro e w1 ⟨rfl, hb1⟩
  have X1 := hb1.keep (Blk.new w _ _)
  have Y1 : Bel w w1 := ((Bel.refl _).alloc _).trans hb1
  obtain ⟨c1, _, _⟩ := X1.facts
  rw [h]
  go_wp2_with fail
  refine (vecI _ es _ (hu.keep Y1)).mono ?_
  rintro e w2 ⟨rfl, rfl⟩
  rw [h2]
  go_wp2
  go_ret
  exact ⟨rfl, Y1⟩
set_option maxHeartbeats 400000 in
theorem hashI_l (v u : Value) (gs es : List Int) (w : World) (hv : RI w v gs) (hu : RI w u es) (h : hkB gs = true) (h2 : vecB es = true) (h3 : es.length ≠ gs.length) :
    Calls Try.prog 28 #[.agg #[v], u] w fun e w' => e = .returned (.int .i64 (hashZ gs es)) ∧ Bel w w' := by
  rw [hashZ_no (fun q => h3 q.2.2)]
  have hn : ((es.length : Int) != (gs.length : Int)) = true := by rw [bne_iff_ne]; omega
  clear h3
  obtain ⟨A, c, rfl, _, _, _⟩ := id hv
  obtain ⟨B, d, rfl, _, _, _⟩ := id hu
  go_enter Try.func28, Try.ntmps28
  go_wp2_with fail
  refine (hkI _ gs _ (hv.keep ((Bel.refl _).alloc _))).mono ?_
  rintro e w1 ⟨rfl, hb1⟩
  have X1 := hb1.keep (Blk.new w _ _)
  have Y1 : Bel w w1 := ((Bel.refl _).alloc _).trans hb1
  obtain ⟨c1, _, _⟩ := X1.facts
  rw [h]
  go_wp2_with fail
  refine (vecI _ es _ (hu.keep Y1)).mono ?_
  rintro e w2 ⟨rfl, rfl⟩
  rw [h2]
  go_wp2
  go_ret
  exact ⟨rfl, Y1⟩
set_option maxHeartbeats 1000000 in
theorem hashI_y (v u : Value) (gs es : List Int) (w : World) (hv : RI w v gs) (hu : RI w u es) (h : hkB gs = true) (h2 : vecB es = true) (h3 : es.length = gs.length) :
    Calls Try.prog 28 #[.agg #[v], u] w fun e w' => e = .returned (.int .i64 (hashZ gs es)) ∧ Bel w w' := by
  rw [hashZ_yes h h2 h3]
  have hn : ((es.length : Int) != (gs.length : Int)) = false := by simp [h3]
  obtain ⟨k1, k2⟩ := hkB_facts h
  obtain ⟨j1, j2⟩ := vecB_facts h2
  have K1 := Lib.hid k1
  have J1 := Lib.hid j1
  have H3 := Lib.hid h3
  have hle : gs.length ≤ es.length := by omega
  have hle2 : es.length ≤ gs.length := by omega
  clear h3 k1 j1
  obtain ⟨A, c, rfl, _, _, hA⟩ := id hv
  obtain ⟨B, d, rfl, _, _, hB⟩ := id hu
  go_enter Try.func28, Try.ntmps28
  go_wp2_with fail
  refine (hkI _ gs _ (hv.keep ((Bel.refl _).alloc _))).mono ?_
  rintro e w1 ⟨rfl, hb1⟩
  have X1 := hb1.keep (Blk.new w _ _)
  have Y1 : Bel w w1 := ((Bel.refl _).alloc _).trans hb1
  obtain ⟨c1, _, _⟩ := X1.facts
  rw [h]
  go_wp2_with fail
  refine (vecI _ es _ (hu.keep Y1)).mono ?_
  rintro e w2 ⟨rfl, rfl⟩
  rw [h2]
  go_wp2_with fail
  refine (powersI _ _ gs es _ (hv.keep Y1) (hu.keep Y1) hle (fun g hg => by have := (grB_facts (K1.out g hg).1).1; omega) (fun e he => (J1.out e he).1)).mono ?_
  rintro e w2 ⟨rfl, rfl⟩
  go_wp2
  go_ret
  exact ⟨rfl, Y1⟩
theorem hashI (v u : Value) (gs es : List Int) (w : World) (hv : RI w v gs) (hu : RI w u es) :
    Calls Try.prog 28 #[.agg #[v], u] w fun e w' => e = .returned (.int .i64 (hashZ gs es)) ∧ Bel w w' := by
  cases h : hkB gs
  · exact hashI_k v u gs es w hv hu h
  cases h2 : vecB es
  · exact hashI_v v u gs es w hv hu h h2
  by_cases h3 : es.length = gs.length
  · exact hashI_y v u gs es w hv hu h h2 h3
  · exact hashI_l v u gs es w hv hu h h2 h3
set_option maxHeartbeats 400000 in
theorem hashS_k (v u : Value) (gs es : List Int) (w : World) (hv : RI w v gs) (hu : RI w u es) (h : hkB gs = false) :
    Calls Try.prog 80 #[.agg #[v], u] w fun e w' => e = .returned (.int .i64 (hashZ gs es)) ∧ Bel w w' := by
  rw [hashZ_no (by simp [h])]
  obtain ⟨A, c, rfl, _, _, _⟩ := id hv
  obtain ⟨B, d, rfl, _, _, _⟩ := id hu
  go_enter Try.func80, Try.ntmps80
  go_wp2_with fail
  refine (hkS _ gs _ (hv.keep ((Bel.refl _).alloc _))).mono ?_
  rintro e w1 ⟨rfl, hb1⟩
  have X1 := hb1.keep (Blk.new w _ _)
  have Y1 : Bel w w1 := ((Bel.refl _).alloc _).trans hb1
  obtain ⟨c1, _, _⟩ := X1.facts
  rw [h]
  go_wp2
  go_ret
  exact ⟨rfl, Y1⟩
set_option maxHeartbeats 400000 in
theorem hashS_v (v u : Value) (gs es : List Int) (w : World) (hv : RI w v gs) (hu : RI w u es) (h : hkB gs = true) (h2 : vecB es = false) :
    Calls Try.prog 80 #[.agg #[v], u] w fun e w' => e = .returned (.int .i64 (hashZ gs es)) ∧ Bel w w' := by
  rw [hashZ_no (by simp [h2])]
  obtain ⟨A, c, rfl, _, _, _⟩ := id hv
  obtain ⟨B, d, rfl, _, _, _⟩ := id hu
  go_enter Try.func80, Try.ntmps80
  go_wp2_with fail
  refine (hkS _ gs _ (hv.keep ((Bel.refl _).alloc _))).mono ?_
  rintro e w1 ⟨rfl, hb1⟩
  have X1 := hb1.keep (Blk.new w _ _)
  have Y1 : Bel w w1 := ((Bel.refl _).alloc _).trans hb1
  obtain ⟨c1, _, _⟩ := X1.facts
  rw [h]
  go_wp2_with fail
  refine (vecS _ es _ (hu.keep Y1)).mono ?_
  rintro e w2 ⟨rfl, rfl⟩
  rw [h2]
  go_wp2
  go_ret
  exact ⟨rfl, Y1⟩
set_option maxHeartbeats 400000 in
theorem hashS_l (v u : Value) (gs es : List Int) (w : World) (hv : RI w v gs) (hu : RI w u es) (h : hkB gs = true) (h2 : vecB es = true) (h3 : es.length ≠ gs.length) :
    Calls Try.prog 80 #[.agg #[v], u] w fun e w' => e = .returned (.int .i64 (hashZ gs es)) ∧ Bel w w' := by
  rw [hashZ_no (fun q => h3 q.2.2)]
  have hn : ((es.length : Int) != (gs.length : Int)) = true := by rw [bne_iff_ne]; omega
  clear h3
  obtain ⟨A, c, rfl, _, _, _⟩ := id hv
  obtain ⟨B, d, rfl, _, _, _⟩ := id hu
  go_enter Try.func80, Try.ntmps80
  go_wp2_with fail
  refine (hkS _ gs _ (hv.keep ((Bel.refl _).alloc _))).mono ?_
  rintro e w1 ⟨rfl, hb1⟩
  have X1 := hb1.keep (Blk.new w _ _)
  have Y1 : Bel w w1 := ((Bel.refl _).alloc _).trans hb1
  obtain ⟨c1, _, _⟩ := X1.facts
  rw [h]
  go_wp2_with fail
  refine (vecS _ es _ (hu.keep Y1)).mono ?_
  rintro e w2 ⟨rfl, rfl⟩
  rw [h2]
  go_wp2
  go_ret
  exact ⟨rfl, Y1⟩
set_option maxHeartbeats 1000000 in
theorem hashS_y (v u : Value) (gs es : List Int) (w : World) (hv : RI w v gs) (hu : RI w u es) (h : hkB gs = true) (h2 : vecB es = true) (h3 : es.length = gs.length) :
    Calls Try.prog 80 #[.agg #[v], u] w fun e w' => e = .returned (.int .i64 (hashZ gs es)) ∧ Bel w w' := by
  rw [hashZ_yes h h2 h3]
  have hn : ((es.length : Int) != (gs.length : Int)) = false := by simp [h3]
  obtain ⟨k1, k2⟩ := hkB_facts h
  obtain ⟨j1, j2⟩ := vecB_facts h2
  have K1 := Lib.hid k1
  have J1 := Lib.hid j1
  have H3 := Lib.hid h3
  have hle : gs.length ≤ es.length := by omega
  have hle2 : es.length ≤ gs.length := by omega
  clear h3 k1 j1
  obtain ⟨A, c, rfl, _, _, hA⟩ := id hv
  obtain ⟨B, d, rfl, _, _, hB⟩ := id hu
  go_enter Try.func80, Try.ntmps80
  go_wp2_with fail
  refine (hkS _ gs _ (hv.keep ((Bel.refl _).alloc _))).mono ?_
  rintro e w1 ⟨rfl, hb1⟩
  have X1 := hb1.keep (Blk.new w _ _)
  have Y1 : Bel w w1 := ((Bel.refl _).alloc _).trans hb1
  obtain ⟨c1, _, _⟩ := X1.facts
  rw [h]
  go_wp2_with fail
  refine (vecS _ es _ (hu.keep Y1)).mono ?_
  rintro e w2 ⟨rfl, rfl⟩
  rw [h2]
  go_wp2
  clear c1
  go_loopg [5, 6] gs.length (fun f o i wr => ∃ k : Nat, k + f = gs.length ∧ i = .int .i64 k ∧ o = .int .i64 (pwr gs es k) ∧ Blk wr w.heap.size 24 #[.slice A gs.length c] ∧ Bel w wr)
  case atStart => exact ⟨0, by omega, rfl, rfl, X1, Y1⟩
  case round =>
    clear X1 Y1 hb1
    obtain ⟨k, hk, rfl, rfl, X1, Y1⟩ := hrel
    have hk2 : k ≤ gs.length := by omega
    have HK := Lib.hid hk
    clear hk
    obtain ⟨c1, _, _⟩ := X1.facts
    have r1 := c1 0
    simp at r1
    clear c1
    by_cases hlt : k < gs.length
    · obtain ⟨b1, o1, rfl, hb1, hc1⟩ := hA (by omega)
      obtain ⟨b2, o2, rfl, hb2, hc2⟩ := hB (by omega)
      have hx : gs[k]? = some (gs[k]'hlt) := List.getElem?_eq_getElem hlt
      have hy : es[k]? = some (es[k]'(by omega)) := List.getElem?_eq_getElem (by omega)
      have g1 := Y1.cell1 hb1 (hc1 k _ hx)
      have g2 := Y1.cell1 hb2 (hc2 k _ hy)
      have m1 := (K1.out _ (List.getElem_mem hlt)).1
      have m2 := elB_yes (J1.out _ (List.getElem_mem (show k < es.length by omega)))
      have HS := Lib.hid (pwr_step hx hy)
      have q := pwr_gr (es := es) (fun g hg => (K1.out g hg).1) k hk2
      clear hc1 hc2 hA hB hx hy
      generalize gs[k]'hlt = x at *
      generalize es[k]'(by omega) = y at *
      have i0 : (0 : Int) ≤ (k : Int) := by omega
      have i1 : (k : Int) < (gs.length : Int) := by omega
      have i2 : (k : Int) < (es.length : Int) := by omega
      have i3 : decide ((k : Int) < (es.length : Int)) = true := by simpa using i2
      have m3 := grB_pow y.toNat m1
      have HM1 := Lib.hid m1
      have HM2 := Lib.hid m2
      have HM3 := Lib.hid m3
      have HQ := Lib.hid q
      clear m1 m2 m3 q
      generalize pwr gs es k = p at *
      go_wp2
      go_quiet (first | (go_at_call 51; exact quietL (powGS x y _ HM1.out HM2.out)) | (go_at_call 37; exact quietL (mulGS p _ _ HQ.out HM3.out)))
      go_wp2
      go_roundg (gs.length - (k + 1))
      case measure => have := HK.out; omega
      case rel => exact ⟨k + 1, by omega, by go_num, by rw [HS.out], X1.drewN _, Y1.drewN _⟩
    · obtain rfl : k = gs.length := by omega
      have i1 : ¬ (gs.length : Int) < (es.length : Int) := by omega
      go_wp2
      go_ret
      exact ⟨rfl, Y1⟩
theorem hashS (v u : Value) (gs es : List Int) (w : World) (hv : RI w v gs) (hu : RI w u es) :
    Calls Try.prog 80 #[.agg #[v], u] w fun e w' => e = .returned (.int .i64 (hashZ gs es)) ∧ Bel w w' := by
  cases h : hkB gs
  · exact hashS_k v u gs es w hv hu h
  cases h2 : vecB es
  · exact hashS_v v u gs es w hv hu h h2
  by_cases h3 : es.length = gs.length
  · exact hashS_y v u gs es w hv hu h h2 h3
  · exact hashS_l v u gs es w hv hu h h2 h3
theorem pwr_take_le (gs es : List Int) (n k : Nat) (h : k ≤ n) : pwr gs es k = pwr (gs.take n) es k := by
  induction k with
  | zero => rfl
  | succ k ih =>
    simp only [pwr, ih (by omega)]
    have : (gs.take n).getD k 0 = gs.getD k 0 := by simp [List.getD, show k < n by omega]
    rw [this]
theorem pwr_take (gs es : List Int) (k : Nat) : pwr gs es k = pwr (gs.take k) es k := pwr_take_le gs es k k (Nat.le_refl _)
set_option maxHeartbeats 400000 in
theorem combI_v (v u : Value) (gs es : List Int) (w : World) (hv : RI w v gs) (hu : RI w u es) (h2 : vecB es = false) :
    Calls Try.prog 35 #[v, u] w fun e w' => e = .returned (.int .i64 (combZ gs es)) ∧ w = w' := by
  rw [combZ_no (by simp [h2])]
  obtain ⟨A, c, rfl, _, _, _⟩ := id hv
  obtain ⟨B, d, rfl, _, _, _⟩ := id hu
  go_enter Try.func35, Try.ntmps35
  go_wp2_with fail
  refine (vecI _ es _ hu).mono ?_
  rintro e w2 ⟨rfl, rfl⟩
  rw [h2]
  go_wp2
  go_ret
  exact ⟨rfl, rfl⟩
set_option maxHeartbeats 400000 in
theorem combI_l (v u : Value) (gs es : List Int) (w : World) (hv : RI w v gs) (hu : RI w u es) (h2 : vecB es = true) (h3 : gs.length ≠ es.length) :
    Calls Try.prog 35 #[v, u] w fun e w' => e = .returned (.int .i64 (combZ gs es)) ∧ w = w' := by
  rw [combZ_no (fun q => h3 q.2.1)]
  have hn : ((gs.length : Int) != (es.length : Int)) = true := by rw [bne_iff_ne]; omega
  clear h3
  obtain ⟨A, c, rfl, _, _, _⟩ := id hv
  obtain ⟨B, d, rfl, _, _, _⟩ := id hu
  go_enter Try.func35, Try.ntmps35
  go_wp2_with fail
  refine (vecI _ es _ hu).mono ?_
  rintro e w2 ⟨rfl, rfl⟩
  rw [h2]
  go_wp2
  go_ret
  exact ⟨rfl, rfl⟩
set_option maxHeartbeats 1000000 in
theorem combI_y (v u : Value) (gs es : List Int) (w : World) (hv : RI w v gs) (hu : RI w u es) (h2 : vecB es = true) (h3 : gs.length = es.length) :
    Calls Try.prog 35 #[v, u] w fun e w' => e = .returned (.int .i64 (combZ gs es)) ∧ w = w' := by
  have hn : ((gs.length : Int) != (es.length : Int)) = false := by simp [h3]
  obtain ⟨j1, j2⟩ := vecB_facts h2
  have J1 := Lib.hid j1
  have HN : Hid (∀ k g, gs[k]? = some g → grB g = false → combZ gs es = 0) := fun k g hk hg => combZ_no (fun q => by rw [all_fail hk hg] at q; exact Bool.noConfusion q.2.2)
  have HY : Hid (gs.all grB = true → combZ gs es = pwr gs es gs.length) := fun q => combZ_yes h2 h3 q
  have hle : gs.length ≤ es.length := by omega
  have hle2 : es.length ≤ gs.length := by omega
  clear h3 j1
  obtain ⟨A, c, rfl, _, _, hA⟩ := id hv
  obtain ⟨B, d, rfl, _, _, hB⟩ := id hu
  go_enter Try.func35, Try.ntmps35
  go_wp2_with fail
  refine (vecI _ es _ hu).mono ?_
  rintro e w2 ⟨rfl, rfl⟩
  rw [h2]
  go_wp2
  go_loopg [19] gs.length (fun f i wr => ∃ k : Nat, k + f = gs.length ∧ i = .int .i64 k ∧ wr = w ∧ Hid ((gs.take k).all grB = true))
  case atStart => exact ⟨0, by omega, rfl, rfl, by show _ = _; simp⟩
  case round =>
    obtain ⟨k, hk, rfl, rfl, HA⟩ := hrel
    have hk2 : k ≤ gs.length := by omega
    have HK := Lib.hid hk
    clear hk
    by_cases hlt : k < gs.length
    · obtain ⟨b1, o1, rfl, hb1, hc1⟩ := hA (by omega)
      have hx : Hid (gs[k]? = some (gs[k]'hlt)) := List.getElem?_eq_getElem hlt
      have g1 := hc1 k _ hx
      clear hc1 hA hB
      generalize gs[k]'hlt = x at *
      have i0 : (0 : Int) ≤ (k : Int) := by omega
      have i1 : (k : Int) < (gs.length : Int) := by omega
      go_wp2_with fail
      refine (grI x _).mono ?_
      rintro e w1 ⟨rfl, rfl⟩
      cases he : grB x
      · have HF := Lib.hid (HN.out k x hx.out he)
        clear he
        go_wp2
        go_ret
        exact ⟨by rw [HF.out]; rfl, rfl⟩
      · have HF := Lib.hid (all_step hx.out HA.out he)
        clear he
        go_wp2
        go_roundg (gs.length - (k + 1))
        case measure => have := HK.out; omega
        case rel => exact ⟨k + 1, by omega, by go_num, rfl, HF⟩
    · obtain rfl : k = gs.length := by omega
      have i1 : ¬ (gs.length : Int) < (gs.length : Int) := by omega
      have ha := all_end HA.out
      have HF := Lib.hid (HY.out ha)
      have HG := Lib.hid ha
      clear ha
      go_wp2_with fail
      refine (powersI _ _ gs es _ hv hu hle (fun g hg => by have := (grB_facts (List.all_eq_true.1 HG.out g hg)).1; omega) (fun e he => (J1.out e he).1)).mono ?_
      rintro e w2 ⟨rfl, rfl⟩
      go_wp2
      go_ret
      exact ⟨by rw [HF.out]; rfl, rfl⟩
theorem combI (v u : Value) (gs es : List Int) (w : World) (hv : RI w v gs) (hu : RI w u es) :
    Calls Try.prog 35 #[v, u] w fun e w' => e = .returned (.int .i64 (combZ gs es)) ∧ w = w' := by
  cases h2 : vecB es
  · exact combI_v v u gs es w hv hu h2
  by_cases h3 : gs.length = es.length
  · exact combI_y v u gs es w hv hu h2 h3
  · exact combI_l v u gs es w hv hu h2 h3
theorem combIB (v u : Value) (gs es : List Int) (w : World) (hv : RI w v gs) (hu : RI w u es) :
    Calls Try.prog 35 #[v, u] w fun e w' => e = .returned (.int .i64 (combZ gs es)) ∧ Bel w w' :=
  (combI v u gs es w hv hu).mono fun _ _ ⟨he, hw⟩ => ⟨he, by rw [← hw]; exact Bel.refl _⟩
end Go.Proofs.Ytjlcnbicehjjjaa
