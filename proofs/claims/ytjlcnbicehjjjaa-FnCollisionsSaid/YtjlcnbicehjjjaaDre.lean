/-
  Draws: DrawHashVector, DrawFindCollision; sameInts of the laws. Condition: at most 2^20 bytes.
-/
import Derived.Test.YtjlcnbicehjjjaaDrd
namespace Go.Proofs.Ytjlcnbicehjjjaa
open Go.ChangeShapes Go.WideShapes Go.ChangeAt Go.RowKit Go.Joins Go.Deep
set_option linter.unusedVariables false
set_option maxRecDepth 100000

set_option maxHeartbeats 400000 in
theorem sameL (v u : Value) (xs ys : List Int) (w : World) (hv : RI w v xs) (hu : RI w u ys) :
    Calls Try.prog 27 #[v, u] w fun e w' => e = .returned (.bool (decide (xs = ys))) ∧ Bel w w' := by
  obtain ⟨A, c, rfl, h1, h2, hA⟩ := hv
  obtain ⟨B, d, rfl, h3, h4, hB⟩ := hu
  by_cases hlen : xs.length = ys.length
  · have hne : ((xs.length : Int) != (ys.length : Int)) = false := by simp [hlen]
    have hle : xs.length ≤ ys.length := by omega
    have HL := Lib.hid hlen
    clear hlen
    go_enter Try.func27, Try.ntmps27
    go_wp2
    go_loopw [5] (fun i wr => ∃ k : Nat, k ≤ xs.length ∧ i = .int .i64 k ∧ (∃ n, wr = w.drewN n) ∧ Hid (∀ j, j < k → xs[j]? = ys[j]?)) (fun i _ => xs.length - (intOf i).toNat)
    case atStart => exact ⟨0, Nat.zero_le _, rfl, ⟨0, rfl⟩, Lib.hid (fun j hj => absurd hj (by omega))⟩
    case round =>
      obtain ⟨k, hk, rfl, ⟨n, rfl⟩, HK⟩ := hrel
      by_cases hlt : k < xs.length
      · obtain ⟨b1, o1, rfl, _, hc1⟩ := hA (by omega)
        obtain ⟨b2, o2, rfl, _, hc2⟩ := hB (by omega)
        have g1 := hc1 k (xs[k]'hlt) (List.getElem?_eq_getElem hlt)
        have g2 := hc2 k (ys[k]'(by omega)) (List.getElem?_eq_getElem (by omega))
        clear hc1 hc2
        have hx : Hid (xs[k]? = some (xs[k]'hlt)) := List.getElem?_eq_getElem hlt
        have hy : Hid (ys[k]? = some (ys[k]'(by omega))) := List.getElem?_eq_getElem (by omega)
        generalize xs[k]'hlt = x at *
        generalize ys[k]'(by omega) = y at *
        have i0 : (0 : Int) ≤ (k : Int) := by omega
        have i1 : (k : Int) < (xs.length : Int) := by omega
        have i2 : (k : Int) < (ys.length : Int) := by omega
        by_cases hxy : x = y
        · subst hxy
          go_wp2
          go_quiet (fail)
          go_wp2
          go_roundw
          case rel =>
            refine ⟨k + 1, by omega, by go_num, ⟨_, rfl⟩, Lib.hid (fun j hj => ?_)⟩
            by_cases h : j = k
            · subst h; rw [hx.out, hy.out]
            · exact HK.out j (by omega)
          case measure => simp [intOf]; omega
        · have hb : (x != y) = true := by simpa using hxy
          have HX := Lib.hid hxy
          clear hxy
          go_wp2
          go_quiet (fail)
          go_wp2
          go_ret
          have hd : ¬ xs = ys := by
            intro he
            rw [he] at hx
            have := hx.out.symm.trans hy.out
            injection this with this
            exact HX.out this
          exact ⟨by rw [decide_eq_false hd]; rfl, by repeat (first | exact Bel.refl _ | apply Bel.drewN)⟩
      · have i1 : ¬ (k : Int) < (xs.length : Int) := by omega
        go_wp2
        go_ret
        have hd : xs = ys := by
          have hl := HL.out
          apply List.ext_getElem?
          intro j
          by_cases hj : j < k
          · exact HK.out j hj
          · rw [List.getElem?_eq_none (by omega), List.getElem?_eq_none (by omega)]
        exact ⟨by rw [decide_eq_true hd]; rfl, by repeat (first | exact Bel.refl _ | apply Bel.drewN)⟩
  · have hne : ((xs.length : Int) != (ys.length : Int)) = true := by
      rw [bne_iff_ne]; omega
    have HL := Lib.hid hlen
    clear hlen
    go_enter Try.func27, Try.ntmps27
    go_wp2
    go_ret
    have hd : ¬ xs = ys := fun he => HL.out (by rw [he])
    exact ⟨by rw [decide_eq_false hd]; rfl, Bel.refl _⟩
theorem l5AnyS1 (cb k : Nat) (w : World) (hc : Cur w cb) (hn : k ≤ 900) :
    Calls Try.prog 102 #[.pointer (some ⟨cb, 0, none⟩), .int .i64 (1 + (k : Int))] w fun e w' => ∃ r xs, e = .returned r ∧ OI w' w.heap.size r xs ∧ Sml xs ∧ Trn cb w w' := by
  have h := l5AnyS cb (1 + k) w hc (by omega)
  rwa [show ((1 + k : Nat) : Int) = 1 + (k : Int) from by omega] at h
set_option maxHeartbeats 2000000 in
theorem drawHvS (v : Value) (n : Nat) (w : World) (hv : RB w v n) (hn : n ≤ 1048576) :
    Calls Try.prog 65 #[v] w fun e w' => ∃ kv gs vv xs, e = .returned (.tuple #[.agg #[kv], vv]) ∧ OI w' w.heap.size kv gs ∧ OI w' w.heap.size vv xs ∧ Sml gs ∧ Sml xs ∧ Bel w w' := by
  obtain ⟨A0, c0, rfl, _, _, _⟩ := id hv
  have R0 := Blk.new w 24 #[.slice none 0 0]
  have Y0 : Bel w (w.alloc (.cells #[.slice none 0 0] 24)) := (Bel.refl _).alloc _
  go_enter Try.func65, Try.ntmps65
  go_wp2_with fail
  refine (l1NewS _ n _ (hv.keep Y0) hn).mono ?_
  rintro e w1 ⟨cb, rfl, hcb, C1, hb1⟩
  rw [World.size_alloc] at hcb
  have R1 := hb1.keep R0
  have Y1 := Y0.trans hb1
  go_wp2_with fail
  refine (l1BelowS cb 4 _ C1 (by omega) (by omega)).mono ?_
  rintro e w2 ⟨x, rfl, ⟨x0, x1⟩, t2⟩
  obtain ⟨k, rfl⟩ := Int.eq_ofNat_of_zero_le x0
  have R2 := R1.mid t2.2 (.inl (by omega))
  have Y2 := Y1.trn t2 (by omega)
  go_wp2_with fail
  refine (l18KeyS cb (1 + (k : Int)) _ t2.1 (by omega)).mono ?_
  rintro e w3 ⟨r, gs, rfl, O3, hs, t3⟩
  have R3 := R2.mid t3.2 (.inl (by omega))
  have Y3 := Y2.trn t3 (by omega)
  have hl2 := t2.1.lt
  have HS := Lib.hid hs
  obtain ⟨A, c, er, _, _, _⟩ := O3.reads
  subst er
  have K3 : Blk (w3.alloc (.cells #[.slice A gs.length c] 24)) w3.heap.size 24 #[.slice A gs.length c] := Blk.new w3 _ _
  have R4 := R3.alloc (.cells #[.slice A gs.length c] 24)
  have O4 := O3.keep ((Bel.refl w3).alloc (.cells #[.slice A gs.length c] 24))
  have C4 := t3.1.keep ((Bel.refl w3).alloc (.cells #[.slice A gs.length c] 24))
  have Y4 := Y3.alloc (.cells #[.slice A gs.length c] 24)
  have hl3 := t3.1.lt
  have hcl := hcb
  have hk4 : k < 4 := by omega
  clear hs R3 Y3 R2 Y2 R1 Y1 hb1 t2 t3 O3 R0 Y0 C1
  go_wp2
  generalize (w3.alloc (.cells #[.slice A gs.length c] 24)) = w4 at *
  generalize w3.heap.size = gk at *
  obtain ⟨ck, fk, zk⟩ := K3.facts
  obtain ⟨cr, fr, zr⟩ := R4.facts
  have rk : w4.cell? ⟨gk, 0, none⟩ = some (.slice A gs.length c) := ck 0
  have rr : w4.cell? ⟨w.heap.size, 0, none⟩ = some (.slice none 0 0) := cr 0
  have fr0 := fr 0
  clear ck fk cr fr
  go_region_law (first
    | (go_simp; go_at_call 102; refine (l5AnyS1 cb k _ (by exact C4.keep ((Bel.refl _).drew)) (by omega)).mono ?_; rintro e wT ⟨vv, xs, rfl, OT, hs5, tT⟩; have KT := (K3.drew).trn tT (by omega); have RT := (R4.drew).mid tT.2 (.inl (by omega)); have rkT : wT.cell? ⟨gk, 0, none⟩ = some (.slice A gs.length c) := KT.facts.1 0; have rrT : wT.cell? ⟨w.heap.size, 0, none⟩ = some (.slice none 0 0) := RT.facts.1 0; have frT := RT.facts.2.1 0))
  all_goals (
    have OG := (O4.keep ((Bel.refl _).drew)).trn tT (by omega)
    have OG2 := OG.setFar (p := ⟨w.heap.size, 0, none⟩) (by dsimp only; omega) (.slice A gs.length c)
    have OT2 := OT.setFar (p := ⟨w.heap.size, 0, none⟩) (by dsimp only; show w.heap.size < w4.heap.size; omega) (.slice A gs.length c)
    have YT := ((Y4.drew).trn tT (by omega)).setCell (p := ⟨w.heap.size, 0, none⟩) (Nat.le_refl _) (.slice A gs.length c)
    have RT2 : Blk (wT.setCell ⟨w.heap.size, 0, none⟩ (.slice A gs.length c)) w.heap.size 24 #[.slice A gs.length c] := RT.set 0 _
    clear KT RT rkT rrT frT rk rr fr0
    generalize wT.setCell ⟨w.heap.size, 0, none⟩ (.slice A gs.length c) = wF at *
    have cr := RT2.facts.1
    go_wp2
    refine bodyPost_ret (v := .tuple #[.agg #[.slice A gs.length c], vv]) (by simp [results, Try.results65, go_sem, cr]) rfl ?_
    first | exact ⟨_, _, _, _, rfl, OG2.low (by omega), OT2.low (by show w.heap.size ≤ w4.heap.size; omega), HS.out, hs5, YT⟩ | exact ⟨_, _, rfl, _, OG2.low (by omega), _, OT2.low (by show w.heap.size ≤ w4.heap.size; omega), HS.out, hs5, YT⟩)
theorem drawFcS (v : Value) (n : Nat) (w : World) (hv : RB w v n) (hn : n ≤ 1048576) :
    Calls Try.prog 24 #[v] w fun e w' => ∃ kv gs vv xs, e = .returned (.tuple #[.agg #[kv], vv]) ∧ OI w' w.heap.size kv gs ∧ OI w' w.heap.size vv xs ∧ Sml gs ∧ Sml xs ∧ Bel w w' := by
  obtain ⟨A0, c0, rfl, _, _, _⟩ := id hv
  have R0 := Blk.new w 24 #[.slice none 0 0]
  have Y0 : Bel w (w.alloc (.cells #[.slice none 0 0] 24)) := (Bel.refl _).alloc _
  go_enter Try.func24, Try.ntmps24
  go_wp2_with fail
  refine (drawHvS _ n _ (hv.keep Y0) hn).mono ?_
  rintro e w1 ⟨kv, gs, vv, xs, rfl, r1, r2, h1, h2, hb1⟩
  rw [World.size_alloc] at r1 r2
  have R1 := hb1.keep R0
  obtain ⟨cr0, fr, zr⟩ := R1.facts
  obtain ⟨A, c, er, _, _, _⟩ := r1.reads
  subst er
  have Y1 := (Y0.trans hb1).setCell (p := ⟨w.heap.size, 0, none⟩) (Nat.le_refl _) (.slice A gs.length c)
  have G1 := r1.setFar (p := ⟨w.heap.size, 0, none⟩) (by dsimp only; omega) (.slice A gs.length c)
  have V1 := r2.setFar (p := ⟨w.heap.size, 0, none⟩) (by dsimp only; omega) (.slice A gs.length c)
  have R2 : Blk (w1.setCell ⟨w.heap.size, 0, none⟩ (.slice A gs.length c)) w.heap.size 24 #[.slice A gs.length c] := R1.set 0 _
  go_wp2
  clear cr0 fr
  generalize w1.setCell ⟨w.heap.size, 0, none⟩ (.slice A gs.length c) = wF at *
  have cr := R2.facts.1
  refine bodyPost_ret (v := .tuple #[.agg #[.slice A gs.length c], vv]) (by simp [results, Try.results24, go_sem, cr]) rfl ?_
  exact ⟨_, _, _, _, rfl, G1.low (by omega), V1.low (by omega), h1, h2, Y1⟩
end Go.Proofs.Ytjlcnbicehjjjaa
