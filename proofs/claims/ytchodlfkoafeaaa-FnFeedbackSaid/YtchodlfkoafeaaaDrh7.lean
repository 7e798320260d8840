/-
  Draws of reports: l17Sinks, l17Table.
-/
import Derived.Test.YtchodlfkoafeaaaDrf
import Derived.Test.YtchodlfkoafeaaaBoxr
import Derived.Deep.RegionHeld3
namespace Go.Proofs.Ytchodlfkoafeaaa
open Go.ChangeShapes Go.WideShapes Go.ChangeAt Go.RowKit Go.Joins Go.Deep
set_option linter.unusedVariables false
set_option maxRecDepth 100000

theorem OT.mid {T : TypeId} {w w' : World} {a b base : Nat} {v : Value} {fs : List Tr} (h : OT T w base v fs) (m : Mid a b w w') (hl : b ≤ base) : OT T w' base v fs := by
  obtain ⟨hl2, h0 | ⟨g, cap, cur, rfl, hb, hh, h1, h2, h3, h4⟩⟩ := h
  · exact ⟨hl2, .inl h0⟩
  · have hB : Blk w g T cur := hh
    exact ⟨hl2, .inr ⟨g, cap, cur, rfl, hb, hB.mid m (.inr (by omega)), h1, h2, h3, h4⟩⟩
theorem OT.trn {T : TypeId} {w w' : World} {base cb : Nat} {v : Value} {fs : List Tr} (h : OT T w base v fs) (t : Trn cb w w') (hl : cb < base) : OT T w' base v fs := h.mid t.2 (by omega)

set_option maxHeartbeats 2000000 in
theorem l17SinksS (cb : Nat) (w : World) (hc : Cur w cb) :
    Calls Try.prog 65 #[.pointer (some ⟨cb, 0, none⟩)] w fun e w' => ∃ r xs, e = .returned r ∧ OI w' w.heap.size r xs ∧ xs.length ≤ 4 ∧ Trn cb w w' := by
  have hlt0 := hc.lt
  have O0 := OI.empty w
  have T0 : Trn cb w (w.alloc (.cells #[] 3)) := Trn.of hc ((Bel.refl _).alloc _)
  go_enter Try.func65, Try.ntmps65
  go_wp2_with fail
  refine (l1BelowS cb 4 _ T0.1 (by omega) (by omega)).mono ?_
  rintro e w1 ⟨y, rfl, hy, t1⟩
  have O1 := O0.trn t1 hlt0
  have T1 := T0.trans t1
  clear O0 T0 t1
  obtain ⟨n, rfl⟩ : ∃ n : Nat, y = n := ⟨y.toNat, by omega⟩
  go_wp2
  go_loopg [3, 4] n (fun f o i wr => ∃ (xs : List Int), i = .int .i64 (f : Int) ∧ f ≤ 4 ∧ OI wr w.heap.size o xs ∧ Hid (xs.length + f ≤ 4) ∧ Trn cb w wr)
  case atStart => exact ⟨[], rfl, by omega, O1, Lib.hid (by simp only [List.length_nil]; omega), T1⟩
  case round =>
    clear O1 T1
    obtain ⟨xs, rfl, hf4, O, HL, T⟩ := hrel
    by_cases hlt : 0 < gk
    · have i0 : (0 : Int) < (gk : Int) := by omega
      have hxl : xs.length ≤ 4 := by have := HL.out; omega
      go_wp2_with fail
      refine (l1BelowS cb 5 _ T.1 (by omega) (by omega)).mono ?_
      rintro e w2 ⟨y, rfl, hy2, t2⟩
      have O2 := O.trn t2 hlt0
      have T2 := T.trans t2
      have HZ2 : Hid (w.heap.size ≤ w2.heap.size) := Lib.hid T2.2.size
      go_wp2_with (at_builtin; refine wpList_appI _ rfl _ _ rfl w.heap.size _ _ xs [y] rfl rfl (O2.keep ((Bel.refl _).alloc _)) (RI.lit1 _ _ _) (by simp only [List.length_cons, List.length_nil]; omega) (by have := HZ2.out; simp; omega) ?_)
      intro v3 w3 O3 hG
      have T3 : Trn cb w w3 := T2.grown O2 hG (Nat.le_refl _) hlt0
      have hwr : IntKind.i64.wrap ((gk : Int) - 1) = ((gk - 1 : Nat) : Int) := by rw [IntWalk.i64_in _ (by omega)]; omega
      go_wp2
      go_roundg (gk - 1)
      case measure => omega
      case rel => exact ⟨xs ++ [y], by first | rfl | go_num | (congr 1; omega), by omega, O3, Lib.hid (by have := HL.out; rw [List.length_append]; simp only [List.length_cons, List.length_nil]; omega), T3⟩
    · have i1 : ¬ (0 : Int) < (gk : Int) := by omega
      have hxl : xs.length ≤ 4 := by have := HL.out; omega
      go_wp2
      go_ret
      exact ⟨_, rfl, xs, O, hxl, T⟩

theorem l17_len {fs : List Tr} {f : Tr} {m n : Nat} (h : fs.length + (n + 1) ≤ m) : (recZ fs f).length + n ≤ m := by have := recZ_len fs f; omega
set_option maxHeartbeats 4000000 in
theorem l17TableS (cb : Nat) (w : World) (hc : Cur w cb) :
    Calls Try.prog 57 #[.pointer (some ⟨cb, 0, none⟩)] w fun e w' => ∃ r fs, e = .returned (.agg #[r]) ∧ OT 43 w' w.heap.size r fs ∧ fs.length ≤ 9 ∧ Trn cb w w' := by
  have hlt0 := hc.lt
  have X0 := ((Bel.refl w).alloc (.cells #[.slice none 0 0] 40)).alloc (.cells #[.slice none 0 0] 40)
  have T0 : Trn cb w ((w.alloc (.cells #[.slice none 0 0] 40)).alloc (.cells #[.slice none 0 0] 40)) := Trn.of hc X0
  have R0 := (Blk.new w 40 #[.slice none 0 0]).alloc (.cells #[.slice none 0 0] 40)
  have K0 := Blk.new2 w (.cells #[.slice none 0 0] 40) 40 #[.slice none 0 0]
  go_enter Try.func57, Try.ntmps57
  go_wp2_with fail
  refine (l1BelowS cb 8 _ T0.1 (by omega) (by omega)).mono ?_
  rintro e w1 ⟨y, rfl, hy, t1⟩
  have R1 := R0.trn t1 hlt0
  have K1 := K0.trn t1 (by omega)
  have T1 := T0.trans t1
  clear R0 K0 T0 X0 t1
  obtain ⟨n, rfl⟩ : ∃ n : Nat, y = n := ⟨y.toNat, by omega⟩
  go_wp2
  go_loopg [4] n (fun f i wr => ∃ (v : Value) (fs : List Tr), i = .int .i64 (f : Int) ∧ f ≤ 8 ∧ Blk wr (w.heap.size + 1) 40 #[v] ∧ OT 43 wr (w.heap.size + 2) v fs ∧ Blk wr w.heap.size 40 #[.slice none 0 0] ∧ Hid (fs.length + f ≤ 8) ∧ Trn cb w wr)
  case atStart => exact ⟨_, [], rfl, by omega, K1, OT.nil _ _ _, R1, Lib.hid (by simp only [List.length_nil]; omega), T1⟩
  case round =>
    clear R1 K1 T1
    obtain ⟨v, fs, rfl, hf8, K, O, R, HL, T⟩ := hrel
    obtain ⟨A, c, rfl, _, _, _⟩ := O.reads
    by_cases hlt : 0 < gk
    · have i0 : (0 : Int) < (gk : Int) := by omega
      have hwr : IntKind.i64.wrap ((gk : Int) - 1) = ((gk - 1 : Nat) : Int) := by rw [IntWalk.i64_in _ (by omega)]; omega
      have hxl : fs.length ≤ 1048576 := by have := HL.out; omega
      have kc : wr.cell? ⟨w.heap.size + 1, 0, none⟩ = some (.slice A fs.length c) := K.facts.1 0
      go_wp2
      refine wp_region_noPanic ?_
      refine wp_region_last 4 (fun W => W.cell? ⟨w.heap.size + 1, 0, none⟩ = some (.slice A fs.length c)) (by kernel_rfl) (by kernel_rfl) kc (fun hHeld => ?_)
      refine' wpAnyH_take (i := 0) (oi := _) (v := _) ?hi1 (by kernel_rfl) (by kernel_rfl) (by kernel_rfl) (fun _ _ _ h => h) (Or.inl ⟨?hw1, ?hy1⟩) (by assumption) ?rest1
      case hi1 => simp only [List.getElem?_toArray, List.getElem?_cons_zero]; rfl
      case hw1 => rfl
      case hy1 =>
        intro W hSW
        try dsimp only at hSW
        go_simp
        try with_reducible rfl
      simp only [Act.put, List.setIfInBounds_toArray, List.set_cons_zero, List.set_cons_succ]
      refine' wpAnyH_take (i := 1) (oi := _) (v := _) ?hi2 (by kernel_rfl) (by kernel_rfl) (by kernel_rfl) (fun _ _ _ h => h) (Or.inl ⟨?hw2, ?hy2⟩) (by assumption) ?rest2
      case hi2 => simp only [List.getElem?_toArray, List.getElem?_cons_succ, List.getElem?_cons_zero]; rfl
      case hw2 => rfl
      case hy2 =>
        intro W hSW
        try dsimp only at hSW
        go_simp
        try with_reducible rfl
      simp only [Act.put, List.setIfInBounds_toArray, List.set_cons_zero, List.set_cons_succ]
      refine wpAnyH_ready (rs := [2]) (by kernel_rfl) (by simp) ?_
      refine' AllReadyH.cons (o := _) ?ho3 (fun Kq hKq => ?step3) ?more3
      case ho3 => simp only [List.getElem?_toArray, List.getElem?_cons_succ, List.getElem?_cons_zero]; rfl
      case step3 =>
        go_simp
        go_at_call 58
        have CD := (T.then (Bel.refl wr).drew).1
        with_reducible refine (l17FeedbackS cb _ CD).mono ?_
        rintro e w1 ⟨x, y, z, rfl, t1⟩
        have K1 := K.drew.trn t1 (by omega)
        have O1 := (O.keep (Bel.refl _).drew).trn t1 (by omega)
        have R1 := R.drew.trn t1 hlt0
        have T1 := (T.then (Bel.refl _).drew).trans t1
        have k1 := K1.facts.1 0
        try go_wp2_with fail
        refine hKq.out _ _ ?hS3 (fun hHeld => ?_)
        case hS3 => exact k1
        clear hKq Kq
        try simp only [Act.put, List.setIfInBounds_toArray, List.set_cons_zero, List.set_cons_succ]
        refine wpAnyH_ready (rs := [3]) (by kernel_rfl) (by simp) ?_
        refine' AllReadyH.cons (o := _) ?ho4 (fun Kq hKq => ?step4) ?more4
        case ho4 => simp only [List.getElem?_toArray, List.getElem?_cons_succ, List.getElem?_cons_zero]; rfl
        case step4 =>
          go_simp
          go_at_call 13
          with_reducible refine (recfS _ fs x y z _ O1.reads hxl).mono ?_
          rintro e w2 ⟨r, rfl, O2, b2⟩
          obtain ⟨A2, c2, er, _, _, _⟩ := O2.reads
          subst er
          have K2 := b2.keep K1
          have R2 := b2.keep R1
          have T2 := T1.then b2
          have k2 := K2.facts.1 0
          try go_wp2_with fail
          refine hKq.out _ _ ?hS4 (fun hHeld => ?_)
          case hS4 => exact k2
          clear hKq Kq
          try simp only [Act.put, List.setIfInBounds_toArray, List.set_cons_zero, List.set_cons_succ]
          refine wpAnyH_done (by kernel_rfl) ?_ _
          simp only [headPost, List.drop_succ_cons, List.drop_zero]
          obtain ⟨ck, fk, zk⟩ := K2.facts
          have K6 := K2.set 0 (.slice A2 (recZ fs (x, y, z)).length c2)
          have O6 := (O2.low (base' := w.heap.size + 2) (by have := K1.lt; omega)).setFar (p := ⟨w.heap.size + 1, 0, none⟩) (by dsimp only; omega) (.slice A2 (recZ fs (x, y, z)).length c2)
          have R6 := R2.far (p := ⟨w.heap.size + 1, 0, none⟩) (by dsimp only; omega) (.slice A2 (recZ fs (x, y, z)).length c2)
          have T6 := T2.set (p := ⟨w.heap.size + 1, 0, none⟩) (.slice A2 (recZ fs (x, y, z)).length c2) (by dsimp only; omega) (by dsimp only; omega)
          clear hHeld K1 O1 R1 T1 t1
          go_wp2_with fail
          refine NoPanic.normal ?_
          try go_wp2_with fail
          go_roundg (gk - 1)
          case measure => omega
          case rel => exact ⟨_, recZ fs (x, y, z), by first | rfl | go_num | (congr 1; omega), by omega, K6, O6, R6, Lib.hid (l17_len (by have := HL.out; omega)), T6⟩
        exact AllReadyH.nil
      exact AllReadyH.nil
    · have i1 : ¬ (0 : Int) < (gk : Int) := by omega
      have hxl : fs.length ≤ 8 := by have := HL.out; omega
      go_wp2_with fail
      refine (l1OnceS cb 8 _ T.1 (by omega) (by omega)).mono ?_
      rintro e w1 ⟨q, rfl, t1⟩
      have R1 := R.trn t1 hlt0
      have K1 := K.trn t1 (by omega)
      have O1 := O.trn t1 (by omega)
      have T1 := T.trans t1
      clear R K O T t1
      cases q
      · obtain ⟨ck, fk, zk⟩ := K1.facts
        obtain ⟨cr, fr, zr⟩ := R1.facts
        have R9 := R1.set 0 (.slice A fs.length c)
        have O9 := O1.setFar (p := ⟨w.heap.size, 0, none⟩) (by dsimp only; omega) (.slice A fs.length c)
        have T9 := T1.set (p := ⟨w.heap.size, 0, none⟩) (.slice A fs.length c) (Nat.le_refl _) hlt0
        go_wp2
        have cr9 := R9.facts.1
        clear cr fr ck fk
        refine bodyPost_ret (v := .agg #[.slice A fs.length c]) (by simp [results, Try.results57, go_sem, cr9]) rfl ?_
        exact ⟨_, _, rfl, O9.low (by omega), by omega, T9⟩
      · have kc : w1.cell? ⟨w.heap.size + 1, 0, none⟩ = some (.slice A fs.length c) := K1.facts.1 0
        go_wp2
        refine wp_region_noPanic ?_
        refine wp_region_last 7 (fun W => W.cell? ⟨w.heap.size + 1, 0, none⟩ = some (.slice A fs.length c)) (by kernel_rfl) (by kernel_rfl) kc (fun hHeld => ?_)
        refine' wpAnyH_take (i := 0) (oi := _) (v := _) ?hi5 (by kernel_rfl) (by kernel_rfl) (by kernel_rfl) (fun _ _ _ h => h) (Or.inl ⟨?hw5, ?hy5⟩) (by assumption) ?rest5
        case hi5 => simp only [List.getElem?_toArray, List.getElem?_cons_zero]; rfl
        case hw5 => rfl
        case hy5 =>
          intro W hSW
          try dsimp only at hSW
          go_simp
          try with_reducible rfl
        simp only [Act.put, List.setIfInBounds_toArray, List.set_cons_zero, List.set_cons_succ]
        refine' wpAnyH_take (i := 2) (oi := _) (v := _) ?hi6 (by kernel_rfl) (by kernel_rfl) (by kernel_rfl) (fun _ _ _ h => h) (Or.inl ⟨?hw6, ?hy6⟩) (by assumption) ?rest6
        case hi6 => simp only [List.getElem?_toArray, List.getElem?_cons_succ, List.getElem?_cons_zero]; rfl
        case hw6 => rfl
        case hy6 =>
          intro W hSW
          try dsimp only at hSW
          go_simp
          try with_reducible rfl
        simp only [Act.put, List.setIfInBounds_toArray, List.set_cons_zero, List.set_cons_succ]
        refine' wpAnyH_take (i := 1) (oi := _) (v := _) ?hi7 (by kernel_rfl) (by kernel_rfl) (by kernel_rfl) (fun _ _ _ h => h) (Or.inl ⟨?hw7, ?hy7⟩) (by assumption) ?rest7
        case hi7 => simp only [List.getElem?_toArray, List.getElem?_cons_succ, List.getElem?_cons_zero]; rfl
        case hw7 => rfl
        case hy7 =>
          intro W hSW
          try dsimp only at hSW
          go_simp
          try with_reducible rfl
        simp only [Act.put, List.setIfInBounds_toArray, List.set_cons_zero, List.set_cons_succ]
        refine wpAnyH_ready (rs := [3]) (by kernel_rfl) (by simp) ?_
        refine' AllReadyH.cons (o := _) ?ho8 (fun Kq hKq => ?step8) ?more8
        case ho8 => simp only [List.getElem?_toArray, List.getElem?_cons_succ, List.getElem?_cons_zero]; rfl
        case step8 =>
          go_simp
          go_at_call 58
          have CD := (T1.then (Bel.refl w1).drew).1
          with_reducible refine (l17FeedbackS cb _ CD).mono ?_
          rintro e w2 ⟨x, y, z, rfl, t2⟩
          have K2 := K1.drew.trn t2 (by omega)
          have O2 := (O1.keep (Bel.refl _).drew).trn t2 (by omega)
          have R2 := R1.drew.trn t2 hlt0
          have T2 := (T1.then (Bel.refl _).drew).trans t2
          have k2 := K2.facts.1 0
          have b3 := (Bel.refl w2).alloc (.cells #[.int .i64 x, .int .i64 y, .int .i64 z] 43)
          try go_wp2_with fail
          refine hKq.out _ _ ?hS8 (fun hHeld => ?_)
          case hS8 => exact k2
          clear hKq Kq
          try simp only [Act.put, List.setIfInBounds_toArray, List.set_cons_zero, List.set_cons_succ]
          refine wpAnyH_ready (rs := [4]) (by kernel_rfl) (by simp) ?_
          refine' AllReadyH.cons (o := _) ?ho9 (fun Kq hKq => ?step9) ?more9
          case ho9 => simp only [List.getElem?_toArray, List.getElem?_cons_succ, List.getElem?_cons_zero]; rfl
          case step9 =>
            go_simp
            have K3 := b3.keep K2
            have O3 := O2.keep b3
            have R3 := b3.keep R2
            have T3 := T2.then b3
            have k3 := K3.facts.1 0
            refine hKq.out _ _ ?hS9 (fun hHeld => ?_)
            case hS9 => exact k3
            clear hKq Kq
            try simp only [Act.put, List.setIfInBounds_toArray, List.set_cons_zero, List.set_cons_succ]
            refine wpAnyH_ready (rs := [5]) (by kernel_rfl) (by simp) ?_
            refine' AllReadyH.cons (o := _) ?ho10 (fun Kq hKq => ?step10) ?more10
            case ho10 => simp only [List.getElem?_toArray, List.getElem?_cons_succ, List.getElem?_cons_zero]; rfl
            case step10 =>
              refine step_appFb _ (by rfl) _ _ (by rfl) (w.heap.size + 2) _ _ fs [(x, y, z)] (by rfl) (by rfl) (by exact O3) (by exact RT.blk (Blk.new w2 _ _)) (by simp only [List.length_cons, List.length_nil]; omega) (by have := K3.lt; omega) ?_
              intro v4 w4 O4 hG
              have eLT : (fs ++ [(x, y, z)]).length = fs.length + 1 := (by simp only [List.length_append, List.length_cons, List.length_nil])
              obtain ⟨A4, c4, e4, _, _, _⟩ := O4.reads
              rw [eLT] at e4
              subst e4
              have K4 := K3.grown hG (fun e => by have := (O3.block _ e).1; omega)
              have R4 := R3.grown hG (fun e => by have := (O3.block _ e).1; omega)
              have T4 : Trn cb w w4 := T3.row hG (fun q hq => (O3.block q hq).1) (by omega) (by omega)
              have k4 := K4.facts.1 0
              refine hKq.out _ _ ?hS10 (fun hHeld => ?_)
              case hS10 => exact k4
              clear hKq Kq
              try simp only [Act.put, List.setIfInBounds_toArray, List.set_cons_zero, List.set_cons_succ]
              refine' wpAnyH_take (i := 6) (oi := _) (v := _) ?hi11 (by kernel_rfl) (by kernel_rfl) (by kernel_rfl) (fun _ _ _ h => h) (Or.inl ⟨?hw11, ?hy11⟩) (by assumption) ?rest11
              case hi11 => simp only [List.getElem?_toArray, List.getElem?_cons_succ, List.getElem?_cons_zero]; rfl
              case hw11 => rfl
              case hy11 =>
                intro W hSW
                try dsimp only at hSW
                go_simp
                try with_reducible rfl
              simp only [Act.put, List.setIfInBounds_toArray, List.set_cons_zero, List.set_cons_succ]
              refine wpAnyH_done (by kernel_rfl) ?_ _
              simp only [headPost, List.drop_succ_cons, List.drop_zero]
              obtain ⟨ck, fk, zk⟩ := K4.facts
              have K6 : Blk (w4.setCell ⟨w.heap.size + 1, 0, none⟩ (.slice A4 (fs.length + 1) c4)) (w.heap.size + 1) 40 #[.slice A4 (fs.length + 1) c4] := K4.set 0 _
              have O6 := O4.setFar (p := ⟨w.heap.size + 1, 0, none⟩) (by dsimp only; omega) (.slice A4 (fs.length + 1) c4)
              have R6 := R4.far (p := ⟨w.heap.size + 1, 0, none⟩) (by dsimp only; omega) (.slice A4 (fs.length + 1) c4)
              have T6 := T4.set (p := ⟨w.heap.size + 1, 0, none⟩) (.slice A4 (fs.length + 1) c4) (by dsimp only; omega) (by dsimp only; omega)
              clear hHeld K1 O1 R1 T1 K2 O2 R2 T2 K3 O3 R3 T3 k2 k3 t2 b3 hG kc
              go_wp2_with fail
              refine NoPanic.normal ?_
              clear ck fk K4 O4 R4 T4 k4
              obtain ⟨ck, fk, zk2⟩ := K6.facts
              obtain ⟨cr, fr, zr⟩ := R6.facts
              have R9 := R6.set 0 (.slice A4 (fs.length + 1) c4)
              have O9 := O6.setFar (p := ⟨w.heap.size, 0, none⟩) (by dsimp only; omega) (.slice A4 (fs.length + 1) c4)
              have T9 := T6.set (p := ⟨w.heap.size, 0, none⟩) (.slice A4 (fs.length + 1) c4) (Nat.le_refl _) hlt0
              go_wp2
              have cr9 := R9.facts.1
              clear cr fr ck fk
              refine bodyPost_ret (v := .agg #[.slice A4 (fs.length + 1) c4]) (by simp [results, Try.results57, go_sem, cr9]) rfl ?_
              exact ⟨_, _, rfl, O9.low (by omega), by rw [eLT]; omega, T9⟩
            exact AllReadyH.nil
          exact AllReadyH.nil
        exact AllReadyH.nil
end Go.Proofs.Ytchodlfkoafeaaa
