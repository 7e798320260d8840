/-
  Draws of reports: DrawRecordFeedback, DrawGenerationDone. Condition: at most 2^20 bytes.
-/
import Derived.Test.YtchodlfkoafeaaaDrh7
import Derived.Deep.RegionLaw
namespace Go.Proofs.Ytchodlfkoafeaaa
open Go.ChangeShapes Go.WideShapes Go.ChangeAt Go.RowKit Go.Joins Go.Deep
set_option linter.unusedVariables false
set_option maxRecDepth 100000

set_option maxHeartbeats 4000000 in
theorem drawRfS (v : Value) (n : Nat) (w : World) (hv : RB w v n) (hn : n ≤ 1048576) :
    Calls Try.prog 21 #[v] w fun e w' => ∃ r fs x y z, e = .returned (.tuple #[.agg #[r], .agg #[.int .i64 x, .int .i64 y, .int .i64 z]]) ∧ RT w' r fs ∧ fs.length ≤ 9 ∧ Bel w w' := by
  obtain ⟨A0, c0, rfl, _, _, _⟩ := id hv
  have R0 := (Blk.new w 40 #[.slice none 0 0]).alloc (.cells #[.int .i64 0, .int .i64 0, .int .i64 0] 43)
  have Q0 := Blk.new2 w (.cells #[.slice none 0 0] 40) 43 #[.int .i64 0, .int .i64 0, .int .i64 0]
  have Y0 : Bel w ((w.alloc (.cells #[.slice none 0 0] 40)).alloc (.cells #[.int .i64 0, .int .i64 0, .int .i64 0] 43)) := ((Bel.refl _).alloc _).alloc _
  go_enter Try.func21, Try.ntmps21
  go_wp2_with fail
  refine (l1NewS _ n _ (hv.keep Y0) hn).mono ?_
  rintro e w1 ⟨cb, rfl, hcb, C1, hb1⟩
  rw [World.size_alloc, World.size_alloc] at hcb
  have R1 := hb1.keep R0
  have Q1 := hb1.keep Q0
  have Y1 := Y0.trans hb1
  go_wp2_with fail
  refine (l17TableS cb _ C1).mono ?_
  rintro e w2 ⟨r, fs, rfl, M2, hfl, t2⟩
  have R2 := R1.mid t2.2 (.inl (by omega))
  have Q2 := Q1.mid t2.2 (.inl (by omega))
  have Y2 := Y1.trn t2 (by omega)
  have hl1 := C1.lt
  have hz2 := t2.2.size
  obtain ⟨A, c, eg, _, _, _⟩ := M2.reads
  subst eg
  have K3 : Blk (w2.alloc (.cells #[.slice A fs.length c] 40)) w2.heap.size 40 #[.slice A fs.length c] := Blk.new w2 _ _
  have R3 := R2.alloc (.cells #[.slice A fs.length c] 40)
  have Q3 := Q2.alloc (.cells #[.slice A fs.length c] 40)
  have M3 := M2.keep ((Bel.refl w2).alloc (.cells #[.slice A fs.length c] 40))
  have C3 := t2.1.keep ((Bel.refl w2).alloc (.cells #[.slice A fs.length c] 40))
  have Y3 := Y2.alloc (.cells #[.slice A fs.length c] 40)
  have hlo : w.heap.size + 2 < w1.heap.size := by omega
  have HG := Lib.hid hfl
  clear hfl R0 Q0 Y0 R1 Q1 Y1 R2 Q2 Y2 M2 hb1 C1
  go_wp2
  generalize (w2.alloc (.cells #[.slice A fs.length c] 40)) = w3 at *
  have hgB : w1.heap.size ≤ w2.heap.size := hz2
  generalize w2.heap.size = gB at *
  generalize w1.heap.size = lo at *
  have rk0 : w3.cell? ⟨gB, 0, none⟩ = some (.slice A fs.length c) := K3.facts.1 0
  have CD : Cur w3.drew cb := C3.keep ((Bel.refl _).drew)
  go_region_law (first
    | (go_simp; go_at_call 58; (with_reducible refine (l17FeedbackS cb _ CD).mono ?_); rintro e wT ⟨x, y, z, rfl, tT⟩; have KT := (K3.drew).trn tT (by omega); have RW := (R3.drew).mid tT.2 (.inl (by omega)); have QT := (Q3.drew).mid tT.2 (.inl (by omega)); have MT := (M3.keep ((Bel.refl _).drew)).mid tT.2 (by omega); have YT := (Y3.drew).trn tT (by omega); have rk0T : wT.cell? ⟨gB, 0, none⟩ = some (.slice A fs.length c) := KT.facts.1 0; have rr0 := RW.facts.1 0; have fr0 := RW.facts.2.1 0; have fq0 := QT.facts.2.1 0; have fq1 := QT.facts.2.1 1; have fq2 := QT.facts.2.1 2; have rq0 := QT.facts.1 0; have rq1 := QT.facts.1 1; have rq2 := QT.facts.1 2))
  all_goals (
    have R9 := ((((RW.set 0 (.slice A fs.length c)).far (p := ⟨w.heap.size + 1, 0, none⟩) (by dsimp only; omega) (.int .i64 x)).far (p := ⟨w.heap.size + 1, 1, none⟩) (by dsimp only; omega) (.int .i64 y)).far (p := ⟨w.heap.size + 1, 2, none⟩) (by dsimp only; omega) (.int .i64 z))
    have Q9 := ((((QT.far (p := ⟨w.heap.size, 0, none⟩) (by dsimp only; omega) (.slice A fs.length c)).set 0 (.int .i64 x)).set 1 (.int .i64 y)).set 2 (.int .i64 z))
    have M9 := ((((MT.setFar (p := ⟨w.heap.size, 0, none⟩) (by dsimp only; omega) (.slice A fs.length c)).setFar (p := ⟨w.heap.size + 1, 0, none⟩) (by dsimp only; omega) (.int .i64 x)).setFar (p := ⟨w.heap.size + 1, 1, none⟩) (by dsimp only; omega) (.int .i64 y)).setFar (p := ⟨w.heap.size + 1, 2, none⟩) (by dsimp only; omega) (.int .i64 z))
    have Y9 := ((((YT.setCell (p := ⟨w.heap.size, 0, none⟩) (Nat.le_refl _) (.slice A fs.length c)).setCell (p := ⟨w.heap.size + 1, 0, none⟩) (by dsimp only; omega) (.int .i64 x)).setCell (p := ⟨w.heap.size + 1, 1, none⟩) (by dsimp only; omega) (.int .i64 y)).setCell (p := ⟨w.heap.size + 1, 2, none⟩) (by dsimp only; omega) (.int .i64 z))
    clear KT RW QT MT YT rr0 fr0 fq0 fq1 fq2 rq0 rq1 rq2 rk0T rk0 K3 R3 Q3 M3 C3 Y3 tT CD
    generalize ((((wT.setCell ⟨w.heap.size, 0, none⟩ (.slice A fs.length c)).setCell ⟨w.heap.size + 1, 0, none⟩ (.int .i64 x)).setCell ⟨w.heap.size + 1, 1, none⟩ (.int .i64 y)).setCell ⟨w.heap.size + 1, 2, none⟩ (.int .i64 z)) = W9 at *
    have c9 := R9.facts.1
    have d9 := Q9.facts.1
    go_wp2
    refine bodyPost_ret (v := .tuple #[.agg #[.slice A fs.length c], .agg #[.int .i64 x, .int .i64 y, .int .i64 z]]) (by simp [results, Try.results21, go_sem, c9, d9]) rfl ?_
    exact ⟨_, _, _, _, _, rfl, M9.reads, HG.out, Y9⟩)

set_option maxHeartbeats 4000000 in
theorem drawGdS (v : Value) (n : Nat) (w : World) (hv : RB w v n) (hn : n ≤ 1048576) :
    Calls Try.prog 27 #[v] w fun e w' => ∃ r fs g lv sinks, e = .returned (.tuple #[.agg #[r], .int .i64 g, lv]) ∧ RT w' r fs ∧ fs.length ≤ 1048576 ∧ RI w' lv sinks ∧ Bel w w' := by
  obtain ⟨A0, c0, rfl, _, _, _⟩ := id hv
  have R0 := Blk.new w 40 #[.slice none 0 0]
  have Y0 : Bel w (w.alloc (.cells #[.slice none 0 0] 40)) := (Bel.refl _).alloc _
  go_enter Try.func27, Try.ntmps27
  go_wp2_with fail
  refine (l1NewS _ n _ (hv.keep Y0) hn).mono ?_
  rintro e w1 ⟨cb, rfl, hcb, C1, hb1⟩
  rw [World.size_alloc] at hcb
  have R1 := hb1.keep R0
  have Y1 := Y0.trans hb1
  go_wp2_with fail
  refine (l17TableS cb _ C1).mono ?_
  rintro e w2 ⟨r, fs, rfl, M2, hfl, t2⟩
  have R2 := R1.mid t2.2 (.inl (by omega))
  have Y2 := Y1.trn t2 (by omega)
  have hl1 := C1.lt
  have hz2 := t2.2.size
  obtain ⟨A, c, eg, _, _, _⟩ := M2.reads
  subst eg
  have K3 : Blk (w2.alloc (.cells #[.slice A fs.length c] 40)) w2.heap.size 40 #[.slice A fs.length c] := Blk.new w2 _ _
  have R3 := R2.alloc (.cells #[.slice A fs.length c] 40)
  have M3 := M2.keep ((Bel.refl w2).alloc (.cells #[.slice A fs.length c] 40))
  have N3 := M3.ne K3 (by decide)
  have C3 := t2.1.keep ((Bel.refl w2).alloc (.cells #[.slice A fs.length c] 40))
  have Y3 := Y2.alloc (.cells #[.slice A fs.length c] 40)
  clear R0 Y0 R1 Y1 R2 Y2 M2 hb1 C1 t2
  go_wp2_with fail
  refine (l1BelowS cb 5 _ C3 (by omega) (by omega)).mono ?_
  rintro e w4 ⟨g, rfl, hg, t4⟩
  have hgB : w1.heap.size ≤ w2.heap.size := hz2
  have K4 := K3.trn t4 (by omega)
  have R4 := R3.mid t4.2 (.inl (by omega))
  have M4 := M3.trn t4 (by omega)
  have C4 := t4.1
  have Y4 := Y3.trn t4 (by omega)
  clear K3 R3 M3 C3 Y3 t4 hz2
  generalize w2.heap.size = gB at *
  generalize w1.heap.size = lo at *
  go_wp2
  go_loopg [8] 5 (fun f i wr => ∃ (k : Nat) (v : Value) (fs : List Tr), k + f = 5 ∧ i = .int .i64 (k : Int) ∧ Blk wr gB 40 #[v] ∧ OT 43 wr lo v fs ∧ Hid (∀ q, v.ownBlock = some q → q ≠ gB) ∧ Blk wr w.heap.size 40 #[.slice none 0 0] ∧ Hid (fs.length ≤ 9 + k) ∧ Cur wr cb ∧ Bel w wr)
  case atStart => exact ⟨0, _, fs, by omega, rfl, K4, M4, Lib.hid N3, R4, Lib.hid (by omega), C4, Y4⟩
  case round =>
    clear K4 M4 N3 R4 C4 Y4 hfl
    obtain ⟨k, v, fs, hk, rfl, K, O, HN, R, HL, C, Y⟩ := hrel
    obtain ⟨A, c, rfl, _, _, _⟩ := O.reads
    have HK := Lib.hid hk
    have hk5 : k ≤ 5 := by omega
    clear hk
    have kc : wr.cell? ⟨gB, 0, none⟩ = some (.slice A fs.length c) := K.facts.1 0
    have fin : ∀ (wq : World), Cur wq cb → Blk wq gB 40 #[.slice A fs.length c] → OT 43 wq lo (.slice A fs.length c) fs → Blk wq w.heap.size 40 #[.slice none 0 0] → Bel w wq → Cur wq.drew cb := fun wq h _ _ _ _ => h.keep (Bel.refl _).drew
    by_cases hlt : k < 5
    · have i0 : (k : Int) < 5 := by omega
      have hwr : IntKind.i64.wrap ((k : Int) + 1) = ((k + 1 : Nat) : Int) := by rw [IntWalk.i64_in _ (by omega)]; omega
      have hxl : fs.length ≤ 1048576 := by have := HL.out; omega
      go_wp2_with fail
      refine (l1OnceS cb 2 _ C (by omega) (by omega)).mono ?_
      rintro e w5 ⟨q, rfl, t5⟩
      have K5 := K.trn t5 (by omega)
      have R5 := R.mid t5.2 (.inl (by omega))
      have O5 := O.trn t5 (by omega)
      have C5 := t5.1
      have Y5 := Y.trn t5 (by omega)
      clear K O R C Y t5 kc fin
      have kc5 : w5.cell? ⟨gB, 0, none⟩ = some (.slice A fs.length c) := K5.facts.1 0
      cases q
      · go_wp2
        have CD : Cur w5.drew cb := C5.keep ((Bel.refl _).drew)
        have kc6 : w5.cell? ⟨gB, 0, none⟩ = some (.slice A fs.length c) := K5.facts.1 0
        go_region_law (first
          | (go_simp; go_at_call 65; (with_reducible refine (l17SinksS cb _ CD).mono ?_); rintro e wT ⟨lv, sinks, rfl, OS, hsl, tT⟩; have KT := (K5.drew).trn tT (by omega); have RW := (R5.drew).mid tT.2 (.inl (by omega)); have MT := (O5.keep ((Bel.refl _).drew)).trn tT (by omega); have YT := (Y5.drew).trn tT (by omega); have rk0T : wT.cell? ⟨gB, 0, none⟩ = some (.slice A fs.length c) := KT.facts.1 0; have rr0 := RW.facts.1 0; have fr0 := RW.facts.2.1 0))
        all_goals (
          have hlw : w.heap.size < w5.drew.heap.size := R5.lt
          have R9 := RW.set 0 (.slice A fs.length c)
          have M9 := MT.setFar (p := ⟨w.heap.size, 0, none⟩) (by dsimp only; omega) (.slice A fs.length c)
          have S9 := OS.setFar (p := ⟨w.heap.size, 0, none⟩) (by dsimp only; omega) (.slice A fs.length c)
          have Y9 := YT.setCell (p := ⟨w.heap.size, 0, none⟩) (Nat.le_refl _) (.slice A fs.length c)
          clear KT RW MT YT rr0 fr0 rk0T kc6 K5 R5 C5 Y5 O5 tT CD OS
          generalize (wT.setCell ⟨w.heap.size, 0, none⟩ (.slice A fs.length c)) = W9 at *
          have c9 := R9.facts.1
          go_wp2
          refine bodyPost_ret (v := .tuple #[.agg #[.slice A fs.length c], .int .i64 g, lv]) (by simp [results, Try.results27, go_sem, c9]) rfl ?_
          exact ⟨_, _, _, _, _, rfl, M9.reads, hxl, S9.reads, Y9⟩)
      · go_wp2_with fail
        refine (recfS _ fs k g 0 _ O5.reads hxl).mono ?_
        rintro e w6 ⟨r, rfl, O6, b6⟩
        obtain ⟨A6, c6, e6, _, _, _⟩ := O6.reads
        subst e6
        have K6 := b6.keep K5
        have R6 := b6.keep R5
        have C6 := C5.keep b6
        have Y6 := Y5.trans b6
        have z6 := K5.lt
        have K7 := K6.set 0 (.slice A6 (recZ fs ((k : Int), g, 0)).length c6)
        have O7 := (O6.setFar (p := ⟨gB, 0, none⟩) (by dsimp only; omega) (.slice A6 (recZ fs ((k : Int), g, 0)).length c6))
        have N7 := O6.ne K6 (by decide)
        have R7 := R6.far (p := ⟨gB, 0, none⟩) (by dsimp only; omega) (.slice A6 (recZ fs ((k : Int), g, 0)).length c6)
        have C7 : Cur (w6.setCell ⟨gB, 0, none⟩ (.slice A6 (recZ fs ((k : Int), g, 0)).length c6)) cb := C6.mid (lo := gB) (hi := gB + 1) (Mid.set _ _ (Nat.le_refl _) (Nat.lt_succ_self _)) (by omega)
        have Y7 := Y6.setCell (p := ⟨gB, 0, none⟩) (by dsimp only; omega) (.slice A6 (recZ fs ((k : Int), g, 0)).length c6)
        obtain ⟨ck, fk, zk⟩ := K6.facts
        clear K5 O5 R5 C5 Y5 kc5 R6 C6 Y6
        go_wp2
        go_roundg (5 - (k + 1))
        case measure => have := HK.out; omega
        case rel => exact ⟨k + 1, _, recZ fs ((k : Int), g, 0), by omega, by first | rfl | go_num | (congr 1; omega), K7, O7.low (by omega), Lib.hid N7, R7, Lib.hid (by have := recZ_len fs ((k : Int), g, 0); have := HL.out; omega), C7, Y7⟩
    · have i0 : ¬ (k : Int) < 5 := by omega
      have w5e : ∃ w5, w5 = wr := ⟨_, rfl⟩
      have hxl : fs.length ≤ 1048576 := by have := HL.out; omega
      have K5 := K
      have O5 := O
      have R5 := R
      have C5 := C
      have Y5 := Y
      clear K O R C Y fin
      obtain ⟨w5, rfl⟩ := w5e
      go_wp2
      have CD : Cur w5.drew cb := C5.keep ((Bel.refl _).drew)
      have kc6 : w5.cell? ⟨gB, 0, none⟩ = some (.slice A fs.length c) := K5.facts.1 0
      go_region_law (first
        | (go_simp; go_at_call 65; (with_reducible refine (l17SinksS cb _ CD).mono ?_); rintro e wT ⟨lv, sinks, rfl, OS, hsl, tT⟩; have KT := (K5.drew).trn tT (by omega); have RW := (R5.drew).mid tT.2 (.inl (by omega)); have MT := (O5.keep ((Bel.refl _).drew)).trn tT (by omega); have YT := (Y5.drew).trn tT (by omega); have rk0T : wT.cell? ⟨gB, 0, none⟩ = some (.slice A fs.length c) := KT.facts.1 0; have rr0 := RW.facts.1 0; have fr0 := RW.facts.2.1 0))
      all_goals (
        have hlw : w.heap.size < w5.drew.heap.size := R5.lt
        have R9 := RW.set 0 (.slice A fs.length c)
        have M9 := MT.setFar (p := ⟨w.heap.size, 0, none⟩) (by dsimp only; omega) (.slice A fs.length c)
        have S9 := OS.setFar (p := ⟨w.heap.size, 0, none⟩) (by dsimp only; omega) (.slice A fs.length c)
        have Y9 := YT.setCell (p := ⟨w.heap.size, 0, none⟩) (Nat.le_refl _) (.slice A fs.length c)
        clear KT RW MT YT rr0 fr0 rk0T kc6 K5 R5 C5 Y5 O5 tT CD OS
        generalize (wT.setCell ⟨w.heap.size, 0, none⟩ (.slice A fs.length c)) = W9 at *
        have c9 := R9.facts.1
        go_wp2
        refine bodyPost_ret (v := .tuple #[.agg #[.slice A fs.length c], .int .i64 g, lv]) (by simp [results, Try.results27, go_sem, c9]) rfl ?_
        exact ⟨_, _, _, _, _, rfl, M9.reads, hxl, S9.reads, Y9⟩)
end Go.Proofs.Ytchodlfkoafeaaa
