/-
  Draws of windows: l16Window, l16Any, DrawStartGeneration: a window of any numbers. Condition: at most 2^20 bytes.
-/
import Derived.Test.YtchodlfkoafeaaaDrc
import Derived.Test.YtchodlfkoafeaaaWin3
import Derived.Deep.RegionLaw
namespace Go.Proofs.Ytchodlfkoafeaaa
open Go.ChangeShapes Go.WideShapes Go.ChangeAt Go.RowKit Go.Joins Go.Deep
set_option linter.unusedVariables false
set_option maxRecDepth 100000

theorem endV_win (b n d t g : Int) : ∃ b' d', endV b n d t g = win b' n d' t := by
  unfold endV
  split
  · exact ⟨_, _, rfl⟩
  · exact ⟨_, _, rfl⟩
theorem Blk.set4 {w : World} {g : Nat} {T : TypeId} {a b c d : Value} (h : Blk w g T #[a, b, c, d]) (a' b' c' d' : Value) :
    Blk ((((w.setCell ⟨g, 0, none⟩ a').setCell ⟨g, 1, none⟩ b').setCell ⟨g, 2, none⟩ c').setCell ⟨g, 3, none⟩ d') g T #[a', b', c', d'] :=
  (((h.set 0 a').set 1 b').set 2 c').set 3 d'
theorem Trn.set4 {cb g : Nat} {a w : World} (t : Trn cb a w) (v0 v1 v2 v3 : Value) (hb : a.heap.size ≤ g) (hl : cb < g) :
    Trn cb a ((((w.setCell ⟨g, 0, none⟩ v0).setCell ⟨g, 1, none⟩ v1).setCell ⟨g, 2, none⟩ v2).setCell ⟨g, 3, none⟩ v3) :=
  (((t.set (p := ⟨g, 0, none⟩) v0 hb hl).set (p := ⟨g, 1, none⟩) v1 hb hl).set (p := ⟨g, 2, none⟩) v2 hb hl).set (p := ⟨g, 3, none⟩) v3 hb hl
theorem Blk.far4 {w : World} {g q : Nat} {T : TypeId} {cs : Array Value} (h : Blk w q T cs) (hne : q ≠ g) (v0 v1 v2 v3 : Value) :
    Blk ((((w.setCell ⟨g, 0, none⟩ v0).setCell ⟨g, 1, none⟩ v1).setCell ⟨g, 2, none⟩ v2).setCell ⟨g, 3, none⟩ v3) q T cs :=
  (((h.far (p := ⟨g, 0, none⟩) hne v0).far (p := ⟨g, 1, none⟩) hne v1).far (p := ⟨g, 2, none⟩) hne v2).far (p := ⟨g, 3, none⟩) hne v3
set_option maxHeartbeats 4000000 in
theorem l16WindowS (cb : Nat) (w : World) (hc : Cur w cb) :
    Calls Try.prog 89 #[.pointer (some ⟨cb, 0, none⟩)] w fun e w' => ∃ b n d t, e = .returned (win b n d t) ∧ Trn cb w w' := by
  have hlt0 := hc.lt
  have R0 := Blk.new w 61 #[.int .i64 0, .int .i64 0, .int .i64 0, .int .i64 0]
  have T0 : Trn cb w (w.alloc (.cells #[.int .i64 0, .int .i64 0, .int .i64 0, .int .i64 0] 61)) := Trn.of hc ((Bel.refl _).alloc _)
  have L := l1LitS cb [0, 1, 5, 20, 60] (w.alloc (.cells #[.int .i64 0, .int .i64 0, .int .i64 0, .int .i64 0] 61)) T0.1 (by decide) (by decide)
  rw [World.size_alloc] at L
  go_enter Try.func89, Try.ntmps89
  go_wp2_with fail
  refine L.mono ?_
  rintro e w1 ⟨x, rfl, hx, t1⟩
  have R1 := R0.trn t1 hlt0
  have T1 := T0.trans t1
  have z1 : w.heap.size + 1 ≤ w1.heap.size := by have := t1.2.size; rw [World.size_alloc] at this; exact this
  go_wp2_with fail
  refine (newS_any x _).mono ?_
  rintro e w2 ⟨rfl, hb2⟩
  have R2 := hb2.keep R1
  have T2 := T1.then hb2
  have z2 := Nat.le_trans z1 hb2.size
  generalize newT x = t at *
  have K3 : Blk (w2.alloc (.cells #[.int .i64 0, .int .i64 0, .int .i64 0, .int .i64 t] 61)) w2.heap.size 61 #[.int .i64 0, .int .i64 0, .int .i64 0, .int .i64 t] := Blk.new w2 _ _
  have R3 := R2.alloc (.cells #[.int .i64 0, .int .i64 0, .int .i64 0, .int .i64 t] 61)
  have T3 := T2.then ((Bel.refl w2).alloc (.cells #[.int .i64 0, .int .i64 0, .int .i64 0, .int .i64 t] 61))
  clear hx R0 T0 R1 T1 R2 T2 hb2 t1 z1
  unfold win
  go_wp2_with fail
  refine (l1BelowS cb 20 _ T3.1 (by omega) (by omega)).mono ?_
  rintro e w4 ⟨y, rfl, ⟨y0, y1⟩, t4⟩
  obtain ⟨m, rfl⟩ := Int.eq_ofNat_of_zero_le y0
  have K4 := K3.trn t4 (by omega)
  have R4 := R3.trn t4 hlt0
  have T4 := T3.trans t4
  clear K3 R3 T3 t4
  generalize w2.heap.size = gB at *
  go_wp2
  go_loopg [4] m (fun f i wr => ∃ (j : Nat) (b n d t : Int), j = f ∧ j < 20 ∧ i = .int .i64 j ∧ Blk wr gB 61 #[.int .i64 b, .int .i64 n, .int .i64 d, .int .i64 t] ∧ Blk wr w.heap.size 61 #[.int .i64 0, .int .i64 0, .int .i64 0, .int .i64 0] ∧ Trn cb w wr)
  case atStart => exact ⟨m, _, _, _, _, rfl, by omega, rfl, K4, R4, T4⟩
  case round =>
    clear K4 R4 T4
    obtain ⟨j, b, n, d, t, hj, hj20, rfl, K, R, T⟩ := hrel
    have HJ := Lib.hid hj
    clear hj
    obtain ⟨ck, fk, zk⟩ := K.facts
    cases j with
    | zero =>
      have i1 : ¬ (0 : Int) < ((0 : Nat) : Int) := by omega
      obtain ⟨cr, fr, zr⟩ := R.facts
      have R9 := R.set4 (.int .i64 b) (.int .i64 n) (.int .i64 d) (.int .i64 t)
      have T9 := T.set4 (g := w.heap.size) (.int .i64 b) (.int .i64 n) (.int .i64 d) (.int .i64 t) (Nat.le_refl _) hlt0
      go_wp2
      have cr9 := R9.facts.1
      clear cr fr ck fk
      refine bodyPost_ret (v := .agg #[.int .i64 b, .int .i64 n, .int .i64 d, .int .i64 t]) (by simp [results, Try.results89, go_sem, cr9]) rfl ?_
      first | exact ⟨⟨b, n, d, t, rfl⟩, T9⟩ | exact ⟨b, n, d, t, rfl, T9⟩
    | succ j =>
      have i1 : (0 : Int) < ((j + 1 : Nat) : Int) := by omega
      go_wp2_with fail
      refine (l1OnceS cb 3 _ T.1 (by omega) (by omega)).mono ?_
      rintro e w5 ⟨q, rfl, t5⟩
      have K5 := K.trn t5 (by omega)
      have R5 := R.trn t5 hlt0
      have T5 := T.trans t5
      clear ck fk zk K R T t5
      cases q
      · obtain ⟨n', g, q, hs⟩ : ∃ (n' g : Int) (q : Bool), startV b n d t = .tuple #[.agg #[.int .i64 b, .int .i64 n', .int .i64 d, .int .i64 t], .int .i64 g, .bool q] := ⟨_, _, _, rfl⟩
        have HS := Lib.hid (fun w => startS_any b n d t w)
        rw [hs] at HS
        clear hs
        unfold win at HS
        obtain ⟨ck, fk, zk⟩ := K5.facts
        go_wp2_with fail
        refine (HS.out _).mono ?_
        rintro e w6 ⟨rfl, hb6⟩
        have K6 := (hb6.keep K5).set4 (.int .i64 b) (.int .i64 n') (.int .i64 d) (.int .i64 t)
        have R6 := (hb6.keep R5).far4 (g := gB) (by omega) (.int .i64 b) (.int .i64 n') (.int .i64 d) (.int .i64 t)
        have T6 := (T5.then hb6).set4 (g := gB) (.int .i64 b) (.int .i64 n') (.int .i64 d) (.int .i64 t) (by omega) (by omega)
        obtain ⟨ck6, fk6, zk6⟩ := (hb6.keep K5).facts
        clear ck fk zk
        go_wp2
        go_roundg j
        case measure => have := HJ.out; omega
        case rel => exact ⟨j, b, n', d, t, rfl, by omega, by go_num, K6, R6, T6⟩
      · obtain ⟨ck, fk, zk⟩ := K5.facts
        have rk0 : w5.cell? ⟨gB, 0, none⟩ = some (.int .i64 b) := ck 0
        have rk1 : w5.cell? ⟨gB, 1, none⟩ = some (.int .i64 n) := ck 1
        have rk2 : w5.cell? ⟨gB, 2, none⟩ = some (.int .i64 d) := ck 2
        have rk3 : w5.cell? ⟨gB, 3, none⟩ = some (.int .i64 t) := ck 3
        have HE := Lib.hid (fun (y : Int) (W : World) => endS_any b n d t y W)
        unfold win at HE
        clear ck fk
        go_wp2
        go_region_law (first
          | (go_simp; go_at_call 63; refine (l1BelowS cb 4 _ (by exact T5.1.keep ((Bel.refl _).drew)) (by omega) (by omega)).mono ?_; rintro e wT ⟨y, rfl, hy, tT⟩; have KT := (K5.drew).trn tT (by omega); have RT := (R5.drew).trn tT hlt0; have TT := (T5.then ((Bel.refl _).drew)).trans tT; have rt0 : wT.cell? ⟨gB, 0, none⟩ = some (.int .i64 b) := KT.facts.1 0; have rt1 : wT.cell? ⟨gB, 1, none⟩ = some (.int .i64 n) := KT.facts.1 1; have rt2 : wT.cell? ⟨gB, 2, none⟩ = some (.int .i64 d) := KT.facts.1 2; have rt3 : wT.cell? ⟨gB, 3, none⟩ = some (.int .i64 t) := KT.facts.1 3)
          | (go_simp; go_at_call 92; refine (HE.out _ _).mono ?_; rintro e wU ⟨rfl, hbU⟩; obtain ⟨b', d', he'⟩ := endV_win b n d t _; rw [he']; unfold win; have KU := hbU.keep KT; have RU := hbU.keep RT; have TU := TT.then hbU; have ru0 := KU.facts.1 0; have ru1 := KU.facts.1 1; have ru2 := KU.facts.1 2; have ru3 := KU.facts.1 3; have fu0 := KU.facts.2.1 0; have fu1 := KU.facts.2.1 1; have fu2 := KU.facts.2.1 2; have fu3 := KU.facts.2.1 3))
        all_goals (
          have K6 := KU.set4 (.int .i64 b') (.int .i64 n) (.int .i64 d') (.int .i64 t)
          have R6 := RU.far4 (g := gB) (by omega) (.int .i64 b') (.int .i64 n) (.int .i64 d') (.int .i64 t)
          have T6 := TU.set4 (g := gB) (.int .i64 b') (.int .i64 n) (.int .i64 d') (.int .i64 t) (by omega) (by omega)
          clear KT RT TT rt0 rt1 rt2 rt3 KU RU TU ru0 ru1 ru2 ru3 fu0 fu1 fu2 fu3 rk0 rk1 rk2 rk3 hbU
          go_wp2
          go_roundg j
          case measure => have := HJ.out; omega
          case rel => exact ⟨j, b', n, d', t, rfl, by omega, by go_num, K6, R6, T6⟩)
end Go.Proofs.Ytchodlfkoafeaaa
