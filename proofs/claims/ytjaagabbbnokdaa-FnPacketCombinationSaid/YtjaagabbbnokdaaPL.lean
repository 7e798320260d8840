/-
  l15Recoder of the reference: a contract for a valid generation: the recoder's packets are consistent.
-/
import Derived.Test.YtjaagabbbnokdaaPJ
import Derived.Test.YtjaagabbbnokdaaPK
import Derived.Test.YtjaagabbbnokdaaPH
namespace Go.Proofs.Ytjaagabbbnokdaa
open Go.ChangeShapes Go.WideShapes Go.ChangeAt Go.RowKit Go.Joins Go.Deep
set_option linter.unusedVariables false
set_option linter.unusedSimpArgs false
set_option maxRecDepth 100000

theorem Trn.set5 {cb g : Nat} {a w : World} (t : Trn cb a w) (hb : a.heap.size ≤ g) (hl : cb < g) (v0 v1 v2 v3 v4 : Value) :
    Trn cb a (((((w.setCell ⟨g, 0, none⟩ v0).setCell ⟨g, 1, none⟩ v1).setCell ⟨g, 2, none⟩ v2).setCell ⟨g, 3, none⟩ v3).setCell ⟨g, 4, none⟩ v4) :=
  ((((t.set (p := ⟨g, 0, none⟩) v0 hb hl).set (p := ⟨g, 1, none⟩) v1 hb hl).set (p := ⟨g, 2, none⟩) v2 hb hl).set (p := ⟨g, 3, none⟩) v3 hb hl).set (p := ⟨g, 4, none⟩) v4 hb hl
set_option maxHeartbeats 400000 in
theorem newRC (a b c : Int) (w : World) (h : fmtB a b c = true) : Calls Try.prog 130 #[.int .i64 a, .int .i64 b, .int .i64 c] w fun e w' => e = .returned (.agg #[.int .i64 a, .int .i64 b, .int .i64 c, .slice none 0 0, .int .i64 0]) ∧ Bel w w' := by
  go_enter Try.func130, Try.ntmps130
  go_wp2_with fail
  refine (fmtS a b c _).mono ?_
  rintro e w1 ⟨rfl, rfl⟩
  rw [h]
  go_wp2
  refine bodyPost_ret (v := .agg #[.int .i64 a, .int .i64 b, .int .i64 c, .slice none 0 0, .int .i64 0]) (by simp [results, Try.results130, go_sem]) rfl ⟨rfl, ?_⟩
  repeat (first | exact Bel.refl _ | apply Bel.alloc)
theorem szS (w : World) (p : Addr) (v : Value) : (w.setCell p v).heap.size = w.heap.size := by simp [World.setCell]
theorem Blk.at {w : World} {g g2 : Nat} {T : TypeId} {cs : Array Value} (h : Blk w g T cs) (e : g = g2) : Blk w g2 T cs := e ▸ h
theorem cons_sm {a : Int} {m : List (List Int)} (hg : gnrB a m = true) (ps : List Pk) (h : ∀ p ∈ ps, Cons a m p) : SmP ps := fun p hp => by
  obtain ⟨_, g2, g3, hm, _⟩ := gnrB_facts hg
  have h1 := h p hp
  have h2 := lcZ_row (cs := p.2.1) hm
  rw [h1.2.2, h2.1, h1.2.1.1]
  omega
theorem cons_snoc {a : Int} {m : List (List Int)} {ps ps' : List Pk} {co pl : List Int} (h : ∀ p ∈ ps, Cons a m p) (hl : co.length = m.length) (hc : In1018 co) (hp : pl = lcZ m co) (e : ps' = ps ∨ ps' = ps ++ [(a, co, pl)]) : ∀ p ∈ ps', Cons a m p := by
  rcases e with rfl | rfl
  · exact h
  · intro p hp2
    rcases List.mem_append.1 hp2 with h1 | h1
    · exact h p h1
    · rw [List.mem_singleton.1 h1]
      exact ⟨rfl, ⟨hl, fun x hx => by have := hc x hx; omega⟩, hp⟩

def L15P (cb : Nat) (a : Int) (m : List (List Int)) (w : World) (e : Ending) (w' : World) : Prop :=
  ∃ r n ps, e = .returned (.agg #[.int .i64 a, .int .i64 (m.length : Int), .int .i64 (colN m : Int), r, .int .i64 n]) ∧ MP w' w.heap.size r ps ∧ (ps.length ≤ 8 ∧ ∀ p ∈ ps, Cons a m p) ∧ Trn cb w w'
set_option maxHeartbeats 20000000 in
theorem l15rS (cb lo : Nat) (a : Int) (v : Value) (m : List (List Int)) (w : World) (hc : Cur w cb) (M : ML w lo v m) (hlo : cb < lo) (hg : gnrB a m = true) :
    Calls Try.prog 88 #[.pointer (some ⟨cb, 0, none⟩), .agg #[.int .i64 a, v]] w (L15P cb a m w) := by
  have hlt0 := hc.lt
  obtain ⟨A, c, rfl, _, _⟩ := M.shape
  obtain ⟨g1, g2, g3, g4, _⟩ := gnrB_facts hg
  have HG := Lib.hid hg
  have hfm : fmtB a (m.length : Int) (colN m : Int) = true := by
    unfold fmtB
    rw [show inB a 0 1000000000000 = true from decide_eq_true g1, show inB (m.length : Int) 1 8 = true from decide_eq_true (by omega), show inB (colN m : Int) 1 16 = true from decide_eq_true (by omega)]
    rfl
  have HNW : Hid (∀ W, Calls Try.prog 130 #[.int .i64 a, .int .i64 (m.length : Int), .int .i64 (colN m : Int)] W fun e w' => e = .returned (.agg #[.int .i64 a, .int .i64 (m.length : Int), .int .i64 (colN m : Int), .slice none 0 0, .int .i64 0]) ∧ Bel W w') := Lib.hid (fun W => newRC a (m.length : Int) (colN m : Int) W hfm)
  have HA := Lib.hid g1
  have HLC : Hid (m.length ≤ 8 ∧ colN m ≤ 16) := Lib.hid (by omega)
  have HMT := Lib.hid g4
  have HSM := Lib.hid (cons_sm hg)
  clear hg g1 g2 g3 g4 hfm
  have X0 := ((Bel.refl w).alloc (.cells #[.int .i64 a, .slice A m.length c] 41)).alloc (.cells #[.int .i64 0, .int .i64 0, .int .i64 0, .slice none 0 0, .int .i64 0] 29)
  have G0 := (Blk.new w 41 #[.int .i64 a, .slice A m.length c]).alloc (.cells #[.int .i64 0, .int .i64 0, .int .i64 0, .slice none 0 0, .int .i64 0] 29)
  have R0 := Blk.new2 w (.cells #[.int .i64 a, .slice A m.length c] 41) 29 #[.int .i64 0, .int .i64 0, .int .i64 0, .slice none 0 0, .int .i64 0]
  have M0 := M.keep X0
  have T0 : Trn cb w ((w.alloc (.cells #[.int .i64 a, .slice A m.length c] 41)).alloc (.cells #[.int .i64 0, .int .i64 0, .int .i64 0, .slice none 0 0, .int .i64 0] 29)) := Trn.of hc X0
  go_enter Try.func88, Try.ntmps88
  go_upto_region 1 with fail
  clear X0
  generalize (w.alloc (.cells #[.int .i64 a, .slice A m.length c] 41)).alloc (.cells #[.int .i64 0, .int .i64 0, .int .i64 0, .slice none 0 0, .int .i64 0] 29) = w1 at *
  have h1 : w.heap.size + 2 ≤ w1.heap.size := R0.lt
  go_cut [5] from 12 to 20 (fun s5 wx => ∃ gb : Nat, s5 = .pointer (some ⟨gb, 0, none⟩) ∧ Blk wx gb 29 #[.int .i64 a, .int .i64 (m.length : Int), .int .i64 (colN m : Int), .slice none 0 0, .int .i64 0] ∧ w1.heap.size ≤ gb ∧ Bel w1 wx)
  case first =>
    have HSW : ∀ W, Bel w1 W → W.cell? ⟨w.heap.size, 0, none⟩ = some (.int .i64 a) ∧ W.cell? ⟨w.heap.size, 1, none⟩ = some (.slice A m.length c) := fun W b => ⟨(b.keep G0).facts.1 0, (b.keep G0).facts.1 1⟩
    have B0 := (Bel.refl w1).drew
    have BZ := ((Bel.refl w1).alloc (.cells #[.int .i64 0, .int .i64 0, .int .i64 0, .slice none 0 0, .int .i64 0] 29)).drew
    have KZ := (Blk.new w1 29 #[.int .i64 0, .int .i64 0, .int .i64 0, .slice none 0 0, .int .i64 0]).drew
    refine wp_region_noPanic ?_
    refine wp_region_last 10 (fun W => W.cell? ⟨w.heap.size, 0, none⟩ = some (.int .i64 a) ∧ W.cell? ⟨w.heap.size, 1, none⟩ = some (.slice A m.length c)) (by kernel_rfl) (by kernel_rfl) (HSW _ (Bel.refl _).drew) (fun hHeld => ?_)
    refine' wpAnyH_take (i := 0) (oi := _) (v := _) ?hi1 (by kernel_rfl) (by kernel_rfl) (by kernel_rfl) (fun _ _ _ h => h) (Or.inl ⟨?hw1, ?hy1⟩) (by assumption) ?rest1
    case hi1 => simp only [List.getElem?_toArray, List.getElem?_cons_zero]; rfl
    case hw1 => rfl
    case hy1 =>
      intro W hSW
      try dsimp only at hSW
      go_simp
      try with_reducible rfl
    simp only [Act.put, List.setIfInBounds_toArray, List.set_cons_zero, List.set_cons_succ]
    refine' wpAnyH_take (i := 1) (oi := _) (v := _) ?hi2 (by kernel_rfl) (by kernel_rfl) (by kernel_rfl) (fun _ _ _ h => h) (Or.inl ⟨?hw2, ?hy2⟩) (by assumption) ?rest2
    case hi2 => simp only [List.getElem?_toArray, List.getElem?_cons_succ, List.getElem?_cons_zero]; rfl
    case hw2 => rfl
    case hy2 =>
      intro W hSW
      try dsimp only at hSW
      go_simp
      try with_reducible rfl
    simp only [Act.put, List.setIfInBounds_toArray, List.set_cons_zero, List.set_cons_succ]
    refine' wpAnyH_take (i := 2) (oi := _) (v := _) ?hi3 (by kernel_rfl) (by kernel_rfl) (by kernel_rfl) (fun _ _ _ h => h) (Or.inl ⟨?hw3, ?hy3⟩) (by assumption) ?rest3
    case hi3 => simp only [List.getElem?_toArray, List.getElem?_cons_succ, List.getElem?_cons_zero]; rfl
    case hw3 => rfl
    case hy3 =>
      intro W hSW
      try dsimp only at hSW
      go_simp
      try with_reducible rfl
    simp only [Act.put, List.setIfInBounds_toArray, List.set_cons_zero, List.set_cons_succ]
    refine' wpAnyH_take (i := 3) (oi := _) (v := _) ?hi4 (by kernel_rfl) (by kernel_rfl) (by kernel_rfl) (fun _ _ _ h => h) (Or.inl ⟨?hw4, ?hy4⟩) (by assumption) ?rest4
    case hi4 => simp only [List.getElem?_toArray, List.getElem?_cons_succ, List.getElem?_cons_zero]; rfl
    case hw4 => rfl
    case hy4 =>
      intro W hSW
      try dsimp only at hSW
      go_simp
      try with_reducible rfl
    simp only [Act.put, List.setIfInBounds_toArray, List.set_cons_zero, List.set_cons_succ]
    refine' wpAnyH_take (i := 4) (oi := _) (v := _) ?hi5 (by kernel_rfl) (by kernel_rfl) (by kernel_rfl) (fun _ _ _ h => h) (Or.inl ⟨?hw5, ?hy5⟩) (by assumption) ?rest5
    case hi5 => simp only [List.getElem?_toArray, List.getElem?_cons_succ, List.getElem?_cons_zero]; rfl
    case hw5 => rfl
    case hy5 =>
      intro W hSW
      try dsimp only at hSW
      go_simp
      try with_reducible rfl
    simp only [Act.put, List.setIfInBounds_toArray, List.set_cons_zero, List.set_cons_succ]
    refine' wpAnyH_take (i := 5) (oi := _) (v := _) ?hi6 (by kernel_rfl) (by kernel_rfl) (by kernel_rfl) (fun _ _ _ h => h) (Or.inl ⟨?hw6, ?hy6⟩) (by assumption) ?rest6
    case hi6 => simp only [List.getElem?_toArray, List.getElem?_cons_succ, List.getElem?_cons_zero]; rfl
    case hw6 => rfl
    case hy6 =>
      intro W hSW
      try dsimp only at hSW
      go_simp
      try with_reducible rfl
    simp only [Act.put, List.setIfInBounds_toArray, List.set_cons_zero, List.set_cons_succ]
    refine' wpAnyH_take (i := 6) (oi := _) (v := _) ?hi7 (by kernel_rfl) (by kernel_rfl) (by kernel_rfl) (fun _ _ _ h => h) (Or.inl ⟨?hw7, ?hy7⟩) (by assumption) ?rest7
    case hi7 => simp only [List.getElem?_toArray, List.getElem?_cons_succ, List.getElem?_cons_zero]; rfl
    case hw7 => rfl
    case hy7 =>
      intro W hSW
      try dsimp only at hSW
      go_simp
      try with_reducible rfl
    simp only [Act.put, List.setIfInBounds_toArray, List.set_cons_zero, List.set_cons_succ]
    refine wpAnyH_ready (rs := [7, 9]) (by kernel_rfl) (by simp) ?_
    refine' AllReadyH.cons (o := _) ?ho8 (fun Kq hKq => ?step8) ?more8
    case ho8 => simp only [List.getElem?_toArray, List.getElem?_cons_succ, List.getElem?_cons_zero]; rfl
    case step8 =>
      go_simp
      go_at_call 63
      with_reducible refine (colS _ m _ (M0.keep B0).reads).mono ?_
      rintro e w5 ⟨rfl, rfl⟩
      refine hKq.out _ _ ?hS8 (fun hHeld => ?_)
      case hS8 => exact HSW _ B0
      clear hKq Kq
      try simp only [Act.put, List.setIfInBounds_toArray, List.set_cons_zero, List.set_cons_succ]
      refine wpAnyH_ready (rs := [8, 9]) (by kernel_rfl) (by simp) ?_
      refine' AllReadyH.cons (o := _) ?ho9 (fun Kq hKq => ?step9) ?more9
      case ho9 => simp only [List.getElem?_toArray, List.getElem?_cons_succ, List.getElem?_cons_zero]; rfl
      case step9 =>
        go_simp
        go_at_call 130
        with_reducible refine (HNW.out _).mono ?_
        rintro e w6 ⟨rfl, b6⟩
        have B6 := B0.trans b6
        refine hKq.out _ _ ?hS9 (fun hHeld => ?_)
        case hS9 => exact HSW _ B6
        clear hKq Kq
        try simp only [Act.put, List.setIfInBounds_toArray, List.set_cons_zero, List.set_cons_succ]
        refine wpAnyH_ready (rs := [9]) (by kernel_rfl) (by simp) ?_
        refine' AllReadyH.cons (o := _) ?ho10 (fun Kq hKq => ?step10) ?more10
        case ho10 => simp only [List.getElem?_toArray, List.getElem?_cons_succ, List.getElem?_cons_zero]; rfl
        case step10 =>
          go_simp
          have B6Z := B6.alloc (.cells #[.int .i64 0, .int .i64 0, .int .i64 0, .slice none 0 0, .int .i64 0] 29)
          refine hKq.out _ _ ?hS10 (fun hHeld => ?_)
          case hS10 => exact HSW _ B6Z
          clear hKq Kq
          try simp only [Act.put, List.setIfInBounds_toArray, List.set_cons_zero, List.set_cons_succ]
          refine wpAnyH_done (by kernel_rfl) ?_ _
          simp only [headPost, List.drop_succ_cons, List.drop_zero]
          go_wp2_with fail
          refine NoPanic.normal ?_
          try go_wp2_with fail
          go_meet
          exact ⟨_, rfl, Blk.new w6 29 #[.int .i64 a, .int .i64 (m.length : Int), .int .i64 (colN m : Int), .slice none 0 0, .int .i64 0], B6.size, B6.alloc (.cells #[.int .i64 a, .int .i64 (m.length : Int), .int .i64 (colN m : Int), .slice none 0 0, .int .i64 0] 29)⟩
        exact AllReadyH.nil
      refine' AllReadyH.cons (o := _) ?ho11 (fun Kq hKq => ?step11) ?more11
      case ho11 => simp only [List.getElem?_toArray, List.getElem?_cons_succ, List.getElem?_cons_zero]; rfl
      case step11 =>
        go_simp
        refine hKq.out _ _ ?hS11 (fun hHeld => ?_)
        case hS11 => exact HSW _ BZ
        clear hKq Kq
        try simp only [Act.put, List.setIfInBounds_toArray, List.set_cons_zero, List.set_cons_succ]
        refine wpAnyH_ready (rs := [8]) (by kernel_rfl) (by simp) ?_
        refine' AllReadyH.cons (o := _) ?ho12 (fun Kq hKq => ?step12) ?more12
        case ho12 => simp only [List.getElem?_toArray, List.getElem?_cons_succ, List.getElem?_cons_zero]; rfl
        case step12 =>
          go_simp
          go_at_call 130
          with_reducible refine (HNW.out _).mono ?_
          rintro e w6 ⟨rfl, b6⟩
          have B6 := BZ.trans b6
          refine hKq.out _ _ ?hS12 (fun hHeld => ?_)
          case hS12 => exact HSW _ B6
          clear hKq Kq
          try simp only [Act.put, List.setIfInBounds_toArray, List.set_cons_zero, List.set_cons_succ]
          refine wpAnyH_done (by kernel_rfl) ?_ _
          simp only [headPost, List.drop_succ_cons, List.drop_zero]
          have K6 := b6.keep KZ
          obtain ⟨ck, fk, zk⟩ := K6.facts
          go_wp2_with fail
          refine NoPanic.normal ?_
          try go_wp2_with fail
          go_meet
          exact ⟨_, rfl, K6.set5 (.int .i64 a) (.int .i64 (m.length : Int)) (.int .i64 (colN m : Int)) (.slice none 0 0) (.int .i64 0), Nat.le_refl _, B6.set5 (g := w1.heap.size) (Nat.le_refl _) (.int .i64 a) (.int .i64 (m.length : Int)) (.int .i64 (colN m : Int)) (.slice none 0 0) (.int .i64 0)⟩
        exact AllReadyH.nil
      exact AllReadyH.nil
    refine' AllReadyH.cons (o := _) ?ho13 (fun Kq hKq => ?step13) ?more13
    case ho13 => simp only [List.getElem?_toArray, List.getElem?_cons_succ, List.getElem?_cons_zero]; rfl
    case step13 =>
      go_simp
      refine hKq.out _ _ ?hS13 (fun hHeld => ?_)
      case hS13 => exact HSW _ BZ
      clear hKq Kq
      try simp only [Act.put, List.setIfInBounds_toArray, List.set_cons_zero, List.set_cons_succ]
      refine wpAnyH_ready (rs := [7]) (by kernel_rfl) (by simp) ?_
      refine' AllReadyH.cons (o := _) ?ho14 (fun Kq hKq => ?step14) ?more14
      case ho14 => simp only [List.getElem?_toArray, List.getElem?_cons_succ, List.getElem?_cons_zero]; rfl
      case step14 =>
        go_simp
        go_at_call 63
        with_reducible refine (colS _ m _ (M0.keep BZ).reads).mono ?_
        rintro e w5 ⟨rfl, rfl⟩
        refine hKq.out _ _ ?hS14 (fun hHeld => ?_)
        case hS14 => exact HSW _ BZ
        clear hKq Kq
        try simp only [Act.put, List.setIfInBounds_toArray, List.set_cons_zero, List.set_cons_succ]
        refine wpAnyH_ready (rs := [8]) (by kernel_rfl) (by simp) ?_
        refine' AllReadyH.cons (o := _) ?ho15 (fun Kq hKq => ?step15) ?more15
        case ho15 => simp only [List.getElem?_toArray, List.getElem?_cons_succ, List.getElem?_cons_zero]; rfl
        case step15 =>
          go_simp
          go_at_call 130
          with_reducible refine (HNW.out _).mono ?_
          rintro e w6 ⟨rfl, b6⟩
          have B6 := BZ.trans b6
          refine hKq.out _ _ ?hS15 (fun hHeld => ?_)
          case hS15 => exact HSW _ B6
          clear hKq Kq
          try simp only [Act.put, List.setIfInBounds_toArray, List.set_cons_zero, List.set_cons_succ]
          refine wpAnyH_done (by kernel_rfl) ?_ _
          simp only [headPost, List.drop_succ_cons, List.drop_zero]
          have K6 := b6.keep KZ
          obtain ⟨ck, fk, zk⟩ := K6.facts
          go_wp2_with fail
          refine NoPanic.normal ?_
          try go_wp2_with fail
          go_meet
          exact ⟨_, rfl, K6.set5 (.int .i64 a) (.int .i64 (m.length : Int)) (.int .i64 (colN m : Int)) (.slice none 0 0) (.int .i64 0), Nat.le_refl _, B6.set5 (g := w1.heap.size) (Nat.le_refl _) (.int .i64 a) (.int .i64 (m.length : Int)) (.int .i64 (colN m : Int)) (.slice none 0 0) (.int .i64 0)⟩
        exact AllReadyH.nil
      exact AllReadyH.nil
    exact AllReadyH.nil
  case rest =>
    obtain ⟨gb, rfl, K1, hgb, b1⟩ := hcut
    obtain ⟨w2, hw2⟩ : ∃ x, x = wc := ⟨_, rfl⟩
    subst hw2
    have G1 := b1.keep G0
    have R1 := b1.keep R0
    have T1 := T0.then b1
    clear G0 R0 M0 T0 b1 HNW
    go_wp2_with fail
    refine (l1BelowS cb 6 _ T1.1 (by omega) (by omega)).mono ?_
    rintro e w3 ⟨y, rfl, hy, t3⟩
    have K3 := K1.trn t3 (by omega)
    have G3 := G1.trn t3 hlt0
    have R3 := R1.trn t3 (by omega)
    have T3 := T1.trans t3
    clear K1 G1 R1 T1 t3
    obtain ⟨k, rfl⟩ : ∃ k : Nat, y = k := ⟨y.toNat, by omega⟩
    go_wp2
    go_loopg [6] k (fun f i wr => ∃ (v1 : Value) (ps : List Pk) (n : Int), i = .int .i64 (f : Int) ∧ f ≤ 6 ∧ Blk wr gb 29 #[.int .i64 a, .int .i64 (m.length : Int), .int .i64 (colN m : Int), v1, .int .i64 n] ∧ MP wr (gb + 1) v1 ps ∧ Hid (ps.length ≤ 8 ∧ (0 ≤ n ∧ n ≤ 1000000000000) ∧ ∀ p ∈ ps, Cons a m p) ∧ Blk wr w.heap.size 41 #[.int .i64 a, .slice A m.length c] ∧ Blk wr (w.heap.size + 1) 29 #[.int .i64 0, .int .i64 0, .int .i64 0, .slice none 0 0, .int .i64 0] ∧ Trn cb w wr)
    case atStart => exact ⟨_, [], 0, rfl, by omega, K3, MP.nil _ _, Lib.hid ⟨by simp, by omega, by simp⟩, G3, R3, T3⟩
    case round =>
      clear K3 G3 R3 T3
      obtain ⟨v1, ps, n, rfl, hf6, K, O, HD, G, R, T⟩ := hrel
      obtain ⟨A1, c1, rfl, _, _⟩ := O.shape
      by_cases hlt : 0 < gk
      · have i0 : (0 : Int) < (gk : Int) := by omega
        have hwr : IntKind.i64.wrap ((gk : Int) - 1) = ((gk - 1 : Nat) : Int) := by rw [IntWalk.i64_in _ (by omega)]; omega
        have hgk6 : gk - 1 ≤ 6 := by omega
        have hzb := K.lt
        go_wp2_with fail
        refine (l1OnceS cb 4 _ T.1 (by omega) (by omega)).mono ?_
        rintro e w4 ⟨x, rfl, t4⟩
        have K4 := K.trn t4 (by omega)
        have G4 := G.trn t4 hlt0
        have R4 := R.trn t4 (by omega)
        have O4 := O.mid t4.2 (by omega)
        have T04 := T.trans t4
        have T4 : Trn cb w4 w4 := Trn.of t4.1 (Bel.refl w4)
        have M4 := M.mid T04.2 (by omega)
        have hw4 : w.heap.size ≤ w4.heap.size := T04.2.size
        have hb4 := K4.lt
        have hs4 : cb < w4.heap.size := by omega
        clear K G R O T t4 hzb
        cases x with
        | true =>
          go_upto_region 6 with fail
          have HSW : ∀ W, Trn cb w4 W → W.cell? ⟨gb, 0, none⟩ = some (.int .i64 a) ∧ W.cell? ⟨gb, 1, none⟩ = some (.int .i64 (m.length : Int)) ∧ W.cell? ⟨gb, 2, none⟩ = some (.int .i64 (colN m : Int)) ∧ W.cell? ⟨gb, 3, none⟩ = some (.slice A1 ps.length c1) ∧ W.cell? ⟨gb, 4, none⟩ = some (.int .i64 n) := fun W t => ⟨(K4.trn t (by omega)).facts.1 0, (K4.trn t (by omega)).facts.1 1, (K4.trn t (by omega)).facts.1 2, (K4.trn t (by omega)).facts.1 3, (K4.trn t (by omega)).facts.1 4⟩
          have TD : Trn cb w4 w4.drew := Trn.of T4.1 (Bel.refl w4).drew
          refine wp_region_noPanic ?_
          refine wp_region_last 12 (fun W => W.cell? ⟨gb, 0, none⟩ = some (.int .i64 a) ∧ W.cell? ⟨gb, 1, none⟩ = some (.int .i64 (m.length : Int)) ∧ W.cell? ⟨gb, 2, none⟩ = some (.int .i64 (colN m : Int)) ∧ W.cell? ⟨gb, 3, none⟩ = some (.slice A1 ps.length c1) ∧ W.cell? ⟨gb, 4, none⟩ = some (.int .i64 n)) (by kernel_rfl) (by kernel_rfl) (HSW _ TD) (fun hHeld => ?_)
          refine' wpAnyH_take (i := 0) (oi := _) (v := _) ?hi16 (by kernel_rfl) (by kernel_rfl) (by kernel_rfl) (fun _ _ _ h => h) (Or.inl ⟨?hw16, ?hy16⟩) (by assumption) ?rest16
          case hi16 => simp only [List.getElem?_toArray, List.getElem?_cons_zero]; rfl
          case hw16 => rfl
          case hy16 =>
            intro W hSW
            try dsimp only at hSW
            go_simp
            try with_reducible rfl
          simp only [Act.put, List.setIfInBounds_toArray, List.set_cons_zero, List.set_cons_succ]
          refine' wpAnyH_take (i := 1) (oi := _) (v := _) ?hi17 (by kernel_rfl) (by kernel_rfl) (by kernel_rfl) (fun _ _ _ h => h) (Or.inl ⟨?hw17, ?hy17⟩) (by assumption) ?rest17
          case hi17 => simp only [List.getElem?_toArray, List.getElem?_cons_succ, List.getElem?_cons_zero]; rfl
          case hw17 => rfl
          case hy17 =>
            intro W hSW
            try dsimp only at hSW
            go_simp
            try with_reducible rfl
          simp only [Act.put, List.setIfInBounds_toArray, List.set_cons_zero, List.set_cons_succ]
          refine wpAnyH_ready (rs := [2, 8, 9]) (by kernel_rfl) (by simp) ?_
          refine' AllReadyH.cons (o := _) ?ho18 (fun Kq hKq => ?step18) ?more18
          case ho18 => simp only [List.getElem?_toArray, List.getElem?_cons_succ, List.getElem?_cons_zero]; rfl
          case step18 =>
            go_simp
            have C5 := TD.1
            go_at_call 79
            with_reducible refine (l1BelowS cb 90 _ C5 (by omega) (by omega)).mono ?_
            rintro e w5 ⟨y, rfl, hy, t5⟩
            have T5 := TD.trans t5
            have hz5 : w4.heap.size ≤ w5.heap.size := T5.2.size
            refine hKq.out _ _ ?hS18 (fun hHeld => ?_)
            case hS18 => exact HSW _ T5
            clear hKq Kq
            try simp only [Act.put, List.setIfInBounds_toArray, List.set_cons_zero, List.set_cons_succ]
            refine wpAnyH_ready (rs := [3, 8, 9]) (by kernel_rfl) (by simp) ?_
            refine' AllReadyH.cons (o := _) ?ho19 (fun Kq hKq => ?step19) ?more19
            case ho19 => simp only [List.getElem?_toArray, List.getElem?_cons_succ, List.getElem?_cons_zero]; rfl
            case step19 =>
              go_simp
              have P6 := (O4.mid T5.2 (by omega)).reads
              have hy9 : 0 ≤ y ∧ y ≤ 1000 := by omega
              have hsm := HSM.out ps HD.out.2.2
              have hd1 := HD.out.1
              have hd2 := HD.out.2.1
              go_at_call 131
              with_reducible refine (rcxS a (m.length : Int) (colN m : Int) n y _ ps _ P6 hsm hd1 hy9 HA.out hd2).mono ?_
              rintro e w6 ⟨r, px, PA1, pl1, pc1, PA2, pl2, pc2, pq, n', rfl, O6, hn', b6⟩
              try simp only [World.size_alloc] at O6
              obtain ⟨A6, c6, e6, _, _⟩ := O6.shape
              subst e6
              have HN' := Lib.hid hn'
              clear hn'
              have T6 := T5.then b6
              have hz6 : w4.heap.size ≤ w6.heap.size := T6.2.size
              have hy6 : w5.heap.size ≤ w6.heap.size := by have := b6.size; (try simp only [World.size_alloc] at this); omega
              refine hKq.out _ _ ?hS19 (fun hHeld => ?_)
              case hS19 => exact HSW _ T6
              clear hKq Kq
              try simp only [Act.put, List.setIfInBounds_toArray, List.set_cons_zero, List.set_cons_succ]
              refine' wpAnyH_take (i := 4) (oi := _) (v := _) ?hi20 (by kernel_rfl) (by kernel_rfl) (by kernel_rfl) (fun _ _ _ h => h) (Or.inl ⟨?hw20, ?hy20⟩) (by assumption) ?rest20
              case hi20 => simp only [List.getElem?_toArray, List.getElem?_cons_succ, List.getElem?_cons_zero]; rfl
              case hw20 => rfl
              case hy20 =>
                intro W hSW
                try dsimp only at hSW
                go_simp
                try with_reducible rfl
              simp only [Act.put, List.setIfInBounds_toArray, List.set_cons_zero, List.set_cons_succ]
              refine' wpAnyH_take (i := 5) (oi := _) (v := _) ?hi21 (by kernel_rfl) (by kernel_rfl) (by kernel_rfl) (fun _ _ _ h => h) (Or.inl ⟨?hw21, ?hy21⟩) (by assumption) ?rest21
              case hi21 => simp only [List.getElem?_toArray, List.getElem?_cons_succ, List.getElem?_cons_zero]; rfl
              case hw21 => rfl
              case hy21 =>
                intro W hSW
                try dsimp only at hSW
                go_simp
                try with_reducible rfl
              simp only [Act.put, List.setIfInBounds_toArray, List.set_cons_zero, List.set_cons_succ]
              refine' wpAnyH_take (i := 6) (oi := _) (v := _) ?hi22 (by kernel_rfl) (by kernel_rfl) (by kernel_rfl) (fun _ _ _ h => h) (Or.inl ⟨?hw22, ?hy22⟩) (by assumption) ?rest22
              case hi22 => simp only [List.getElem?_toArray, List.getElem?_cons_succ, List.getElem?_cons_zero]; rfl
              case hw22 => rfl
              case hy22 =>
                intro W hSW
                try dsimp only at hSW
                go_simp
                try with_reducible rfl
              simp only [Act.put, List.setIfInBounds_toArray, List.set_cons_zero, List.set_cons_succ]
              refine' wpAnyH_take (i := 7) (oi := _) (v := _) ?hi23 (by kernel_rfl) (by kernel_rfl) (by kernel_rfl) (fun _ _ _ h => h) (Or.inl ⟨?hw23, ?hy23⟩) (by assumption) ?rest23
              case hi23 => simp only [List.getElem?_toArray, List.getElem?_cons_succ, List.getElem?_cons_zero]; rfl
              case hw23 => rfl
              case hy23 =>
                intro W hSW
                try dsimp only at hSW
                go_simp
                try with_reducible rfl
              simp only [Act.put, List.setIfInBounds_toArray, List.set_cons_zero, List.set_cons_succ]
              refine wpAnyH_ready (rs := [8, 9]) (by kernel_rfl) (by simp) ?_
              refine' AllReadyH.cons (o := _) ?ho24 (fun Kq hKq => ?step24) ?more24
              case ho24 => simp only [List.getElem?_toArray, List.getElem?_cons_succ, List.getElem?_cons_zero]; rfl
              case step24 =>
                go_simp
                have TA0w6 := T6.then ((Bel.refl w6).alloc (.cells #[.int .i64 0, .int .i64 0, .int .i64 0, .slice none 0 0, .int .i64 0] 29))
                refine hKq.out _ _ ?hS24 (fun hHeld => ?_)
                case hS24 => exact HSW _ TA0w6
                clear hKq Kq
                try simp only [Act.put, List.setIfInBounds_toArray, List.set_cons_zero, List.set_cons_succ]
                refine wpAnyH_ready (rs := [9]) (by kernel_rfl) (by simp) ?_
                refine' AllReadyH.cons (o := _) ?ho25 (fun Kq hKq => ?step25) ?more25
                case ho25 => simp only [List.getElem?_toArray, List.getElem?_cons_succ, List.getElem?_cons_zero]; rfl
                case step25 =>
                  go_simp
                  have TA01w6 := T6.then (((Bel.refl w6).alloc (.cells #[.int .i64 0, .int .i64 0, .int .i64 0, .slice none 0 0, .int .i64 0] 29)).alloc (.cells #[.int .i64 0, .slice none 0 0, .slice none 0 0] 63))
                  refine hKq.out _ _ ?hS25 (fun hHeld => ?_)
                  case hS25 => exact HSW _ TA01w6
                  clear hKq Kq
                  try simp only [Act.put, List.setIfInBounds_toArray, List.set_cons_zero, List.set_cons_succ]
                  have TS0 : Trn cb w4 (((w6.alloc (.cells #[.int .i64 a, .int .i64 (m.length : Int), .int .i64 (colN m : Int), .slice A6 ps.length c6, .int .i64 n'] 29)).alloc (.cells #[.int .i64 0, .slice none 0 0, .slice none 0 0] 63))) := ((T6.then ((Bel.refl _).alloc (.cells #[.int .i64 a, .int .i64 (m.length : Int), .int .i64 (colN m : Int), .slice A6 ps.length c6, .int .i64 n'] 29))).then ((Bel.refl _).alloc (.cells #[.int .i64 0, .slice none 0 0, .slice none 0 0] 63)))
                  refine wpAnyH_ready (rs := [10]) (by kernel_rfl) (by simp) ?_
                  refine' AllReadyH.cons (o := _) ?ho26 (fun Kq hKq => ?step26) ?more26
                  case ho26 => simp only [List.getElem?_toArray, List.getElem?_cons_succ, List.getElem?_cons_zero]; rfl
                  case step26 =>
                    go_simp
                    refine hKq.out _ _ ?hS26 (fun hHeld => ?_)
                    case hS26 => exact HSW _ TS0
                    clear hKq Kq
                    try simp only [Act.put, List.setIfInBounds_toArray, List.set_cons_zero, List.set_cons_succ]
                    have TS1 : Trn cb w4 (((w6.alloc (.cells #[.int .i64 a, .int .i64 (m.length : Int), .int .i64 (colN m : Int), .slice A6 ps.length c6, .int .i64 n'] 29)).alloc (.cells #[.int .i64 px, .slice PA1 pl1 pc1, .slice PA2 pl2 pc2] 63))) := ((T6.then ((Bel.refl _).alloc (.cells #[.int .i64 a, .int .i64 (m.length : Int), .int .i64 (colN m : Int), .slice A6 ps.length c6, .int .i64 n'] 29))).then ((Bel.refl _).alloc (.cells #[.int .i64 px, .slice PA1 pl1 pc1, .slice PA2 pl2 pc2] 63)))
                    refine wpAnyH_ready (rs := [11]) (by kernel_rfl) (by simp) ?_
                    refine' AllReadyH.cons (o := _) ?ho27 (fun Kq hKq => ?step27) ?more27
                    case ho27 => simp only [List.getElem?_toArray, List.getElem?_cons_succ, List.getElem?_cons_zero]; rfl
                    case step27 =>
                      go_simp
                      refine hKq.out _ _ ?hS27 (fun hHeld => ?_)
                      case hS27 => exact HSW _ TS1
                      clear hKq Kq
                      try simp only [Act.put, List.setIfInBounds_toArray, List.set_cons_zero, List.set_cons_succ]
                      refine wpAnyH_done (by kernel_rfl) ?_ _
                      simp only [headPost, List.drop_succ_cons, List.drop_zero]
                      have KF : Blk (((w6.alloc (.cells #[.int .i64 a, .int .i64 (m.length : Int), .int .i64 (colN m : Int), .slice A6 ps.length c6, .int .i64 n'] 29)).alloc (.cells #[.int .i64 px, .slice PA1 pl1 pc1, .slice PA2 pl2 pc2] 63))) (w6.heap.size) 29 #[.int .i64 a, .int .i64 (m.length : Int), .int .i64 (colN m : Int), .slice A6 ps.length c6, .int .i64 n'] := ((Blk.new w6 29 #[.int .i64 a, .int .i64 (m.length : Int), .int .i64 (colN m : Int), .slice A6 ps.length c6, .int .i64 n']).alloc (.cells #[.int .i64 px, .slice PA1 pl1 pc1, .slice PA2 pl2 pc2] 63))
                      have OF : MP (((w6.alloc (.cells #[.int .i64 a, .int .i64 (m.length : Int), .int .i64 (colN m : Int), .slice A6 ps.length c6, .int .i64 n'] 29)).alloc (.cells #[.int .i64 px, .slice PA1 pl1 pc1, .slice PA2 pl2 pc2] 63))) _ _ _ := ((O6.keep ((Bel.refl _).alloc (.cells #[.int .i64 a, .int .i64 (m.length : Int), .int .i64 (colN m : Int), .slice A6 ps.length c6, .int .i64 n'] 29))).keep ((Bel.refl _).alloc (.cells #[.int .i64 px, .slice PA1 pl1 pc1, .slice PA2 pl2 pc2] 63)))
                      have TF : Trn cb w4 (((w6.alloc (.cells #[.int .i64 a, .int .i64 (m.length : Int), .int .i64 (colN m : Int), .slice A6 ps.length c6, .int .i64 n'] 29)).alloc (.cells #[.int .i64 px, .slice PA1 pl1 pc1, .slice PA2 pl2 pc2] 63))) := ((T6.then ((Bel.refl _).alloc (.cells #[.int .i64 a, .int .i64 (m.length : Int), .int .i64 (colN m : Int), .slice A6 ps.length c6, .int .i64 n'] 29))).then ((Bel.refl _).alloc (.cells #[.int .i64 px, .slice PA1 pl1 pc1, .slice PA2 pl2 pc2] 63)))
                      have hgF : w4.heap.size ≤ w6.heap.size := by omega
                      have OFL := OF.low (lo' := gb + 1) (by omega)
                      clear OF
                      generalize ((w6.alloc (.cells #[.int .i64 a, .int .i64 (m.length : Int), .int .i64 (colN m : Int), .slice A6 ps.length c6, .int .i64 n'] 29)).alloc (.cells #[.int .i64 px, .slice PA1 pl1 pc1, .slice PA2 pl2 pc2] 63)) = w9 at *
                      generalize w6.heap.size = g9 at *
                      clear hHeld
                      have K9 := K4.trn TF (by omega)
                      have G9 := G4.trn TF hlt0
                      have R9 := R4.trn TF (by omega)
                      have T9 := T04.trans TF
                      have hcc : cb < gb := by omega
                      clear HSW TD K4 G4 R4 T4 O4 M4 TF
                      obtain ⟨cf, ff, zf⟩ := KF.facts
                      obtain ⟨ck, fk, zk⟩ := K9.facts
                      have K10 := K9.set5 (.int .i64 a) (.int .i64 (m.length : Int)) (.int .i64 (colN m : Int)) (.slice A6 ps.length c6) (.int .i64 n')
                      have G10 := G9.far5 (b := gb) (by omega) (.int .i64 a) (.int .i64 (m.length : Int)) (.int .i64 (colN m : Int)) (.slice A6 ps.length c6) (.int .i64 n')
                      have R10 := R9.far5 (b := gb) (by omega) (.int .i64 a) (.int .i64 (m.length : Int)) (.int .i64 (colN m : Int)) (.slice A6 ps.length c6) (.int .i64 n')
                      have O10 := OFL.set5 (g := gb) (by omega) (.int .i64 a) (.int .i64 (m.length : Int)) (.int .i64 (colN m : Int)) (.slice A6 ps.length c6) (.int .i64 n')
                      have T10 := T9.set5 (g := gb) (by omega) (by omega) (.int .i64 a) (.int .i64 (m.length : Int)) (.int .i64 (colN m : Int)) (.slice A6 ps.length c6) (.int .i64 n')
                      go_wp2_with fail
                      refine NoPanic.normal ?_
                      go_wp2
                      go_roundg (gk - 1)
                      case measure => exact Nat.sub_lt hlt (by decide)
                      case rel => exact ⟨_, ps, n', by first | rfl | go_num, hgk6, K10, O10, Lib.hid ⟨HD.out.1, HN'.out, HD.out.2.2⟩, G10, R10, T10⟩
                    exact AllReadyH.nil
                  exact AllReadyH.nil
                exact AllReadyH.nil
              refine' AllReadyH.cons (o := _) ?ho28 (fun Kq hKq => ?step28) ?more28
              case ho28 => simp only [List.getElem?_toArray, List.getElem?_cons_succ, List.getElem?_cons_zero]; rfl
              case step28 =>
                go_simp
                have TA1w6 := T6.then ((Bel.refl w6).alloc (.cells #[.int .i64 0, .slice none 0 0, .slice none 0 0] 63))
                refine hKq.out _ _ ?hS28 (fun hHeld => ?_)
                case hS28 => exact HSW _ TA1w6
                clear hKq Kq
                try simp only [Act.put, List.setIfInBounds_toArray, List.set_cons_zero, List.set_cons_succ]
                refine wpAnyH_ready (rs := [8]) (by kernel_rfl) (by simp) ?_
                refine' AllReadyH.cons (o := _) ?ho29 (fun Kq hKq => ?step29) ?more29
                case ho29 => simp only [List.getElem?_toArray, List.getElem?_cons_succ, List.getElem?_cons_zero]; rfl
                case step29 =>
                  go_simp
                  have TA10w6 := T6.then (((Bel.refl w6).alloc (.cells #[.int .i64 0, .slice none 0 0, .slice none 0 0] 63)).alloc (.cells #[.int .i64 0, .int .i64 0, .int .i64 0, .slice none 0 0, .int .i64 0] 29))
                  refine hKq.out _ _ ?hS29 (fun hHeld => ?_)
                  case hS29 => exact HSW _ TA10w6
                  clear hKq Kq
                  try simp only [Act.put, List.setIfInBounds_toArray, List.set_cons_zero, List.set_cons_succ]
                  have TS0 : Trn cb w4 (((w6.alloc (.cells #[.int .i64 0, .slice none 0 0, .slice none 0 0] 63)).alloc (.cells #[.int .i64 a, .int .i64 (m.length : Int), .int .i64 (colN m : Int), .slice A6 ps.length c6, .int .i64 n'] 29))) := ((T6.then ((Bel.refl _).alloc (.cells #[.int .i64 0, .slice none 0 0, .slice none 0 0] 63))).then ((Bel.refl _).alloc (.cells #[.int .i64 a, .int .i64 (m.length : Int), .int .i64 (colN m : Int), .slice A6 ps.length c6, .int .i64 n'] 29)))
                  refine wpAnyH_ready (rs := [10]) (by kernel_rfl) (by simp) ?_
                  refine' AllReadyH.cons (o := _) ?ho30 (fun Kq hKq => ?step30) ?more30
                  case ho30 => simp only [List.getElem?_toArray, List.getElem?_cons_succ, List.getElem?_cons_zero]; rfl
                  case step30 =>
                    go_simp
                    refine hKq.out _ _ ?hS30 (fun hHeld => ?_)
                    case hS30 => exact HSW _ TS0
                    clear hKq Kq
                    try simp only [Act.put, List.setIfInBounds_toArray, List.set_cons_zero, List.set_cons_succ]
                    have TS1 : Trn cb w4 (((w6.alloc (.cells #[.int .i64 px, .slice PA1 pl1 pc1, .slice PA2 pl2 pc2] 63)).alloc (.cells #[.int .i64 a, .int .i64 (m.length : Int), .int .i64 (colN m : Int), .slice A6 ps.length c6, .int .i64 n'] 29))) := ((T6.then ((Bel.refl _).alloc (.cells #[.int .i64 px, .slice PA1 pl1 pc1, .slice PA2 pl2 pc2] 63))).then ((Bel.refl _).alloc (.cells #[.int .i64 a, .int .i64 (m.length : Int), .int .i64 (colN m : Int), .slice A6 ps.length c6, .int .i64 n'] 29)))
                    refine wpAnyH_ready (rs := [11]) (by kernel_rfl) (by simp) ?_
                    refine' AllReadyH.cons (o := _) ?ho31 (fun Kq hKq => ?step31) ?more31
                    case ho31 => simp only [List.getElem?_toArray, List.getElem?_cons_succ, List.getElem?_cons_zero]; rfl
                    case step31 =>
                      go_simp
                      refine hKq.out _ _ ?hS31 (fun hHeld => ?_)
                      case hS31 => exact HSW _ TS1
                      clear hKq Kq
                      try simp only [Act.put, List.setIfInBounds_toArray, List.set_cons_zero, List.set_cons_succ]
                      refine wpAnyH_done (by kernel_rfl) ?_ _
                      simp only [headPost, List.drop_succ_cons, List.drop_zero]
                      have KF : Blk (((w6.alloc (.cells #[.int .i64 px, .slice PA1 pl1 pc1, .slice PA2 pl2 pc2] 63)).alloc (.cells #[.int .i64 a, .int .i64 (m.length : Int), .int .i64 (colN m : Int), .slice A6 ps.length c6, .int .i64 n'] 29))) (w6.heap.size + 1) 29 #[.int .i64 a, .int .i64 (m.length : Int), .int .i64 (colN m : Int), .slice A6 ps.length c6, .int .i64 n'] := (Blk.new2 w6 (.cells #[.int .i64 px, .slice PA1 pl1 pc1, .slice PA2 pl2 pc2] 63) 29 #[.int .i64 a, .int .i64 (m.length : Int), .int .i64 (colN m : Int), .slice A6 ps.length c6, .int .i64 n'])
                      have OF : MP (((w6.alloc (.cells #[.int .i64 px, .slice PA1 pl1 pc1, .slice PA2 pl2 pc2] 63)).alloc (.cells #[.int .i64 a, .int .i64 (m.length : Int), .int .i64 (colN m : Int), .slice A6 ps.length c6, .int .i64 n'] 29))) _ _ _ := ((O6.keep ((Bel.refl _).alloc (.cells #[.int .i64 px, .slice PA1 pl1 pc1, .slice PA2 pl2 pc2] 63))).keep ((Bel.refl _).alloc (.cells #[.int .i64 a, .int .i64 (m.length : Int), .int .i64 (colN m : Int), .slice A6 ps.length c6, .int .i64 n'] 29)))
                      have TF : Trn cb w4 (((w6.alloc (.cells #[.int .i64 px, .slice PA1 pl1 pc1, .slice PA2 pl2 pc2] 63)).alloc (.cells #[.int .i64 a, .int .i64 (m.length : Int), .int .i64 (colN m : Int), .slice A6 ps.length c6, .int .i64 n'] 29))) := ((T6.then ((Bel.refl _).alloc (.cells #[.int .i64 px, .slice PA1 pl1 pc1, .slice PA2 pl2 pc2] 63))).then ((Bel.refl _).alloc (.cells #[.int .i64 a, .int .i64 (m.length : Int), .int .i64 (colN m : Int), .slice A6 ps.length c6, .int .i64 n'] 29)))
                      have hgF : w4.heap.size ≤ w6.heap.size + 1 := by omega
                      have OFL := OF.low (lo' := gb + 1) (by omega)
                      clear OF
                      generalize ((w6.alloc (.cells #[.int .i64 px, .slice PA1 pl1 pc1, .slice PA2 pl2 pc2] 63)).alloc (.cells #[.int .i64 a, .int .i64 (m.length : Int), .int .i64 (colN m : Int), .slice A6 ps.length c6, .int .i64 n'] 29)) = w9 at *
                      generalize w6.heap.size + 1 = g9 at *
                      clear hHeld
                      have K9 := K4.trn TF (by omega)
                      have G9 := G4.trn TF hlt0
                      have R9 := R4.trn TF (by omega)
                      have T9 := T04.trans TF
                      have hcc : cb < gb := by omega
                      clear HSW TD K4 G4 R4 T4 O4 M4 TF
                      obtain ⟨cf, ff, zf⟩ := KF.facts
                      obtain ⟨ck, fk, zk⟩ := K9.facts
                      have K10 := K9.set5 (.int .i64 a) (.int .i64 (m.length : Int)) (.int .i64 (colN m : Int)) (.slice A6 ps.length c6) (.int .i64 n')
                      have G10 := G9.far5 (b := gb) (by omega) (.int .i64 a) (.int .i64 (m.length : Int)) (.int .i64 (colN m : Int)) (.slice A6 ps.length c6) (.int .i64 n')
                      have R10 := R9.far5 (b := gb) (by omega) (.int .i64 a) (.int .i64 (m.length : Int)) (.int .i64 (colN m : Int)) (.slice A6 ps.length c6) (.int .i64 n')
                      have O10 := OFL.set5 (g := gb) (by omega) (.int .i64 a) (.int .i64 (m.length : Int)) (.int .i64 (colN m : Int)) (.slice A6 ps.length c6) (.int .i64 n')
                      have T10 := T9.set5 (g := gb) (by omega) (by omega) (.int .i64 a) (.int .i64 (m.length : Int)) (.int .i64 (colN m : Int)) (.slice A6 ps.length c6) (.int .i64 n')
                      go_wp2_with fail
                      refine NoPanic.normal ?_
                      go_wp2
                      go_roundg (gk - 1)
                      case measure => exact Nat.sub_lt hlt (by decide)
                      case rel => exact ⟨_, ps, n', by first | rfl | go_num, hgk6, K10, O10, Lib.hid ⟨HD.out.1, HN'.out, HD.out.2.2⟩, G10, R10, T10⟩
                    exact AllReadyH.nil
                  exact AllReadyH.nil
                exact AllReadyH.nil
              exact AllReadyH.nil
            refine' AllReadyH.cons (o := _) ?ho32 (fun Kq hKq => ?step32) ?more32
            case ho32 => simp only [List.getElem?_toArray, List.getElem?_cons_succ, List.getElem?_cons_zero]; rfl
            case step32 =>
              go_simp
              have TA0w5 := T5.then ((Bel.refl w5).alloc (.cells #[.int .i64 0, .int .i64 0, .int .i64 0, .slice none 0 0, .int .i64 0] 29))
              refine hKq.out _ _ ?hS32 (fun hHeld => ?_)
              case hS32 => exact HSW _ TA0w5
              clear hKq Kq
              try simp only [Act.put, List.setIfInBounds_toArray, List.set_cons_zero, List.set_cons_succ]
              refine wpAnyH_ready (rs := [3, 9]) (by kernel_rfl) (by simp) ?_
              refine' AllReadyH.cons (o := _) ?ho33 (fun Kq hKq => ?step33) ?more33
              case ho33 => simp only [List.getElem?_toArray, List.getElem?_cons_succ, List.getElem?_cons_zero]; rfl
              case step33 =>
                go_simp
                have P6 := (O4.mid TA0w5.2 (by omega)).reads
                have hy9 : 0 ≤ y ∧ y ≤ 1000 := by omega
                have hsm := HSM.out ps HD.out.2.2
                have hd1 := HD.out.1
                have hd2 := HD.out.2.1
                go_at_call 131
                with_reducible refine (rcxS a (m.length : Int) (colN m : Int) n y _ ps _ P6 hsm hd1 hy9 HA.out hd2).mono ?_
                rintro e w6 ⟨r, px, PA1, pl1, pc1, PA2, pl2, pc2, pq, n', rfl, O6, hn', b6⟩
                try simp only [World.size_alloc] at O6
                obtain ⟨A6, c6, e6, _, _⟩ := O6.shape
                subst e6
                have HN' := Lib.hid hn'
                clear hn'
                have T6 := TA0w5.then b6
                have hz6 : w4.heap.size ≤ w6.heap.size := T6.2.size
                have hy6 : w5.heap.size ≤ w6.heap.size := by have := b6.size; (try simp only [World.size_alloc] at this); omega
                have hx6 : w5.heap.size + 1 ≤ w6.heap.size := by have := b6.size; (try simp only [World.size_alloc] at this); first | omega | exact Nat.le_trans (by simp [World.drew, World.size_alloc]) this
                have KB06 := b6.keep ((Blk.new w5 29 #[.int .i64 0, .int .i64 0, .int .i64 0, .slice none 0 0, .int .i64 0]))
                refine hKq.out _ _ ?hS33 (fun hHeld => ?_)
                case hS33 => exact HSW _ T6
                clear hKq Kq
                try simp only [Act.put, List.setIfInBounds_toArray, List.set_cons_zero, List.set_cons_succ]
                refine' wpAnyH_take (i := 4) (oi := _) (v := _) ?hi34 (by kernel_rfl) (by kernel_rfl) (by kernel_rfl) (fun _ _ _ h => h) (Or.inl ⟨?hw34, ?hy34⟩) (by assumption) ?rest34
                case hi34 => simp only [List.getElem?_toArray, List.getElem?_cons_succ, List.getElem?_cons_zero]; rfl
                case hw34 => rfl
                case hy34 =>
                  intro W hSW
                  try dsimp only at hSW
                  go_simp
                  try with_reducible rfl
                simp only [Act.put, List.setIfInBounds_toArray, List.set_cons_zero, List.set_cons_succ]
                refine' wpAnyH_take (i := 5) (oi := _) (v := _) ?hi35 (by kernel_rfl) (by kernel_rfl) (by kernel_rfl) (fun _ _ _ h => h) (Or.inl ⟨?hw35, ?hy35⟩) (by assumption) ?rest35
                case hi35 => simp only [List.getElem?_toArray, List.getElem?_cons_succ, List.getElem?_cons_zero]; rfl
                case hw35 => rfl
                case hy35 =>
                  intro W hSW
                  try dsimp only at hSW
                  go_simp
                  try with_reducible rfl
                simp only [Act.put, List.setIfInBounds_toArray, List.set_cons_zero, List.set_cons_succ]
                refine' wpAnyH_take (i := 6) (oi := _) (v := _) ?hi36 (by kernel_rfl) (by kernel_rfl) (by kernel_rfl) (fun _ _ _ h => h) (Or.inl ⟨?hw36, ?hy36⟩) (by assumption) ?rest36
                case hi36 => simp only [List.getElem?_toArray, List.getElem?_cons_succ, List.getElem?_cons_zero]; rfl
                case hw36 => rfl
                case hy36 =>
                  intro W hSW
                  try dsimp only at hSW
                  go_simp
                  try with_reducible rfl
                simp only [Act.put, List.setIfInBounds_toArray, List.set_cons_zero, List.set_cons_succ]
                refine' wpAnyH_take (i := 7) (oi := _) (v := _) ?hi37 (by kernel_rfl) (by kernel_rfl) (by kernel_rfl) (fun _ _ _ h => h) (Or.inl ⟨?hw37, ?hy37⟩) (by assumption) ?rest37
                case hi37 => simp only [List.getElem?_toArray, List.getElem?_cons_succ, List.getElem?_cons_zero]; rfl
                case hw37 => rfl
                case hy37 =>
                  intro W hSW
                  try dsimp only at hSW
                  go_simp
                  try with_reducible rfl
                simp only [Act.put, List.setIfInBounds_toArray, List.set_cons_zero, List.set_cons_succ]
                refine wpAnyH_ready (rs := [9]) (by kernel_rfl) (by simp) ?_
                refine' AllReadyH.cons (o := _) ?ho38 (fun Kq hKq => ?step38) ?more38
                case ho38 => simp only [List.getElem?_toArray, List.getElem?_cons_succ, List.getElem?_cons_zero]; rfl
                case step38 =>
                  go_simp
                  have TA1w6 := T6.then ((Bel.refl w6).alloc (.cells #[.int .i64 0, .slice none 0 0, .slice none 0 0] 63))
                  refine hKq.out _ _ ?hS38 (fun hHeld => ?_)
                  case hS38 => exact HSW _ TA1w6
                  clear hKq Kq
                  try simp only [Act.put, List.setIfInBounds_toArray, List.set_cons_zero, List.set_cons_succ]
                  have TS0 : Trn cb w4 (((((((w6.setCell ⟨w5.heap.size, 0, none⟩ (.int .i64 a)).setCell ⟨w5.heap.size, 1, none⟩ (.int .i64 (m.length : Int))).setCell ⟨w5.heap.size, 2, none⟩ (.int .i64 (colN m : Int))).setCell ⟨w5.heap.size, 3, none⟩ (.slice A6 ps.length c6)).setCell ⟨w5.heap.size, 4, none⟩ (.int .i64 n')).alloc (.cells #[.int .i64 0, .slice none 0 0, .slice none 0 0] 63))) := ((((((T6.set (p := ⟨w5.heap.size, 0, none⟩) (.int .i64 a) (by dsimp only; omega) (by dsimp only; omega)).set (p := ⟨w5.heap.size, 1, none⟩) (.int .i64 (m.length : Int)) (by dsimp only; omega) (by dsimp only; omega)).set (p := ⟨w5.heap.size, 2, none⟩) (.int .i64 (colN m : Int)) (by dsimp only; omega) (by dsimp only; omega)).set (p := ⟨w5.heap.size, 3, none⟩) (.slice A6 ps.length c6) (by dsimp only; omega) (by dsimp only; omega)).set (p := ⟨w5.heap.size, 4, none⟩) (.int .i64 n') (by dsimp only; omega) (by dsimp only; omega)).then ((Bel.refl _).alloc (.cells #[.int .i64 0, .slice none 0 0, .slice none 0 0] 63)))
                  obtain ⟨ck0, fk0, zk0⟩ := KB06.facts
                  refine wpAnyH_ready (rs := [10]) (by kernel_rfl) (by simp) ?_
                  refine' AllReadyH.cons (o := _) ?ho39 (fun Kq hKq => ?step39) ?more39
                  case ho39 => simp only [List.getElem?_toArray, List.getElem?_cons_succ, List.getElem?_cons_zero]; rfl
                  case step39 =>
                    go_simp
                    refine hKq.out _ _ ?hS39 (fun hHeld => ?_)
                    case hS39 => exact HSW _ TS0
                    clear hKq Kq
                    try simp only [Act.put, List.setIfInBounds_toArray, List.set_cons_zero, List.set_cons_succ]
                    have TS1 : Trn cb w4 (((((((w6.setCell ⟨w5.heap.size, 0, none⟩ (.int .i64 a)).setCell ⟨w5.heap.size, 1, none⟩ (.int .i64 (m.length : Int))).setCell ⟨w5.heap.size, 2, none⟩ (.int .i64 (colN m : Int))).setCell ⟨w5.heap.size, 3, none⟩ (.slice A6 ps.length c6)).setCell ⟨w5.heap.size, 4, none⟩ (.int .i64 n')).alloc (.cells #[.int .i64 px, .slice PA1 pl1 pc1, .slice PA2 pl2 pc2] 63))) := ((((((T6.set (p := ⟨w5.heap.size, 0, none⟩) (.int .i64 a) (by dsimp only; omega) (by dsimp only; omega)).set (p := ⟨w5.heap.size, 1, none⟩) (.int .i64 (m.length : Int)) (by dsimp only; omega) (by dsimp only; omega)).set (p := ⟨w5.heap.size, 2, none⟩) (.int .i64 (colN m : Int)) (by dsimp only; omega) (by dsimp only; omega)).set (p := ⟨w5.heap.size, 3, none⟩) (.slice A6 ps.length c6) (by dsimp only; omega) (by dsimp only; omega)).set (p := ⟨w5.heap.size, 4, none⟩) (.int .i64 n') (by dsimp only; omega) (by dsimp only; omega)).then ((Bel.refl _).alloc (.cells #[.int .i64 px, .slice PA1 pl1 pc1, .slice PA2 pl2 pc2] 63)))
                    refine wpAnyH_ready (rs := [11]) (by kernel_rfl) (by simp) ?_
                    refine' AllReadyH.cons (o := _) ?ho40 (fun Kq hKq => ?step40) ?more40
                    case ho40 => simp only [List.getElem?_toArray, List.getElem?_cons_succ, List.getElem?_cons_zero]; rfl
                    case step40 =>
                      go_simp
                      refine hKq.out _ _ ?hS40 (fun hHeld => ?_)
                      case hS40 => exact HSW _ TS1
                      clear hKq Kq
                      try simp only [Act.put, List.setIfInBounds_toArray, List.set_cons_zero, List.set_cons_succ]
                      refine wpAnyH_done (by kernel_rfl) ?_ _
                      simp only [headPost, List.drop_succ_cons, List.drop_zero]
                      have KF : Blk (((((((w6.setCell ⟨w5.heap.size, 0, none⟩ (.int .i64 a)).setCell ⟨w5.heap.size, 1, none⟩ (.int .i64 (m.length : Int))).setCell ⟨w5.heap.size, 2, none⟩ (.int .i64 (colN m : Int))).setCell ⟨w5.heap.size, 3, none⟩ (.slice A6 ps.length c6)).setCell ⟨w5.heap.size, 4, none⟩ (.int .i64 n')).alloc (.cells #[.int .i64 px, .slice PA1 pl1 pc1, .slice PA2 pl2 pc2] 63))) (w5.heap.size) 29 #[.int .i64 a, .int .i64 (m.length : Int), .int .i64 (colN m : Int), .slice A6 ps.length c6, .int .i64 n'] := ((((((KB06.set 0 (.int .i64 a)).set 1 (.int .i64 (m.length : Int))).set 2 (.int .i64 (colN m : Int))).set 3 (.slice A6 ps.length c6)).set 4 (.int .i64 n')).alloc (.cells #[.int .i64 px, .slice PA1 pl1 pc1, .slice PA2 pl2 pc2] 63))
                      have OF : MP (((((((w6.setCell ⟨w5.heap.size, 0, none⟩ (.int .i64 a)).setCell ⟨w5.heap.size, 1, none⟩ (.int .i64 (m.length : Int))).setCell ⟨w5.heap.size, 2, none⟩ (.int .i64 (colN m : Int))).setCell ⟨w5.heap.size, 3, none⟩ (.slice A6 ps.length c6)).setCell ⟨w5.heap.size, 4, none⟩ (.int .i64 n')).alloc (.cells #[.int .i64 px, .slice PA1 pl1 pc1, .slice PA2 pl2 pc2] 63))) _ _ _ := ((((((O6.setFar (p := ⟨w5.heap.size, 0, none⟩) (by dsimp only; omega) (.int .i64 a)).setFar (p := ⟨w5.heap.size, 1, none⟩) (by dsimp only; omega) (.int .i64 (m.length : Int))).setFar (p := ⟨w5.heap.size, 2, none⟩) (by dsimp only; omega) (.int .i64 (colN m : Int))).setFar (p := ⟨w5.heap.size, 3, none⟩) (by dsimp only; omega) (.slice A6 ps.length c6)).setFar (p := ⟨w5.heap.size, 4, none⟩) (by dsimp only; omega) (.int .i64 n')).keep ((Bel.refl _).alloc (.cells #[.int .i64 px, .slice PA1 pl1 pc1, .slice PA2 pl2 pc2] 63)))
                      have TF : Trn cb w4 (((((((w6.setCell ⟨w5.heap.size, 0, none⟩ (.int .i64 a)).setCell ⟨w5.heap.size, 1, none⟩ (.int .i64 (m.length : Int))).setCell ⟨w5.heap.size, 2, none⟩ (.int .i64 (colN m : Int))).setCell ⟨w5.heap.size, 3, none⟩ (.slice A6 ps.length c6)).setCell ⟨w5.heap.size, 4, none⟩ (.int .i64 n')).alloc (.cells #[.int .i64 px, .slice PA1 pl1 pc1, .slice PA2 pl2 pc2] 63))) := ((((((T6.set (p := ⟨w5.heap.size, 0, none⟩) (.int .i64 a) (by dsimp only; omega) (by dsimp only; omega)).set (p := ⟨w5.heap.size, 1, none⟩) (.int .i64 (m.length : Int)) (by dsimp only; omega) (by dsimp only; omega)).set (p := ⟨w5.heap.size, 2, none⟩) (.int .i64 (colN m : Int)) (by dsimp only; omega) (by dsimp only; omega)).set (p := ⟨w5.heap.size, 3, none⟩) (.slice A6 ps.length c6) (by dsimp only; omega) (by dsimp only; omega)).set (p := ⟨w5.heap.size, 4, none⟩) (.int .i64 n') (by dsimp only; omega) (by dsimp only; omega)).then ((Bel.refl _).alloc (.cells #[.int .i64 px, .slice PA1 pl1 pc1, .slice PA2 pl2 pc2] 63)))
                      have hgF : w4.heap.size ≤ w5.heap.size := by omega
                      have OFL := OF.low (lo' := gb + 1) (by omega)
                      clear OF
                      generalize ((((((w6.setCell ⟨w5.heap.size, 0, none⟩ (.int .i64 a)).setCell ⟨w5.heap.size, 1, none⟩ (.int .i64 (m.length : Int))).setCell ⟨w5.heap.size, 2, none⟩ (.int .i64 (colN m : Int))).setCell ⟨w5.heap.size, 3, none⟩ (.slice A6 ps.length c6)).setCell ⟨w5.heap.size, 4, none⟩ (.int .i64 n')).alloc (.cells #[.int .i64 px, .slice PA1 pl1 pc1, .slice PA2 pl2 pc2] 63)) = w9 at *
                      generalize w5.heap.size = g9 at *
                      clear hHeld
                      have K9 := K4.trn TF (by omega)
                      have G9 := G4.trn TF hlt0
                      have R9 := R4.trn TF (by omega)
                      have T9 := T04.trans TF
                      have hcc : cb < gb := by omega
                      clear HSW TD K4 G4 R4 T4 O4 M4 TF
                      obtain ⟨cf, ff, zf⟩ := KF.facts
                      obtain ⟨ck, fk, zk⟩ := K9.facts
                      have K10 := K9.set5 (.int .i64 a) (.int .i64 (m.length : Int)) (.int .i64 (colN m : Int)) (.slice A6 ps.length c6) (.int .i64 n')
                      have G10 := G9.far5 (b := gb) (by omega) (.int .i64 a) (.int .i64 (m.length : Int)) (.int .i64 (colN m : Int)) (.slice A6 ps.length c6) (.int .i64 n')
                      have R10 := R9.far5 (b := gb) (by omega) (.int .i64 a) (.int .i64 (m.length : Int)) (.int .i64 (colN m : Int)) (.slice A6 ps.length c6) (.int .i64 n')
                      have O10 := OFL.set5 (g := gb) (by omega) (.int .i64 a) (.int .i64 (m.length : Int)) (.int .i64 (colN m : Int)) (.slice A6 ps.length c6) (.int .i64 n')
                      have T10 := T9.set5 (g := gb) (by omega) (by omega) (.int .i64 a) (.int .i64 (m.length : Int)) (.int .i64 (colN m : Int)) (.slice A6 ps.length c6) (.int .i64 n')
                      go_wp2_with fail
                      refine NoPanic.normal ?_
                      go_wp2
                      go_roundg (gk - 1)
                      case measure => exact Nat.sub_lt hlt (by decide)
                      case rel => exact ⟨_, ps, n', by first | rfl | go_num, hgk6, K10, O10, Lib.hid ⟨HD.out.1, HN'.out, HD.out.2.2⟩, G10, R10, T10⟩
                    exact AllReadyH.nil
                  exact AllReadyH.nil
                exact AllReadyH.nil
              refine' AllReadyH.cons (o := _) ?ho41 (fun Kq hKq => ?step41) ?more41
              case ho41 => simp only [List.getElem?_toArray, List.getElem?_cons_succ, List.getElem?_cons_zero]; rfl
              case step41 =>
                go_simp
                have TA01w5 := T5.then (((Bel.refl w5).alloc (.cells #[.int .i64 0, .int .i64 0, .int .i64 0, .slice none 0 0, .int .i64 0] 29)).alloc (.cells #[.int .i64 0, .slice none 0 0, .slice none 0 0] 63))
                refine hKq.out _ _ ?hS41 (fun hHeld => ?_)
                case hS41 => exact HSW _ TA01w5
                clear hKq Kq
                try simp only [Act.put, List.setIfInBounds_toArray, List.set_cons_zero, List.set_cons_succ]
                refine wpAnyH_ready (rs := [3]) (by kernel_rfl) (by simp) ?_
                refine' AllReadyH.cons (o := _) ?ho42 (fun Kq hKq => ?step42) ?more42
                case ho42 => simp only [List.getElem?_toArray, List.getElem?_cons_succ, List.getElem?_cons_zero]; rfl
                case step42 =>
                  go_simp
                  have P6 := (O4.mid TA01w5.2 (by omega)).reads
                  have hy9 : 0 ≤ y ∧ y ≤ 1000 := by omega
                  have hsm := HSM.out ps HD.out.2.2
                  have hd1 := HD.out.1
                  have hd2 := HD.out.2.1
                  go_at_call 131
                  with_reducible refine (rcxS a (m.length : Int) (colN m : Int) n y _ ps _ P6 hsm hd1 hy9 HA.out hd2).mono ?_
                  rintro e w6 ⟨r, px, PA1, pl1, pc1, PA2, pl2, pc2, pq, n', rfl, O6, hn', b6⟩
                  try simp only [World.size_alloc] at O6
                  obtain ⟨A6, c6, e6, _, _⟩ := O6.shape
                  subst e6
                  have HN' := Lib.hid hn'
                  clear hn'
                  have T6 := TA01w5.then b6
                  have hz6 : w4.heap.size ≤ w6.heap.size := T6.2.size
                  have hy6 : w5.heap.size ≤ w6.heap.size := by have := b6.size; (try simp only [World.size_alloc] at this); omega
                  have hx6 : w5.heap.size + 2 ≤ w6.heap.size := by have := b6.size; (try simp only [World.size_alloc] at this); first | omega | exact Nat.le_trans (by simp [World.drew, World.size_alloc]) this
                  have KB06 := b6.keep (((Blk.new w5 29 #[.int .i64 0, .int .i64 0, .int .i64 0, .slice none 0 0, .int .i64 0]).alloc (.cells #[.int .i64 0, .slice none 0 0, .slice none 0 0] 63)))
                  have KB16 := b6.keep ((Blk.new2 w5 (.cells #[.int .i64 0, .int .i64 0, .int .i64 0, .slice none 0 0, .int .i64 0] 29) 63 #[.int .i64 0, .slice none 0 0, .slice none 0 0]))
                  refine hKq.out _ _ ?hS42 (fun hHeld => ?_)
                  case hS42 => exact HSW _ T6
                  clear hKq Kq
                  try simp only [Act.put, List.setIfInBounds_toArray, List.set_cons_zero, List.set_cons_succ]
                  refine' wpAnyH_take (i := 4) (oi := _) (v := _) ?hi43 (by kernel_rfl) (by kernel_rfl) (by kernel_rfl) (fun _ _ _ h => h) (Or.inl ⟨?hw43, ?hy43⟩) (by assumption) ?rest43
                  case hi43 => simp only [List.getElem?_toArray, List.getElem?_cons_succ, List.getElem?_cons_zero]; rfl
                  case hw43 => rfl
                  case hy43 =>
                    intro W hSW
                    try dsimp only at hSW
                    go_simp
                    try with_reducible rfl
                  simp only [Act.put, List.setIfInBounds_toArray, List.set_cons_zero, List.set_cons_succ]
                  refine' wpAnyH_take (i := 5) (oi := _) (v := _) ?hi44 (by kernel_rfl) (by kernel_rfl) (by kernel_rfl) (fun _ _ _ h => h) (Or.inl ⟨?hw44, ?hy44⟩) (by assumption) ?rest44
                  case hi44 => simp only [List.getElem?_toArray, List.getElem?_cons_succ, List.getElem?_cons_zero]; rfl
                  case hw44 => rfl
                  case hy44 =>
                    intro W hSW
                    try dsimp only at hSW
                    go_simp
                    try with_reducible rfl
                  simp only [Act.put, List.setIfInBounds_toArray, List.set_cons_zero, List.set_cons_succ]
                  refine' wpAnyH_take (i := 6) (oi := _) (v := _) ?hi45 (by kernel_rfl) (by kernel_rfl) (by kernel_rfl) (fun _ _ _ h => h) (Or.inl ⟨?hw45, ?hy45⟩) (by assumption) ?rest45
                  case hi45 => simp only [List.getElem?_toArray, List.getElem?_cons_succ, List.getElem?_cons_zero]; rfl
                  case hw45 => rfl
                  case hy45 =>
                    intro W hSW
                    try dsimp only at hSW
                    go_simp
                    try with_reducible rfl
                  simp only [Act.put, List.setIfInBounds_toArray, List.set_cons_zero, List.set_cons_succ]
                  refine' wpAnyH_take (i := 7) (oi := _) (v := _) ?hi46 (by kernel_rfl) (by kernel_rfl) (by kernel_rfl) (fun _ _ _ h => h) (Or.inl ⟨?hw46, ?hy46⟩) (by assumption) ?rest46
                  case hi46 => simp only [List.getElem?_toArray, List.getElem?_cons_succ, List.getElem?_cons_zero]; rfl
                  case hw46 => rfl
                  case hy46 =>
                    intro W hSW
                    try dsimp only at hSW
                    go_simp
                    try with_reducible rfl
                  simp only [Act.put, List.setIfInBounds_toArray, List.set_cons_zero, List.set_cons_succ]
                  have TS0 : Trn cb w4 ((((((w6.setCell ⟨w5.heap.size, 0, none⟩ (.int .i64 a)).setCell ⟨w5.heap.size, 1, none⟩ (.int .i64 (m.length : Int))).setCell ⟨w5.heap.size, 2, none⟩ (.int .i64 (colN m : Int))).setCell ⟨w5.heap.size, 3, none⟩ (.slice A6 ps.length c6)).setCell ⟨w5.heap.size, 4, none⟩ (.int .i64 n'))) := (((((T6.set (p := ⟨w5.heap.size, 0, none⟩) (.int .i64 a) (by dsimp only; omega) (by dsimp only; omega)).set (p := ⟨w5.heap.size, 1, none⟩) (.int .i64 (m.length : Int)) (by dsimp only; omega) (by dsimp only; omega)).set (p := ⟨w5.heap.size, 2, none⟩) (.int .i64 (colN m : Int)) (by dsimp only; omega) (by dsimp only; omega)).set (p := ⟨w5.heap.size, 3, none⟩) (.slice A6 ps.length c6) (by dsimp only; omega) (by dsimp only; omega)).set (p := ⟨w5.heap.size, 4, none⟩) (.int .i64 n') (by dsimp only; omega) (by dsimp only; omega))
                  obtain ⟨ck0, fk0, zk0⟩ := KB06.facts
                  obtain ⟨ck1, fk1, zk1⟩ := KB16.facts
                  refine wpAnyH_ready (rs := [10]) (by kernel_rfl) (by simp) ?_
                  refine' AllReadyH.cons (o := _) ?ho47 (fun Kq hKq => ?step47) ?more47
                  case ho47 => simp only [List.getElem?_toArray, List.getElem?_cons_succ, List.getElem?_cons_zero]; rfl
                  case step47 =>
                    go_simp
                    refine hKq.out _ _ ?hS47 (fun hHeld => ?_)
                    case hS47 => exact HSW _ TS0
                    clear hKq Kq
                    try simp only [Act.put, List.setIfInBounds_toArray, List.set_cons_zero, List.set_cons_succ]
                    have TS1 : Trn cb w4 (((((((((w6.setCell ⟨w5.heap.size, 0, none⟩ (.int .i64 a)).setCell ⟨w5.heap.size, 1, none⟩ (.int .i64 (m.length : Int))).setCell ⟨w5.heap.size, 2, none⟩ (.int .i64 (colN m : Int))).setCell ⟨w5.heap.size, 3, none⟩ (.slice A6 ps.length c6)).setCell ⟨w5.heap.size, 4, none⟩ (.int .i64 n')).setCell ⟨w5.heap.size + 1, 0, none⟩ (.int .i64 px)).setCell ⟨w5.heap.size + 1, 1, none⟩ (.slice PA1 pl1 pc1)).setCell ⟨w5.heap.size + 1, 2, none⟩ (.slice PA2 pl2 pc2))) := ((((((((T6.set (p := ⟨w5.heap.size, 0, none⟩) (.int .i64 a) (by dsimp only; omega) (by dsimp only; omega)).set (p := ⟨w5.heap.size, 1, none⟩) (.int .i64 (m.length : Int)) (by dsimp only; omega) (by dsimp only; omega)).set (p := ⟨w5.heap.size, 2, none⟩) (.int .i64 (colN m : Int)) (by dsimp only; omega) (by dsimp only; omega)).set (p := ⟨w5.heap.size, 3, none⟩) (.slice A6 ps.length c6) (by dsimp only; omega) (by dsimp only; omega)).set (p := ⟨w5.heap.size, 4, none⟩) (.int .i64 n') (by dsimp only; omega) (by dsimp only; omega)).set (p := ⟨w5.heap.size + 1, 0, none⟩) (.int .i64 px) (by dsimp only; omega) (by dsimp only; omega)).set (p := ⟨w5.heap.size + 1, 1, none⟩) (.slice PA1 pl1 pc1) (by dsimp only; omega) (by dsimp only; omega)).set (p := ⟨w5.heap.size + 1, 2, none⟩) (.slice PA2 pl2 pc2) (by dsimp only; omega) (by dsimp only; omega))
                    refine wpAnyH_ready (rs := [11]) (by kernel_rfl) (by simp) ?_
                    refine' AllReadyH.cons (o := _) ?ho48 (fun Kq hKq => ?step48) ?more48
                    case ho48 => simp only [List.getElem?_toArray, List.getElem?_cons_succ, List.getElem?_cons_zero]; rfl
                    case step48 =>
                      go_simp
                      refine hKq.out _ _ ?hS48 (fun hHeld => ?_)
                      case hS48 => exact HSW _ TS1
                      clear hKq Kq
                      try simp only [Act.put, List.setIfInBounds_toArray, List.set_cons_zero, List.set_cons_succ]
                      refine wpAnyH_done (by kernel_rfl) ?_ _
                      simp only [headPost, List.drop_succ_cons, List.drop_zero]
                      have KF : Blk (((((((((w6.setCell ⟨w5.heap.size, 0, none⟩ (.int .i64 a)).setCell ⟨w5.heap.size, 1, none⟩ (.int .i64 (m.length : Int))).setCell ⟨w5.heap.size, 2, none⟩ (.int .i64 (colN m : Int))).setCell ⟨w5.heap.size, 3, none⟩ (.slice A6 ps.length c6)).setCell ⟨w5.heap.size, 4, none⟩ (.int .i64 n')).setCell ⟨w5.heap.size + 1, 0, none⟩ (.int .i64 px)).setCell ⟨w5.heap.size + 1, 1, none⟩ (.slice PA1 pl1 pc1)).setCell ⟨w5.heap.size + 1, 2, none⟩ (.slice PA2 pl2 pc2))) (w5.heap.size) 29 #[.int .i64 a, .int .i64 (m.length : Int), .int .i64 (colN m : Int), .slice A6 ps.length c6, .int .i64 n'] := ((((((((KB06.set 0 (.int .i64 a)).set 1 (.int .i64 (m.length : Int))).set 2 (.int .i64 (colN m : Int))).set 3 (.slice A6 ps.length c6)).set 4 (.int .i64 n')).far (p := ⟨w5.heap.size + 1, 0, none⟩) (by dsimp only; omega) (.int .i64 px)).far (p := ⟨w5.heap.size + 1, 1, none⟩) (by dsimp only; omega) (.slice PA1 pl1 pc1)).far (p := ⟨w5.heap.size + 1, 2, none⟩) (by dsimp only; omega) (.slice PA2 pl2 pc2))
                      have OF : MP (((((((((w6.setCell ⟨w5.heap.size, 0, none⟩ (.int .i64 a)).setCell ⟨w5.heap.size, 1, none⟩ (.int .i64 (m.length : Int))).setCell ⟨w5.heap.size, 2, none⟩ (.int .i64 (colN m : Int))).setCell ⟨w5.heap.size, 3, none⟩ (.slice A6 ps.length c6)).setCell ⟨w5.heap.size, 4, none⟩ (.int .i64 n')).setCell ⟨w5.heap.size + 1, 0, none⟩ (.int .i64 px)).setCell ⟨w5.heap.size + 1, 1, none⟩ (.slice PA1 pl1 pc1)).setCell ⟨w5.heap.size + 1, 2, none⟩ (.slice PA2 pl2 pc2))) _ _ _ := ((((((((O6.setFar (p := ⟨w5.heap.size, 0, none⟩) (by dsimp only; omega) (.int .i64 a)).setFar (p := ⟨w5.heap.size, 1, none⟩) (by dsimp only; omega) (.int .i64 (m.length : Int))).setFar (p := ⟨w5.heap.size, 2, none⟩) (by dsimp only; omega) (.int .i64 (colN m : Int))).setFar (p := ⟨w5.heap.size, 3, none⟩) (by dsimp only; omega) (.slice A6 ps.length c6)).setFar (p := ⟨w5.heap.size, 4, none⟩) (by dsimp only; omega) (.int .i64 n')).setFar (p := ⟨w5.heap.size + 1, 0, none⟩) (by dsimp only; omega) (.int .i64 px)).setFar (p := ⟨w5.heap.size + 1, 1, none⟩) (by dsimp only; omega) (.slice PA1 pl1 pc1)).setFar (p := ⟨w5.heap.size + 1, 2, none⟩) (by dsimp only; omega) (.slice PA2 pl2 pc2))
                      have TF : Trn cb w4 (((((((((w6.setCell ⟨w5.heap.size, 0, none⟩ (.int .i64 a)).setCell ⟨w5.heap.size, 1, none⟩ (.int .i64 (m.length : Int))).setCell ⟨w5.heap.size, 2, none⟩ (.int .i64 (colN m : Int))).setCell ⟨w5.heap.size, 3, none⟩ (.slice A6 ps.length c6)).setCell ⟨w5.heap.size, 4, none⟩ (.int .i64 n')).setCell ⟨w5.heap.size + 1, 0, none⟩ (.int .i64 px)).setCell ⟨w5.heap.size + 1, 1, none⟩ (.slice PA1 pl1 pc1)).setCell ⟨w5.heap.size + 1, 2, none⟩ (.slice PA2 pl2 pc2))) := ((((((((T6.set (p := ⟨w5.heap.size, 0, none⟩) (.int .i64 a) (by dsimp only; omega) (by dsimp only; omega)).set (p := ⟨w5.heap.size, 1, none⟩) (.int .i64 (m.length : Int)) (by dsimp only; omega) (by dsimp only; omega)).set (p := ⟨w5.heap.size, 2, none⟩) (.int .i64 (colN m : Int)) (by dsimp only; omega) (by dsimp only; omega)).set (p := ⟨w5.heap.size, 3, none⟩) (.slice A6 ps.length c6) (by dsimp only; omega) (by dsimp only; omega)).set (p := ⟨w5.heap.size, 4, none⟩) (.int .i64 n') (by dsimp only; omega) (by dsimp only; omega)).set (p := ⟨w5.heap.size + 1, 0, none⟩) (.int .i64 px) (by dsimp only; omega) (by dsimp only; omega)).set (p := ⟨w5.heap.size + 1, 1, none⟩) (.slice PA1 pl1 pc1) (by dsimp only; omega) (by dsimp only; omega)).set (p := ⟨w5.heap.size + 1, 2, none⟩) (.slice PA2 pl2 pc2) (by dsimp only; omega) (by dsimp only; omega))
                      have hgF : w4.heap.size ≤ w5.heap.size := by omega
                      have OFL := OF.low (lo' := gb + 1) (by omega)
                      clear OF
                      generalize ((((((((w6.setCell ⟨w5.heap.size, 0, none⟩ (.int .i64 a)).setCell ⟨w5.heap.size, 1, none⟩ (.int .i64 (m.length : Int))).setCell ⟨w5.heap.size, 2, none⟩ (.int .i64 (colN m : Int))).setCell ⟨w5.heap.size, 3, none⟩ (.slice A6 ps.length c6)).setCell ⟨w5.heap.size, 4, none⟩ (.int .i64 n')).setCell ⟨w5.heap.size + 1, 0, none⟩ (.int .i64 px)).setCell ⟨w5.heap.size + 1, 1, none⟩ (.slice PA1 pl1 pc1)).setCell ⟨w5.heap.size + 1, 2, none⟩ (.slice PA2 pl2 pc2)) = w9 at *
                      generalize w5.heap.size = g9 at *
                      clear hHeld
                      have K9 := K4.trn TF (by omega)
                      have G9 := G4.trn TF hlt0
                      have R9 := R4.trn TF (by omega)
                      have T9 := T04.trans TF
                      have hcc : cb < gb := by omega
                      clear HSW TD K4 G4 R4 T4 O4 M4 TF
                      obtain ⟨cf, ff, zf⟩ := KF.facts
                      obtain ⟨ck, fk, zk⟩ := K9.facts
                      have K10 := K9.set5 (.int .i64 a) (.int .i64 (m.length : Int)) (.int .i64 (colN m : Int)) (.slice A6 ps.length c6) (.int .i64 n')
                      have G10 := G9.far5 (b := gb) (by omega) (.int .i64 a) (.int .i64 (m.length : Int)) (.int .i64 (colN m : Int)) (.slice A6 ps.length c6) (.int .i64 n')
                      have R10 := R9.far5 (b := gb) (by omega) (.int .i64 a) (.int .i64 (m.length : Int)) (.int .i64 (colN m : Int)) (.slice A6 ps.length c6) (.int .i64 n')
                      have O10 := OFL.set5 (g := gb) (by omega) (.int .i64 a) (.int .i64 (m.length : Int)) (.int .i64 (colN m : Int)) (.slice A6 ps.length c6) (.int .i64 n')
                      have T10 := T9.set5 (g := gb) (by omega) (by omega) (.int .i64 a) (.int .i64 (m.length : Int)) (.int .i64 (colN m : Int)) (.slice A6 ps.length c6) (.int .i64 n')
                      go_wp2_with fail
                      refine NoPanic.normal ?_
                      go_wp2
                      go_roundg (gk - 1)
                      case measure => exact Nat.sub_lt hlt (by decide)
                      case rel => exact ⟨_, ps, n', by first | rfl | go_num, hgk6, K10, O10, Lib.hid ⟨HD.out.1, HN'.out, HD.out.2.2⟩, G10, R10, T10⟩
                    exact AllReadyH.nil
                  exact AllReadyH.nil
                exact AllReadyH.nil
              exact AllReadyH.nil
            refine' AllReadyH.cons (o := _) ?ho49 (fun Kq hKq => ?step49) ?more49
            case ho49 => simp only [List.getElem?_toArray, List.getElem?_cons_succ, List.getElem?_cons_zero]; rfl
            case step49 =>
              go_simp
              have TA1w5 := T5.then ((Bel.refl w5).alloc (.cells #[.int .i64 0, .slice none 0 0, .slice none 0 0] 63))
              refine hKq.out _ _ ?hS49 (fun hHeld => ?_)
              case hS49 => exact HSW _ TA1w5
              clear hKq Kq
              try simp only [Act.put, List.setIfInBounds_toArray, List.set_cons_zero, List.set_cons_succ]
              refine wpAnyH_ready (rs := [3, 8]) (by kernel_rfl) (by simp) ?_
              refine' AllReadyH.cons (o := _) ?ho50 (fun Kq hKq => ?step50) ?more50
              case ho50 => simp only [List.getElem?_toArray, List.getElem?_cons_succ, List.getElem?_cons_zero]; rfl
              case step50 =>
                go_simp
                have P6 := (O4.mid TA1w5.2 (by omega)).reads
                have hy9 : 0 ≤ y ∧ y ≤ 1000 := by omega
                have hsm := HSM.out ps HD.out.2.2
                have hd1 := HD.out.1
                have hd2 := HD.out.2.1
                go_at_call 131
                with_reducible refine (rcxS a (m.length : Int) (colN m : Int) n y _ ps _ P6 hsm hd1 hy9 HA.out hd2).mono ?_
                rintro e w6 ⟨r, px, PA1, pl1, pc1, PA2, pl2, pc2, pq, n', rfl, O6, hn', b6⟩
                try simp only [World.size_alloc] at O6
                obtain ⟨A6, c6, e6, _, _⟩ := O6.shape
                subst e6
                have HN' := Lib.hid hn'
                clear hn'
                have T6 := TA1w5.then b6
                have hz6 : w4.heap.size ≤ w6.heap.size := T6.2.size
                have hy6 : w5.heap.size ≤ w6.heap.size := by have := b6.size; (try simp only [World.size_alloc] at this); omega
                have hx6 : w5.heap.size + 1 ≤ w6.heap.size := by have := b6.size; (try simp only [World.size_alloc] at this); first | omega | exact Nat.le_trans (by simp [World.drew, World.size_alloc]) this
                have KB16 := b6.keep ((Blk.new w5 63 #[.int .i64 0, .slice none 0 0, .slice none 0 0]))
                refine hKq.out _ _ ?hS50 (fun hHeld => ?_)
                case hS50 => exact HSW _ T6
                clear hKq Kq
                try simp only [Act.put, List.setIfInBounds_toArray, List.set_cons_zero, List.set_cons_succ]
                refine' wpAnyH_take (i := 4) (oi := _) (v := _) ?hi51 (by kernel_rfl) (by kernel_rfl) (by kernel_rfl) (fun _ _ _ h => h) (Or.inl ⟨?hw51, ?hy51⟩) (by assumption) ?rest51
                case hi51 => simp only [List.getElem?_toArray, List.getElem?_cons_succ, List.getElem?_cons_zero]; rfl
                case hw51 => rfl
                case hy51 =>
                  intro W hSW
                  try dsimp only at hSW
                  go_simp
                  try with_reducible rfl
                simp only [Act.put, List.setIfInBounds_toArray, List.set_cons_zero, List.set_cons_succ]
                refine' wpAnyH_take (i := 5) (oi := _) (v := _) ?hi52 (by kernel_rfl) (by kernel_rfl) (by kernel_rfl) (fun _ _ _ h => h) (Or.inl ⟨?hw52, ?hy52⟩) (by assumption) ?rest52
                case hi52 => simp only [List.getElem?_toArray, List.getElem?_cons_succ, List.getElem?_cons_zero]; rfl
                case hw52 => rfl
                case hy52 =>
                  intro W hSW
                  try dsimp only at hSW
                  go_simp
                  try with_reducible rfl
                simp only [Act.put, List.setIfInBounds_toArray, List.set_cons_zero, List.set_cons_succ]
                refine' wpAnyH_take (i := 6) (oi := _) (v := _) ?hi53 (by kernel_rfl) (by kernel_rfl) (by kernel_rfl) (fun _ _ _ h => h) (Or.inl ⟨?hw53, ?hy53⟩) (by assumption) ?rest53
                case hi53 => simp only [List.getElem?_toArray, List.getElem?_cons_succ, List.getElem?_cons_zero]; rfl
                case hw53 => rfl
                case hy53 =>
                  intro W hSW
                  try dsimp only at hSW
                  go_simp
                  try with_reducible rfl
                simp only [Act.put, List.setIfInBounds_toArray, List.set_cons_zero, List.set_cons_succ]
                refine' wpAnyH_take (i := 7) (oi := _) (v := _) ?hi54 (by kernel_rfl) (by kernel_rfl) (by kernel_rfl) (fun _ _ _ h => h) (Or.inl ⟨?hw54, ?hy54⟩) (by assumption) ?rest54
                case hi54 => simp only [List.getElem?_toArray, List.getElem?_cons_succ, List.getElem?_cons_zero]; rfl
                case hw54 => rfl
                case hy54 =>
                  intro W hSW
                  try dsimp only at hSW
                  go_simp
                  try with_reducible rfl
                simp only [Act.put, List.setIfInBounds_toArray, List.set_cons_zero, List.set_cons_succ]
                refine wpAnyH_ready (rs := [8]) (by kernel_rfl) (by simp) ?_
                refine' AllReadyH.cons (o := _) ?ho55 (fun Kq hKq => ?step55) ?more55
                case ho55 => simp only [List.getElem?_toArray, List.getElem?_cons_succ, List.getElem?_cons_zero]; rfl
                case step55 =>
                  go_simp
                  have TA0w6 := T6.then ((Bel.refl w6).alloc (.cells #[.int .i64 0, .int .i64 0, .int .i64 0, .slice none 0 0, .int .i64 0] 29))
                  refine hKq.out _ _ ?hS55 (fun hHeld => ?_)
                  case hS55 => exact HSW _ TA0w6
                  clear hKq Kq
                  try simp only [Act.put, List.setIfInBounds_toArray, List.set_cons_zero, List.set_cons_succ]
                  have TS0 : Trn cb w4 ((w6.alloc (.cells #[.int .i64 a, .int .i64 (m.length : Int), .int .i64 (colN m : Int), .slice A6 ps.length c6, .int .i64 n'] 29))) := (T6.then ((Bel.refl _).alloc (.cells #[.int .i64 a, .int .i64 (m.length : Int), .int .i64 (colN m : Int), .slice A6 ps.length c6, .int .i64 n'] 29)))
                  obtain ⟨ck1, fk1, zk1⟩ := KB16.facts
                  refine wpAnyH_ready (rs := [10]) (by kernel_rfl) (by simp) ?_
                  refine' AllReadyH.cons (o := _) ?ho56 (fun Kq hKq => ?step56) ?more56
                  case ho56 => simp only [List.getElem?_toArray, List.getElem?_cons_succ, List.getElem?_cons_zero]; rfl
                  case step56 =>
                    go_simp
                    refine hKq.out _ _ ?hS56 (fun hHeld => ?_)
                    case hS56 => exact HSW _ TS0
                    clear hKq Kq
                    try simp only [Act.put, List.setIfInBounds_toArray, List.set_cons_zero, List.set_cons_succ]
                    have TS1 : Trn cb w4 (((((w6.setCell ⟨w5.heap.size, 0, none⟩ (.int .i64 px)).setCell ⟨w5.heap.size, 1, none⟩ (.slice PA1 pl1 pc1)).setCell ⟨w5.heap.size, 2, none⟩ (.slice PA2 pl2 pc2)).alloc (.cells #[.int .i64 a, .int .i64 (m.length : Int), .int .i64 (colN m : Int), .slice A6 ps.length c6, .int .i64 n'] 29))) := ((((T6.set (p := ⟨w5.heap.size, 0, none⟩) (.int .i64 px) (by dsimp only; omega) (by dsimp only; omega)).set (p := ⟨w5.heap.size, 1, none⟩) (.slice PA1 pl1 pc1) (by dsimp only; omega) (by dsimp only; omega)).set (p := ⟨w5.heap.size, 2, none⟩) (.slice PA2 pl2 pc2) (by dsimp only; omega) (by dsimp only; omega)).then ((Bel.refl _).alloc (.cells #[.int .i64 a, .int .i64 (m.length : Int), .int .i64 (colN m : Int), .slice A6 ps.length c6, .int .i64 n'] 29)))
                    refine wpAnyH_ready (rs := [11]) (by kernel_rfl) (by simp) ?_
                    refine' AllReadyH.cons (o := _) ?ho57 (fun Kq hKq => ?step57) ?more57
                    case ho57 => simp only [List.getElem?_toArray, List.getElem?_cons_succ, List.getElem?_cons_zero]; rfl
                    case step57 =>
                      go_simp
                      refine hKq.out _ _ ?hS57 (fun hHeld => ?_)
                      case hS57 => exact HSW _ TS1
                      clear hKq Kq
                      try simp only [Act.put, List.setIfInBounds_toArray, List.set_cons_zero, List.set_cons_succ]
                      refine wpAnyH_done (by kernel_rfl) ?_ _
                      simp only [headPost, List.drop_succ_cons, List.drop_zero]
                      have KF : Blk (((((w6.setCell ⟨w5.heap.size, 0, none⟩ (.int .i64 px)).setCell ⟨w5.heap.size, 1, none⟩ (.slice PA1 pl1 pc1)).setCell ⟨w5.heap.size, 2, none⟩ (.slice PA2 pl2 pc2)).alloc (.cells #[.int .i64 a, .int .i64 (m.length : Int), .int .i64 (colN m : Int), .slice A6 ps.length c6, .int .i64 n'] 29))) (w6.heap.size) 29 #[.int .i64 a, .int .i64 (m.length : Int), .int .i64 (colN m : Int), .slice A6 ps.length c6, .int .i64 n'] := (Blk.at (Blk.new (((w6.setCell ⟨w5.heap.size, 0, none⟩ (.int .i64 px)).setCell ⟨w5.heap.size, 1, none⟩ (.slice PA1 pl1 pc1)).setCell ⟨w5.heap.size, 2, none⟩ (.slice PA2 pl2 pc2)) 29 #[.int .i64 a, .int .i64 (m.length : Int), .int .i64 (colN m : Int), .slice A6 ps.length c6, .int .i64 n']) (by simp only [szS]))
                      have OF : MP (((((w6.setCell ⟨w5.heap.size, 0, none⟩ (.int .i64 px)).setCell ⟨w5.heap.size, 1, none⟩ (.slice PA1 pl1 pc1)).setCell ⟨w5.heap.size, 2, none⟩ (.slice PA2 pl2 pc2)).alloc (.cells #[.int .i64 a, .int .i64 (m.length : Int), .int .i64 (colN m : Int), .slice A6 ps.length c6, .int .i64 n'] 29))) _ _ _ := ((((O6.setFar (p := ⟨w5.heap.size, 0, none⟩) (by dsimp only; omega) (.int .i64 px)).setFar (p := ⟨w5.heap.size, 1, none⟩) (by dsimp only; omega) (.slice PA1 pl1 pc1)).setFar (p := ⟨w5.heap.size, 2, none⟩) (by dsimp only; omega) (.slice PA2 pl2 pc2)).keep ((Bel.refl _).alloc (.cells #[.int .i64 a, .int .i64 (m.length : Int), .int .i64 (colN m : Int), .slice A6 ps.length c6, .int .i64 n'] 29)))
                      have TF : Trn cb w4 (((((w6.setCell ⟨w5.heap.size, 0, none⟩ (.int .i64 px)).setCell ⟨w5.heap.size, 1, none⟩ (.slice PA1 pl1 pc1)).setCell ⟨w5.heap.size, 2, none⟩ (.slice PA2 pl2 pc2)).alloc (.cells #[.int .i64 a, .int .i64 (m.length : Int), .int .i64 (colN m : Int), .slice A6 ps.length c6, .int .i64 n'] 29))) := ((((T6.set (p := ⟨w5.heap.size, 0, none⟩) (.int .i64 px) (by dsimp only; omega) (by dsimp only; omega)).set (p := ⟨w5.heap.size, 1, none⟩) (.slice PA1 pl1 pc1) (by dsimp only; omega) (by dsimp only; omega)).set (p := ⟨w5.heap.size, 2, none⟩) (.slice PA2 pl2 pc2) (by dsimp only; omega) (by dsimp only; omega)).then ((Bel.refl _).alloc (.cells #[.int .i64 a, .int .i64 (m.length : Int), .int .i64 (colN m : Int), .slice A6 ps.length c6, .int .i64 n'] 29)))
                      have hgF : w4.heap.size ≤ w6.heap.size := by omega
                      have OFL := OF.low (lo' := gb + 1) (by omega)
                      clear OF
                      generalize ((((w6.setCell ⟨w5.heap.size, 0, none⟩ (.int .i64 px)).setCell ⟨w5.heap.size, 1, none⟩ (.slice PA1 pl1 pc1)).setCell ⟨w5.heap.size, 2, none⟩ (.slice PA2 pl2 pc2)).alloc (.cells #[.int .i64 a, .int .i64 (m.length : Int), .int .i64 (colN m : Int), .slice A6 ps.length c6, .int .i64 n'] 29)) = w9 at *
                      generalize w6.heap.size = g9 at *
                      clear hHeld
                      have K9 := K4.trn TF (by omega)
                      have G9 := G4.trn TF hlt0
                      have R9 := R4.trn TF (by omega)
                      have T9 := T04.trans TF
                      have hcc : cb < gb := by omega
                      clear HSW TD K4 G4 R4 T4 O4 M4 TF
                      obtain ⟨cf, ff, zf⟩ := KF.facts
                      obtain ⟨ck, fk, zk⟩ := K9.facts
                      have K10 := K9.set5 (.int .i64 a) (.int .i64 (m.length : Int)) (.int .i64 (colN m : Int)) (.slice A6 ps.length c6) (.int .i64 n')
                      have G10 := G9.far5 (b := gb) (by omega) (.int .i64 a) (.int .i64 (m.length : Int)) (.int .i64 (colN m : Int)) (.slice A6 ps.length c6) (.int .i64 n')
                      have R10 := R9.far5 (b := gb) (by omega) (.int .i64 a) (.int .i64 (m.length : Int)) (.int .i64 (colN m : Int)) (.slice A6 ps.length c6) (.int .i64 n')
                      have O10 := OFL.set5 (g := gb) (by omega) (.int .i64 a) (.int .i64 (m.length : Int)) (.int .i64 (colN m : Int)) (.slice A6 ps.length c6) (.int .i64 n')
                      have T10 := T9.set5 (g := gb) (by omega) (by omega) (.int .i64 a) (.int .i64 (m.length : Int)) (.int .i64 (colN m : Int)) (.slice A6 ps.length c6) (.int .i64 n')
                      go_wp2_with fail
                      refine NoPanic.normal ?_
                      go_wp2
                      go_roundg (gk - 1)
                      case measure => exact Nat.sub_lt hlt (by decide)
                      case rel => exact ⟨_, ps, n', by first | rfl | go_num, hgk6, K10, O10, Lib.hid ⟨HD.out.1, HN'.out, HD.out.2.2⟩, G10, R10, T10⟩
                    exact AllReadyH.nil
                  exact AllReadyH.nil
                exact AllReadyH.nil
              refine' AllReadyH.cons (o := _) ?ho58 (fun Kq hKq => ?step58) ?more58
              case ho58 => simp only [List.getElem?_toArray, List.getElem?_cons_succ, List.getElem?_cons_zero]; rfl
              case step58 =>
                go_simp
                have TA10w5 := T5.then (((Bel.refl w5).alloc (.cells #[.int .i64 0, .slice none 0 0, .slice none 0 0] 63)).alloc (.cells #[.int .i64 0, .int .i64 0, .int .i64 0, .slice none 0 0, .int .i64 0] 29))
                refine hKq.out _ _ ?hS58 (fun hHeld => ?_)
                case hS58 => exact HSW _ TA10w5
                clear hKq Kq
                try simp only [Act.put, List.setIfInBounds_toArray, List.set_cons_zero, List.set_cons_succ]
                refine wpAnyH_ready (rs := [3]) (by kernel_rfl) (by simp) ?_
                refine' AllReadyH.cons (o := _) ?ho59 (fun Kq hKq => ?step59) ?more59
                case ho59 => simp only [List.getElem?_toArray, List.getElem?_cons_succ, List.getElem?_cons_zero]; rfl
                case step59 =>
                  go_simp
                  have P6 := (O4.mid TA10w5.2 (by omega)).reads
                  have hy9 : 0 ≤ y ∧ y ≤ 1000 := by omega
                  have hsm := HSM.out ps HD.out.2.2
                  have hd1 := HD.out.1
                  have hd2 := HD.out.2.1
                  go_at_call 131
                  with_reducible refine (rcxS a (m.length : Int) (colN m : Int) n y _ ps _ P6 hsm hd1 hy9 HA.out hd2).mono ?_
                  rintro e w6 ⟨r, px, PA1, pl1, pc1, PA2, pl2, pc2, pq, n', rfl, O6, hn', b6⟩
                  try simp only [World.size_alloc] at O6
                  obtain ⟨A6, c6, e6, _, _⟩ := O6.shape
                  subst e6
                  have HN' := Lib.hid hn'
                  clear hn'
                  have T6 := TA10w5.then b6
                  have hz6 : w4.heap.size ≤ w6.heap.size := T6.2.size
                  have hy6 : w5.heap.size ≤ w6.heap.size := by have := b6.size; (try simp only [World.size_alloc] at this); omega
                  have hx6 : w5.heap.size + 2 ≤ w6.heap.size := by have := b6.size; (try simp only [World.size_alloc] at this); first | omega | exact Nat.le_trans (by simp [World.drew, World.size_alloc]) this
                  have KB16 := b6.keep (((Blk.new w5 63 #[.int .i64 0, .slice none 0 0, .slice none 0 0]).alloc (.cells #[.int .i64 0, .int .i64 0, .int .i64 0, .slice none 0 0, .int .i64 0] 29)))
                  have KB06 := b6.keep ((Blk.new2 w5 (.cells #[.int .i64 0, .slice none 0 0, .slice none 0 0] 63) 29 #[.int .i64 0, .int .i64 0, .int .i64 0, .slice none 0 0, .int .i64 0]))
                  refine hKq.out _ _ ?hS59 (fun hHeld => ?_)
                  case hS59 => exact HSW _ T6
                  clear hKq Kq
                  try simp only [Act.put, List.setIfInBounds_toArray, List.set_cons_zero, List.set_cons_succ]
                  refine' wpAnyH_take (i := 4) (oi := _) (v := _) ?hi60 (by kernel_rfl) (by kernel_rfl) (by kernel_rfl) (fun _ _ _ h => h) (Or.inl ⟨?hw60, ?hy60⟩) (by assumption) ?rest60
                  case hi60 => simp only [List.getElem?_toArray, List.getElem?_cons_succ, List.getElem?_cons_zero]; rfl
                  case hw60 => rfl
                  case hy60 =>
                    intro W hSW
                    try dsimp only at hSW
                    go_simp
                    try with_reducible rfl
                  simp only [Act.put, List.setIfInBounds_toArray, List.set_cons_zero, List.set_cons_succ]
                  refine' wpAnyH_take (i := 5) (oi := _) (v := _) ?hi61 (by kernel_rfl) (by kernel_rfl) (by kernel_rfl) (fun _ _ _ h => h) (Or.inl ⟨?hw61, ?hy61⟩) (by assumption) ?rest61
                  case hi61 => simp only [List.getElem?_toArray, List.getElem?_cons_succ, List.getElem?_cons_zero]; rfl
                  case hw61 => rfl
                  case hy61 =>
                    intro W hSW
                    try dsimp only at hSW
                    go_simp
                    try with_reducible rfl
                  simp only [Act.put, List.setIfInBounds_toArray, List.set_cons_zero, List.set_cons_succ]
                  refine' wpAnyH_take (i := 6) (oi := _) (v := _) ?hi62 (by kernel_rfl) (by kernel_rfl) (by kernel_rfl) (fun _ _ _ h => h) (Or.inl ⟨?hw62, ?hy62⟩) (by assumption) ?rest62
                  case hi62 => simp only [List.getElem?_toArray, List.getElem?_cons_succ, List.getElem?_cons_zero]; rfl
                  case hw62 => rfl
                  case hy62 =>
                    intro W hSW
                    try dsimp only at hSW
                    go_simp
                    try with_reducible rfl
                  simp only [Act.put, List.setIfInBounds_toArray, List.set_cons_zero, List.set_cons_succ]
                  refine' wpAnyH_take (i := 7) (oi := _) (v := _) ?hi63 (by kernel_rfl) (by kernel_rfl) (by kernel_rfl) (fun _ _ _ h => h) (Or.inl ⟨?hw63, ?hy63⟩) (by assumption) ?rest63
                  case hi63 => simp only [List.getElem?_toArray, List.getElem?_cons_succ, List.getElem?_cons_zero]; rfl
                  case hw63 => rfl
                  case hy63 =>
                    intro W hSW
                    try dsimp only at hSW
                    go_simp
                    try with_reducible rfl
                  simp only [Act.put, List.setIfInBounds_toArray, List.set_cons_zero, List.set_cons_succ]
                  have TS0 : Trn cb w4 ((((((w6.setCell ⟨w5.heap.size + 1, 0, none⟩ (.int .i64 a)).setCell ⟨w5.heap.size + 1, 1, none⟩ (.int .i64 (m.length : Int))).setCell ⟨w5.heap.size + 1, 2, none⟩ (.int .i64 (colN m : Int))).setCell ⟨w5.heap.size + 1, 3, none⟩ (.slice A6 ps.length c6)).setCell ⟨w5.heap.size + 1, 4, none⟩ (.int .i64 n'))) := (((((T6.set (p := ⟨w5.heap.size + 1, 0, none⟩) (.int .i64 a) (by dsimp only; omega) (by dsimp only; omega)).set (p := ⟨w5.heap.size + 1, 1, none⟩) (.int .i64 (m.length : Int)) (by dsimp only; omega) (by dsimp only; omega)).set (p := ⟨w5.heap.size + 1, 2, none⟩) (.int .i64 (colN m : Int)) (by dsimp only; omega) (by dsimp only; omega)).set (p := ⟨w5.heap.size + 1, 3, none⟩) (.slice A6 ps.length c6) (by dsimp only; omega) (by dsimp only; omega)).set (p := ⟨w5.heap.size + 1, 4, none⟩) (.int .i64 n') (by dsimp only; omega) (by dsimp only; omega))
                  obtain ⟨ck1, fk1, zk1⟩ := KB16.facts
                  obtain ⟨ck0, fk0, zk0⟩ := KB06.facts
                  refine wpAnyH_ready (rs := [10]) (by kernel_rfl) (by simp) ?_
                  refine' AllReadyH.cons (o := _) ?ho64 (fun Kq hKq => ?step64) ?more64
                  case ho64 => simp only [List.getElem?_toArray, List.getElem?_cons_succ, List.getElem?_cons_zero]; rfl
                  case step64 =>
                    go_simp
                    refine hKq.out _ _ ?hS64 (fun hHeld => ?_)
                    case hS64 => exact HSW _ TS0
                    clear hKq Kq
                    try simp only [Act.put, List.setIfInBounds_toArray, List.set_cons_zero, List.set_cons_succ]
                    have TS1 : Trn cb w4 (((((((((w6.setCell ⟨w5.heap.size + 1, 0, none⟩ (.int .i64 a)).setCell ⟨w5.heap.size + 1, 1, none⟩ (.int .i64 (m.length : Int))).setCell ⟨w5.heap.size + 1, 2, none⟩ (.int .i64 (colN m : Int))).setCell ⟨w5.heap.size + 1, 3, none⟩ (.slice A6 ps.length c6)).setCell ⟨w5.heap.size + 1, 4, none⟩ (.int .i64 n')).setCell ⟨w5.heap.size, 0, none⟩ (.int .i64 px)).setCell ⟨w5.heap.size, 1, none⟩ (.slice PA1 pl1 pc1)).setCell ⟨w5.heap.size, 2, none⟩ (.slice PA2 pl2 pc2))) := ((((((((T6.set (p := ⟨w5.heap.size + 1, 0, none⟩) (.int .i64 a) (by dsimp only; omega) (by dsimp only; omega)).set (p := ⟨w5.heap.size + 1, 1, none⟩) (.int .i64 (m.length : Int)) (by dsimp only; omega) (by dsimp only; omega)).set (p := ⟨w5.heap.size + 1, 2, none⟩) (.int .i64 (colN m : Int)) (by dsimp only; omega) (by dsimp only; omega)).set (p := ⟨w5.heap.size + 1, 3, none⟩) (.slice A6 ps.length c6) (by dsimp only; omega) (by dsimp only; omega)).set (p := ⟨w5.heap.size + 1, 4, none⟩) (.int .i64 n') (by dsimp only; omega) (by dsimp only; omega)).set (p := ⟨w5.heap.size, 0, none⟩) (.int .i64 px) (by dsimp only; omega) (by dsimp only; omega)).set (p := ⟨w5.heap.size, 1, none⟩) (.slice PA1 pl1 pc1) (by dsimp only; omega) (by dsimp only; omega)).set (p := ⟨w5.heap.size, 2, none⟩) (.slice PA2 pl2 pc2) (by dsimp only; omega) (by dsimp only; omega))
                    refine wpAnyH_ready (rs := [11]) (by kernel_rfl) (by simp) ?_
                    refine' AllReadyH.cons (o := _) ?ho65 (fun Kq hKq => ?step65) ?more65
                    case ho65 => simp only [List.getElem?_toArray, List.getElem?_cons_succ, List.getElem?_cons_zero]; rfl
                    case step65 =>
                      go_simp
                      refine hKq.out _ _ ?hS65 (fun hHeld => ?_)
                      case hS65 => exact HSW _ TS1
                      clear hKq Kq
                      try simp only [Act.put, List.setIfInBounds_toArray, List.set_cons_zero, List.set_cons_succ]
                      refine wpAnyH_done (by kernel_rfl) ?_ _
                      simp only [headPost, List.drop_succ_cons, List.drop_zero]
                      have KF : Blk (((((((((w6.setCell ⟨w5.heap.size + 1, 0, none⟩ (.int .i64 a)).setCell ⟨w5.heap.size + 1, 1, none⟩ (.int .i64 (m.length : Int))).setCell ⟨w5.heap.size + 1, 2, none⟩ (.int .i64 (colN m : Int))).setCell ⟨w5.heap.size + 1, 3, none⟩ (.slice A6 ps.length c6)).setCell ⟨w5.heap.size + 1, 4, none⟩ (.int .i64 n')).setCell ⟨w5.heap.size, 0, none⟩ (.int .i64 px)).setCell ⟨w5.heap.size, 1, none⟩ (.slice PA1 pl1 pc1)).setCell ⟨w5.heap.size, 2, none⟩ (.slice PA2 pl2 pc2))) (w5.heap.size + 1) 29 #[.int .i64 a, .int .i64 (m.length : Int), .int .i64 (colN m : Int), .slice A6 ps.length c6, .int .i64 n'] := ((((((((KB06.set 0 (.int .i64 a)).set 1 (.int .i64 (m.length : Int))).set 2 (.int .i64 (colN m : Int))).set 3 (.slice A6 ps.length c6)).set 4 (.int .i64 n')).far (p := ⟨w5.heap.size, 0, none⟩) (by dsimp only; omega) (.int .i64 px)).far (p := ⟨w5.heap.size, 1, none⟩) (by dsimp only; omega) (.slice PA1 pl1 pc1)).far (p := ⟨w5.heap.size, 2, none⟩) (by dsimp only; omega) (.slice PA2 pl2 pc2))
                      have OF : MP (((((((((w6.setCell ⟨w5.heap.size + 1, 0, none⟩ (.int .i64 a)).setCell ⟨w5.heap.size + 1, 1, none⟩ (.int .i64 (m.length : Int))).setCell ⟨w5.heap.size + 1, 2, none⟩ (.int .i64 (colN m : Int))).setCell ⟨w5.heap.size + 1, 3, none⟩ (.slice A6 ps.length c6)).setCell ⟨w5.heap.size + 1, 4, none⟩ (.int .i64 n')).setCell ⟨w5.heap.size, 0, none⟩ (.int .i64 px)).setCell ⟨w5.heap.size, 1, none⟩ (.slice PA1 pl1 pc1)).setCell ⟨w5.heap.size, 2, none⟩ (.slice PA2 pl2 pc2))) _ _ _ := ((((((((O6.setFar (p := ⟨w5.heap.size + 1, 0, none⟩) (by dsimp only; omega) (.int .i64 a)).setFar (p := ⟨w5.heap.size + 1, 1, none⟩) (by dsimp only; omega) (.int .i64 (m.length : Int))).setFar (p := ⟨w5.heap.size + 1, 2, none⟩) (by dsimp only; omega) (.int .i64 (colN m : Int))).setFar (p := ⟨w5.heap.size + 1, 3, none⟩) (by dsimp only; omega) (.slice A6 ps.length c6)).setFar (p := ⟨w5.heap.size + 1, 4, none⟩) (by dsimp only; omega) (.int .i64 n')).setFar (p := ⟨w5.heap.size, 0, none⟩) (by dsimp only; omega) (.int .i64 px)).setFar (p := ⟨w5.heap.size, 1, none⟩) (by dsimp only; omega) (.slice PA1 pl1 pc1)).setFar (p := ⟨w5.heap.size, 2, none⟩) (by dsimp only; omega) (.slice PA2 pl2 pc2))
                      have TF : Trn cb w4 (((((((((w6.setCell ⟨w5.heap.size + 1, 0, none⟩ (.int .i64 a)).setCell ⟨w5.heap.size + 1, 1, none⟩ (.int .i64 (m.length : Int))).setCell ⟨w5.heap.size + 1, 2, none⟩ (.int .i64 (colN m : Int))).setCell ⟨w5.heap.size + 1, 3, none⟩ (.slice A6 ps.length c6)).setCell ⟨w5.heap.size + 1, 4, none⟩ (.int .i64 n')).setCell ⟨w5.heap.size, 0, none⟩ (.int .i64 px)).setCell ⟨w5.heap.size, 1, none⟩ (.slice PA1 pl1 pc1)).setCell ⟨w5.heap.size, 2, none⟩ (.slice PA2 pl2 pc2))) := ((((((((T6.set (p := ⟨w5.heap.size + 1, 0, none⟩) (.int .i64 a) (by dsimp only; omega) (by dsimp only; omega)).set (p := ⟨w5.heap.size + 1, 1, none⟩) (.int .i64 (m.length : Int)) (by dsimp only; omega) (by dsimp only; omega)).set (p := ⟨w5.heap.size + 1, 2, none⟩) (.int .i64 (colN m : Int)) (by dsimp only; omega) (by dsimp only; omega)).set (p := ⟨w5.heap.size + 1, 3, none⟩) (.slice A6 ps.length c6) (by dsimp only; omega) (by dsimp only; omega)).set (p := ⟨w5.heap.size + 1, 4, none⟩) (.int .i64 n') (by dsimp only; omega) (by dsimp only; omega)).set (p := ⟨w5.heap.size, 0, none⟩) (.int .i64 px) (by dsimp only; omega) (by dsimp only; omega)).set (p := ⟨w5.heap.size, 1, none⟩) (.slice PA1 pl1 pc1) (by dsimp only; omega) (by dsimp only; omega)).set (p := ⟨w5.heap.size, 2, none⟩) (.slice PA2 pl2 pc2) (by dsimp only; omega) (by dsimp only; omega))
                      have hgF : w4.heap.size ≤ w5.heap.size + 1 := by omega
                      have OFL := OF.low (lo' := gb + 1) (by omega)
                      clear OF
                      generalize ((((((((w6.setCell ⟨w5.heap.size + 1, 0, none⟩ (.int .i64 a)).setCell ⟨w5.heap.size + 1, 1, none⟩ (.int .i64 (m.length : Int))).setCell ⟨w5.heap.size + 1, 2, none⟩ (.int .i64 (colN m : Int))).setCell ⟨w5.heap.size + 1, 3, none⟩ (.slice A6 ps.length c6)).setCell ⟨w5.heap.size + 1, 4, none⟩ (.int .i64 n')).setCell ⟨w5.heap.size, 0, none⟩ (.int .i64 px)).setCell ⟨w5.heap.size, 1, none⟩ (.slice PA1 pl1 pc1)).setCell ⟨w5.heap.size, 2, none⟩ (.slice PA2 pl2 pc2)) = w9 at *
                      generalize w5.heap.size + 1 = g9 at *
                      clear hHeld
                      have K9 := K4.trn TF (by omega)
                      have G9 := G4.trn TF hlt0
                      have R9 := R4.trn TF (by omega)
                      have T9 := T04.trans TF
                      have hcc : cb < gb := by omega
                      clear HSW TD K4 G4 R4 T4 O4 M4 TF
                      obtain ⟨cf, ff, zf⟩ := KF.facts
                      obtain ⟨ck, fk, zk⟩ := K9.facts
                      have K10 := K9.set5 (.int .i64 a) (.int .i64 (m.length : Int)) (.int .i64 (colN m : Int)) (.slice A6 ps.length c6) (.int .i64 n')
                      have G10 := G9.far5 (b := gb) (by omega) (.int .i64 a) (.int .i64 (m.length : Int)) (.int .i64 (colN m : Int)) (.slice A6 ps.length c6) (.int .i64 n')
                      have R10 := R9.far5 (b := gb) (by omega) (.int .i64 a) (.int .i64 (m.length : Int)) (.int .i64 (colN m : Int)) (.slice A6 ps.length c6) (.int .i64 n')
                      have O10 := OFL.set5 (g := gb) (by omega) (.int .i64 a) (.int .i64 (m.length : Int)) (.int .i64 (colN m : Int)) (.slice A6 ps.length c6) (.int .i64 n')
                      have T10 := T9.set5 (g := gb) (by omega) (by omega) (.int .i64 a) (.int .i64 (m.length : Int)) (.int .i64 (colN m : Int)) (.slice A6 ps.length c6) (.int .i64 n')
                      go_wp2_with fail
                      refine NoPanic.normal ?_
                      go_wp2
                      go_roundg (gk - 1)
                      case measure => exact Nat.sub_lt hlt (by decide)
                      case rel => exact ⟨_, ps, n', by first | rfl | go_num, hgk6, K10, O10, Lib.hid ⟨HD.out.1, HN'.out, HD.out.2.2⟩, G10, R10, T10⟩
                    exact AllReadyH.nil
                  exact AllReadyH.nil
                exact AllReadyH.nil
              exact AllReadyH.nil
            exact AllReadyH.nil
          refine' AllReadyH.cons (o := _) ?ho66 (fun Kq hKq => ?step66) ?more66
          case ho66 => simp only [List.getElem?_toArray, List.getElem?_cons_succ, List.getElem?_cons_zero]; rfl
          case step66 =>
            go_simp
            have TA0w4 := Trn.of T4.1 ((Bel.refl w4).alloc (.cells #[.int .i64 0, .int .i64 0, .int .i64 0, .slice none 0 0, .int .i64 0] 29)).drew
            refine hKq.out _ _ ?hS66 (fun hHeld => ?_)
            case hS66 => exact HSW _ TA0w4
            clear hKq Kq
            try simp only [Act.put, List.setIfInBounds_toArray, List.set_cons_zero, List.set_cons_succ]
            refine wpAnyH_ready (rs := [2, 9]) (by kernel_rfl) (by simp) ?_
            refine' AllReadyH.cons (o := _) ?ho67 (fun Kq hKq => ?step67) ?more67
            case ho67 => simp only [List.getElem?_toArray, List.getElem?_cons_succ, List.getElem?_cons_zero]; rfl
            case step67 =>
              go_simp
              have C5 := TA0w4.1
              go_at_call 79
              with_reducible refine (l1BelowS cb 90 _ C5 (by omega) (by omega)).mono ?_
              rintro e w5 ⟨y, rfl, hy, t5⟩
              have T5 := TA0w4.trans t5
              have hz5 : w4.heap.size ≤ w5.heap.size := T5.2.size
              have hx5 : w4.heap.size + 1 ≤ w5.heap.size := by have := t5.2.size; (try simp only [World.size_alloc] at this); first | omega | exact Nat.le_trans (by simp [World.drew, World.size_alloc]) this
              have KB05 := ((Blk.new w4 29 #[.int .i64 0, .int .i64 0, .int .i64 0, .slice none 0 0, .int .i64 0]).drew).trn t5 (by omega)
              refine hKq.out _ _ ?hS67 (fun hHeld => ?_)
              case hS67 => exact HSW _ T5
              clear hKq Kq
              try simp only [Act.put, List.setIfInBounds_toArray, List.set_cons_zero, List.set_cons_succ]
              refine wpAnyH_ready (rs := [3, 9]) (by kernel_rfl) (by simp) ?_
              refine' AllReadyH.cons (o := _) ?ho68 (fun Kq hKq => ?step68) ?more68
              case ho68 => simp only [List.getElem?_toArray, List.getElem?_cons_succ, List.getElem?_cons_zero]; rfl
              case step68 =>
                go_simp
                have P6 := (O4.mid T5.2 (by omega)).reads
                have hy9 : 0 ≤ y ∧ y ≤ 1000 := by omega
                have hsm := HSM.out ps HD.out.2.2
                have hd1 := HD.out.1
                have hd2 := HD.out.2.1
                go_at_call 131
                with_reducible refine (rcxS a (m.length : Int) (colN m : Int) n y _ ps _ P6 hsm hd1 hy9 HA.out hd2).mono ?_
                rintro e w6 ⟨r, px, PA1, pl1, pc1, PA2, pl2, pc2, pq, n', rfl, O6, hn', b6⟩
                try simp only [World.size_alloc] at O6
                obtain ⟨A6, c6, e6, _, _⟩ := O6.shape
                subst e6
                have HN' := Lib.hid hn'
                clear hn'
                have T6 := T5.then b6
                have hz6 : w4.heap.size ≤ w6.heap.size := T6.2.size
                have hy6 : w5.heap.size ≤ w6.heap.size := by have := b6.size; (try simp only [World.size_alloc] at this); omega
                have KB06 := b6.keep ((Bel.refl w5).keep KB05)
                refine hKq.out _ _ ?hS68 (fun hHeld => ?_)
                case hS68 => exact HSW _ T6
                clear hKq Kq
                try simp only [Act.put, List.setIfInBounds_toArray, List.set_cons_zero, List.set_cons_succ]
                refine' wpAnyH_take (i := 4) (oi := _) (v := _) ?hi69 (by kernel_rfl) (by kernel_rfl) (by kernel_rfl) (fun _ _ _ h => h) (Or.inl ⟨?hw69, ?hy69⟩) (by assumption) ?rest69
                case hi69 => simp only [List.getElem?_toArray, List.getElem?_cons_succ, List.getElem?_cons_zero]; rfl
                case hw69 => rfl
                case hy69 =>
                  intro W hSW
                  try dsimp only at hSW
                  go_simp
                  try with_reducible rfl
                simp only [Act.put, List.setIfInBounds_toArray, List.set_cons_zero, List.set_cons_succ]
                refine' wpAnyH_take (i := 5) (oi := _) (v := _) ?hi70 (by kernel_rfl) (by kernel_rfl) (by kernel_rfl) (fun _ _ _ h => h) (Or.inl ⟨?hw70, ?hy70⟩) (by assumption) ?rest70
                case hi70 => simp only [List.getElem?_toArray, List.getElem?_cons_succ, List.getElem?_cons_zero]; rfl
                case hw70 => rfl
                case hy70 =>
                  intro W hSW
                  try dsimp only at hSW
                  go_simp
                  try with_reducible rfl
                simp only [Act.put, List.setIfInBounds_toArray, List.set_cons_zero, List.set_cons_succ]
                refine' wpAnyH_take (i := 6) (oi := _) (v := _) ?hi71 (by kernel_rfl) (by kernel_rfl) (by kernel_rfl) (fun _ _ _ h => h) (Or.inl ⟨?hw71, ?hy71⟩) (by assumption) ?rest71
                case hi71 => simp only [List.getElem?_toArray, List.getElem?_cons_succ, List.getElem?_cons_zero]; rfl
                case hw71 => rfl
                case hy71 =>
                  intro W hSW
                  try dsimp only at hSW
                  go_simp
                  try with_reducible rfl
                simp only [Act.put, List.setIfInBounds_toArray, List.set_cons_zero, List.set_cons_succ]
                refine' wpAnyH_take (i := 7) (oi := _) (v := _) ?hi72 (by kernel_rfl) (by kernel_rfl) (by kernel_rfl) (fun _ _ _ h => h) (Or.inl ⟨?hw72, ?hy72⟩) (by assumption) ?rest72
                case hi72 => simp only [List.getElem?_toArray, List.getElem?_cons_succ, List.getElem?_cons_zero]; rfl
                case hw72 => rfl
                case hy72 =>
                  intro W hSW
                  try dsimp only at hSW
                  go_simp
                  try with_reducible rfl
                simp only [Act.put, List.setIfInBounds_toArray, List.set_cons_zero, List.set_cons_succ]
                refine wpAnyH_ready (rs := [9]) (by kernel_rfl) (by simp) ?_
                refine' AllReadyH.cons (o := _) ?ho73 (fun Kq hKq => ?step73) ?more73
                case ho73 => simp only [List.getElem?_toArray, List.getElem?_cons_succ, List.getElem?_cons_zero]; rfl
                case step73 =>
                  go_simp
                  have TA1w6 := T6.then ((Bel.refl w6).alloc (.cells #[.int .i64 0, .slice none 0 0, .slice none 0 0] 63))
                  refine hKq.out _ _ ?hS73 (fun hHeld => ?_)
                  case hS73 => exact HSW _ TA1w6
                  clear hKq Kq
                  try simp only [Act.put, List.setIfInBounds_toArray, List.set_cons_zero, List.set_cons_succ]
                  have TS0 : Trn cb w4 (((((((w6.setCell ⟨w4.heap.size, 0, none⟩ (.int .i64 a)).setCell ⟨w4.heap.size, 1, none⟩ (.int .i64 (m.length : Int))).setCell ⟨w4.heap.size, 2, none⟩ (.int .i64 (colN m : Int))).setCell ⟨w4.heap.size, 3, none⟩ (.slice A6 ps.length c6)).setCell ⟨w4.heap.size, 4, none⟩ (.int .i64 n')).alloc (.cells #[.int .i64 0, .slice none 0 0, .slice none 0 0] 63))) := ((((((T6.set (p := ⟨w4.heap.size, 0, none⟩) (.int .i64 a) (by dsimp only; omega) (by dsimp only; omega)).set (p := ⟨w4.heap.size, 1, none⟩) (.int .i64 (m.length : Int)) (by dsimp only; omega) (by dsimp only; omega)).set (p := ⟨w4.heap.size, 2, none⟩) (.int .i64 (colN m : Int)) (by dsimp only; omega) (by dsimp only; omega)).set (p := ⟨w4.heap.size, 3, none⟩) (.slice A6 ps.length c6) (by dsimp only; omega) (by dsimp only; omega)).set (p := ⟨w4.heap.size, 4, none⟩) (.int .i64 n') (by dsimp only; omega) (by dsimp only; omega)).then ((Bel.refl _).alloc (.cells #[.int .i64 0, .slice none 0 0, .slice none 0 0] 63)))
                  obtain ⟨ck0, fk0, zk0⟩ := KB06.facts
                  refine wpAnyH_ready (rs := [10]) (by kernel_rfl) (by simp) ?_
                  refine' AllReadyH.cons (o := _) ?ho74 (fun Kq hKq => ?step74) ?more74
                  case ho74 => simp only [List.getElem?_toArray, List.getElem?_cons_succ, List.getElem?_cons_zero]; rfl
                  case step74 =>
                    go_simp
                    refine hKq.out _ _ ?hS74 (fun hHeld => ?_)
                    case hS74 => exact HSW _ TS0
                    clear hKq Kq
                    try simp only [Act.put, List.setIfInBounds_toArray, List.set_cons_zero, List.set_cons_succ]
                    have TS1 : Trn cb w4 (((((((w6.setCell ⟨w4.heap.size, 0, none⟩ (.int .i64 a)).setCell ⟨w4.heap.size, 1, none⟩ (.int .i64 (m.length : Int))).setCell ⟨w4.heap.size, 2, none⟩ (.int .i64 (colN m : Int))).setCell ⟨w4.heap.size, 3, none⟩ (.slice A6 ps.length c6)).setCell ⟨w4.heap.size, 4, none⟩ (.int .i64 n')).alloc (.cells #[.int .i64 px, .slice PA1 pl1 pc1, .slice PA2 pl2 pc2] 63))) := ((((((T6.set (p := ⟨w4.heap.size, 0, none⟩) (.int .i64 a) (by dsimp only; omega) (by dsimp only; omega)).set (p := ⟨w4.heap.size, 1, none⟩) (.int .i64 (m.length : Int)) (by dsimp only; omega) (by dsimp only; omega)).set (p := ⟨w4.heap.size, 2, none⟩) (.int .i64 (colN m : Int)) (by dsimp only; omega) (by dsimp only; omega)).set (p := ⟨w4.heap.size, 3, none⟩) (.slice A6 ps.length c6) (by dsimp only; omega) (by dsimp only; omega)).set (p := ⟨w4.heap.size, 4, none⟩) (.int .i64 n') (by dsimp only; omega) (by dsimp only; omega)).then ((Bel.refl _).alloc (.cells #[.int .i64 px, .slice PA1 pl1 pc1, .slice PA2 pl2 pc2] 63)))
                    refine wpAnyH_ready (rs := [11]) (by kernel_rfl) (by simp) ?_
                    refine' AllReadyH.cons (o := _) ?ho75 (fun Kq hKq => ?step75) ?more75
                    case ho75 => simp only [List.getElem?_toArray, List.getElem?_cons_succ, List.getElem?_cons_zero]; rfl
                    case step75 =>
                      go_simp
                      refine hKq.out _ _ ?hS75 (fun hHeld => ?_)
                      case hS75 => exact HSW _ TS1
                      clear hKq Kq
                      try simp only [Act.put, List.setIfInBounds_toArray, List.set_cons_zero, List.set_cons_succ]
                      refine wpAnyH_done (by kernel_rfl) ?_ _
                      simp only [headPost, List.drop_succ_cons, List.drop_zero]
                      have KF : Blk (((((((w6.setCell ⟨w4.heap.size, 0, none⟩ (.int .i64 a)).setCell ⟨w4.heap.size, 1, none⟩ (.int .i64 (m.length : Int))).setCell ⟨w4.heap.size, 2, none⟩ (.int .i64 (colN m : Int))).setCell ⟨w4.heap.size, 3, none⟩ (.slice A6 ps.length c6)).setCell ⟨w4.heap.size, 4, none⟩ (.int .i64 n')).alloc (.cells #[.int .i64 px, .slice PA1 pl1 pc1, .slice PA2 pl2 pc2] 63))) (w4.heap.size) 29 #[.int .i64 a, .int .i64 (m.length : Int), .int .i64 (colN m : Int), .slice A6 ps.length c6, .int .i64 n'] := ((((((KB06.set 0 (.int .i64 a)).set 1 (.int .i64 (m.length : Int))).set 2 (.int .i64 (colN m : Int))).set 3 (.slice A6 ps.length c6)).set 4 (.int .i64 n')).alloc (.cells #[.int .i64 px, .slice PA1 pl1 pc1, .slice PA2 pl2 pc2] 63))
                      have OF : MP (((((((w6.setCell ⟨w4.heap.size, 0, none⟩ (.int .i64 a)).setCell ⟨w4.heap.size, 1, none⟩ (.int .i64 (m.length : Int))).setCell ⟨w4.heap.size, 2, none⟩ (.int .i64 (colN m : Int))).setCell ⟨w4.heap.size, 3, none⟩ (.slice A6 ps.length c6)).setCell ⟨w4.heap.size, 4, none⟩ (.int .i64 n')).alloc (.cells #[.int .i64 px, .slice PA1 pl1 pc1, .slice PA2 pl2 pc2] 63))) _ _ _ := ((((((O6.setFar (p := ⟨w4.heap.size, 0, none⟩) (by dsimp only; omega) (.int .i64 a)).setFar (p := ⟨w4.heap.size, 1, none⟩) (by dsimp only; omega) (.int .i64 (m.length : Int))).setFar (p := ⟨w4.heap.size, 2, none⟩) (by dsimp only; omega) (.int .i64 (colN m : Int))).setFar (p := ⟨w4.heap.size, 3, none⟩) (by dsimp only; omega) (.slice A6 ps.length c6)).setFar (p := ⟨w4.heap.size, 4, none⟩) (by dsimp only; omega) (.int .i64 n')).keep ((Bel.refl _).alloc (.cells #[.int .i64 px, .slice PA1 pl1 pc1, .slice PA2 pl2 pc2] 63)))
                      have TF : Trn cb w4 (((((((w6.setCell ⟨w4.heap.size, 0, none⟩ (.int .i64 a)).setCell ⟨w4.heap.size, 1, none⟩ (.int .i64 (m.length : Int))).setCell ⟨w4.heap.size, 2, none⟩ (.int .i64 (colN m : Int))).setCell ⟨w4.heap.size, 3, none⟩ (.slice A6 ps.length c6)).setCell ⟨w4.heap.size, 4, none⟩ (.int .i64 n')).alloc (.cells #[.int .i64 px, .slice PA1 pl1 pc1, .slice PA2 pl2 pc2] 63))) := ((((((T6.set (p := ⟨w4.heap.size, 0, none⟩) (.int .i64 a) (by dsimp only; omega) (by dsimp only; omega)).set (p := ⟨w4.heap.size, 1, none⟩) (.int .i64 (m.length : Int)) (by dsimp only; omega) (by dsimp only; omega)).set (p := ⟨w4.heap.size, 2, none⟩) (.int .i64 (colN m : Int)) (by dsimp only; omega) (by dsimp only; omega)).set (p := ⟨w4.heap.size, 3, none⟩) (.slice A6 ps.length c6) (by dsimp only; omega) (by dsimp only; omega)).set (p := ⟨w4.heap.size, 4, none⟩) (.int .i64 n') (by dsimp only; omega) (by dsimp only; omega)).then ((Bel.refl _).alloc (.cells #[.int .i64 px, .slice PA1 pl1 pc1, .slice PA2 pl2 pc2] 63)))
                      have hgF : w4.heap.size ≤ w4.heap.size := by omega
                      have OFL := OF.low (lo' := gb + 1) (by omega)
                      clear OF
                      generalize ((((((w6.setCell ⟨w4.heap.size, 0, none⟩ (.int .i64 a)).setCell ⟨w4.heap.size, 1, none⟩ (.int .i64 (m.length : Int))).setCell ⟨w4.heap.size, 2, none⟩ (.int .i64 (colN m : Int))).setCell ⟨w4.heap.size, 3, none⟩ (.slice A6 ps.length c6)).setCell ⟨w4.heap.size, 4, none⟩ (.int .i64 n')).alloc (.cells #[.int .i64 px, .slice PA1 pl1 pc1, .slice PA2 pl2 pc2] 63)) = w9 at *
                      generalize w4.heap.size = g9 at *
                      clear hHeld
                      have K9 := K4.trn TF (by omega)
                      have G9 := G4.trn TF hlt0
                      have R9 := R4.trn TF (by omega)
                      have T9 := T04.trans TF
                      have hcc : cb < gb := by omega
                      clear HSW TD K4 G4 R4 T4 O4 M4 TF
                      obtain ⟨cf, ff, zf⟩ := KF.facts
                      obtain ⟨ck, fk, zk⟩ := K9.facts
                      have K10 := K9.set5 (.int .i64 a) (.int .i64 (m.length : Int)) (.int .i64 (colN m : Int)) (.slice A6 ps.length c6) (.int .i64 n')
                      have G10 := G9.far5 (b := gb) (by omega) (.int .i64 a) (.int .i64 (m.length : Int)) (.int .i64 (colN m : Int)) (.slice A6 ps.length c6) (.int .i64 n')
                      have R10 := R9.far5 (b := gb) (by omega) (.int .i64 a) (.int .i64 (m.length : Int)) (.int .i64 (colN m : Int)) (.slice A6 ps.length c6) (.int .i64 n')
                      have O10 := OFL.set5 (g := gb) (by omega) (.int .i64 a) (.int .i64 (m.length : Int)) (.int .i64 (colN m : Int)) (.slice A6 ps.length c6) (.int .i64 n')
                      have T10 := T9.set5 (g := gb) (by omega) (by omega) (.int .i64 a) (.int .i64 (m.length : Int)) (.int .i64 (colN m : Int)) (.slice A6 ps.length c6) (.int .i64 n')
                      go_wp2_with fail
                      refine NoPanic.normal ?_
                      go_wp2
                      go_roundg (gk - 1)
                      case measure => exact Nat.sub_lt hlt (by decide)
                      case rel => exact ⟨_, ps, n', by first | rfl | go_num, hgk6, K10, O10, Lib.hid ⟨HD.out.1, HN'.out, HD.out.2.2⟩, G10, R10, T10⟩
                    exact AllReadyH.nil
                  exact AllReadyH.nil
                exact AllReadyH.nil
              refine' AllReadyH.cons (o := _) ?ho76 (fun Kq hKq => ?step76) ?more76
              case ho76 => simp only [List.getElem?_toArray, List.getElem?_cons_succ, List.getElem?_cons_zero]; rfl
              case step76 =>
                go_simp
                have TA1w5 := T5.then ((Bel.refl w5).alloc (.cells #[.int .i64 0, .slice none 0 0, .slice none 0 0] 63))
                refine hKq.out _ _ ?hS76 (fun hHeld => ?_)
                case hS76 => exact HSW _ TA1w5
                clear hKq Kq
                try simp only [Act.put, List.setIfInBounds_toArray, List.set_cons_zero, List.set_cons_succ]
                refine wpAnyH_ready (rs := [3]) (by kernel_rfl) (by simp) ?_
                refine' AllReadyH.cons (o := _) ?ho77 (fun Kq hKq => ?step77) ?more77
                case ho77 => simp only [List.getElem?_toArray, List.getElem?_cons_succ, List.getElem?_cons_zero]; rfl
                case step77 =>
                  go_simp
                  have P6 := (O4.mid TA1w5.2 (by omega)).reads
                  have hy9 : 0 ≤ y ∧ y ≤ 1000 := by omega
                  have hsm := HSM.out ps HD.out.2.2
                  have hd1 := HD.out.1
                  have hd2 := HD.out.2.1
                  go_at_call 131
                  with_reducible refine (rcxS a (m.length : Int) (colN m : Int) n y _ ps _ P6 hsm hd1 hy9 HA.out hd2).mono ?_
                  rintro e w6 ⟨r, px, PA1, pl1, pc1, PA2, pl2, pc2, pq, n', rfl, O6, hn', b6⟩
                  try simp only [World.size_alloc] at O6
                  obtain ⟨A6, c6, e6, _, _⟩ := O6.shape
                  subst e6
                  have HN' := Lib.hid hn'
                  clear hn'
                  have T6 := TA1w5.then b6
                  have hz6 : w4.heap.size ≤ w6.heap.size := T6.2.size
                  have hy6 : w5.heap.size ≤ w6.heap.size := by have := b6.size; (try simp only [World.size_alloc] at this); omega
                  have hx6 : w5.heap.size + 1 ≤ w6.heap.size := by have := b6.size; (try simp only [World.size_alloc] at this); first | omega | exact Nat.le_trans (by simp [World.drew, World.size_alloc]) this
                  have KB06 := b6.keep (((Bel.refl w5).alloc (.cells #[.int .i64 0, .slice none 0 0, .slice none 0 0] 63)).keep KB05)
                  have KB16 := b6.keep ((Blk.new w5 63 #[.int .i64 0, .slice none 0 0, .slice none 0 0]))
                  refine hKq.out _ _ ?hS77 (fun hHeld => ?_)
                  case hS77 => exact HSW _ T6
                  clear hKq Kq
                  try simp only [Act.put, List.setIfInBounds_toArray, List.set_cons_zero, List.set_cons_succ]
                  refine' wpAnyH_take (i := 4) (oi := _) (v := _) ?hi78 (by kernel_rfl) (by kernel_rfl) (by kernel_rfl) (fun _ _ _ h => h) (Or.inl ⟨?hw78, ?hy78⟩) (by assumption) ?rest78
                  case hi78 => simp only [List.getElem?_toArray, List.getElem?_cons_succ, List.getElem?_cons_zero]; rfl
                  case hw78 => rfl
                  case hy78 =>
                    intro W hSW
                    try dsimp only at hSW
                    go_simp
                    try with_reducible rfl
                  simp only [Act.put, List.setIfInBounds_toArray, List.set_cons_zero, List.set_cons_succ]
                  refine' wpAnyH_take (i := 5) (oi := _) (v := _) ?hi79 (by kernel_rfl) (by kernel_rfl) (by kernel_rfl) (fun _ _ _ h => h) (Or.inl ⟨?hw79, ?hy79⟩) (by assumption) ?rest79
                  case hi79 => simp only [List.getElem?_toArray, List.getElem?_cons_succ, List.getElem?_cons_zero]; rfl
                  case hw79 => rfl
                  case hy79 =>
                    intro W hSW
                    try dsimp only at hSW
                    go_simp
                    try with_reducible rfl
                  simp only [Act.put, List.setIfInBounds_toArray, List.set_cons_zero, List.set_cons_succ]
                  refine' wpAnyH_take (i := 6) (oi := _) (v := _) ?hi80 (by kernel_rfl) (by kernel_rfl) (by kernel_rfl) (fun _ _ _ h => h) (Or.inl ⟨?hw80, ?hy80⟩) (by assumption) ?rest80
                  case hi80 => simp only [List.getElem?_toArray, List.getElem?_cons_succ, List.getElem?_cons_zero]; rfl
                  case hw80 => rfl
                  case hy80 =>
                    intro W hSW
                    try dsimp only at hSW
                    go_simp
                    try with_reducible rfl
                  simp only [Act.put, List.setIfInBounds_toArray, List.set_cons_zero, List.set_cons_succ]
                  refine' wpAnyH_take (i := 7) (oi := _) (v := _) ?hi81 (by kernel_rfl) (by kernel_rfl) (by kernel_rfl) (fun _ _ _ h => h) (Or.inl ⟨?hw81, ?hy81⟩) (by assumption) ?rest81
                  case hi81 => simp only [List.getElem?_toArray, List.getElem?_cons_succ, List.getElem?_cons_zero]; rfl
                  case hw81 => rfl
                  case hy81 =>
                    intro W hSW
                    try dsimp only at hSW
                    go_simp
                    try with_reducible rfl
                  simp only [Act.put, List.setIfInBounds_toArray, List.set_cons_zero, List.set_cons_succ]
                  have TS0 : Trn cb w4 ((((((w6.setCell ⟨w4.heap.size, 0, none⟩ (.int .i64 a)).setCell ⟨w4.heap.size, 1, none⟩ (.int .i64 (m.length : Int))).setCell ⟨w4.heap.size, 2, none⟩ (.int .i64 (colN m : Int))).setCell ⟨w4.heap.size, 3, none⟩ (.slice A6 ps.length c6)).setCell ⟨w4.heap.size, 4, none⟩ (.int .i64 n'))) := (((((T6.set (p := ⟨w4.heap.size, 0, none⟩) (.int .i64 a) (by dsimp only; omega) (by dsimp only; omega)).set (p := ⟨w4.heap.size, 1, none⟩) (.int .i64 (m.length : Int)) (by dsimp only; omega) (by dsimp only; omega)).set (p := ⟨w4.heap.size, 2, none⟩) (.int .i64 (colN m : Int)) (by dsimp only; omega) (by dsimp only; omega)).set (p := ⟨w4.heap.size, 3, none⟩) (.slice A6 ps.length c6) (by dsimp only; omega) (by dsimp only; omega)).set (p := ⟨w4.heap.size, 4, none⟩) (.int .i64 n') (by dsimp only; omega) (by dsimp only; omega))
                  obtain ⟨ck0, fk0, zk0⟩ := KB06.facts
                  obtain ⟨ck1, fk1, zk1⟩ := KB16.facts
                  refine wpAnyH_ready (rs := [10]) (by kernel_rfl) (by simp) ?_
                  refine' AllReadyH.cons (o := _) ?ho82 (fun Kq hKq => ?step82) ?more82
                  case ho82 => simp only [List.getElem?_toArray, List.getElem?_cons_succ, List.getElem?_cons_zero]; rfl
                  case step82 =>
                    go_simp
                    refine hKq.out _ _ ?hS82 (fun hHeld => ?_)
                    case hS82 => exact HSW _ TS0
                    clear hKq Kq
                    try simp only [Act.put, List.setIfInBounds_toArray, List.set_cons_zero, List.set_cons_succ]
                    have TS1 : Trn cb w4 (((((((((w6.setCell ⟨w4.heap.size, 0, none⟩ (.int .i64 a)).setCell ⟨w4.heap.size, 1, none⟩ (.int .i64 (m.length : Int))).setCell ⟨w4.heap.size, 2, none⟩ (.int .i64 (colN m : Int))).setCell ⟨w4.heap.size, 3, none⟩ (.slice A6 ps.length c6)).setCell ⟨w4.heap.size, 4, none⟩ (.int .i64 n')).setCell ⟨w5.heap.size, 0, none⟩ (.int .i64 px)).setCell ⟨w5.heap.size, 1, none⟩ (.slice PA1 pl1 pc1)).setCell ⟨w5.heap.size, 2, none⟩ (.slice PA2 pl2 pc2))) := ((((((((T6.set (p := ⟨w4.heap.size, 0, none⟩) (.int .i64 a) (by dsimp only; omega) (by dsimp only; omega)).set (p := ⟨w4.heap.size, 1, none⟩) (.int .i64 (m.length : Int)) (by dsimp only; omega) (by dsimp only; omega)).set (p := ⟨w4.heap.size, 2, none⟩) (.int .i64 (colN m : Int)) (by dsimp only; omega) (by dsimp only; omega)).set (p := ⟨w4.heap.size, 3, none⟩) (.slice A6 ps.length c6) (by dsimp only; omega) (by dsimp only; omega)).set (p := ⟨w4.heap.size, 4, none⟩) (.int .i64 n') (by dsimp only; omega) (by dsimp only; omega)).set (p := ⟨w5.heap.size, 0, none⟩) (.int .i64 px) (by dsimp only; omega) (by dsimp only; omega)).set (p := ⟨w5.heap.size, 1, none⟩) (.slice PA1 pl1 pc1) (by dsimp only; omega) (by dsimp only; omega)).set (p := ⟨w5.heap.size, 2, none⟩) (.slice PA2 pl2 pc2) (by dsimp only; omega) (by dsimp only; omega))
                    refine wpAnyH_ready (rs := [11]) (by kernel_rfl) (by simp) ?_
                    refine' AllReadyH.cons (o := _) ?ho83 (fun Kq hKq => ?step83) ?more83
                    case ho83 => simp only [List.getElem?_toArray, List.getElem?_cons_succ, List.getElem?_cons_zero]; rfl
                    case step83 =>
                      go_simp
                      refine hKq.out _ _ ?hS83 (fun hHeld => ?_)
                      case hS83 => exact HSW _ TS1
                      clear hKq Kq
                      try simp only [Act.put, List.setIfInBounds_toArray, List.set_cons_zero, List.set_cons_succ]
                      refine wpAnyH_done (by kernel_rfl) ?_ _
                      simp only [headPost, List.drop_succ_cons, List.drop_zero]
                      have KF : Blk (((((((((w6.setCell ⟨w4.heap.size, 0, none⟩ (.int .i64 a)).setCell ⟨w4.heap.size, 1, none⟩ (.int .i64 (m.length : Int))).setCell ⟨w4.heap.size, 2, none⟩ (.int .i64 (colN m : Int))).setCell ⟨w4.heap.size, 3, none⟩ (.slice A6 ps.length c6)).setCell ⟨w4.heap.size, 4, none⟩ (.int .i64 n')).setCell ⟨w5.heap.size, 0, none⟩ (.int .i64 px)).setCell ⟨w5.heap.size, 1, none⟩ (.slice PA1 pl1 pc1)).setCell ⟨w5.heap.size, 2, none⟩ (.slice PA2 pl2 pc2))) (w4.heap.size) 29 #[.int .i64 a, .int .i64 (m.length : Int), .int .i64 (colN m : Int), .slice A6 ps.length c6, .int .i64 n'] := ((((((((KB06.set 0 (.int .i64 a)).set 1 (.int .i64 (m.length : Int))).set 2 (.int .i64 (colN m : Int))).set 3 (.slice A6 ps.length c6)).set 4 (.int .i64 n')).far (p := ⟨w5.heap.size, 0, none⟩) (by dsimp only; omega) (.int .i64 px)).far (p := ⟨w5.heap.size, 1, none⟩) (by dsimp only; omega) (.slice PA1 pl1 pc1)).far (p := ⟨w5.heap.size, 2, none⟩) (by dsimp only; omega) (.slice PA2 pl2 pc2))
                      have OF : MP (((((((((w6.setCell ⟨w4.heap.size, 0, none⟩ (.int .i64 a)).setCell ⟨w4.heap.size, 1, none⟩ (.int .i64 (m.length : Int))).setCell ⟨w4.heap.size, 2, none⟩ (.int .i64 (colN m : Int))).setCell ⟨w4.heap.size, 3, none⟩ (.slice A6 ps.length c6)).setCell ⟨w4.heap.size, 4, none⟩ (.int .i64 n')).setCell ⟨w5.heap.size, 0, none⟩ (.int .i64 px)).setCell ⟨w5.heap.size, 1, none⟩ (.slice PA1 pl1 pc1)).setCell ⟨w5.heap.size, 2, none⟩ (.slice PA2 pl2 pc2))) _ _ _ := ((((((((O6.setFar (p := ⟨w4.heap.size, 0, none⟩) (by dsimp only; omega) (.int .i64 a)).setFar (p := ⟨w4.heap.size, 1, none⟩) (by dsimp only; omega) (.int .i64 (m.length : Int))).setFar (p := ⟨w4.heap.size, 2, none⟩) (by dsimp only; omega) (.int .i64 (colN m : Int))).setFar (p := ⟨w4.heap.size, 3, none⟩) (by dsimp only; omega) (.slice A6 ps.length c6)).setFar (p := ⟨w4.heap.size, 4, none⟩) (by dsimp only; omega) (.int .i64 n')).setFar (p := ⟨w5.heap.size, 0, none⟩) (by dsimp only; omega) (.int .i64 px)).setFar (p := ⟨w5.heap.size, 1, none⟩) (by dsimp only; omega) (.slice PA1 pl1 pc1)).setFar (p := ⟨w5.heap.size, 2, none⟩) (by dsimp only; omega) (.slice PA2 pl2 pc2))
                      have TF : Trn cb w4 (((((((((w6.setCell ⟨w4.heap.size, 0, none⟩ (.int .i64 a)).setCell ⟨w4.heap.size, 1, none⟩ (.int .i64 (m.length : Int))).setCell ⟨w4.heap.size, 2, none⟩ (.int .i64 (colN m : Int))).setCell ⟨w4.heap.size, 3, none⟩ (.slice A6 ps.length c6)).setCell ⟨w4.heap.size, 4, none⟩ (.int .i64 n')).setCell ⟨w5.heap.size, 0, none⟩ (.int .i64 px)).setCell ⟨w5.heap.size, 1, none⟩ (.slice PA1 pl1 pc1)).setCell ⟨w5.heap.size, 2, none⟩ (.slice PA2 pl2 pc2))) := ((((((((T6.set (p := ⟨w4.heap.size, 0, none⟩) (.int .i64 a) (by dsimp only; omega) (by dsimp only; omega)).set (p := ⟨w4.heap.size, 1, none⟩) (.int .i64 (m.length : Int)) (by dsimp only; omega) (by dsimp only; omega)).set (p := ⟨w4.heap.size, 2, none⟩) (.int .i64 (colN m : Int)) (by dsimp only; omega) (by dsimp only; omega)).set (p := ⟨w4.heap.size, 3, none⟩) (.slice A6 ps.length c6) (by dsimp only; omega) (by dsimp only; omega)).set (p := ⟨w4.heap.size, 4, none⟩) (.int .i64 n') (by dsimp only; omega) (by dsimp only; omega)).set (p := ⟨w5.heap.size, 0, none⟩) (.int .i64 px) (by dsimp only; omega) (by dsimp only; omega)).set (p := ⟨w5.heap.size, 1, none⟩) (.slice PA1 pl1 pc1) (by dsimp only; omega) (by dsimp only; omega)).set (p := ⟨w5.heap.size, 2, none⟩) (.slice PA2 pl2 pc2) (by dsimp only; omega) (by dsimp only; omega))
                      have hgF : w4.heap.size ≤ w4.heap.size := by omega
                      have OFL := OF.low (lo' := gb + 1) (by omega)
                      clear OF
                      generalize ((((((((w6.setCell ⟨w4.heap.size, 0, none⟩ (.int .i64 a)).setCell ⟨w4.heap.size, 1, none⟩ (.int .i64 (m.length : Int))).setCell ⟨w4.heap.size, 2, none⟩ (.int .i64 (colN m : Int))).setCell ⟨w4.heap.size, 3, none⟩ (.slice A6 ps.length c6)).setCell ⟨w4.heap.size, 4, none⟩ (.int .i64 n')).setCell ⟨w5.heap.size, 0, none⟩ (.int .i64 px)).setCell ⟨w5.heap.size, 1, none⟩ (.slice PA1 pl1 pc1)).setCell ⟨w5.heap.size, 2, none⟩ (.slice PA2 pl2 pc2)) = w9 at *
                      generalize w4.heap.size = g9 at *
                      clear hHeld
                      have K9 := K4.trn TF (by omega)
                      have G9 := G4.trn TF hlt0
                      have R9 := R4.trn TF (by omega)
                      have T9 := T04.trans TF
                      have hcc : cb < gb := by omega
                      clear HSW TD K4 G4 R4 T4 O4 M4 TF
                      obtain ⟨cf, ff, zf⟩ := KF.facts
                      obtain ⟨ck, fk, zk⟩ := K9.facts
                      have K10 := K9.set5 (.int .i64 a) (.int .i64 (m.length : Int)) (.int .i64 (colN m : Int)) (.slice A6 ps.length c6) (.int .i64 n')
                      have G10 := G9.far5 (b := gb) (by omega) (.int .i64 a) (.int .i64 (m.length : Int)) (.int .i64 (colN m : Int)) (.slice A6 ps.length c6) (.int .i64 n')
                      have R10 := R9.far5 (b := gb) (by omega) (.int .i64 a) (.int .i64 (m.length : Int)) (.int .i64 (colN m : Int)) (.slice A6 ps.length c6) (.int .i64 n')
                      have O10 := OFL.set5 (g := gb) (by omega) (.int .i64 a) (.int .i64 (m.length : Int)) (.int .i64 (colN m : Int)) (.slice A6 ps.length c6) (.int .i64 n')
                      have T10 := T9.set5 (g := gb) (by omega) (by omega) (.int .i64 a) (.int .i64 (m.length : Int)) (.int .i64 (colN m : Int)) (.slice A6 ps.length c6) (.int .i64 n')
                      go_wp2_with fail
                      refine NoPanic.normal ?_
                      go_wp2
                      go_roundg (gk - 1)
                      case measure => exact Nat.sub_lt hlt (by decide)
                      case rel => exact ⟨_, ps, n', by first | rfl | go_num, hgk6, K10, O10, Lib.hid ⟨HD.out.1, HN'.out, HD.out.2.2⟩, G10, R10, T10⟩
                    exact AllReadyH.nil
                  exact AllReadyH.nil
                exact AllReadyH.nil
              exact AllReadyH.nil
            refine' AllReadyH.cons (o := _) ?ho84 (fun Kq hKq => ?step84) ?more84
            case ho84 => simp only [List.getElem?_toArray, List.getElem?_cons_succ, List.getElem?_cons_zero]; rfl
            case step84 =>
              go_simp
              have TA01w4 := Trn.of T4.1 (((Bel.refl w4).alloc (.cells #[.int .i64 0, .int .i64 0, .int .i64 0, .slice none 0 0, .int .i64 0] 29)).alloc (.cells #[.int .i64 0, .slice none 0 0, .slice none 0 0] 63)).drew
              refine hKq.out _ _ ?hS84 (fun hHeld => ?_)
              case hS84 => exact HSW _ TA01w4
              clear hKq Kq
              try simp only [Act.put, List.setIfInBounds_toArray, List.set_cons_zero, List.set_cons_succ]
              refine wpAnyH_ready (rs := [2]) (by kernel_rfl) (by simp) ?_
              refine' AllReadyH.cons (o := _) ?ho85 (fun Kq hKq => ?step85) ?more85
              case ho85 => simp only [List.getElem?_toArray, List.getElem?_cons_succ, List.getElem?_cons_zero]; rfl
              case step85 =>
                go_simp
                have C5 := TA01w4.1
                go_at_call 79
                with_reducible refine (l1BelowS cb 90 _ C5 (by omega) (by omega)).mono ?_
                rintro e w5 ⟨y, rfl, hy, t5⟩
                have T5 := TA01w4.trans t5
                have hz5 : w4.heap.size ≤ w5.heap.size := T5.2.size
                have hx5 : w4.heap.size + 2 ≤ w5.heap.size := by have := t5.2.size; (try simp only [World.size_alloc] at this); first | omega | exact Nat.le_trans (by simp [World.drew, World.size_alloc]) this
                have KB05 := (((Blk.new w4 29 #[.int .i64 0, .int .i64 0, .int .i64 0, .slice none 0 0, .int .i64 0]).alloc (.cells #[.int .i64 0, .slice none 0 0, .slice none 0 0] 63)).drew).trn t5 (by omega)
                have KB15 := ((Blk.new2 w4 (.cells #[.int .i64 0, .int .i64 0, .int .i64 0, .slice none 0 0, .int .i64 0] 29) 63 #[.int .i64 0, .slice none 0 0, .slice none 0 0]).drew).trn t5 (by omega)
                refine hKq.out _ _ ?hS85 (fun hHeld => ?_)
                case hS85 => exact HSW _ T5
                clear hKq Kq
                try simp only [Act.put, List.setIfInBounds_toArray, List.set_cons_zero, List.set_cons_succ]
                refine wpAnyH_ready (rs := [3]) (by kernel_rfl) (by simp) ?_
                refine' AllReadyH.cons (o := _) ?ho86 (fun Kq hKq => ?step86) ?more86
                case ho86 => simp only [List.getElem?_toArray, List.getElem?_cons_succ, List.getElem?_cons_zero]; rfl
                case step86 =>
                  go_simp
                  have P6 := (O4.mid T5.2 (by omega)).reads
                  have hy9 : 0 ≤ y ∧ y ≤ 1000 := by omega
                  have hsm := HSM.out ps HD.out.2.2
                  have hd1 := HD.out.1
                  have hd2 := HD.out.2.1
                  go_at_call 131
                  with_reducible refine (rcxS a (m.length : Int) (colN m : Int) n y _ ps _ P6 hsm hd1 hy9 HA.out hd2).mono ?_
                  rintro e w6 ⟨r, px, PA1, pl1, pc1, PA2, pl2, pc2, pq, n', rfl, O6, hn', b6⟩
                  try simp only [World.size_alloc] at O6
                  obtain ⟨A6, c6, e6, _, _⟩ := O6.shape
                  subst e6
                  have HN' := Lib.hid hn'
                  clear hn'
                  have T6 := T5.then b6
                  have hz6 : w4.heap.size ≤ w6.heap.size := T6.2.size
                  have hy6 : w5.heap.size ≤ w6.heap.size := by have := b6.size; (try simp only [World.size_alloc] at this); omega
                  have KB06 := b6.keep ((Bel.refl w5).keep KB05)
                  have KB16 := b6.keep ((Bel.refl w5).keep KB15)
                  refine hKq.out _ _ ?hS86 (fun hHeld => ?_)
                  case hS86 => exact HSW _ T6
                  clear hKq Kq
                  try simp only [Act.put, List.setIfInBounds_toArray, List.set_cons_zero, List.set_cons_succ]
                  refine' wpAnyH_take (i := 4) (oi := _) (v := _) ?hi87 (by kernel_rfl) (by kernel_rfl) (by kernel_rfl) (fun _ _ _ h => h) (Or.inl ⟨?hw87, ?hy87⟩) (by assumption) ?rest87
                  case hi87 => simp only [List.getElem?_toArray, List.getElem?_cons_succ, List.getElem?_cons_zero]; rfl
                  case hw87 => rfl
                  case hy87 =>
                    intro W hSW
                    try dsimp only at hSW
                    go_simp
                    try with_reducible rfl
                  simp only [Act.put, List.setIfInBounds_toArray, List.set_cons_zero, List.set_cons_succ]
                  refine' wpAnyH_take (i := 5) (oi := _) (v := _) ?hi88 (by kernel_rfl) (by kernel_rfl) (by kernel_rfl) (fun _ _ _ h => h) (Or.inl ⟨?hw88, ?hy88⟩) (by assumption) ?rest88
                  case hi88 => simp only [List.getElem?_toArray, List.getElem?_cons_succ, List.getElem?_cons_zero]; rfl
                  case hw88 => rfl
                  case hy88 =>
                    intro W hSW
                    try dsimp only at hSW
                    go_simp
                    try with_reducible rfl
                  simp only [Act.put, List.setIfInBounds_toArray, List.set_cons_zero, List.set_cons_succ]
                  refine' wpAnyH_take (i := 6) (oi := _) (v := _) ?hi89 (by kernel_rfl) (by kernel_rfl) (by kernel_rfl) (fun _ _ _ h => h) (Or.inl ⟨?hw89, ?hy89⟩) (by assumption) ?rest89
                  case hi89 => simp only [List.getElem?_toArray, List.getElem?_cons_succ, List.getElem?_cons_zero]; rfl
                  case hw89 => rfl
                  case hy89 =>
                    intro W hSW
                    try dsimp only at hSW
                    go_simp
                    try with_reducible rfl
                  simp only [Act.put, List.setIfInBounds_toArray, List.set_cons_zero, List.set_cons_succ]
                  refine' wpAnyH_take (i := 7) (oi := _) (v := _) ?hi90 (by kernel_rfl) (by kernel_rfl) (by kernel_rfl) (fun _ _ _ h => h) (Or.inl ⟨?hw90, ?hy90⟩) (by assumption) ?rest90
                  case hi90 => simp only [List.getElem?_toArray, List.getElem?_cons_succ, List.getElem?_cons_zero]; rfl
                  case hw90 => rfl
                  case hy90 =>
                    intro W hSW
                    try dsimp only at hSW
                    go_simp
                    try with_reducible rfl
                  simp only [Act.put, List.setIfInBounds_toArray, List.set_cons_zero, List.set_cons_succ]
                  have TS0 : Trn cb w4 ((((((w6.setCell ⟨w4.heap.size, 0, none⟩ (.int .i64 a)).setCell ⟨w4.heap.size, 1, none⟩ (.int .i64 (m.length : Int))).setCell ⟨w4.heap.size, 2, none⟩ (.int .i64 (colN m : Int))).setCell ⟨w4.heap.size, 3, none⟩ (.slice A6 ps.length c6)).setCell ⟨w4.heap.size, 4, none⟩ (.int .i64 n'))) := (((((T6.set (p := ⟨w4.heap.size, 0, none⟩) (.int .i64 a) (by dsimp only; omega) (by dsimp only; omega)).set (p := ⟨w4.heap.size, 1, none⟩) (.int .i64 (m.length : Int)) (by dsimp only; omega) (by dsimp only; omega)).set (p := ⟨w4.heap.size, 2, none⟩) (.int .i64 (colN m : Int)) (by dsimp only; omega) (by dsimp only; omega)).set (p := ⟨w4.heap.size, 3, none⟩) (.slice A6 ps.length c6) (by dsimp only; omega) (by dsimp only; omega)).set (p := ⟨w4.heap.size, 4, none⟩) (.int .i64 n') (by dsimp only; omega) (by dsimp only; omega))
                  obtain ⟨ck0, fk0, zk0⟩ := KB06.facts
                  obtain ⟨ck1, fk1, zk1⟩ := KB16.facts
                  refine wpAnyH_ready (rs := [10]) (by kernel_rfl) (by simp) ?_
                  refine' AllReadyH.cons (o := _) ?ho91 (fun Kq hKq => ?step91) ?more91
                  case ho91 => simp only [List.getElem?_toArray, List.getElem?_cons_succ, List.getElem?_cons_zero]; rfl
                  case step91 =>
                    go_simp
                    refine hKq.out _ _ ?hS91 (fun hHeld => ?_)
                    case hS91 => exact HSW _ TS0
                    clear hKq Kq
                    try simp only [Act.put, List.setIfInBounds_toArray, List.set_cons_zero, List.set_cons_succ]
                    have TS1 : Trn cb w4 (((((((((w6.setCell ⟨w4.heap.size, 0, none⟩ (.int .i64 a)).setCell ⟨w4.heap.size, 1, none⟩ (.int .i64 (m.length : Int))).setCell ⟨w4.heap.size, 2, none⟩ (.int .i64 (colN m : Int))).setCell ⟨w4.heap.size, 3, none⟩ (.slice A6 ps.length c6)).setCell ⟨w4.heap.size, 4, none⟩ (.int .i64 n')).setCell ⟨w4.heap.size + 1, 0, none⟩ (.int .i64 px)).setCell ⟨w4.heap.size + 1, 1, none⟩ (.slice PA1 pl1 pc1)).setCell ⟨w4.heap.size + 1, 2, none⟩ (.slice PA2 pl2 pc2))) := ((((((((T6.set (p := ⟨w4.heap.size, 0, none⟩) (.int .i64 a) (by dsimp only; omega) (by dsimp only; omega)).set (p := ⟨w4.heap.size, 1, none⟩) (.int .i64 (m.length : Int)) (by dsimp only; omega) (by dsimp only; omega)).set (p := ⟨w4.heap.size, 2, none⟩) (.int .i64 (colN m : Int)) (by dsimp only; omega) (by dsimp only; omega)).set (p := ⟨w4.heap.size, 3, none⟩) (.slice A6 ps.length c6) (by dsimp only; omega) (by dsimp only; omega)).set (p := ⟨w4.heap.size, 4, none⟩) (.int .i64 n') (by dsimp only; omega) (by dsimp only; omega)).set (p := ⟨w4.heap.size + 1, 0, none⟩) (.int .i64 px) (by dsimp only; omega) (by dsimp only; omega)).set (p := ⟨w4.heap.size + 1, 1, none⟩) (.slice PA1 pl1 pc1) (by dsimp only; omega) (by dsimp only; omega)).set (p := ⟨w4.heap.size + 1, 2, none⟩) (.slice PA2 pl2 pc2) (by dsimp only; omega) (by dsimp only; omega))
                    refine wpAnyH_ready (rs := [11]) (by kernel_rfl) (by simp) ?_
                    refine' AllReadyH.cons (o := _) ?ho92 (fun Kq hKq => ?step92) ?more92
                    case ho92 => simp only [List.getElem?_toArray, List.getElem?_cons_succ, List.getElem?_cons_zero]; rfl
                    case step92 =>
                      go_simp
                      refine hKq.out _ _ ?hS92 (fun hHeld => ?_)
                      case hS92 => exact HSW _ TS1
                      clear hKq Kq
                      try simp only [Act.put, List.setIfInBounds_toArray, List.set_cons_zero, List.set_cons_succ]
                      refine wpAnyH_done (by kernel_rfl) ?_ _
                      simp only [headPost, List.drop_succ_cons, List.drop_zero]
                      have KF : Blk (((((((((w6.setCell ⟨w4.heap.size, 0, none⟩ (.int .i64 a)).setCell ⟨w4.heap.size, 1, none⟩ (.int .i64 (m.length : Int))).setCell ⟨w4.heap.size, 2, none⟩ (.int .i64 (colN m : Int))).setCell ⟨w4.heap.size, 3, none⟩ (.slice A6 ps.length c6)).setCell ⟨w4.heap.size, 4, none⟩ (.int .i64 n')).setCell ⟨w4.heap.size + 1, 0, none⟩ (.int .i64 px)).setCell ⟨w4.heap.size + 1, 1, none⟩ (.slice PA1 pl1 pc1)).setCell ⟨w4.heap.size + 1, 2, none⟩ (.slice PA2 pl2 pc2))) (w4.heap.size) 29 #[.int .i64 a, .int .i64 (m.length : Int), .int .i64 (colN m : Int), .slice A6 ps.length c6, .int .i64 n'] := ((((((((KB06.set 0 (.int .i64 a)).set 1 (.int .i64 (m.length : Int))).set 2 (.int .i64 (colN m : Int))).set 3 (.slice A6 ps.length c6)).set 4 (.int .i64 n')).far (p := ⟨w4.heap.size + 1, 0, none⟩) (by dsimp only; omega) (.int .i64 px)).far (p := ⟨w4.heap.size + 1, 1, none⟩) (by dsimp only; omega) (.slice PA1 pl1 pc1)).far (p := ⟨w4.heap.size + 1, 2, none⟩) (by dsimp only; omega) (.slice PA2 pl2 pc2))
                      have OF : MP (((((((((w6.setCell ⟨w4.heap.size, 0, none⟩ (.int .i64 a)).setCell ⟨w4.heap.size, 1, none⟩ (.int .i64 (m.length : Int))).setCell ⟨w4.heap.size, 2, none⟩ (.int .i64 (colN m : Int))).setCell ⟨w4.heap.size, 3, none⟩ (.slice A6 ps.length c6)).setCell ⟨w4.heap.size, 4, none⟩ (.int .i64 n')).setCell ⟨w4.heap.size + 1, 0, none⟩ (.int .i64 px)).setCell ⟨w4.heap.size + 1, 1, none⟩ (.slice PA1 pl1 pc1)).setCell ⟨w4.heap.size + 1, 2, none⟩ (.slice PA2 pl2 pc2))) _ _ _ := ((((((((O6.setFar (p := ⟨w4.heap.size, 0, none⟩) (by dsimp only; omega) (.int .i64 a)).setFar (p := ⟨w4.heap.size, 1, none⟩) (by dsimp only; omega) (.int .i64 (m.length : Int))).setFar (p := ⟨w4.heap.size, 2, none⟩) (by dsimp only; omega) (.int .i64 (colN m : Int))).setFar (p := ⟨w4.heap.size, 3, none⟩) (by dsimp only; omega) (.slice A6 ps.length c6)).setFar (p := ⟨w4.heap.size, 4, none⟩) (by dsimp only; omega) (.int .i64 n')).setFar (p := ⟨w4.heap.size + 1, 0, none⟩) (by dsimp only; omega) (.int .i64 px)).setFar (p := ⟨w4.heap.size + 1, 1, none⟩) (by dsimp only; omega) (.slice PA1 pl1 pc1)).setFar (p := ⟨w4.heap.size + 1, 2, none⟩) (by dsimp only; omega) (.slice PA2 pl2 pc2))
                      have TF : Trn cb w4 (((((((((w6.setCell ⟨w4.heap.size, 0, none⟩ (.int .i64 a)).setCell ⟨w4.heap.size, 1, none⟩ (.int .i64 (m.length : Int))).setCell ⟨w4.heap.size, 2, none⟩ (.int .i64 (colN m : Int))).setCell ⟨w4.heap.size, 3, none⟩ (.slice A6 ps.length c6)).setCell ⟨w4.heap.size, 4, none⟩ (.int .i64 n')).setCell ⟨w4.heap.size + 1, 0, none⟩ (.int .i64 px)).setCell ⟨w4.heap.size + 1, 1, none⟩ (.slice PA1 pl1 pc1)).setCell ⟨w4.heap.size + 1, 2, none⟩ (.slice PA2 pl2 pc2))) := ((((((((T6.set (p := ⟨w4.heap.size, 0, none⟩) (.int .i64 a) (by dsimp only; omega) (by dsimp only; omega)).set (p := ⟨w4.heap.size, 1, none⟩) (.int .i64 (m.length : Int)) (by dsimp only; omega) (by dsimp only; omega)).set (p := ⟨w4.heap.size, 2, none⟩) (.int .i64 (colN m : Int)) (by dsimp only; omega) (by dsimp only; omega)).set (p := ⟨w4.heap.size, 3, none⟩) (.slice A6 ps.length c6) (by dsimp only; omega) (by dsimp only; omega)).set (p := ⟨w4.heap.size, 4, none⟩) (.int .i64 n') (by dsimp only; omega) (by dsimp only; omega)).set (p := ⟨w4.heap.size + 1, 0, none⟩) (.int .i64 px) (by dsimp only; omega) (by dsimp only; omega)).set (p := ⟨w4.heap.size + 1, 1, none⟩) (.slice PA1 pl1 pc1) (by dsimp only; omega) (by dsimp only; omega)).set (p := ⟨w4.heap.size + 1, 2, none⟩) (.slice PA2 pl2 pc2) (by dsimp only; omega) (by dsimp only; omega))
                      have hgF : w4.heap.size ≤ w4.heap.size := by omega
                      have OFL := OF.low (lo' := gb + 1) (by omega)
                      clear OF
                      generalize ((((((((w6.setCell ⟨w4.heap.size, 0, none⟩ (.int .i64 a)).setCell ⟨w4.heap.size, 1, none⟩ (.int .i64 (m.length : Int))).setCell ⟨w4.heap.size, 2, none⟩ (.int .i64 (colN m : Int))).setCell ⟨w4.heap.size, 3, none⟩ (.slice A6 ps.length c6)).setCell ⟨w4.heap.size, 4, none⟩ (.int .i64 n')).setCell ⟨w4.heap.size + 1, 0, none⟩ (.int .i64 px)).setCell ⟨w4.heap.size + 1, 1, none⟩ (.slice PA1 pl1 pc1)).setCell ⟨w4.heap.size + 1, 2, none⟩ (.slice PA2 pl2 pc2)) = w9 at *
                      generalize w4.heap.size = g9 at *
                      clear hHeld
                      have K9 := K4.trn TF (by omega)
                      have G9 := G4.trn TF hlt0
                      have R9 := R4.trn TF (by omega)
                      have T9 := T04.trans TF
                      have hcc : cb < gb := by omega
                      clear HSW TD K4 G4 R4 T4 O4 M4 TF
                      obtain ⟨cf, ff, zf⟩ := KF.facts
                      obtain ⟨ck, fk, zk⟩ := K9.facts
                      have K10 := K9.set5 (.int .i64 a) (.int .i64 (m.length : Int)) (.int .i64 (colN m : Int)) (.slice A6 ps.length c6) (.int .i64 n')
                      have G10 := G9.far5 (b := gb) (by omega) (.int .i64 a) (.int .i64 (m.length : Int)) (.int .i64 (colN m : Int)) (.slice A6 ps.length c6) (.int .i64 n')
                      have R10 := R9.far5 (b := gb) (by omega) (.int .i64 a) (.int .i64 (m.length : Int)) (.int .i64 (colN m : Int)) (.slice A6 ps.length c6) (.int .i64 n')
                      have O10 := OFL.set5 (g := gb) (by omega) (.int .i64 a) (.int .i64 (m.length : Int)) (.int .i64 (colN m : Int)) (.slice A6 ps.length c6) (.int .i64 n')
                      have T10 := T9.set5 (g := gb) (by omega) (by omega) (.int .i64 a) (.int .i64 (m.length : Int)) (.int .i64 (colN m : Int)) (.slice A6 ps.length c6) (.int .i64 n')
                      go_wp2_with fail
                      refine NoPanic.normal ?_
                      go_wp2
                      go_roundg (gk - 1)
                      case measure => exact Nat.sub_lt hlt (by decide)
                      case rel => exact ⟨_, ps, n', by first | rfl | go_num, hgk6, K10, O10, Lib.hid ⟨HD.out.1, HN'.out, HD.out.2.2⟩, G10, R10, T10⟩
                    exact AllReadyH.nil
                  exact AllReadyH.nil
                exact AllReadyH.nil
              exact AllReadyH.nil
            exact AllReadyH.nil
          refine' AllReadyH.cons (o := _) ?ho93 (fun Kq hKq => ?step93) ?more93
          case ho93 => simp only [List.getElem?_toArray, List.getElem?_cons_succ, List.getElem?_cons_zero]; rfl
          case step93 =>
            go_simp
            have TA1w4 := Trn.of T4.1 ((Bel.refl w4).alloc (.cells #[.int .i64 0, .slice none 0 0, .slice none 0 0] 63)).drew
            refine hKq.out _ _ ?hS93 (fun hHeld => ?_)
            case hS93 => exact HSW _ TA1w4
            clear hKq Kq
            try simp only [Act.put, List.setIfInBounds_toArray, List.set_cons_zero, List.set_cons_succ]
            refine wpAnyH_ready (rs := [2, 8]) (by kernel_rfl) (by simp) ?_
            refine' AllReadyH.cons (o := _) ?ho94 (fun Kq hKq => ?step94) ?more94
            case ho94 => simp only [List.getElem?_toArray, List.getElem?_cons_succ, List.getElem?_cons_zero]; rfl
            case step94 =>
              go_simp
              have C5 := TA1w4.1
              go_at_call 79
              with_reducible refine (l1BelowS cb 90 _ C5 (by omega) (by omega)).mono ?_
              rintro e w5 ⟨y, rfl, hy, t5⟩
              have T5 := TA1w4.trans t5
              have hz5 : w4.heap.size ≤ w5.heap.size := T5.2.size
              have hx5 : w4.heap.size + 1 ≤ w5.heap.size := by have := t5.2.size; (try simp only [World.size_alloc] at this); first | omega | exact Nat.le_trans (by simp [World.drew, World.size_alloc]) this
              have KB15 := ((Blk.new w4 63 #[.int .i64 0, .slice none 0 0, .slice none 0 0]).drew).trn t5 (by omega)
              refine hKq.out _ _ ?hS94 (fun hHeld => ?_)
              case hS94 => exact HSW _ T5
              clear hKq Kq
              try simp only [Act.put, List.setIfInBounds_toArray, List.set_cons_zero, List.set_cons_succ]
              refine wpAnyH_ready (rs := [3, 8]) (by kernel_rfl) (by simp) ?_
              refine' AllReadyH.cons (o := _) ?ho95 (fun Kq hKq => ?step95) ?more95
              case ho95 => simp only [List.getElem?_toArray, List.getElem?_cons_succ, List.getElem?_cons_zero]; rfl
              case step95 =>
                go_simp
                have P6 := (O4.mid T5.2 (by omega)).reads
                have hy9 : 0 ≤ y ∧ y ≤ 1000 := by omega
                have hsm := HSM.out ps HD.out.2.2
                have hd1 := HD.out.1
                have hd2 := HD.out.2.1
                go_at_call 131
                with_reducible refine (rcxS a (m.length : Int) (colN m : Int) n y _ ps _ P6 hsm hd1 hy9 HA.out hd2).mono ?_
                rintro e w6 ⟨r, px, PA1, pl1, pc1, PA2, pl2, pc2, pq, n', rfl, O6, hn', b6⟩
                try simp only [World.size_alloc] at O6
                obtain ⟨A6, c6, e6, _, _⟩ := O6.shape
                subst e6
                have HN' := Lib.hid hn'
                clear hn'
                have T6 := T5.then b6
                have hz6 : w4.heap.size ≤ w6.heap.size := T6.2.size
                have hy6 : w5.heap.size ≤ w6.heap.size := by have := b6.size; (try simp only [World.size_alloc] at this); omega
                have KB16 := b6.keep ((Bel.refl w5).keep KB15)
                refine hKq.out _ _ ?hS95 (fun hHeld => ?_)
                case hS95 => exact HSW _ T6
                clear hKq Kq
                try simp only [Act.put, List.setIfInBounds_toArray, List.set_cons_zero, List.set_cons_succ]
                refine' wpAnyH_take (i := 4) (oi := _) (v := _) ?hi96 (by kernel_rfl) (by kernel_rfl) (by kernel_rfl) (fun _ _ _ h => h) (Or.inl ⟨?hw96, ?hy96⟩) (by assumption) ?rest96
                case hi96 => simp only [List.getElem?_toArray, List.getElem?_cons_succ, List.getElem?_cons_zero]; rfl
                case hw96 => rfl
                case hy96 =>
                  intro W hSW
                  try dsimp only at hSW
                  go_simp
                  try with_reducible rfl
                simp only [Act.put, List.setIfInBounds_toArray, List.set_cons_zero, List.set_cons_succ]
                refine' wpAnyH_take (i := 5) (oi := _) (v := _) ?hi97 (by kernel_rfl) (by kernel_rfl) (by kernel_rfl) (fun _ _ _ h => h) (Or.inl ⟨?hw97, ?hy97⟩) (by assumption) ?rest97
                case hi97 => simp only [List.getElem?_toArray, List.getElem?_cons_succ, List.getElem?_cons_zero]; rfl
                case hw97 => rfl
                case hy97 =>
                  intro W hSW
                  try dsimp only at hSW
                  go_simp
                  try with_reducible rfl
                simp only [Act.put, List.setIfInBounds_toArray, List.set_cons_zero, List.set_cons_succ]
                refine' wpAnyH_take (i := 6) (oi := _) (v := _) ?hi98 (by kernel_rfl) (by kernel_rfl) (by kernel_rfl) (fun _ _ _ h => h) (Or.inl ⟨?hw98, ?hy98⟩) (by assumption) ?rest98
                case hi98 => simp only [List.getElem?_toArray, List.getElem?_cons_succ, List.getElem?_cons_zero]; rfl
                case hw98 => rfl
                case hy98 =>
                  intro W hSW
                  try dsimp only at hSW
                  go_simp
                  try with_reducible rfl
                simp only [Act.put, List.setIfInBounds_toArray, List.set_cons_zero, List.set_cons_succ]
                refine' wpAnyH_take (i := 7) (oi := _) (v := _) ?hi99 (by kernel_rfl) (by kernel_rfl) (by kernel_rfl) (fun _ _ _ h => h) (Or.inl ⟨?hw99, ?hy99⟩) (by assumption) ?rest99
                case hi99 => simp only [List.getElem?_toArray, List.getElem?_cons_succ, List.getElem?_cons_zero]; rfl
                case hw99 => rfl
                case hy99 =>
                  intro W hSW
                  try dsimp only at hSW
                  go_simp
                  try with_reducible rfl
                simp only [Act.put, List.setIfInBounds_toArray, List.set_cons_zero, List.set_cons_succ]
                refine wpAnyH_ready (rs := [8]) (by kernel_rfl) (by simp) ?_
                refine' AllReadyH.cons (o := _) ?ho100 (fun Kq hKq => ?step100) ?more100
                case ho100 => simp only [List.getElem?_toArray, List.getElem?_cons_succ, List.getElem?_cons_zero]; rfl
                case step100 =>
                  go_simp
                  have TA0w6 := T6.then ((Bel.refl w6).alloc (.cells #[.int .i64 0, .int .i64 0, .int .i64 0, .slice none 0 0, .int .i64 0] 29))
                  refine hKq.out _ _ ?hS100 (fun hHeld => ?_)
                  case hS100 => exact HSW _ TA0w6
                  clear hKq Kq
                  try simp only [Act.put, List.setIfInBounds_toArray, List.set_cons_zero, List.set_cons_succ]
                  have TS0 : Trn cb w4 ((w6.alloc (.cells #[.int .i64 a, .int .i64 (m.length : Int), .int .i64 (colN m : Int), .slice A6 ps.length c6, .int .i64 n'] 29))) := (T6.then ((Bel.refl _).alloc (.cells #[.int .i64 a, .int .i64 (m.length : Int), .int .i64 (colN m : Int), .slice A6 ps.length c6, .int .i64 n'] 29)))
                  obtain ⟨ck1, fk1, zk1⟩ := KB16.facts
                  refine wpAnyH_ready (rs := [10]) (by kernel_rfl) (by simp) ?_
                  refine' AllReadyH.cons (o := _) ?ho101 (fun Kq hKq => ?step101) ?more101
                  case ho101 => simp only [List.getElem?_toArray, List.getElem?_cons_succ, List.getElem?_cons_zero]; rfl
                  case step101 =>
                    go_simp
                    refine hKq.out _ _ ?hS101 (fun hHeld => ?_)
                    case hS101 => exact HSW _ TS0
                    clear hKq Kq
                    try simp only [Act.put, List.setIfInBounds_toArray, List.set_cons_zero, List.set_cons_succ]
                    have TS1 : Trn cb w4 (((((w6.setCell ⟨w4.heap.size, 0, none⟩ (.int .i64 px)).setCell ⟨w4.heap.size, 1, none⟩ (.slice PA1 pl1 pc1)).setCell ⟨w4.heap.size, 2, none⟩ (.slice PA2 pl2 pc2)).alloc (.cells #[.int .i64 a, .int .i64 (m.length : Int), .int .i64 (colN m : Int), .slice A6 ps.length c6, .int .i64 n'] 29))) := ((((T6.set (p := ⟨w4.heap.size, 0, none⟩) (.int .i64 px) (by dsimp only; omega) (by dsimp only; omega)).set (p := ⟨w4.heap.size, 1, none⟩) (.slice PA1 pl1 pc1) (by dsimp only; omega) (by dsimp only; omega)).set (p := ⟨w4.heap.size, 2, none⟩) (.slice PA2 pl2 pc2) (by dsimp only; omega) (by dsimp only; omega)).then ((Bel.refl _).alloc (.cells #[.int .i64 a, .int .i64 (m.length : Int), .int .i64 (colN m : Int), .slice A6 ps.length c6, .int .i64 n'] 29)))
                    refine wpAnyH_ready (rs := [11]) (by kernel_rfl) (by simp) ?_
                    refine' AllReadyH.cons (o := _) ?ho102 (fun Kq hKq => ?step102) ?more102
                    case ho102 => simp only [List.getElem?_toArray, List.getElem?_cons_succ, List.getElem?_cons_zero]; rfl
                    case step102 =>
                      go_simp
                      refine hKq.out _ _ ?hS102 (fun hHeld => ?_)
                      case hS102 => exact HSW _ TS1
                      clear hKq Kq
                      try simp only [Act.put, List.setIfInBounds_toArray, List.set_cons_zero, List.set_cons_succ]
                      refine wpAnyH_done (by kernel_rfl) ?_ _
                      simp only [headPost, List.drop_succ_cons, List.drop_zero]
                      have KF : Blk (((((w6.setCell ⟨w4.heap.size, 0, none⟩ (.int .i64 px)).setCell ⟨w4.heap.size, 1, none⟩ (.slice PA1 pl1 pc1)).setCell ⟨w4.heap.size, 2, none⟩ (.slice PA2 pl2 pc2)).alloc (.cells #[.int .i64 a, .int .i64 (m.length : Int), .int .i64 (colN m : Int), .slice A6 ps.length c6, .int .i64 n'] 29))) (w6.heap.size) 29 #[.int .i64 a, .int .i64 (m.length : Int), .int .i64 (colN m : Int), .slice A6 ps.length c6, .int .i64 n'] := (Blk.at (Blk.new (((w6.setCell ⟨w4.heap.size, 0, none⟩ (.int .i64 px)).setCell ⟨w4.heap.size, 1, none⟩ (.slice PA1 pl1 pc1)).setCell ⟨w4.heap.size, 2, none⟩ (.slice PA2 pl2 pc2)) 29 #[.int .i64 a, .int .i64 (m.length : Int), .int .i64 (colN m : Int), .slice A6 ps.length c6, .int .i64 n']) (by simp only [szS]))
                      have OF : MP (((((w6.setCell ⟨w4.heap.size, 0, none⟩ (.int .i64 px)).setCell ⟨w4.heap.size, 1, none⟩ (.slice PA1 pl1 pc1)).setCell ⟨w4.heap.size, 2, none⟩ (.slice PA2 pl2 pc2)).alloc (.cells #[.int .i64 a, .int .i64 (m.length : Int), .int .i64 (colN m : Int), .slice A6 ps.length c6, .int .i64 n'] 29))) _ _ _ := ((((O6.setFar (p := ⟨w4.heap.size, 0, none⟩) (by dsimp only; omega) (.int .i64 px)).setFar (p := ⟨w4.heap.size, 1, none⟩) (by dsimp only; omega) (.slice PA1 pl1 pc1)).setFar (p := ⟨w4.heap.size, 2, none⟩) (by dsimp only; omega) (.slice PA2 pl2 pc2)).keep ((Bel.refl _).alloc (.cells #[.int .i64 a, .int .i64 (m.length : Int), .int .i64 (colN m : Int), .slice A6 ps.length c6, .int .i64 n'] 29)))
                      have TF : Trn cb w4 (((((w6.setCell ⟨w4.heap.size, 0, none⟩ (.int .i64 px)).setCell ⟨w4.heap.size, 1, none⟩ (.slice PA1 pl1 pc1)).setCell ⟨w4.heap.size, 2, none⟩ (.slice PA2 pl2 pc2)).alloc (.cells #[.int .i64 a, .int .i64 (m.length : Int), .int .i64 (colN m : Int), .slice A6 ps.length c6, .int .i64 n'] 29))) := ((((T6.set (p := ⟨w4.heap.size, 0, none⟩) (.int .i64 px) (by dsimp only; omega) (by dsimp only; omega)).set (p := ⟨w4.heap.size, 1, none⟩) (.slice PA1 pl1 pc1) (by dsimp only; omega) (by dsimp only; omega)).set (p := ⟨w4.heap.size, 2, none⟩) (.slice PA2 pl2 pc2) (by dsimp only; omega) (by dsimp only; omega)).then ((Bel.refl _).alloc (.cells #[.int .i64 a, .int .i64 (m.length : Int), .int .i64 (colN m : Int), .slice A6 ps.length c6, .int .i64 n'] 29)))
                      have hgF : w4.heap.size ≤ w6.heap.size := by omega
                      have OFL := OF.low (lo' := gb + 1) (by omega)
                      clear OF
                      generalize ((((w6.setCell ⟨w4.heap.size, 0, none⟩ (.int .i64 px)).setCell ⟨w4.heap.size, 1, none⟩ (.slice PA1 pl1 pc1)).setCell ⟨w4.heap.size, 2, none⟩ (.slice PA2 pl2 pc2)).alloc (.cells #[.int .i64 a, .int .i64 (m.length : Int), .int .i64 (colN m : Int), .slice A6 ps.length c6, .int .i64 n'] 29)) = w9 at *
                      generalize w6.heap.size = g9 at *
                      clear hHeld
                      have K9 := K4.trn TF (by omega)
                      have G9 := G4.trn TF hlt0
                      have R9 := R4.trn TF (by omega)
                      have T9 := T04.trans TF
                      have hcc : cb < gb := by omega
                      clear HSW TD K4 G4 R4 T4 O4 M4 TF
                      obtain ⟨cf, ff, zf⟩ := KF.facts
                      obtain ⟨ck, fk, zk⟩ := K9.facts
                      have K10 := K9.set5 (.int .i64 a) (.int .i64 (m.length : Int)) (.int .i64 (colN m : Int)) (.slice A6 ps.length c6) (.int .i64 n')
                      have G10 := G9.far5 (b := gb) (by omega) (.int .i64 a) (.int .i64 (m.length : Int)) (.int .i64 (colN m : Int)) (.slice A6 ps.length c6) (.int .i64 n')
                      have R10 := R9.far5 (b := gb) (by omega) (.int .i64 a) (.int .i64 (m.length : Int)) (.int .i64 (colN m : Int)) (.slice A6 ps.length c6) (.int .i64 n')
                      have O10 := OFL.set5 (g := gb) (by omega) (.int .i64 a) (.int .i64 (m.length : Int)) (.int .i64 (colN m : Int)) (.slice A6 ps.length c6) (.int .i64 n')
                      have T10 := T9.set5 (g := gb) (by omega) (by omega) (.int .i64 a) (.int .i64 (m.length : Int)) (.int .i64 (colN m : Int)) (.slice A6 ps.length c6) (.int .i64 n')
                      go_wp2_with fail
                      refine NoPanic.normal ?_
                      go_wp2
                      go_roundg (gk - 1)
                      case measure => exact Nat.sub_lt hlt (by decide)
                      case rel => exact ⟨_, ps, n', by first | rfl | go_num, hgk6, K10, O10, Lib.hid ⟨HD.out.1, HN'.out, HD.out.2.2⟩, G10, R10, T10⟩
                    exact AllReadyH.nil
                  exact AllReadyH.nil
                exact AllReadyH.nil
              refine' AllReadyH.cons (o := _) ?ho103 (fun Kq hKq => ?step103) ?more103
              case ho103 => simp only [List.getElem?_toArray, List.getElem?_cons_succ, List.getElem?_cons_zero]; rfl
              case step103 =>
                go_simp
                have TA0w5 := T5.then ((Bel.refl w5).alloc (.cells #[.int .i64 0, .int .i64 0, .int .i64 0, .slice none 0 0, .int .i64 0] 29))
                refine hKq.out _ _ ?hS103 (fun hHeld => ?_)
                case hS103 => exact HSW _ TA0w5
                clear hKq Kq
                try simp only [Act.put, List.setIfInBounds_toArray, List.set_cons_zero, List.set_cons_succ]
                refine wpAnyH_ready (rs := [3]) (by kernel_rfl) (by simp) ?_
                refine' AllReadyH.cons (o := _) ?ho104 (fun Kq hKq => ?step104) ?more104
                case ho104 => simp only [List.getElem?_toArray, List.getElem?_cons_succ, List.getElem?_cons_zero]; rfl
                case step104 =>
                  go_simp
                  have P6 := (O4.mid TA0w5.2 (by omega)).reads
                  have hy9 : 0 ≤ y ∧ y ≤ 1000 := by omega
                  have hsm := HSM.out ps HD.out.2.2
                  have hd1 := HD.out.1
                  have hd2 := HD.out.2.1
                  go_at_call 131
                  with_reducible refine (rcxS a (m.length : Int) (colN m : Int) n y _ ps _ P6 hsm hd1 hy9 HA.out hd2).mono ?_
                  rintro e w6 ⟨r, px, PA1, pl1, pc1, PA2, pl2, pc2, pq, n', rfl, O6, hn', b6⟩
                  try simp only [World.size_alloc] at O6
                  obtain ⟨A6, c6, e6, _, _⟩ := O6.shape
                  subst e6
                  have HN' := Lib.hid hn'
                  clear hn'
                  have T6 := TA0w5.then b6
                  have hz6 : w4.heap.size ≤ w6.heap.size := T6.2.size
                  have hy6 : w5.heap.size ≤ w6.heap.size := by have := b6.size; (try simp only [World.size_alloc] at this); omega
                  have hx6 : w5.heap.size + 1 ≤ w6.heap.size := by have := b6.size; (try simp only [World.size_alloc] at this); first | omega | exact Nat.le_trans (by simp [World.drew, World.size_alloc]) this
                  have KB16 := b6.keep (((Bel.refl w5).alloc (.cells #[.int .i64 0, .int .i64 0, .int .i64 0, .slice none 0 0, .int .i64 0] 29)).keep KB15)
                  have KB06 := b6.keep ((Blk.new w5 29 #[.int .i64 0, .int .i64 0, .int .i64 0, .slice none 0 0, .int .i64 0]))
                  refine hKq.out _ _ ?hS104 (fun hHeld => ?_)
                  case hS104 => exact HSW _ T6
                  clear hKq Kq
                  try simp only [Act.put, List.setIfInBounds_toArray, List.set_cons_zero, List.set_cons_succ]
                  refine' wpAnyH_take (i := 4) (oi := _) (v := _) ?hi105 (by kernel_rfl) (by kernel_rfl) (by kernel_rfl) (fun _ _ _ h => h) (Or.inl ⟨?hw105, ?hy105⟩) (by assumption) ?rest105
                  case hi105 => simp only [List.getElem?_toArray, List.getElem?_cons_succ, List.getElem?_cons_zero]; rfl
                  case hw105 => rfl
                  case hy105 =>
                    intro W hSW
                    try dsimp only at hSW
                    go_simp
                    try with_reducible rfl
                  simp only [Act.put, List.setIfInBounds_toArray, List.set_cons_zero, List.set_cons_succ]
                  refine' wpAnyH_take (i := 5) (oi := _) (v := _) ?hi106 (by kernel_rfl) (by kernel_rfl) (by kernel_rfl) (fun _ _ _ h => h) (Or.inl ⟨?hw106, ?hy106⟩) (by assumption) ?rest106
                  case hi106 => simp only [List.getElem?_toArray, List.getElem?_cons_succ, List.getElem?_cons_zero]; rfl
                  case hw106 => rfl
                  case hy106 =>
                    intro W hSW
                    try dsimp only at hSW
                    go_simp
                    try with_reducible rfl
                  simp only [Act.put, List.setIfInBounds_toArray, List.set_cons_zero, List.set_cons_succ]
                  refine' wpAnyH_take (i := 6) (oi := _) (v := _) ?hi107 (by kernel_rfl) (by kernel_rfl) (by kernel_rfl) (fun _ _ _ h => h) (Or.inl ⟨?hw107, ?hy107⟩) (by assumption) ?rest107
                  case hi107 => simp only [List.getElem?_toArray, List.getElem?_cons_succ, List.getElem?_cons_zero]; rfl
                  case hw107 => rfl
                  case hy107 =>
                    intro W hSW
                    try dsimp only at hSW
                    go_simp
                    try with_reducible rfl
                  simp only [Act.put, List.setIfInBounds_toArray, List.set_cons_zero, List.set_cons_succ]
                  refine' wpAnyH_take (i := 7) (oi := _) (v := _) ?hi108 (by kernel_rfl) (by kernel_rfl) (by kernel_rfl) (fun _ _ _ h => h) (Or.inl ⟨?hw108, ?hy108⟩) (by assumption) ?rest108
                  case hi108 => simp only [List.getElem?_toArray, List.getElem?_cons_succ, List.getElem?_cons_zero]; rfl
                  case hw108 => rfl
                  case hy108 =>
                    intro W hSW
                    try dsimp only at hSW
                    go_simp
                    try with_reducible rfl
                  simp only [Act.put, List.setIfInBounds_toArray, List.set_cons_zero, List.set_cons_succ]
                  have TS0 : Trn cb w4 ((((((w6.setCell ⟨w5.heap.size, 0, none⟩ (.int .i64 a)).setCell ⟨w5.heap.size, 1, none⟩ (.int .i64 (m.length : Int))).setCell ⟨w5.heap.size, 2, none⟩ (.int .i64 (colN m : Int))).setCell ⟨w5.heap.size, 3, none⟩ (.slice A6 ps.length c6)).setCell ⟨w5.heap.size, 4, none⟩ (.int .i64 n'))) := (((((T6.set (p := ⟨w5.heap.size, 0, none⟩) (.int .i64 a) (by dsimp only; omega) (by dsimp only; omega)).set (p := ⟨w5.heap.size, 1, none⟩) (.int .i64 (m.length : Int)) (by dsimp only; omega) (by dsimp only; omega)).set (p := ⟨w5.heap.size, 2, none⟩) (.int .i64 (colN m : Int)) (by dsimp only; omega) (by dsimp only; omega)).set (p := ⟨w5.heap.size, 3, none⟩) (.slice A6 ps.length c6) (by dsimp only; omega) (by dsimp only; omega)).set (p := ⟨w5.heap.size, 4, none⟩) (.int .i64 n') (by dsimp only; omega) (by dsimp only; omega))
                  obtain ⟨ck1, fk1, zk1⟩ := KB16.facts
                  obtain ⟨ck0, fk0, zk0⟩ := KB06.facts
                  refine wpAnyH_ready (rs := [10]) (by kernel_rfl) (by simp) ?_
                  refine' AllReadyH.cons (o := _) ?ho109 (fun Kq hKq => ?step109) ?more109
                  case ho109 => simp only [List.getElem?_toArray, List.getElem?_cons_succ, List.getElem?_cons_zero]; rfl
                  case step109 =>
                    go_simp
                    refine hKq.out _ _ ?hS109 (fun hHeld => ?_)
                    case hS109 => exact HSW _ TS0
                    clear hKq Kq
                    try simp only [Act.put, List.setIfInBounds_toArray, List.set_cons_zero, List.set_cons_succ]
                    have TS1 : Trn cb w4 (((((((((w6.setCell ⟨w5.heap.size, 0, none⟩ (.int .i64 a)).setCell ⟨w5.heap.size, 1, none⟩ (.int .i64 (m.length : Int))).setCell ⟨w5.heap.size, 2, none⟩ (.int .i64 (colN m : Int))).setCell ⟨w5.heap.size, 3, none⟩ (.slice A6 ps.length c6)).setCell ⟨w5.heap.size, 4, none⟩ (.int .i64 n')).setCell ⟨w4.heap.size, 0, none⟩ (.int .i64 px)).setCell ⟨w4.heap.size, 1, none⟩ (.slice PA1 pl1 pc1)).setCell ⟨w4.heap.size, 2, none⟩ (.slice PA2 pl2 pc2))) := ((((((((T6.set (p := ⟨w5.heap.size, 0, none⟩) (.int .i64 a) (by dsimp only; omega) (by dsimp only; omega)).set (p := ⟨w5.heap.size, 1, none⟩) (.int .i64 (m.length : Int)) (by dsimp only; omega) (by dsimp only; omega)).set (p := ⟨w5.heap.size, 2, none⟩) (.int .i64 (colN m : Int)) (by dsimp only; omega) (by dsimp only; omega)).set (p := ⟨w5.heap.size, 3, none⟩) (.slice A6 ps.length c6) (by dsimp only; omega) (by dsimp only; omega)).set (p := ⟨w5.heap.size, 4, none⟩) (.int .i64 n') (by dsimp only; omega) (by dsimp only; omega)).set (p := ⟨w4.heap.size, 0, none⟩) (.int .i64 px) (by dsimp only; omega) (by dsimp only; omega)).set (p := ⟨w4.heap.size, 1, none⟩) (.slice PA1 pl1 pc1) (by dsimp only; omega) (by dsimp only; omega)).set (p := ⟨w4.heap.size, 2, none⟩) (.slice PA2 pl2 pc2) (by dsimp only; omega) (by dsimp only; omega))
                    refine wpAnyH_ready (rs := [11]) (by kernel_rfl) (by simp) ?_
                    refine' AllReadyH.cons (o := _) ?ho110 (fun Kq hKq => ?step110) ?more110
                    case ho110 => simp only [List.getElem?_toArray, List.getElem?_cons_succ, List.getElem?_cons_zero]; rfl
                    case step110 =>
                      go_simp
                      refine hKq.out _ _ ?hS110 (fun hHeld => ?_)
                      case hS110 => exact HSW _ TS1
                      clear hKq Kq
                      try simp only [Act.put, List.setIfInBounds_toArray, List.set_cons_zero, List.set_cons_succ]
                      refine wpAnyH_done (by kernel_rfl) ?_ _
                      simp only [headPost, List.drop_succ_cons, List.drop_zero]
                      have KF : Blk (((((((((w6.setCell ⟨w5.heap.size, 0, none⟩ (.int .i64 a)).setCell ⟨w5.heap.size, 1, none⟩ (.int .i64 (m.length : Int))).setCell ⟨w5.heap.size, 2, none⟩ (.int .i64 (colN m : Int))).setCell ⟨w5.heap.size, 3, none⟩ (.slice A6 ps.length c6)).setCell ⟨w5.heap.size, 4, none⟩ (.int .i64 n')).setCell ⟨w4.heap.size, 0, none⟩ (.int .i64 px)).setCell ⟨w4.heap.size, 1, none⟩ (.slice PA1 pl1 pc1)).setCell ⟨w4.heap.size, 2, none⟩ (.slice PA2 pl2 pc2))) (w5.heap.size) 29 #[.int .i64 a, .int .i64 (m.length : Int), .int .i64 (colN m : Int), .slice A6 ps.length c6, .int .i64 n'] := ((((((((KB06.set 0 (.int .i64 a)).set 1 (.int .i64 (m.length : Int))).set 2 (.int .i64 (colN m : Int))).set 3 (.slice A6 ps.length c6)).set 4 (.int .i64 n')).far (p := ⟨w4.heap.size, 0, none⟩) (by dsimp only; omega) (.int .i64 px)).far (p := ⟨w4.heap.size, 1, none⟩) (by dsimp only; omega) (.slice PA1 pl1 pc1)).far (p := ⟨w4.heap.size, 2, none⟩) (by dsimp only; omega) (.slice PA2 pl2 pc2))
                      have OF : MP (((((((((w6.setCell ⟨w5.heap.size, 0, none⟩ (.int .i64 a)).setCell ⟨w5.heap.size, 1, none⟩ (.int .i64 (m.length : Int))).setCell ⟨w5.heap.size, 2, none⟩ (.int .i64 (colN m : Int))).setCell ⟨w5.heap.size, 3, none⟩ (.slice A6 ps.length c6)).setCell ⟨w5.heap.size, 4, none⟩ (.int .i64 n')).setCell ⟨w4.heap.size, 0, none⟩ (.int .i64 px)).setCell ⟨w4.heap.size, 1, none⟩ (.slice PA1 pl1 pc1)).setCell ⟨w4.heap.size, 2, none⟩ (.slice PA2 pl2 pc2))) _ _ _ := ((((((((O6.setFar (p := ⟨w5.heap.size, 0, none⟩) (by dsimp only; omega) (.int .i64 a)).setFar (p := ⟨w5.heap.size, 1, none⟩) (by dsimp only; omega) (.int .i64 (m.length : Int))).setFar (p := ⟨w5.heap.size, 2, none⟩) (by dsimp only; omega) (.int .i64 (colN m : Int))).setFar (p := ⟨w5.heap.size, 3, none⟩) (by dsimp only; omega) (.slice A6 ps.length c6)).setFar (p := ⟨w5.heap.size, 4, none⟩) (by dsimp only; omega) (.int .i64 n')).setFar (p := ⟨w4.heap.size, 0, none⟩) (by dsimp only; omega) (.int .i64 px)).setFar (p := ⟨w4.heap.size, 1, none⟩) (by dsimp only; omega) (.slice PA1 pl1 pc1)).setFar (p := ⟨w4.heap.size, 2, none⟩) (by dsimp only; omega) (.slice PA2 pl2 pc2))
                      have TF : Trn cb w4 (((((((((w6.setCell ⟨w5.heap.size, 0, none⟩ (.int .i64 a)).setCell ⟨w5.heap.size, 1, none⟩ (.int .i64 (m.length : Int))).setCell ⟨w5.heap.size, 2, none⟩ (.int .i64 (colN m : Int))).setCell ⟨w5.heap.size, 3, none⟩ (.slice A6 ps.length c6)).setCell ⟨w5.heap.size, 4, none⟩ (.int .i64 n')).setCell ⟨w4.heap.size, 0, none⟩ (.int .i64 px)).setCell ⟨w4.heap.size, 1, none⟩ (.slice PA1 pl1 pc1)).setCell ⟨w4.heap.size, 2, none⟩ (.slice PA2 pl2 pc2))) := ((((((((T6.set (p := ⟨w5.heap.size, 0, none⟩) (.int .i64 a) (by dsimp only; omega) (by dsimp only; omega)).set (p := ⟨w5.heap.size, 1, none⟩) (.int .i64 (m.length : Int)) (by dsimp only; omega) (by dsimp only; omega)).set (p := ⟨w5.heap.size, 2, none⟩) (.int .i64 (colN m : Int)) (by dsimp only; omega) (by dsimp only; omega)).set (p := ⟨w5.heap.size, 3, none⟩) (.slice A6 ps.length c6) (by dsimp only; omega) (by dsimp only; omega)).set (p := ⟨w5.heap.size, 4, none⟩) (.int .i64 n') (by dsimp only; omega) (by dsimp only; omega)).set (p := ⟨w4.heap.size, 0, none⟩) (.int .i64 px) (by dsimp only; omega) (by dsimp only; omega)).set (p := ⟨w4.heap.size, 1, none⟩) (.slice PA1 pl1 pc1) (by dsimp only; omega) (by dsimp only; omega)).set (p := ⟨w4.heap.size, 2, none⟩) (.slice PA2 pl2 pc2) (by dsimp only; omega) (by dsimp only; omega))
                      have hgF : w4.heap.size ≤ w5.heap.size := by omega
                      have OFL := OF.low (lo' := gb + 1) (by omega)
                      clear OF
                      generalize ((((((((w6.setCell ⟨w5.heap.size, 0, none⟩ (.int .i64 a)).setCell ⟨w5.heap.size, 1, none⟩ (.int .i64 (m.length : Int))).setCell ⟨w5.heap.size, 2, none⟩ (.int .i64 (colN m : Int))).setCell ⟨w5.heap.size, 3, none⟩ (.slice A6 ps.length c6)).setCell ⟨w5.heap.size, 4, none⟩ (.int .i64 n')).setCell ⟨w4.heap.size, 0, none⟩ (.int .i64 px)).setCell ⟨w4.heap.size, 1, none⟩ (.slice PA1 pl1 pc1)).setCell ⟨w4.heap.size, 2, none⟩ (.slice PA2 pl2 pc2)) = w9 at *
                      generalize w5.heap.size = g9 at *
                      clear hHeld
                      have K9 := K4.trn TF (by omega)
                      have G9 := G4.trn TF hlt0
                      have R9 := R4.trn TF (by omega)
                      have T9 := T04.trans TF
                      have hcc : cb < gb := by omega
                      clear HSW TD K4 G4 R4 T4 O4 M4 TF
                      obtain ⟨cf, ff, zf⟩ := KF.facts
                      obtain ⟨ck, fk, zk⟩ := K9.facts
                      have K10 := K9.set5 (.int .i64 a) (.int .i64 (m.length : Int)) (.int .i64 (colN m : Int)) (.slice A6 ps.length c6) (.int .i64 n')
                      have G10 := G9.far5 (b := gb) (by omega) (.int .i64 a) (.int .i64 (m.length : Int)) (.int .i64 (colN m : Int)) (.slice A6 ps.length c6) (.int .i64 n')
                      have R10 := R9.far5 (b := gb) (by omega) (.int .i64 a) (.int .i64 (m.length : Int)) (.int .i64 (colN m : Int)) (.slice A6 ps.length c6) (.int .i64 n')
                      have O10 := OFL.set5 (g := gb) (by omega) (.int .i64 a) (.int .i64 (m.length : Int)) (.int .i64 (colN m : Int)) (.slice A6 ps.length c6) (.int .i64 n')
                      have T10 := T9.set5 (g := gb) (by omega) (by omega) (.int .i64 a) (.int .i64 (m.length : Int)) (.int .i64 (colN m : Int)) (.slice A6 ps.length c6) (.int .i64 n')
                      go_wp2_with fail
                      refine NoPanic.normal ?_
                      go_wp2
                      go_roundg (gk - 1)
                      case measure => exact Nat.sub_lt hlt (by decide)
                      case rel => exact ⟨_, ps, n', by first | rfl | go_num, hgk6, K10, O10, Lib.hid ⟨HD.out.1, HN'.out, HD.out.2.2⟩, G10, R10, T10⟩
                    exact AllReadyH.nil
                  exact AllReadyH.nil
                exact AllReadyH.nil
              exact AllReadyH.nil
            refine' AllReadyH.cons (o := _) ?ho111 (fun Kq hKq => ?step111) ?more111
            case ho111 => simp only [List.getElem?_toArray, List.getElem?_cons_succ, List.getElem?_cons_zero]; rfl
            case step111 =>
              go_simp
              have TA10w4 := Trn.of T4.1 (((Bel.refl w4).alloc (.cells #[.int .i64 0, .slice none 0 0, .slice none 0 0] 63)).alloc (.cells #[.int .i64 0, .int .i64 0, .int .i64 0, .slice none 0 0, .int .i64 0] 29)).drew
              refine hKq.out _ _ ?hS111 (fun hHeld => ?_)
              case hS111 => exact HSW _ TA10w4
              clear hKq Kq
              try simp only [Act.put, List.setIfInBounds_toArray, List.set_cons_zero, List.set_cons_succ]
              refine wpAnyH_ready (rs := [2]) (by kernel_rfl) (by simp) ?_
              refine' AllReadyH.cons (o := _) ?ho112 (fun Kq hKq => ?step112) ?more112
              case ho112 => simp only [List.getElem?_toArray, List.getElem?_cons_succ, List.getElem?_cons_zero]; rfl
              case step112 =>
                go_simp
                have C5 := TA10w4.1
                go_at_call 79
                with_reducible refine (l1BelowS cb 90 _ C5 (by omega) (by omega)).mono ?_
                rintro e w5 ⟨y, rfl, hy, t5⟩
                have T5 := TA10w4.trans t5
                have hz5 : w4.heap.size ≤ w5.heap.size := T5.2.size
                have hx5 : w4.heap.size + 2 ≤ w5.heap.size := by have := t5.2.size; (try simp only [World.size_alloc] at this); first | omega | exact Nat.le_trans (by simp [World.drew, World.size_alloc]) this
                have KB15 := (((Blk.new w4 63 #[.int .i64 0, .slice none 0 0, .slice none 0 0]).alloc (.cells #[.int .i64 0, .int .i64 0, .int .i64 0, .slice none 0 0, .int .i64 0] 29)).drew).trn t5 (by omega)
                have KB05 := ((Blk.new2 w4 (.cells #[.int .i64 0, .slice none 0 0, .slice none 0 0] 63) 29 #[.int .i64 0, .int .i64 0, .int .i64 0, .slice none 0 0, .int .i64 0]).drew).trn t5 (by omega)
                refine hKq.out _ _ ?hS112 (fun hHeld => ?_)
                case hS112 => exact HSW _ T5
                clear hKq Kq
                try simp only [Act.put, List.setIfInBounds_toArray, List.set_cons_zero, List.set_cons_succ]
                refine wpAnyH_ready (rs := [3]) (by kernel_rfl) (by simp) ?_
                refine' AllReadyH.cons (o := _) ?ho113 (fun Kq hKq => ?step113) ?more113
                case ho113 => simp only [List.getElem?_toArray, List.getElem?_cons_succ, List.getElem?_cons_zero]; rfl
                case step113 =>
                  go_simp
                  have P6 := (O4.mid T5.2 (by omega)).reads
                  have hy9 : 0 ≤ y ∧ y ≤ 1000 := by omega
                  have hsm := HSM.out ps HD.out.2.2
                  have hd1 := HD.out.1
                  have hd2 := HD.out.2.1
                  go_at_call 131
                  with_reducible refine (rcxS a (m.length : Int) (colN m : Int) n y _ ps _ P6 hsm hd1 hy9 HA.out hd2).mono ?_
                  rintro e w6 ⟨r, px, PA1, pl1, pc1, PA2, pl2, pc2, pq, n', rfl, O6, hn', b6⟩
                  try simp only [World.size_alloc] at O6
                  obtain ⟨A6, c6, e6, _, _⟩ := O6.shape
                  subst e6
                  have HN' := Lib.hid hn'
                  clear hn'
                  have T6 := T5.then b6
                  have hz6 : w4.heap.size ≤ w6.heap.size := T6.2.size
                  have hy6 : w5.heap.size ≤ w6.heap.size := by have := b6.size; (try simp only [World.size_alloc] at this); omega
                  have KB16 := b6.keep ((Bel.refl w5).keep KB15)
                  have KB06 := b6.keep ((Bel.refl w5).keep KB05)
                  refine hKq.out _ _ ?hS113 (fun hHeld => ?_)
                  case hS113 => exact HSW _ T6
                  clear hKq Kq
                  try simp only [Act.put, List.setIfInBounds_toArray, List.set_cons_zero, List.set_cons_succ]
                  refine' wpAnyH_take (i := 4) (oi := _) (v := _) ?hi114 (by kernel_rfl) (by kernel_rfl) (by kernel_rfl) (fun _ _ _ h => h) (Or.inl ⟨?hw114, ?hy114⟩) (by assumption) ?rest114
                  case hi114 => simp only [List.getElem?_toArray, List.getElem?_cons_succ, List.getElem?_cons_zero]; rfl
                  case hw114 => rfl
                  case hy114 =>
                    intro W hSW
                    try dsimp only at hSW
                    go_simp
                    try with_reducible rfl
                  simp only [Act.put, List.setIfInBounds_toArray, List.set_cons_zero, List.set_cons_succ]
                  refine' wpAnyH_take (i := 5) (oi := _) (v := _) ?hi115 (by kernel_rfl) (by kernel_rfl) (by kernel_rfl) (fun _ _ _ h => h) (Or.inl ⟨?hw115, ?hy115⟩) (by assumption) ?rest115
                  case hi115 => simp only [List.getElem?_toArray, List.getElem?_cons_succ, List.getElem?_cons_zero]; rfl
                  case hw115 => rfl
                  case hy115 =>
                    intro W hSW
                    try dsimp only at hSW
                    go_simp
                    try with_reducible rfl
                  simp only [Act.put, List.setIfInBounds_toArray, List.set_cons_zero, List.set_cons_succ]
                  refine' wpAnyH_take (i := 6) (oi := _) (v := _) ?hi116 (by kernel_rfl) (by kernel_rfl) (by kernel_rfl) (fun _ _ _ h => h) (Or.inl ⟨?hw116, ?hy116⟩) (by assumption) ?rest116
                  case hi116 => simp only [List.getElem?_toArray, List.getElem?_cons_succ, List.getElem?_cons_zero]; rfl
                  case hw116 => rfl
                  case hy116 =>
                    intro W hSW
                    try dsimp only at hSW
                    go_simp
                    try with_reducible rfl
                  simp only [Act.put, List.setIfInBounds_toArray, List.set_cons_zero, List.set_cons_succ]
                  refine' wpAnyH_take (i := 7) (oi := _) (v := _) ?hi117 (by kernel_rfl) (by kernel_rfl) (by kernel_rfl) (fun _ _ _ h => h) (Or.inl ⟨?hw117, ?hy117⟩) (by assumption) ?rest117
                  case hi117 => simp only [List.getElem?_toArray, List.getElem?_cons_succ, List.getElem?_cons_zero]; rfl
                  case hw117 => rfl
                  case hy117 =>
                    intro W hSW
                    try dsimp only at hSW
                    go_simp
                    try with_reducible rfl
                  simp only [Act.put, List.setIfInBounds_toArray, List.set_cons_zero, List.set_cons_succ]
                  have TS0 : Trn cb w4 ((((((w6.setCell ⟨w4.heap.size + 1, 0, none⟩ (.int .i64 a)).setCell ⟨w4.heap.size + 1, 1, none⟩ (.int .i64 (m.length : Int))).setCell ⟨w4.heap.size + 1, 2, none⟩ (.int .i64 (colN m : Int))).setCell ⟨w4.heap.size + 1, 3, none⟩ (.slice A6 ps.length c6)).setCell ⟨w4.heap.size + 1, 4, none⟩ (.int .i64 n'))) := (((((T6.set (p := ⟨w4.heap.size + 1, 0, none⟩) (.int .i64 a) (by dsimp only; omega) (by dsimp only; omega)).set (p := ⟨w4.heap.size + 1, 1, none⟩) (.int .i64 (m.length : Int)) (by dsimp only; omega) (by dsimp only; omega)).set (p := ⟨w4.heap.size + 1, 2, none⟩) (.int .i64 (colN m : Int)) (by dsimp only; omega) (by dsimp only; omega)).set (p := ⟨w4.heap.size + 1, 3, none⟩) (.slice A6 ps.length c6) (by dsimp only; omega) (by dsimp only; omega)).set (p := ⟨w4.heap.size + 1, 4, none⟩) (.int .i64 n') (by dsimp only; omega) (by dsimp only; omega))
                  obtain ⟨ck1, fk1, zk1⟩ := KB16.facts
                  obtain ⟨ck0, fk0, zk0⟩ := KB06.facts
                  refine wpAnyH_ready (rs := [10]) (by kernel_rfl) (by simp) ?_
                  refine' AllReadyH.cons (o := _) ?ho118 (fun Kq hKq => ?step118) ?more118
                  case ho118 => simp only [List.getElem?_toArray, List.getElem?_cons_succ, List.getElem?_cons_zero]; rfl
                  case step118 =>
                    go_simp
                    refine hKq.out _ _ ?hS118 (fun hHeld => ?_)
                    case hS118 => exact HSW _ TS0
                    clear hKq Kq
                    try simp only [Act.put, List.setIfInBounds_toArray, List.set_cons_zero, List.set_cons_succ]
                    have TS1 : Trn cb w4 (((((((((w6.setCell ⟨w4.heap.size + 1, 0, none⟩ (.int .i64 a)).setCell ⟨w4.heap.size + 1, 1, none⟩ (.int .i64 (m.length : Int))).setCell ⟨w4.heap.size + 1, 2, none⟩ (.int .i64 (colN m : Int))).setCell ⟨w4.heap.size + 1, 3, none⟩ (.slice A6 ps.length c6)).setCell ⟨w4.heap.size + 1, 4, none⟩ (.int .i64 n')).setCell ⟨w4.heap.size, 0, none⟩ (.int .i64 px)).setCell ⟨w4.heap.size, 1, none⟩ (.slice PA1 pl1 pc1)).setCell ⟨w4.heap.size, 2, none⟩ (.slice PA2 pl2 pc2))) := ((((((((T6.set (p := ⟨w4.heap.size + 1, 0, none⟩) (.int .i64 a) (by dsimp only; omega) (by dsimp only; omega)).set (p := ⟨w4.heap.size + 1, 1, none⟩) (.int .i64 (m.length : Int)) (by dsimp only; omega) (by dsimp only; omega)).set (p := ⟨w4.heap.size + 1, 2, none⟩) (.int .i64 (colN m : Int)) (by dsimp only; omega) (by dsimp only; omega)).set (p := ⟨w4.heap.size + 1, 3, none⟩) (.slice A6 ps.length c6) (by dsimp only; omega) (by dsimp only; omega)).set (p := ⟨w4.heap.size + 1, 4, none⟩) (.int .i64 n') (by dsimp only; omega) (by dsimp only; omega)).set (p := ⟨w4.heap.size, 0, none⟩) (.int .i64 px) (by dsimp only; omega) (by dsimp only; omega)).set (p := ⟨w4.heap.size, 1, none⟩) (.slice PA1 pl1 pc1) (by dsimp only; omega) (by dsimp only; omega)).set (p := ⟨w4.heap.size, 2, none⟩) (.slice PA2 pl2 pc2) (by dsimp only; omega) (by dsimp only; omega))
                    refine wpAnyH_ready (rs := [11]) (by kernel_rfl) (by simp) ?_
                    refine' AllReadyH.cons (o := _) ?ho119 (fun Kq hKq => ?step119) ?more119
                    case ho119 => simp only [List.getElem?_toArray, List.getElem?_cons_succ, List.getElem?_cons_zero]; rfl
                    case step119 =>
                      go_simp
                      refine hKq.out _ _ ?hS119 (fun hHeld => ?_)
                      case hS119 => exact HSW _ TS1
                      clear hKq Kq
                      try simp only [Act.put, List.setIfInBounds_toArray, List.set_cons_zero, List.set_cons_succ]
                      refine wpAnyH_done (by kernel_rfl) ?_ _
                      simp only [headPost, List.drop_succ_cons, List.drop_zero]
                      have KF : Blk (((((((((w6.setCell ⟨w4.heap.size + 1, 0, none⟩ (.int .i64 a)).setCell ⟨w4.heap.size + 1, 1, none⟩ (.int .i64 (m.length : Int))).setCell ⟨w4.heap.size + 1, 2, none⟩ (.int .i64 (colN m : Int))).setCell ⟨w4.heap.size + 1, 3, none⟩ (.slice A6 ps.length c6)).setCell ⟨w4.heap.size + 1, 4, none⟩ (.int .i64 n')).setCell ⟨w4.heap.size, 0, none⟩ (.int .i64 px)).setCell ⟨w4.heap.size, 1, none⟩ (.slice PA1 pl1 pc1)).setCell ⟨w4.heap.size, 2, none⟩ (.slice PA2 pl2 pc2))) (w4.heap.size + 1) 29 #[.int .i64 a, .int .i64 (m.length : Int), .int .i64 (colN m : Int), .slice A6 ps.length c6, .int .i64 n'] := ((((((((KB06.set 0 (.int .i64 a)).set 1 (.int .i64 (m.length : Int))).set 2 (.int .i64 (colN m : Int))).set 3 (.slice A6 ps.length c6)).set 4 (.int .i64 n')).far (p := ⟨w4.heap.size, 0, none⟩) (by dsimp only; omega) (.int .i64 px)).far (p := ⟨w4.heap.size, 1, none⟩) (by dsimp only; omega) (.slice PA1 pl1 pc1)).far (p := ⟨w4.heap.size, 2, none⟩) (by dsimp only; omega) (.slice PA2 pl2 pc2))
                      have OF : MP (((((((((w6.setCell ⟨w4.heap.size + 1, 0, none⟩ (.int .i64 a)).setCell ⟨w4.heap.size + 1, 1, none⟩ (.int .i64 (m.length : Int))).setCell ⟨w4.heap.size + 1, 2, none⟩ (.int .i64 (colN m : Int))).setCell ⟨w4.heap.size + 1, 3, none⟩ (.slice A6 ps.length c6)).setCell ⟨w4.heap.size + 1, 4, none⟩ (.int .i64 n')).setCell ⟨w4.heap.size, 0, none⟩ (.int .i64 px)).setCell ⟨w4.heap.size, 1, none⟩ (.slice PA1 pl1 pc1)).setCell ⟨w4.heap.size, 2, none⟩ (.slice PA2 pl2 pc2))) _ _ _ := ((((((((O6.setFar (p := ⟨w4.heap.size + 1, 0, none⟩) (by dsimp only; omega) (.int .i64 a)).setFar (p := ⟨w4.heap.size + 1, 1, none⟩) (by dsimp only; omega) (.int .i64 (m.length : Int))).setFar (p := ⟨w4.heap.size + 1, 2, none⟩) (by dsimp only; omega) (.int .i64 (colN m : Int))).setFar (p := ⟨w4.heap.size + 1, 3, none⟩) (by dsimp only; omega) (.slice A6 ps.length c6)).setFar (p := ⟨w4.heap.size + 1, 4, none⟩) (by dsimp only; omega) (.int .i64 n')).setFar (p := ⟨w4.heap.size, 0, none⟩) (by dsimp only; omega) (.int .i64 px)).setFar (p := ⟨w4.heap.size, 1, none⟩) (by dsimp only; omega) (.slice PA1 pl1 pc1)).setFar (p := ⟨w4.heap.size, 2, none⟩) (by dsimp only; omega) (.slice PA2 pl2 pc2))
                      have TF : Trn cb w4 (((((((((w6.setCell ⟨w4.heap.size + 1, 0, none⟩ (.int .i64 a)).setCell ⟨w4.heap.size + 1, 1, none⟩ (.int .i64 (m.length : Int))).setCell ⟨w4.heap.size + 1, 2, none⟩ (.int .i64 (colN m : Int))).setCell ⟨w4.heap.size + 1, 3, none⟩ (.slice A6 ps.length c6)).setCell ⟨w4.heap.size + 1, 4, none⟩ (.int .i64 n')).setCell ⟨w4.heap.size, 0, none⟩ (.int .i64 px)).setCell ⟨w4.heap.size, 1, none⟩ (.slice PA1 pl1 pc1)).setCell ⟨w4.heap.size, 2, none⟩ (.slice PA2 pl2 pc2))) := ((((((((T6.set (p := ⟨w4.heap.size + 1, 0, none⟩) (.int .i64 a) (by dsimp only; omega) (by dsimp only; omega)).set (p := ⟨w4.heap.size + 1, 1, none⟩) (.int .i64 (m.length : Int)) (by dsimp only; omega) (by dsimp only; omega)).set (p := ⟨w4.heap.size + 1, 2, none⟩) (.int .i64 (colN m : Int)) (by dsimp only; omega) (by dsimp only; omega)).set (p := ⟨w4.heap.size + 1, 3, none⟩) (.slice A6 ps.length c6) (by dsimp only; omega) (by dsimp only; omega)).set (p := ⟨w4.heap.size + 1, 4, none⟩) (.int .i64 n') (by dsimp only; omega) (by dsimp only; omega)).set (p := ⟨w4.heap.size, 0, none⟩) (.int .i64 px) (by dsimp only; omega) (by dsimp only; omega)).set (p := ⟨w4.heap.size, 1, none⟩) (.slice PA1 pl1 pc1) (by dsimp only; omega) (by dsimp only; omega)).set (p := ⟨w4.heap.size, 2, none⟩) (.slice PA2 pl2 pc2) (by dsimp only; omega) (by dsimp only; omega))
                      have hgF : w4.heap.size ≤ w4.heap.size + 1 := by omega
                      have OFL := OF.low (lo' := gb + 1) (by omega)
                      clear OF
                      generalize ((((((((w6.setCell ⟨w4.heap.size + 1, 0, none⟩ (.int .i64 a)).setCell ⟨w4.heap.size + 1, 1, none⟩ (.int .i64 (m.length : Int))).setCell ⟨w4.heap.size + 1, 2, none⟩ (.int .i64 (colN m : Int))).setCell ⟨w4.heap.size + 1, 3, none⟩ (.slice A6 ps.length c6)).setCell ⟨w4.heap.size + 1, 4, none⟩ (.int .i64 n')).setCell ⟨w4.heap.size, 0, none⟩ (.int .i64 px)).setCell ⟨w4.heap.size, 1, none⟩ (.slice PA1 pl1 pc1)).setCell ⟨w4.heap.size, 2, none⟩ (.slice PA2 pl2 pc2)) = w9 at *
                      generalize w4.heap.size + 1 = g9 at *
                      clear hHeld
                      have K9 := K4.trn TF (by omega)
                      have G9 := G4.trn TF hlt0
                      have R9 := R4.trn TF (by omega)
                      have T9 := T04.trans TF
                      have hcc : cb < gb := by omega
                      clear HSW TD K4 G4 R4 T4 O4 M4 TF
                      obtain ⟨cf, ff, zf⟩ := KF.facts
                      obtain ⟨ck, fk, zk⟩ := K9.facts
                      have K10 := K9.set5 (.int .i64 a) (.int .i64 (m.length : Int)) (.int .i64 (colN m : Int)) (.slice A6 ps.length c6) (.int .i64 n')
                      have G10 := G9.far5 (b := gb) (by omega) (.int .i64 a) (.int .i64 (m.length : Int)) (.int .i64 (colN m : Int)) (.slice A6 ps.length c6) (.int .i64 n')
                      have R10 := R9.far5 (b := gb) (by omega) (.int .i64 a) (.int .i64 (m.length : Int)) (.int .i64 (colN m : Int)) (.slice A6 ps.length c6) (.int .i64 n')
                      have O10 := OFL.set5 (g := gb) (by omega) (.int .i64 a) (.int .i64 (m.length : Int)) (.int .i64 (colN m : Int)) (.slice A6 ps.length c6) (.int .i64 n')
                      have T10 := T9.set5 (g := gb) (by omega) (by omega) (.int .i64 a) (.int .i64 (m.length : Int)) (.int .i64 (colN m : Int)) (.slice A6 ps.length c6) (.int .i64 n')
                      go_wp2_with fail
                      refine NoPanic.normal ?_
                      go_wp2
                      go_roundg (gk - 1)
                      case measure => exact Nat.sub_lt hlt (by decide)
                      case rel => exact ⟨_, ps, n', by first | rfl | go_num, hgk6, K10, O10, Lib.hid ⟨HD.out.1, HN'.out, HD.out.2.2⟩, G10, R10, T10⟩
                    exact AllReadyH.nil
                  exact AllReadyH.nil
                exact AllReadyH.nil
              exact AllReadyH.nil
            exact AllReadyH.nil
          exact AllReadyH.nil
        | false =>
          go_upto_region 8 with fail
          have HSW : ∀ W, Trn cb w4 W → W.cell? ⟨gb, 0, none⟩ = some (.int .i64 a) ∧ W.cell? ⟨gb, 1, none⟩ = some (.int .i64 (m.length : Int)) ∧ W.cell? ⟨gb, 2, none⟩ = some (.int .i64 (colN m : Int)) ∧ W.cell? ⟨gb, 3, none⟩ = some (.slice A1 ps.length c1) ∧ W.cell? ⟨gb, 4, none⟩ = some (.int .i64 n) ∧ W.cell? ⟨w.heap.size, 0, none⟩ = some (.int .i64 a) ∧ W.cell? ⟨w.heap.size, 1, none⟩ = some (.slice A m.length c) := fun W t => ⟨(K4.trn t (by omega)).facts.1 0, (K4.trn t (by omega)).facts.1 1, (K4.trn t (by omega)).facts.1 2, (K4.trn t (by omega)).facts.1 3, (K4.trn t (by omega)).facts.1 4, (G4.trn t hlt0).facts.1 0, (G4.trn t hlt0).facts.1 1⟩
          have TD : Trn cb w4 w4.drew := Trn.of T4.1 (Bel.refl w4).drew
          refine wp_region_noPanic ?_
          refine wp_region_last 10 (fun W => W.cell? ⟨gb, 0, none⟩ = some (.int .i64 a) ∧ W.cell? ⟨gb, 1, none⟩ = some (.int .i64 (m.length : Int)) ∧ W.cell? ⟨gb, 2, none⟩ = some (.int .i64 (colN m : Int)) ∧ W.cell? ⟨gb, 3, none⟩ = some (.slice A1 ps.length c1) ∧ W.cell? ⟨gb, 4, none⟩ = some (.int .i64 n) ∧ W.cell? ⟨w.heap.size, 0, none⟩ = some (.int .i64 a) ∧ W.cell? ⟨w.heap.size, 1, none⟩ = some (.slice A m.length c)) (by kernel_rfl) (by kernel_rfl) (HSW _ TD) (fun hHeld => ?_)
          refine' wpAnyH_take (i := 0) (oi := _) (v := _) ?hi120 (by kernel_rfl) (by kernel_rfl) (by kernel_rfl) (fun _ _ _ h => h) (Or.inl ⟨?hw120, ?hy120⟩) (by assumption) ?rest120
          case hi120 => simp only [List.getElem?_toArray, List.getElem?_cons_zero]; rfl
          case hw120 => rfl
          case hy120 =>
            intro W hSW
            try dsimp only at hSW
            go_simp
            try with_reducible rfl
          simp only [Act.put, List.setIfInBounds_toArray, List.set_cons_zero, List.set_cons_succ]
          refine' wpAnyH_take (i := 1) (oi := _) (v := _) ?hi121 (by kernel_rfl) (by kernel_rfl) (by kernel_rfl) (fun _ _ _ h => h) (Or.inl ⟨?hw121, ?hy121⟩) (by assumption) ?rest121
          case hi121 => simp only [List.getElem?_toArray, List.getElem?_cons_succ, List.getElem?_cons_zero]; rfl
          case hw121 => rfl
          case hy121 =>
            intro W hSW
            try dsimp only at hSW
            go_simp
            try with_reducible rfl
          simp only [Act.put, List.setIfInBounds_toArray, List.set_cons_zero, List.set_cons_succ]
          refine' wpAnyH_take (i := 2) (oi := _) (v := _) ?hi122 (by kernel_rfl) (by kernel_rfl) (by kernel_rfl) (fun _ _ _ h => h) (Or.inl ⟨?hw122, ?hy122⟩) (by assumption) ?rest122
          case hi122 => simp only [List.getElem?_toArray, List.getElem?_cons_succ, List.getElem?_cons_zero]; rfl
          case hw122 => rfl
          case hy122 =>
            intro W hSW
            try dsimp only at hSW
            go_simp
            try with_reducible rfl
          simp only [Act.put, List.setIfInBounds_toArray, List.set_cons_zero, List.set_cons_succ]
          refine wpAnyH_ready (rs := [3, 8]) (by kernel_rfl) (by simp) ?_
          refine' AllReadyH.cons (o := _) ?ho123 (fun Kq hKq => ?step123) ?more123
          case ho123 => simp only [List.getElem?_toArray, List.getElem?_cons_succ, List.getElem?_cons_zero]; rfl
          case step123 =>
            go_simp
            have C5 := TD.1
            have M5 := M4.mid TD.2 (by omega)
            go_at_call 80
            with_reducible refine (l11PC cb lo a _ m _ C5 M5 hlo HG.out).mono ?_
            rintro e w5 ⟨p1, p2, co, pl, rfl, Q1, Q2, hq, t5⟩
            obtain ⟨A7, c7, e7, _, _, _⟩ := Q1.reads
            obtain ⟨A8, c8, e8, _, _, _⟩ := Q2.reads
            subst e7 e8
            have V1 := Q1.reads
            have V2 := Q2.reads
            have HQ := Lib.hid hq
            clear hq
            have HQL : Hid (co.length ≤ 1048576 ∧ pl.length ≤ 1048576) := Lib.hid (by have q := HQ.out; have q2 := HLC.out; rw [q.2.2, (lcZ_row HMT.out).1, q.1]; omega)
            have T5 := TD.trans t5
            have hz5 : w4.heap.size ≤ w5.heap.size := T5.2.size
            refine hKq.out _ _ ?hS123 (fun hHeld => ?_)
            case hS123 => exact HSW _ T5
            clear hKq Kq
            try simp only [Act.put, List.setIfInBounds_toArray, List.set_cons_zero, List.set_cons_succ]
            refine wpAnyH_ready (rs := [4, 8]) (by kernel_rfl) (by simp) ?_
            refine' AllReadyH.cons (o := _) ?ho124 (fun Kq hKq => ?step124) ?more124
            case ho124 => simp only [List.getElem?_toArray, List.getElem?_cons_succ, List.getElem?_cons_zero]; rfl
            case step124 =>
              go_simp
              have P6 := (O4.mid T5.2 (by omega)).reads
              have V16 := V1.keep (Bel.refl w5)
              have V26 := V2.keep (Bel.refl w5)
              have hsm := HSM.out ps HD.out.2.2
              have hd1 := HD.out.1
              have hq1 := HQL.out.1
              have hq2 := HQL.out.2
              go_at_call 132
              with_reducible refine (accS a (m.length : Int) (colN m : Int) n _ ps a _ _ co pl _ P6 V16 V26 hsm hq1 hq2 hd1).mono ?_
              rintro e w6 ⟨r, pq, ps', rfl, O6, hps, hp8, b6⟩
              try simp only [World.size_alloc] at O6
              obtain ⟨A6, c6, e6, _, _⟩ := O6.shape
              subst e6
              have HP := Lib.hid (cons_snoc HD.out.2.2 HQ.out.1 HQ.out.2.1 HQ.out.2.2 hps)
              have HP8 := Lib.hid hp8
              clear hps hp8
              have T6 := T5.then b6
              have hz6 : w4.heap.size ≤ w6.heap.size := T6.2.size
              have hy6 : w5.heap.size ≤ w6.heap.size := by have := b6.size; (try simp only [World.size_alloc] at this); omega
              refine hKq.out _ _ ?hS124 (fun hHeld => ?_)
              case hS124 => exact HSW _ T6
              clear hKq Kq
              try simp only [Act.put, List.setIfInBounds_toArray, List.set_cons_zero, List.set_cons_succ]
              refine' wpAnyH_take (i := 5) (oi := _) (v := _) ?hi125 (by kernel_rfl) (by kernel_rfl) (by kernel_rfl) (fun _ _ _ h => h) (Or.inl ⟨?hw125, ?hy125⟩) (by assumption) ?rest125
              case hi125 => simp only [List.getElem?_toArray, List.getElem?_cons_succ, List.getElem?_cons_zero]; rfl
              case hw125 => rfl
              case hy125 =>
                intro W hSW
                try dsimp only at hSW
                go_simp
                try with_reducible rfl
              simp only [Act.put, List.setIfInBounds_toArray, List.set_cons_zero, List.set_cons_succ]
              refine' wpAnyH_take (i := 6) (oi := _) (v := _) ?hi126 (by kernel_rfl) (by kernel_rfl) (by kernel_rfl) (fun _ _ _ h => h) (Or.inl ⟨?hw126, ?hy126⟩) (by assumption) ?rest126
              case hi126 => simp only [List.getElem?_toArray, List.getElem?_cons_succ, List.getElem?_cons_zero]; rfl
              case hw126 => rfl
              case hy126 =>
                intro W hSW
                try dsimp only at hSW
                go_simp
                try with_reducible rfl
              simp only [Act.put, List.setIfInBounds_toArray, List.set_cons_zero, List.set_cons_succ]
              refine' wpAnyH_take (i := 7) (oi := _) (v := _) ?hi127 (by kernel_rfl) (by kernel_rfl) (by kernel_rfl) (fun _ _ _ h => h) (Or.inl ⟨?hw127, ?hy127⟩) (by assumption) ?rest127
              case hi127 => simp only [List.getElem?_toArray, List.getElem?_cons_succ, List.getElem?_cons_zero]; rfl
              case hw127 => rfl
              case hy127 =>
                intro W hSW
                try dsimp only at hSW
                go_simp
                try with_reducible rfl
              simp only [Act.put, List.setIfInBounds_toArray, List.set_cons_zero, List.set_cons_succ]
              refine wpAnyH_ready (rs := [8]) (by kernel_rfl) (by simp) ?_
              refine' AllReadyH.cons (o := _) ?ho128 (fun Kq hKq => ?step128) ?more128
              case ho128 => simp only [List.getElem?_toArray, List.getElem?_cons_succ, List.getElem?_cons_zero]; rfl
              case step128 =>
                go_simp
                have TA0w6 := T6.then ((Bel.refl w6).alloc (.cells #[.int .i64 0, .int .i64 0, .int .i64 0, .slice none 0 0, .int .i64 0] 29))
                refine hKq.out _ _ ?hS128 (fun hHeld => ?_)
                case hS128 => exact HSW _ TA0w6
                clear hKq Kq
                try simp only [Act.put, List.setIfInBounds_toArray, List.set_cons_zero, List.set_cons_succ]
                have TS0 : Trn cb w4 ((w6.alloc (.cells #[.int .i64 a, .int .i64 (m.length : Int), .int .i64 (colN m : Int), .slice A6 ps'.length c6, .int .i64 n] 29))) := (T6.then ((Bel.refl _).alloc (.cells #[.int .i64 a, .int .i64 (m.length : Int), .int .i64 (colN m : Int), .slice A6 ps'.length c6, .int .i64 n] 29)))
                refine wpAnyH_ready (rs := [9]) (by kernel_rfl) (by simp) ?_
                refine' AllReadyH.cons (o := _) ?ho129 (fun Kq hKq => ?step129) ?more129
                case ho129 => simp only [List.getElem?_toArray, List.getElem?_cons_succ, List.getElem?_cons_zero]; rfl
                case step129 =>
                  go_simp
                  refine hKq.out _ _ ?hS129 (fun hHeld => ?_)
                  case hS129 => exact HSW _ TS0
                  clear hKq Kq
                  try simp only [Act.put, List.setIfInBounds_toArray, List.set_cons_zero, List.set_cons_succ]
                  refine wpAnyH_done (by kernel_rfl) ?_ _
                  simp only [headPost, List.drop_succ_cons, List.drop_zero]
                  have KF : Blk ((w6.alloc (.cells #[.int .i64 a, .int .i64 (m.length : Int), .int .i64 (colN m : Int), .slice A6 ps'.length c6, .int .i64 n] 29))) (w6.heap.size) 29 #[.int .i64 a, .int .i64 (m.length : Int), .int .i64 (colN m : Int), .slice A6 ps'.length c6, .int .i64 n] := (Blk.new w6 29 #[.int .i64 a, .int .i64 (m.length : Int), .int .i64 (colN m : Int), .slice A6 ps'.length c6, .int .i64 n])
                  have OF : MP ((w6.alloc (.cells #[.int .i64 a, .int .i64 (m.length : Int), .int .i64 (colN m : Int), .slice A6 ps'.length c6, .int .i64 n] 29))) _ _ _ := (O6.keep ((Bel.refl _).alloc (.cells #[.int .i64 a, .int .i64 (m.length : Int), .int .i64 (colN m : Int), .slice A6 ps'.length c6, .int .i64 n] 29)))
                  have TF : Trn cb w4 ((w6.alloc (.cells #[.int .i64 a, .int .i64 (m.length : Int), .int .i64 (colN m : Int), .slice A6 ps'.length c6, .int .i64 n] 29))) := (T6.then ((Bel.refl _).alloc (.cells #[.int .i64 a, .int .i64 (m.length : Int), .int .i64 (colN m : Int), .slice A6 ps'.length c6, .int .i64 n] 29)))
                  have hgF : w4.heap.size ≤ w6.heap.size := by omega
                  have OFL := OF.low (lo' := gb + 1) (by omega)
                  clear OF
                  generalize (w6.alloc (.cells #[.int .i64 a, .int .i64 (m.length : Int), .int .i64 (colN m : Int), .slice A6 ps'.length c6, .int .i64 n] 29)) = w9 at *
                  generalize w6.heap.size = g9 at *
                  clear hHeld
                  have K9 := K4.trn TF (by omega)
                  have G9 := G4.trn TF hlt0
                  have R9 := R4.trn TF (by omega)
                  have T9 := T04.trans TF
                  have hcc : cb < gb := by omega
                  clear HSW TD K4 G4 R4 T4 O4 M4 TF
                  obtain ⟨cf, ff, zf⟩ := KF.facts
                  obtain ⟨ck, fk, zk⟩ := K9.facts
                  have K10 := K9.set5 (.int .i64 a) (.int .i64 (m.length : Int)) (.int .i64 (colN m : Int)) (.slice A6 ps'.length c6) (.int .i64 n)
                  have G10 := G9.far5 (b := gb) (by omega) (.int .i64 a) (.int .i64 (m.length : Int)) (.int .i64 (colN m : Int)) (.slice A6 ps'.length c6) (.int .i64 n)
                  have R10 := R9.far5 (b := gb) (by omega) (.int .i64 a) (.int .i64 (m.length : Int)) (.int .i64 (colN m : Int)) (.slice A6 ps'.length c6) (.int .i64 n)
                  have O10 := OFL.set5 (g := gb) (by omega) (.int .i64 a) (.int .i64 (m.length : Int)) (.int .i64 (colN m : Int)) (.slice A6 ps'.length c6) (.int .i64 n)
                  have T10 := T9.set5 (g := gb) (by omega) (by omega) (.int .i64 a) (.int .i64 (m.length : Int)) (.int .i64 (colN m : Int)) (.slice A6 ps'.length c6) (.int .i64 n)
                  go_wp2_with fail
                  refine NoPanic.normal ?_
                  go_wp2
                  go_roundg (gk - 1)
                  case measure => exact Nat.sub_lt hlt (by decide)
                  case rel => exact ⟨_, ps', n, by first | rfl | go_num, hgk6, K10, O10, Lib.hid ⟨HP8.out, HD.out.2.1, HP.out⟩, G10, R10, T10⟩
                exact AllReadyH.nil
              exact AllReadyH.nil
            refine' AllReadyH.cons (o := _) ?ho130 (fun Kq hKq => ?step130) ?more130
            case ho130 => simp only [List.getElem?_toArray, List.getElem?_cons_succ, List.getElem?_cons_zero]; rfl
            case step130 =>
              go_simp
              have TA0w5 := T5.then ((Bel.refl w5).alloc (.cells #[.int .i64 0, .int .i64 0, .int .i64 0, .slice none 0 0, .int .i64 0] 29))
              refine hKq.out _ _ ?hS130 (fun hHeld => ?_)
              case hS130 => exact HSW _ TA0w5
              clear hKq Kq
              try simp only [Act.put, List.setIfInBounds_toArray, List.set_cons_zero, List.set_cons_succ]
              refine wpAnyH_ready (rs := [4]) (by kernel_rfl) (by simp) ?_
              refine' AllReadyH.cons (o := _) ?ho131 (fun Kq hKq => ?step131) ?more131
              case ho131 => simp only [List.getElem?_toArray, List.getElem?_cons_succ, List.getElem?_cons_zero]; rfl
              case step131 =>
                go_simp
                have P6 := (O4.mid TA0w5.2 (by omega)).reads
                have V16 := V1.keep ((Bel.refl w5).alloc (.cells #[.int .i64 0, .int .i64 0, .int .i64 0, .slice none 0 0, .int .i64 0] 29))
                have V26 := V2.keep ((Bel.refl w5).alloc (.cells #[.int .i64 0, .int .i64 0, .int .i64 0, .slice none 0 0, .int .i64 0] 29))
                have hsm := HSM.out ps HD.out.2.2
                have hd1 := HD.out.1
                have hq1 := HQL.out.1
                have hq2 := HQL.out.2
                go_at_call 132
                with_reducible refine (accS a (m.length : Int) (colN m : Int) n _ ps a _ _ co pl _ P6 V16 V26 hsm hq1 hq2 hd1).mono ?_
                rintro e w6 ⟨r, pq, ps', rfl, O6, hps, hp8, b6⟩
                try simp only [World.size_alloc] at O6
                obtain ⟨A6, c6, e6, _, _⟩ := O6.shape
                subst e6
                have HP := Lib.hid (cons_snoc HD.out.2.2 HQ.out.1 HQ.out.2.1 HQ.out.2.2 hps)
                have HP8 := Lib.hid hp8
                clear hps hp8
                have T6 := TA0w5.then b6
                have hz6 : w4.heap.size ≤ w6.heap.size := T6.2.size
                have hy6 : w5.heap.size ≤ w6.heap.size := by have := b6.size; (try simp only [World.size_alloc] at this); omega
                have hx6 : w5.heap.size + 1 ≤ w6.heap.size := by have := b6.size; (try simp only [World.size_alloc] at this); first | omega | exact Nat.le_trans (by simp [World.drew, World.size_alloc]) this
                have KB06 := b6.keep ((Blk.new w5 29 #[.int .i64 0, .int .i64 0, .int .i64 0, .slice none 0 0, .int .i64 0]))
                refine hKq.out _ _ ?hS131 (fun hHeld => ?_)
                case hS131 => exact HSW _ T6
                clear hKq Kq
                try simp only [Act.put, List.setIfInBounds_toArray, List.set_cons_zero, List.set_cons_succ]
                refine' wpAnyH_take (i := 5) (oi := _) (v := _) ?hi132 (by kernel_rfl) (by kernel_rfl) (by kernel_rfl) (fun _ _ _ h => h) (Or.inl ⟨?hw132, ?hy132⟩) (by assumption) ?rest132
                case hi132 => simp only [List.getElem?_toArray, List.getElem?_cons_succ, List.getElem?_cons_zero]; rfl
                case hw132 => rfl
                case hy132 =>
                  intro W hSW
                  try dsimp only at hSW
                  go_simp
                  try with_reducible rfl
                simp only [Act.put, List.setIfInBounds_toArray, List.set_cons_zero, List.set_cons_succ]
                refine' wpAnyH_take (i := 6) (oi := _) (v := _) ?hi133 (by kernel_rfl) (by kernel_rfl) (by kernel_rfl) (fun _ _ _ h => h) (Or.inl ⟨?hw133, ?hy133⟩) (by assumption) ?rest133
                case hi133 => simp only [List.getElem?_toArray, List.getElem?_cons_succ, List.getElem?_cons_zero]; rfl
                case hw133 => rfl
                case hy133 =>
                  intro W hSW
                  try dsimp only at hSW
                  go_simp
                  try with_reducible rfl
                simp only [Act.put, List.setIfInBounds_toArray, List.set_cons_zero, List.set_cons_succ]
                refine' wpAnyH_take (i := 7) (oi := _) (v := _) ?hi134 (by kernel_rfl) (by kernel_rfl) (by kernel_rfl) (fun _ _ _ h => h) (Or.inl ⟨?hw134, ?hy134⟩) (by assumption) ?rest134
                case hi134 => simp only [List.getElem?_toArray, List.getElem?_cons_succ, List.getElem?_cons_zero]; rfl
                case hw134 => rfl
                case hy134 =>
                  intro W hSW
                  try dsimp only at hSW
                  go_simp
                  try with_reducible rfl
                simp only [Act.put, List.setIfInBounds_toArray, List.set_cons_zero, List.set_cons_succ]
                have TS0 : Trn cb w4 ((((((w6.setCell ⟨w5.heap.size, 0, none⟩ (.int .i64 a)).setCell ⟨w5.heap.size, 1, none⟩ (.int .i64 (m.length : Int))).setCell ⟨w5.heap.size, 2, none⟩ (.int .i64 (colN m : Int))).setCell ⟨w5.heap.size, 3, none⟩ (.slice A6 ps'.length c6)).setCell ⟨w5.heap.size, 4, none⟩ (.int .i64 n))) := (((((T6.set (p := ⟨w5.heap.size, 0, none⟩) (.int .i64 a) (by dsimp only; omega) (by dsimp only; omega)).set (p := ⟨w5.heap.size, 1, none⟩) (.int .i64 (m.length : Int)) (by dsimp only; omega) (by dsimp only; omega)).set (p := ⟨w5.heap.size, 2, none⟩) (.int .i64 (colN m : Int)) (by dsimp only; omega) (by dsimp only; omega)).set (p := ⟨w5.heap.size, 3, none⟩) (.slice A6 ps'.length c6) (by dsimp only; omega) (by dsimp only; omega)).set (p := ⟨w5.heap.size, 4, none⟩) (.int .i64 n) (by dsimp only; omega) (by dsimp only; omega))
                obtain ⟨ck0, fk0, zk0⟩ := KB06.facts
                refine wpAnyH_ready (rs := [9]) (by kernel_rfl) (by simp) ?_
                refine' AllReadyH.cons (o := _) ?ho135 (fun Kq hKq => ?step135) ?more135
                case ho135 => simp only [List.getElem?_toArray, List.getElem?_cons_succ, List.getElem?_cons_zero]; rfl
                case step135 =>
                  go_simp
                  refine hKq.out _ _ ?hS135 (fun hHeld => ?_)
                  case hS135 => exact HSW _ TS0
                  clear hKq Kq
                  try simp only [Act.put, List.setIfInBounds_toArray, List.set_cons_zero, List.set_cons_succ]
                  refine wpAnyH_done (by kernel_rfl) ?_ _
                  simp only [headPost, List.drop_succ_cons, List.drop_zero]
                  have KF : Blk ((((((w6.setCell ⟨w5.heap.size, 0, none⟩ (.int .i64 a)).setCell ⟨w5.heap.size, 1, none⟩ (.int .i64 (m.length : Int))).setCell ⟨w5.heap.size, 2, none⟩ (.int .i64 (colN m : Int))).setCell ⟨w5.heap.size, 3, none⟩ (.slice A6 ps'.length c6)).setCell ⟨w5.heap.size, 4, none⟩ (.int .i64 n))) (w5.heap.size) 29 #[.int .i64 a, .int .i64 (m.length : Int), .int .i64 (colN m : Int), .slice A6 ps'.length c6, .int .i64 n] := (((((KB06.set 0 (.int .i64 a)).set 1 (.int .i64 (m.length : Int))).set 2 (.int .i64 (colN m : Int))).set 3 (.slice A6 ps'.length c6)).set 4 (.int .i64 n))
                  have OF : MP ((((((w6.setCell ⟨w5.heap.size, 0, none⟩ (.int .i64 a)).setCell ⟨w5.heap.size, 1, none⟩ (.int .i64 (m.length : Int))).setCell ⟨w5.heap.size, 2, none⟩ (.int .i64 (colN m : Int))).setCell ⟨w5.heap.size, 3, none⟩ (.slice A6 ps'.length c6)).setCell ⟨w5.heap.size, 4, none⟩ (.int .i64 n))) _ _ _ := (((((O6.setFar (p := ⟨w5.heap.size, 0, none⟩) (by dsimp only; omega) (.int .i64 a)).setFar (p := ⟨w5.heap.size, 1, none⟩) (by dsimp only; omega) (.int .i64 (m.length : Int))).setFar (p := ⟨w5.heap.size, 2, none⟩) (by dsimp only; omega) (.int .i64 (colN m : Int))).setFar (p := ⟨w5.heap.size, 3, none⟩) (by dsimp only; omega) (.slice A6 ps'.length c6)).setFar (p := ⟨w5.heap.size, 4, none⟩) (by dsimp only; omega) (.int .i64 n))
                  have TF : Trn cb w4 ((((((w6.setCell ⟨w5.heap.size, 0, none⟩ (.int .i64 a)).setCell ⟨w5.heap.size, 1, none⟩ (.int .i64 (m.length : Int))).setCell ⟨w5.heap.size, 2, none⟩ (.int .i64 (colN m : Int))).setCell ⟨w5.heap.size, 3, none⟩ (.slice A6 ps'.length c6)).setCell ⟨w5.heap.size, 4, none⟩ (.int .i64 n))) := (((((T6.set (p := ⟨w5.heap.size, 0, none⟩) (.int .i64 a) (by dsimp only; omega) (by dsimp only; omega)).set (p := ⟨w5.heap.size, 1, none⟩) (.int .i64 (m.length : Int)) (by dsimp only; omega) (by dsimp only; omega)).set (p := ⟨w5.heap.size, 2, none⟩) (.int .i64 (colN m : Int)) (by dsimp only; omega) (by dsimp only; omega)).set (p := ⟨w5.heap.size, 3, none⟩) (.slice A6 ps'.length c6) (by dsimp only; omega) (by dsimp only; omega)).set (p := ⟨w5.heap.size, 4, none⟩) (.int .i64 n) (by dsimp only; omega) (by dsimp only; omega))
                  have hgF : w4.heap.size ≤ w5.heap.size := by omega
                  have OFL := OF.low (lo' := gb + 1) (by omega)
                  clear OF
                  generalize (((((w6.setCell ⟨w5.heap.size, 0, none⟩ (.int .i64 a)).setCell ⟨w5.heap.size, 1, none⟩ (.int .i64 (m.length : Int))).setCell ⟨w5.heap.size, 2, none⟩ (.int .i64 (colN m : Int))).setCell ⟨w5.heap.size, 3, none⟩ (.slice A6 ps'.length c6)).setCell ⟨w5.heap.size, 4, none⟩ (.int .i64 n)) = w9 at *
                  generalize w5.heap.size = g9 at *
                  clear hHeld
                  have K9 := K4.trn TF (by omega)
                  have G9 := G4.trn TF hlt0
                  have R9 := R4.trn TF (by omega)
                  have T9 := T04.trans TF
                  have hcc : cb < gb := by omega
                  clear HSW TD K4 G4 R4 T4 O4 M4 TF
                  obtain ⟨cf, ff, zf⟩ := KF.facts
                  obtain ⟨ck, fk, zk⟩ := K9.facts
                  have K10 := K9.set5 (.int .i64 a) (.int .i64 (m.length : Int)) (.int .i64 (colN m : Int)) (.slice A6 ps'.length c6) (.int .i64 n)
                  have G10 := G9.far5 (b := gb) (by omega) (.int .i64 a) (.int .i64 (m.length : Int)) (.int .i64 (colN m : Int)) (.slice A6 ps'.length c6) (.int .i64 n)
                  have R10 := R9.far5 (b := gb) (by omega) (.int .i64 a) (.int .i64 (m.length : Int)) (.int .i64 (colN m : Int)) (.slice A6 ps'.length c6) (.int .i64 n)
                  have O10 := OFL.set5 (g := gb) (by omega) (.int .i64 a) (.int .i64 (m.length : Int)) (.int .i64 (colN m : Int)) (.slice A6 ps'.length c6) (.int .i64 n)
                  have T10 := T9.set5 (g := gb) (by omega) (by omega) (.int .i64 a) (.int .i64 (m.length : Int)) (.int .i64 (colN m : Int)) (.slice A6 ps'.length c6) (.int .i64 n)
                  go_wp2_with fail
                  refine NoPanic.normal ?_
                  go_wp2
                  go_roundg (gk - 1)
                  case measure => exact Nat.sub_lt hlt (by decide)
                  case rel => exact ⟨_, ps', n, by first | rfl | go_num, hgk6, K10, O10, Lib.hid ⟨HP8.out, HD.out.2.1, HP.out⟩, G10, R10, T10⟩
                exact AllReadyH.nil
              exact AllReadyH.nil
            exact AllReadyH.nil
          refine' AllReadyH.cons (o := _) ?ho136 (fun Kq hKq => ?step136) ?more136
          case ho136 => simp only [List.getElem?_toArray, List.getElem?_cons_succ, List.getElem?_cons_zero]; rfl
          case step136 =>
            go_simp
            have TA0w4 := Trn.of T4.1 ((Bel.refl w4).alloc (.cells #[.int .i64 0, .int .i64 0, .int .i64 0, .slice none 0 0, .int .i64 0] 29)).drew
            refine hKq.out _ _ ?hS136 (fun hHeld => ?_)
            case hS136 => exact HSW _ TA0w4
            clear hKq Kq
            try simp only [Act.put, List.setIfInBounds_toArray, List.set_cons_zero, List.set_cons_succ]
            refine wpAnyH_ready (rs := [3]) (by kernel_rfl) (by simp) ?_
            refine' AllReadyH.cons (o := _) ?ho137 (fun Kq hKq => ?step137) ?more137
            case ho137 => simp only [List.getElem?_toArray, List.getElem?_cons_succ, List.getElem?_cons_zero]; rfl
            case step137 =>
              go_simp
              have C5 := TA0w4.1
              have M5 := M4.mid TA0w4.2 (by omega)
              go_at_call 80
              with_reducible refine (l11PC cb lo a _ m _ C5 M5 hlo HG.out).mono ?_
              rintro e w5 ⟨p1, p2, co, pl, rfl, Q1, Q2, hq, t5⟩
              obtain ⟨A7, c7, e7, _, _, _⟩ := Q1.reads
              obtain ⟨A8, c8, e8, _, _, _⟩ := Q2.reads
              subst e7 e8
              have V1 := Q1.reads
              have V2 := Q2.reads
              have HQ := Lib.hid hq
              clear hq
              have HQL : Hid (co.length ≤ 1048576 ∧ pl.length ≤ 1048576) := Lib.hid (by have q := HQ.out; have q2 := HLC.out; rw [q.2.2, (lcZ_row HMT.out).1, q.1]; omega)
              have T5 := TA0w4.trans t5
              have hz5 : w4.heap.size ≤ w5.heap.size := T5.2.size
              have hx5 : w4.heap.size + 1 ≤ w5.heap.size := by have := t5.2.size; (try simp only [World.size_alloc] at this); first | omega | exact Nat.le_trans (by simp [World.drew, World.size_alloc]) this
              have KB05 := ((Blk.new w4 29 #[.int .i64 0, .int .i64 0, .int .i64 0, .slice none 0 0, .int .i64 0]).drew).trn t5 (by omega)
              refine hKq.out _ _ ?hS137 (fun hHeld => ?_)
              case hS137 => exact HSW _ T5
              clear hKq Kq
              try simp only [Act.put, List.setIfInBounds_toArray, List.set_cons_zero, List.set_cons_succ]
              refine wpAnyH_ready (rs := [4]) (by kernel_rfl) (by simp) ?_
              refine' AllReadyH.cons (o := _) ?ho138 (fun Kq hKq => ?step138) ?more138
              case ho138 => simp only [List.getElem?_toArray, List.getElem?_cons_succ, List.getElem?_cons_zero]; rfl
              case step138 =>
                go_simp
                have P6 := (O4.mid T5.2 (by omega)).reads
                have V16 := V1.keep (Bel.refl w5)
                have V26 := V2.keep (Bel.refl w5)
                have hsm := HSM.out ps HD.out.2.2
                have hd1 := HD.out.1
                have hq1 := HQL.out.1
                have hq2 := HQL.out.2
                go_at_call 132
                with_reducible refine (accS a (m.length : Int) (colN m : Int) n _ ps a _ _ co pl _ P6 V16 V26 hsm hq1 hq2 hd1).mono ?_
                rintro e w6 ⟨r, pq, ps', rfl, O6, hps, hp8, b6⟩
                try simp only [World.size_alloc] at O6
                obtain ⟨A6, c6, e6, _, _⟩ := O6.shape
                subst e6
                have HP := Lib.hid (cons_snoc HD.out.2.2 HQ.out.1 HQ.out.2.1 HQ.out.2.2 hps)
                have HP8 := Lib.hid hp8
                clear hps hp8
                have T6 := T5.then b6
                have hz6 : w4.heap.size ≤ w6.heap.size := T6.2.size
                have hy6 : w5.heap.size ≤ w6.heap.size := by have := b6.size; (try simp only [World.size_alloc] at this); omega
                have KB06 := b6.keep ((Bel.refl w5).keep KB05)
                refine hKq.out _ _ ?hS138 (fun hHeld => ?_)
                case hS138 => exact HSW _ T6
                clear hKq Kq
                try simp only [Act.put, List.setIfInBounds_toArray, List.set_cons_zero, List.set_cons_succ]
                refine' wpAnyH_take (i := 5) (oi := _) (v := _) ?hi139 (by kernel_rfl) (by kernel_rfl) (by kernel_rfl) (fun _ _ _ h => h) (Or.inl ⟨?hw139, ?hy139⟩) (by assumption) ?rest139
                case hi139 => simp only [List.getElem?_toArray, List.getElem?_cons_succ, List.getElem?_cons_zero]; rfl
                case hw139 => rfl
                case hy139 =>
                  intro W hSW
                  try dsimp only at hSW
                  go_simp
                  try with_reducible rfl
                simp only [Act.put, List.setIfInBounds_toArray, List.set_cons_zero, List.set_cons_succ]
                refine' wpAnyH_take (i := 6) (oi := _) (v := _) ?hi140 (by kernel_rfl) (by kernel_rfl) (by kernel_rfl) (fun _ _ _ h => h) (Or.inl ⟨?hw140, ?hy140⟩) (by assumption) ?rest140
                case hi140 => simp only [List.getElem?_toArray, List.getElem?_cons_succ, List.getElem?_cons_zero]; rfl
                case hw140 => rfl
                case hy140 =>
                  intro W hSW
                  try dsimp only at hSW
                  go_simp
                  try with_reducible rfl
                simp only [Act.put, List.setIfInBounds_toArray, List.set_cons_zero, List.set_cons_succ]
                refine' wpAnyH_take (i := 7) (oi := _) (v := _) ?hi141 (by kernel_rfl) (by kernel_rfl) (by kernel_rfl) (fun _ _ _ h => h) (Or.inl ⟨?hw141, ?hy141⟩) (by assumption) ?rest141
                case hi141 => simp only [List.getElem?_toArray, List.getElem?_cons_succ, List.getElem?_cons_zero]; rfl
                case hw141 => rfl
                case hy141 =>
                  intro W hSW
                  try dsimp only at hSW
                  go_simp
                  try with_reducible rfl
                simp only [Act.put, List.setIfInBounds_toArray, List.set_cons_zero, List.set_cons_succ]
                have TS0 : Trn cb w4 ((((((w6.setCell ⟨w4.heap.size, 0, none⟩ (.int .i64 a)).setCell ⟨w4.heap.size, 1, none⟩ (.int .i64 (m.length : Int))).setCell ⟨w4.heap.size, 2, none⟩ (.int .i64 (colN m : Int))).setCell ⟨w4.heap.size, 3, none⟩ (.slice A6 ps'.length c6)).setCell ⟨w4.heap.size, 4, none⟩ (.int .i64 n))) := (((((T6.set (p := ⟨w4.heap.size, 0, none⟩) (.int .i64 a) (by dsimp only; omega) (by dsimp only; omega)).set (p := ⟨w4.heap.size, 1, none⟩) (.int .i64 (m.length : Int)) (by dsimp only; omega) (by dsimp only; omega)).set (p := ⟨w4.heap.size, 2, none⟩) (.int .i64 (colN m : Int)) (by dsimp only; omega) (by dsimp only; omega)).set (p := ⟨w4.heap.size, 3, none⟩) (.slice A6 ps'.length c6) (by dsimp only; omega) (by dsimp only; omega)).set (p := ⟨w4.heap.size, 4, none⟩) (.int .i64 n) (by dsimp only; omega) (by dsimp only; omega))
                obtain ⟨ck0, fk0, zk0⟩ := KB06.facts
                refine wpAnyH_ready (rs := [9]) (by kernel_rfl) (by simp) ?_
                refine' AllReadyH.cons (o := _) ?ho142 (fun Kq hKq => ?step142) ?more142
                case ho142 => simp only [List.getElem?_toArray, List.getElem?_cons_succ, List.getElem?_cons_zero]; rfl
                case step142 =>
                  go_simp
                  refine hKq.out _ _ ?hS142 (fun hHeld => ?_)
                  case hS142 => exact HSW _ TS0
                  clear hKq Kq
                  try simp only [Act.put, List.setIfInBounds_toArray, List.set_cons_zero, List.set_cons_succ]
                  refine wpAnyH_done (by kernel_rfl) ?_ _
                  simp only [headPost, List.drop_succ_cons, List.drop_zero]
                  have KF : Blk ((((((w6.setCell ⟨w4.heap.size, 0, none⟩ (.int .i64 a)).setCell ⟨w4.heap.size, 1, none⟩ (.int .i64 (m.length : Int))).setCell ⟨w4.heap.size, 2, none⟩ (.int .i64 (colN m : Int))).setCell ⟨w4.heap.size, 3, none⟩ (.slice A6 ps'.length c6)).setCell ⟨w4.heap.size, 4, none⟩ (.int .i64 n))) (w4.heap.size) 29 #[.int .i64 a, .int .i64 (m.length : Int), .int .i64 (colN m : Int), .slice A6 ps'.length c6, .int .i64 n] := (((((KB06.set 0 (.int .i64 a)).set 1 (.int .i64 (m.length : Int))).set 2 (.int .i64 (colN m : Int))).set 3 (.slice A6 ps'.length c6)).set 4 (.int .i64 n))
                  have OF : MP ((((((w6.setCell ⟨w4.heap.size, 0, none⟩ (.int .i64 a)).setCell ⟨w4.heap.size, 1, none⟩ (.int .i64 (m.length : Int))).setCell ⟨w4.heap.size, 2, none⟩ (.int .i64 (colN m : Int))).setCell ⟨w4.heap.size, 3, none⟩ (.slice A6 ps'.length c6)).setCell ⟨w4.heap.size, 4, none⟩ (.int .i64 n))) _ _ _ := (((((O6.setFar (p := ⟨w4.heap.size, 0, none⟩) (by dsimp only; omega) (.int .i64 a)).setFar (p := ⟨w4.heap.size, 1, none⟩) (by dsimp only; omega) (.int .i64 (m.length : Int))).setFar (p := ⟨w4.heap.size, 2, none⟩) (by dsimp only; omega) (.int .i64 (colN m : Int))).setFar (p := ⟨w4.heap.size, 3, none⟩) (by dsimp only; omega) (.slice A6 ps'.length c6)).setFar (p := ⟨w4.heap.size, 4, none⟩) (by dsimp only; omega) (.int .i64 n))
                  have TF : Trn cb w4 ((((((w6.setCell ⟨w4.heap.size, 0, none⟩ (.int .i64 a)).setCell ⟨w4.heap.size, 1, none⟩ (.int .i64 (m.length : Int))).setCell ⟨w4.heap.size, 2, none⟩ (.int .i64 (colN m : Int))).setCell ⟨w4.heap.size, 3, none⟩ (.slice A6 ps'.length c6)).setCell ⟨w4.heap.size, 4, none⟩ (.int .i64 n))) := (((((T6.set (p := ⟨w4.heap.size, 0, none⟩) (.int .i64 a) (by dsimp only; omega) (by dsimp only; omega)).set (p := ⟨w4.heap.size, 1, none⟩) (.int .i64 (m.length : Int)) (by dsimp only; omega) (by dsimp only; omega)).set (p := ⟨w4.heap.size, 2, none⟩) (.int .i64 (colN m : Int)) (by dsimp only; omega) (by dsimp only; omega)).set (p := ⟨w4.heap.size, 3, none⟩) (.slice A6 ps'.length c6) (by dsimp only; omega) (by dsimp only; omega)).set (p := ⟨w4.heap.size, 4, none⟩) (.int .i64 n) (by dsimp only; omega) (by dsimp only; omega))
                  have hgF : w4.heap.size ≤ w4.heap.size := by omega
                  have OFL := OF.low (lo' := gb + 1) (by omega)
                  clear OF
                  generalize (((((w6.setCell ⟨w4.heap.size, 0, none⟩ (.int .i64 a)).setCell ⟨w4.heap.size, 1, none⟩ (.int .i64 (m.length : Int))).setCell ⟨w4.heap.size, 2, none⟩ (.int .i64 (colN m : Int))).setCell ⟨w4.heap.size, 3, none⟩ (.slice A6 ps'.length c6)).setCell ⟨w4.heap.size, 4, none⟩ (.int .i64 n)) = w9 at *
                  generalize w4.heap.size = g9 at *
                  clear hHeld
                  have K9 := K4.trn TF (by omega)
                  have G9 := G4.trn TF hlt0
                  have R9 := R4.trn TF (by omega)
                  have T9 := T04.trans TF
                  have hcc : cb < gb := by omega
                  clear HSW TD K4 G4 R4 T4 O4 M4 TF
                  obtain ⟨cf, ff, zf⟩ := KF.facts
                  obtain ⟨ck, fk, zk⟩ := K9.facts
                  have K10 := K9.set5 (.int .i64 a) (.int .i64 (m.length : Int)) (.int .i64 (colN m : Int)) (.slice A6 ps'.length c6) (.int .i64 n)
                  have G10 := G9.far5 (b := gb) (by omega) (.int .i64 a) (.int .i64 (m.length : Int)) (.int .i64 (colN m : Int)) (.slice A6 ps'.length c6) (.int .i64 n)
                  have R10 := R9.far5 (b := gb) (by omega) (.int .i64 a) (.int .i64 (m.length : Int)) (.int .i64 (colN m : Int)) (.slice A6 ps'.length c6) (.int .i64 n)
                  have O10 := OFL.set5 (g := gb) (by omega) (.int .i64 a) (.int .i64 (m.length : Int)) (.int .i64 (colN m : Int)) (.slice A6 ps'.length c6) (.int .i64 n)
                  have T10 := T9.set5 (g := gb) (by omega) (by omega) (.int .i64 a) (.int .i64 (m.length : Int)) (.int .i64 (colN m : Int)) (.slice A6 ps'.length c6) (.int .i64 n)
                  go_wp2_with fail
                  refine NoPanic.normal ?_
                  go_wp2
                  go_roundg (gk - 1)
                  case measure => exact Nat.sub_lt hlt (by decide)
                  case rel => exact ⟨_, ps', n, by first | rfl | go_num, hgk6, K10, O10, Lib.hid ⟨HP8.out, HD.out.2.1, HP.out⟩, G10, R10, T10⟩
                exact AllReadyH.nil
              exact AllReadyH.nil
            exact AllReadyH.nil
          exact AllReadyH.nil
      · have i0 : ¬ (0 : Int) < (gk : Int) := by omega
        obtain ⟨ck, fk, zk⟩ := K.facts
        obtain ⟨cr, fr, zr⟩ := R.facts
        have R9 := R.set5 (.int .i64 a) (.int .i64 (m.length : Int)) (.int .i64 (colN m : Int)) (.slice A1 ps.length c1) (.int .i64 n)
        have O9 := O.set5 (g := w.heap.size + 1) (by omega) (.int .i64 a) (.int .i64 (m.length : Int)) (.int .i64 (colN m : Int)) (.slice A1 ps.length c1) (.int .i64 n)
        have T9 := T.set5 (g := w.heap.size + 1) (by omega) (by omega) (.int .i64 a) (.int .i64 (m.length : Int)) (.int .i64 (colN m : Int)) (.slice A1 ps.length c1) (.int .i64 n)
        go_wp2
        have cr9 := R9.facts.1
        clear cr fr ck fk
        refine bodyPost_ret (v := .agg #[.int .i64 a, .int .i64 (m.length : Int), .int .i64 (colN m : Int), .slice A1 ps.length c1, .int .i64 n]) (by simp [results, Try.results88, go_sem, cr9]) rfl ?_
        have O10 := O9.low (lo' := w.heap.size) (by omega)
        unfold L15P
        exact ⟨_, n, ps, rfl, O10, ⟨HD.out.1, HD.out.2.2⟩, T9⟩
end Go.Proofs.Ytjaagabbbnokdaa
