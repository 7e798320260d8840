/-
  Draws: DrawRelay: a valid generation and a recoder whose packets are consistent. Condition: at most 2^20 bytes.
  Draws: DrawHashVector, DrawFindCollision; sameInts of the laws. Condition: at most 2^20 bytes.
  IsConsistent of the reference at a consistent packet, samePacket of the laws at two packets that hold the same: contracts.
-/
import Derived.Test.YtjaagabbbnokdaaPL
import Derived.Deep.RegionLaw
import Derived.Test.YtjaagabbbnokdaaPI
import Derived.Test.YtjaagabbbnokdaaPK
import Derived.Deep.DeepCutAuto
import Derived.Deep.CutRange
namespace Go.Proofs.Ytjaagabbbnokdaa
open Go.ChangeShapes Go.WideShapes Go.ChangeAt Go.RowKit Go.Joins Go.Deep
set_option linter.unusedVariables false
set_option maxRecDepth 100000

theorem Mid.set5 {lo hi g : Nat} (w : World) (h : lo ≤ g) (h2 : g < hi) (v0 v1 v2 v3 v4 : Value) :
    Mid lo hi w (((((w.setCell ⟨g, 0, none⟩ v0).setCell ⟨g, 1, none⟩ v1).setCell ⟨g, 2, none⟩ v2).setCell ⟨g, 3, none⟩ v3).setCell ⟨g, 4, none⟩ v4) :=
  ((((Mid.set w (p := ⟨g, 0, none⟩) v0 h h2).trans (Mid.set _ (p := ⟨g, 1, none⟩) v1 h h2)).trans (Mid.set _ (p := ⟨g, 2, none⟩) v2 h h2)).trans (Mid.set _ (p := ⟨g, 3, none⟩) v3 h h2)).trans (Mid.set _ (p := ⟨g, 4, none⟩) v4 h h2)

def DrlP (w : World) (e : Ending) (w' : World) : Prop :=
  ∃ a gv m r n ps, e = .returned (.tuple #[.agg #[.int .i64 a, gv], .agg #[.int .i64 a, .int .i64 (m.length : Int), .int .i64 (colN m : Int), r, .int .i64 n]]) ∧ RII w' gv m ∧ RP w' r ps ∧ gnrB a m = true ∧ (ps.length ≤ 8 ∧ ∀ p ∈ ps, Cons a m p) ∧ Bel w w'
set_option maxHeartbeats 8000000 in
theorem drawReS (v : Value) (n : Nat) (w : World) (hv : RB w v n) (hn : n ≤ 1048576) :
    Calls Try.prog 36 #[v] w (DrlP w) := by
  obtain ⟨A0, c0, rfl, _, _, _⟩ := id hv
  have R0 := (Blk.new w 41 #[.int .i64 0, .slice none 0 0]).alloc (.cells #[.int .i64 0, .int .i64 0, .int .i64 0, .slice none 0 0, .int .i64 0] 29)
  have Q0 := Blk.new2 w (.cells #[.int .i64 0, .slice none 0 0] 41) 29 #[.int .i64 0, .int .i64 0, .int .i64 0, .slice none 0 0, .int .i64 0]
  have Y0 : Bel w ((w.alloc (.cells #[.int .i64 0, .slice none 0 0] 41)).alloc (.cells #[.int .i64 0, .int .i64 0, .int .i64 0, .slice none 0 0, .int .i64 0] 29)) := ((Bel.refl _).alloc _).alloc _
  go_enter Try.func36, Try.ntmps36
  go_wp2_with fail
  refine (l1NewS _ n _ (hv.keep Y0) hn).mono ?_
  rintro e w1 ⟨cb, rfl, hcb, C1, hb1⟩
  rw [World.size_alloc, World.size_alloc] at hcb
  have R1 := hb1.keep R0
  have Q1 := hb1.keep Q0
  have Y1 := Y0.trans hb1
  go_wp2_with fail
  refine (l10GenS cb _ C1).mono ?_
  rintro e w2 ⟨a, gv, m, rfl, M2, hg, t2⟩
  have R2 := R1.mid t2.2 (.inl (by omega))
  have Q2 := Q1.mid t2.2 (.inl (by omega))
  have Y2 := Y1.trn t2 (by omega)
  have hl1 := C1.lt
  have hz2 := t2.2.size
  obtain ⟨A, c, eg, _, _⟩ := M2.shape
  subst eg
  have K3 : Blk (w2.alloc (.cells #[.int .i64 a, .slice A m.length c] 41)) w2.heap.size 41 #[.int .i64 a, .slice A m.length c] := Blk.new w2 _ _
  have R3 := R2.alloc (.cells #[.int .i64 a, .slice A m.length c] 41)
  have Q3 := Q2.alloc (.cells #[.int .i64 a, .slice A m.length c] 41)
  have M3 := M2.keep ((Bel.refl w2).alloc (.cells #[.int .i64 a, .slice A m.length c] 41))
  have C3 := t2.1.keep ((Bel.refl w2).alloc (.cells #[.int .i64 a, .slice A m.length c] 41))
  have Y3 := Y2.alloc (.cells #[.int .i64 a, .slice A m.length c] 41)
  have HG := Lib.hid hg
  clear hg R0 Q0 Y0 R1 Q1 Y1 R2 Q2 Y2 M2 hb1 C1
  go_wp2
  generalize (w2.alloc (.cells #[.int .i64 a, .slice A m.length c] 41)) = w3 at *
  have hgB : w1.heap.size ≤ w2.heap.size := hz2
  generalize w2.heap.size = gB at *
  generalize w1.heap.size = lo at *
  have rk0 : w3.cell? ⟨gB, 0, none⟩ = some (.int .i64 a) := K3.facts.1 0
  have rk1 : w3.cell? ⟨gB, 1, none⟩ = some (.slice A m.length c) := K3.facts.1 1
  have CD : Cur w3.drew cb := C3.keep ((Bel.refl _).drew)
  have MD : ML w3.drew lo (.slice A m.length c) m := M3.keep ((Bel.refl _).drew)
  have hclo : cb < lo := hl1
  have h3z : lo < w3.drew.heap.size := by have := K3.lt; have h6 : w3.drew.heap.size = w3.heap.size := rfl; omega
  go_region_law (first
    | (go_simp; go_at_call 88; (with_reducible refine (l15rS cb lo a _ m _ CD MD hclo HG.out).mono ?_); rintro e wT ⟨r, nn, ps, rfl, O, hd, tT⟩; have HD := Lib.hid hd; clear hd; obtain ⟨A1, c1, e1, _, _⟩ := O.shape; subst e1; have KT := (K3.drew).trn tT (by omega); have RW := (R3.drew).mid tT.2 (.inl (by omega)); have QT := (Q3.drew).mid tT.2 (.inl (by omega)); have MT := MD.mid tT.2 (by omega); have YT := (Y3.drew).trn tT (by omega); have rk0T : wT.cell? ⟨gB, 0, none⟩ = some (.int .i64 a) := KT.facts.1 0; have rk1T : wT.cell? ⟨gB, 1, none⟩ = some (.slice A m.length c) := KT.facts.1 1; have rr := RW.facts.1; have fr := RW.facts.2.1; have rq := QT.facts.1; have fq := QT.facts.2.1))
  all_goals (
    have R9 := (((RW.set 0 (.int .i64 a)).set 1 (.slice A m.length c)).far5 (b := w.heap.size + 1) (by omega) (.int .i64 a) (.int .i64 (m.length : Int)) (.int .i64 (colN m : Int)) (.slice A1 ps.length c1) (.int .i64 nn))
    have Q9 := ((QT.far (p := ⟨w.heap.size, 0, none⟩) (by dsimp only; omega) (.int .i64 a)).far (p := ⟨w.heap.size, 1, none⟩) (by dsimp only; omega) (.slice A m.length c)).set5 (.int .i64 a) (.int .i64 (m.length : Int)) (.int .i64 (colN m : Int)) (.slice A1 ps.length c1) (.int .i64 nn)
    have m1' := ((Mid.set (lo := w.heap.size) (hi := w.heap.size + 2) wT (p := ⟨w.heap.size, 0, none⟩) (.int .i64 a) (Nat.le_refl _) (by dsimp only; omega)).trans (Mid.set (lo := w.heap.size) (hi := w.heap.size + 2) _ (p := ⟨w.heap.size, 1, none⟩) (.slice A m.length c) (Nat.le_refl _) (by dsimp only; omega))).trans (Mid.set5 (lo := w.heap.size) (hi := w.heap.size + 2) (g := w.heap.size + 1) _ (by omega) (by omega) (.int .i64 a) (.int .i64 (m.length : Int)) (.int .i64 (colN m : Int)) (.slice A1 ps.length c1) (.int .i64 nn))
    have M9 := MT.mid m1' (by omega)
    have O9 := O.mid m1' (by omega)
    have Y9 := ((YT.setCell (p := ⟨w.heap.size, 0, none⟩) (Nat.le_refl _) (.int .i64 a)).setCell (p := ⟨w.heap.size, 1, none⟩) (Nat.le_refl _) (.slice A m.length c)).set5 (g := w.heap.size + 1) (by omega) (.int .i64 a) (.int .i64 (m.length : Int)) (.int .i64 (colN m : Int)) (.slice A1 ps.length c1) (.int .i64 nn)
    clear KT RW QT MT YT rr fr rq fq rk0T rk1T rk0 rk1 K3 R3 Q3 M3 C3 Y3 tT CD MD O m1'
    generalize ((((((wT.setCell ⟨w.heap.size, 0, none⟩ (.int .i64 a)).setCell ⟨w.heap.size, 1, none⟩ (.slice A m.length c)).setCell ⟨w.heap.size + 1, 0, none⟩ (.int .i64 a)).setCell ⟨w.heap.size + 1, 1, none⟩ (.int .i64 (m.length : Int))).setCell ⟨w.heap.size + 1, 2, none⟩ (.int .i64 (colN m : Int))).setCell ⟨w.heap.size + 1, 3, none⟩ (.slice A1 ps.length c1)).setCell ⟨w.heap.size + 1, 4, none⟩ (.int .i64 nn) = W9 at *
    have c9 := R9.facts.1
    have d9 := Q9.facts.1
    go_wp2
    refine bodyPost_ret (v := .tuple #[.agg #[.int .i64 a, .slice A m.length c], .agg #[.int .i64 a, .int .i64 (m.length : Int), .int .i64 (colN m : Int), .slice A1 ps.length c1, .int .i64 nn]]) (by simp [results, Try.results36, go_sem, c9, d9]) rfl ?_
    unfold DrlP
    exact ⟨a, _, m, _, nn, ps, rfl, M9.reads, O9.reads, HG.out, HD.out, Y9⟩)
end Go.Proofs.Ytjaagabbbnokdaa

namespace Go.Proofs.Ytjaagabbbnokdaa
open Go.ChangeShapes Go.WideShapes Go.ChangeAt Go.RowKit Go.Joins Go.Deep
set_option linter.unusedVariables false
set_option maxRecDepth 100000

set_option maxHeartbeats 400000 in
theorem sameL (v u : Value) (xs ys : List Int) (w : World) (hv : RI w v xs) (hu : RI w u ys) :
    Calls Try.prog 87 #[v, u] w fun e w' => e = .returned (.bool (decide (xs = ys))) ∧ Bel w w' := by
  obtain ⟨A, c, rfl, h1, h2, hA⟩ := hv
  obtain ⟨B, d, rfl, h3, h4, hB⟩ := hu
  by_cases hlen : xs.length = ys.length
  · have hne : ((xs.length : Int) != (ys.length : Int)) = false := by simp [hlen]
    have hle : xs.length ≤ ys.length := by omega
    have HL := Lib.hid hlen
    clear hlen
    go_enter Try.func87, Try.ntmps87
    go_wp2
    go_loopw [5] (fun i wr => ∃ k : Nat, k ≤ xs.length ∧ i = .int .i64 k ∧ (∃ n, wr = w.drewN n) ∧ Hid (∀ j, j < k → xs[j]? = ys[j]?)) (fun i _ => xs.length - (intOf i).toNat)
    case atStart => exact ⟨0, Nat.zero_le _, rfl, ⟨0, rfl⟩, Lib.hid (fun j hj => absurd hj (by omega))⟩
    case round =>
      obtain ⟨k, hk, rfl, ⟨n, rfl⟩, HK⟩ := hrel
      by_cases hlt : k < xs.length
      · obtain ⟨b1, o1, rfl, _, hc1⟩ := hA (by omega)
        obtain ⟨b2, o2, rfl, _, hc2⟩ := hB (by omega)
        have g1 := hc1 k (xs[k]'hlt) (List.getElem?_eq_getElem hlt)
        have g2 := hc2 k (ys[k]'(by omega)) (List.getElem?_eq_getElem (by omega))
        clear hc1 hc2
        have hx : Hid (xs[k]? = some (xs[k]'hlt)) := List.getElem?_eq_getElem hlt
        have hy : Hid (ys[k]? = some (ys[k]'(by omega))) := List.getElem?_eq_getElem (by omega)
        generalize xs[k]'hlt = x at *
        generalize ys[k]'(by omega) = y at *
        have i0 : (0 : Int) ≤ (k : Int) := by omega
        have i1 : (k : Int) < (xs.length : Int) := by omega
        have i2 : (k : Int) < (ys.length : Int) := by omega
        by_cases hxy : x = y
        · subst hxy
          go_wp2
          go_quiet (fail)
          go_wp2
          go_roundw
          case rel =>
            refine ⟨k + 1, by omega, by go_num, ⟨_, rfl⟩, Lib.hid (fun j hj => ?_)⟩
            by_cases h : j = k
            · subst h; rw [hx.out, hy.out]
            · exact HK.out j (by omega)
          case measure => simp [intOf]; omega
        · have hb : (x != y) = true := by simpa using hxy
          have HX := Lib.hid hxy
          clear hxy
          go_wp2
          go_quiet (fail)
          go_wp2
          go_ret
          have hd : ¬ xs = ys := by
            intro he
            rw [he] at hx
            have := hx.out.symm.trans hy.out
            injection this with this
            exact HX.out this
          exact ⟨by rw [decide_eq_false hd]; rfl, by repeat (first | exact Bel.refl _ | apply Bel.drewN)⟩
      · have i1 : ¬ (k : Int) < (xs.length : Int) := by omega
        go_wp2
        go_ret
        have hd : xs = ys := by
          have hl := HL.out
          apply List.ext_getElem?
          intro j
          by_cases hj : j < k
          · exact HK.out j hj
          · rw [List.getElem?_eq_none (by omega), List.getElem?_eq_none (by omega)]
        exact ⟨by rw [decide_eq_true hd]; rfl, by repeat (first | exact Bel.refl _ | apply Bel.drewN)⟩
  · have hne : ((xs.length : Int) != (ys.length : Int)) = true := by
      rw [bne_iff_ne]; omega
    have HL := Lib.hid hlen
    clear hlen
    go_enter Try.func87, Try.ntmps87
    go_wp2
    go_ret
    have hd : ¬ xs = ys := fun he => HL.out (by rw [he])
    exact ⟨by rw [decide_eq_false hd]; rfl, Bel.refl _⟩
theorem l5AnyS1 (cb k : Nat) (w : World) (hc : Cur w cb) (hn : k ≤ 900) :
    Calls Try.prog 83 #[.pointer (some ⟨cb, 0, none⟩), .int .i64 (1 + (k : Int))] w fun e w' => ∃ r xs, e = .returned r ∧ OI w' w.heap.size r xs ∧ Sml xs ∧ Trn cb w w' := by
  have h := l5AnyS cb (1 + k) w hc (by omega)
  rwa [show ((1 + k : Nat) : Int) = 1 + (k : Int) from by omega] at h
end Go.Proofs.Ytjaagabbbnokdaa

namespace Go.Proofs.Ytjaagabbbnokdaa
open Go.ChangeShapes Go.WideShapes Go.ChangeAt Go.RowKit Go.Joins Go.Deep
set_option linter.unusedVariables false
set_option maxRecDepth 100000

set_option maxHeartbeats 2000000 in
theorem iscS (a : Int) (v : Value) (m : List (List Int)) (p : Pk) (v1 u1 : Value) (w : World) (hv : RII w v m) (h1 : RI w v1 p.2.1) (h2 : RI w u1 p.2.2) (hg : gnrB a m = true) (h : Cons a m p) :
    Calls Try.prog 38 #[.agg #[.int .i64 a, v], .agg #[.int .i64 p.1, v1, u1]] w fun e w' => e = .returned (.bool true) ∧ Bel w w' := by
  have hcp := cons_cp hg h
  obtain ⟨x, xs, ys⟩ := p
  obtain ⟨e1, _, e2⟩ := h
  dsimp only at *
  subst e1 e2
  have HCP := Lib.hid hcp
  have HE := Lib.hid (eqPk_self (x, xs, lcZ m xs))
  clear hcp hg
  obtain ⟨A, c, rfl, _, _, _⟩ := id hv
  obtain ⟨A1, c1, rfl, _, _, _⟩ := id h1
  obtain ⟨A2, c2, rfl, _, _, _⟩ := id h2
  obtain ⟨PL, hPL⟩ : ∃ PL, PL = lcZ m xs := ⟨_, rfl⟩
  rw [← hPL] at h2 HE ⊢
  have HPL := Lib.hid hPL
  clear hPL
  have X0 := (Blk.new w 41 #[.int .i64 x, .slice A m.length c]).alloc (.cells #[.int .i64 x, .slice A1 xs.length c1, .slice A2 PL.length c2] 63)
  have Z0 := Blk.new2 w (.cells #[.int .i64 x, .slice A m.length c] 41) 63 #[.int .i64 x, .slice A1 xs.length c1, .slice A2 PL.length c2]
  have Y0 := ((Bel.refl w).alloc (.cells #[.int .i64 x, .slice A m.length c] 41)).alloc (.cells #[.int .i64 x, .slice A1 xs.length c1, .slice A2 PL.length c2] 63)
  obtain ⟨cx, fx, zx⟩ := X0.facts
  obtain ⟨cz, fz, zz⟩ := Z0.facts
  go_enter Try.func38, Try.ntmps38
  go_wp2_with fail
  refine (cpS x _ _ m xs _ (hv.keep Y0) (h1.keep Y0) HCP.out).mono ?_
  rintro e w1 ⟨r1, r2, rfl, O1, O2, b1⟩
  rw [← HPL.out] at O2
  obtain ⟨A3, c3, e3, _, _, _⟩ := O1.reads
  obtain ⟨A4, c4, e4, _, _, _⟩ := O2.reads
  subst e3 e4
  clear cx fx zx cz fz zz
  have B2 := (Bel.refl w1).alloc (.cells #[.int .i64 x, .slice A3 xs.length c3, .slice A4 PL.length c4] 63)
  have D2 := Blk.new w1 63 #[.int .i64 x, .slice A3 xs.length c3, .slice A4 PL.length c4]
  have Z2 := B2.keep (b1.keep Z0)
  have Y2 := (Y0.trans b1).trans B2
  have P1 := O1.reads.keep B2
  have P2 := O2.reads.keep B2
  clear X0 Z0 O1 O2 b1 B2 Y0
  go_upto_region 2 with fail
  generalize w1.alloc (.cells #[.int .i64 x, .slice A3 xs.length c3, .slice A4 PL.length c4] 63) = w2 at *
  generalize w1.heap.size = gD at *
  obtain ⟨cz, fz, zz⟩ := Z2.facts
  obtain ⟨cd, fd, zd⟩ := D2.facts
  go_wp2_with fail
  refine (eqPkS (x, xs, PL) (x, xs, PL) _ _ _ _ _ (h1.keep Y2) (h2.keep Y2) P1 P2).mono ?_
  rintro e w3 ⟨rfl, b3⟩
  rw [HE.out]
  have Y3 := Y2.trans b3
  go_wp2
  go_ret
  exact ⟨rfl, Y3⟩
set_option maxHeartbeats 2000000 in
theorem sameP (x : Int) (xs ys : List Int) (v1 u1 v2 u2 : Value) (w : World) (h1 : RI w v1 xs) (h2 : RI w u1 ys) (h3 : RI w v2 xs) (h4 : RI w u2 ys) :
    Calls Try.prog 35 #[.agg #[.int .i64 x, v1, u1], .agg #[.int .i64 x, v2, u2]] w fun e w' => e = .returned (.bool true) ∧ Bel w w' := by
  have X := (Blk.new w 63 #[.int .i64 x, v1, u1]).alloc (.cells #[.int .i64 x, v2, u2] 63)
  have Z := Blk.new2 w (.cells #[.int .i64 x, v1, u1] 63) 63 #[.int .i64 x, v2, u2]
  have Y : Bel w ((w.alloc (.cells #[.int .i64 x, v1, u1] 63)).alloc (.cells #[.int .i64 x, v2, u2] 63)) := ((Bel.refl _).alloc _).alloc _
  have q0 : (x == x) = true := by simp
  have hx : decide (xs = xs) = true := by simp
  have hy : decide (ys = ys) = true := by simp
  obtain ⟨cx, _, zx⟩ := X.facts
  obtain ⟨cz, _, zz⟩ := Z.facts
  go_enter Try.func35, Try.ntmps35
  go_wp2_with fail
  refine (sameL v1 v2 xs xs _ (h1.keep Y) (h3.keep Y)).mono ?_
  rintro e w1 ⟨rfl, hb1⟩
  clear cx zx cz zz
  have X1 := hb1.keep X
  have Z1 := hb1.keep Z
  have Y1 := Y.trans hb1
  obtain ⟨cx, _, zx⟩ := X1.facts
  obtain ⟨cz, _, zz⟩ := Z1.facts
  go_wp2_with fail
  refine (sameL u1 u2 ys ys _ (h2.keep Y1) (h4.keep Y1)).mono ?_
  rintro e w2 ⟨rfl, hb2⟩
  have Y2 := Y1.trans hb2
  go_wp2
  go_ret
  exact ⟨by simp, Y2⟩
end Go.Proofs.Ytjaagabbbnokdaa
