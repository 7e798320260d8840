/-
  RandomVector: contracts of the program's function and of the reference's. Condition: a width from 1 to 40.
  Recode of the reference: a contract (what becomes of the recoder).
  Contracts of EqualPackets and EqualRecoders, of the program and of the reference. No condition.
  The plain law of combined packets: a combination of consistent packets is consistent.
-/
import Derived.Test.YtjaagabbbnokdaaPH
import Derived.Test.YtjaagabbbnokdaaPA
import Derived.Test.YtjaagabbbnokdaaPJ
import Derived.Test.YtjaagabbbnokdaaPG
import Derived.Test.YtjaagabbbnokdaaPD
import Derived.RegionTactic
import Derived.ChangeAlike
import Derived.BigRegion
import Derived.Test.YtjaagabbbnokdaaEqI
import Derived.Test.YtjaagabbbnokdaaPks1
import Derived.Test.YtjaagabbbnokdaaBq
import Derived.Test.YtjaagabbbnokdaaPC
namespace Go.Proofs.Ytjaagabbbnokdaa
open Go.ChangeShapes Go.WideShapes Go.ChangeAt Go.RowKit
set_option linter.unusedVariables false
set_option maxRecDepth 100000

def rvR (s : Int) (n : Nat) : List Int := (List.range n).map fun (i : Nat) => rndZ s (i : Int) 1019
def rvZ (s : Int) (n : Nat) : List Int := if lead (rvR s n) < (rvR s n).length then rvR s n else (rvR s n).set 0 1
theorem rvR_len (s : Int) (n : Nat) : (rvR s n).length = n := by simp [rvR]
theorem rvR_at (s : Int) {n i : Nat} (h : i < n) : (rvR s n)[i]? = some (rndZ s (i : Int) 1019) := by simp [rvR, h]
theorem rvR_row (s : Int) (n : Nat) : Row n (rvR s n) := ⟨rvR_len s n, fun x hx => by
  obtain ⟨i, _, rfl⟩ := List.mem_map.1 hx
  have := rndZ_bd s (i : Int) 1019 (by omega)
  omega⟩
theorem rvZ_row (s : Int) (n : Nat) : Row n (rvZ s n) := by
  unfold rvZ
  split
  · exact rvR_row s n
  · refine ⟨by rw [List.length_set]; exact rvR_len s n, fun x hx => ?_⟩
    rcases List.mem_or_eq_of_mem_set hx with h | h
    · exact (rvR_row s n).2 x h
    · omega
theorem rvZ_yes {s : Int} {n : Nat} (h : lead (rvR s n) < (rvR s n).length) : rvZ s n = rvR s n := if_pos h
theorem rvZ_no {s : Int} {n : Nat} (h : ¬ lead (rvR s n) < (rvR s n).length) : rvZ s n = (rvR s n).set 0 1 := if_neg h
set_option maxHeartbeats 1000000 in
theorem rvS (s : Int) (n : Nat) (w : World) (hs : -9223372036854775808 ≤ s ∧ s ≤ 9223372036854775807) (h1 : 1 ≤ n) (h4 : n ≤ 40) :
    Calls Try.prog 158 #[.int .i64 s, .int .i64 (n : Int)] w fun e w' => ∃ r, e = .returned r ∧ OI w' w.heap.size r (rvZ s n) ∧ Bel w w' := by
  have HS := Lib.hid hs
  have HRL := Lib.hid (rvR_len s n)
  have Y0 : Bel w (w.alloc (.cells #[] 3)) := (Bel.refl _).alloc _
  clear hs
  go_enter Try.func158, Try.ntmps158
  go_wp2
  go_loopg [5, 6] n (fun f o i wr => ∃ k : Nat, k + f = n ∧ i = .int .i64 k ∧ OI wr w.heap.size o ((rvR s n).take k) ∧ Bel w wr)
  case atStart => exact ⟨0, by omega, rfl, OI.empty w, Y0⟩
  case round =>
    clear Y0
    obtain ⟨k, hk, rfl, O, Y⟩ := hrel
    have hk2 : k ≤ n := by omega
    have HK := Lib.hid hk
    clear hk
    by_cases hlt : k < n
    · have i0 : (0 : Int) ≤ (k : Int) := by omega
      have i1 : (k : Int) < (n : Int) := by omega
      have HT := Lib.hid (take_snoc (rvR_at s hlt))
      have hlen : ((rvR s n).take k).length ≤ 40 := by rw [List.length_take]; omega
      go_wp2_with fail
      refine (l1In_yes (n : Int) 1 40 _ (by omega) (by omega)).mono ?_
      rintro e w1 ⟨rfl, rfl⟩
      go_wp2_with fail
      refine (rndS s (k : Int) 1019 _ HS.out (by omega) (by omega)).mono ?_
      rintro e w2 ⟨rfl, hb2⟩
      have O2 := O.keep hb2
      have Y2 := Y.trans hb2
      have y2 := Y2.size
      generalize rndZ s (k : Int) 1019 = z at *
      go_wp2_with (at_builtin; refine wpList_appI _ rfl _ _ rfl w.heap.size _ _ _ [z] rfl rfl (O2.keep ((Bel.refl _).alloc _)) (RI.lit1 _ _ _) (by simp only [List.length_cons, List.length_nil]; omega) (by simp only [World.size_alloc]; omega) ?_)
      intro v4 w4 O4 hG
      have Y4 : Bel w w4 := (Y2.alloc _).grown hG (fun p hp => (O2.block p hp).1)
      rw [← HT.out] at O4
      clear hG
      go_wp2
      go_roundg (n - (k + 1))
      case measure => have := HK.out; omega
      case rel => exact ⟨k + 1, by omega, by go_num, O4, Y4⟩
    · obtain rfl : n = k := by omega
      have i1 : ¬ (n : Int) < (n : Int) := by omega
      have HTK : Hid ((rvR s n).take n = rvR s n) := Lib.hid (List.take_of_length_le (by rw [HRL.out]; exact Nat.le_refl _))
      rw [HTK.out] at O
      obtain ⟨g, cap, ev, g1, g2, g3, g4, fz, cs⟩ := O.cells (by rw [HRL.out]; omega)
      rw [HRL.out] at ev
      subst ev
      have RR := Lib.hid (show RI wr (.slice (some ⟨g, 0, none⟩) n cap) (rvR s n) from O.reads)
      have f1 := fz 0
      have c1 := cs 0 _ (rvR_at s (by omega))
      have i5 : (0 : Int) < (n : Int) := by omega
      clear cs fz
      go_wp2_with fail
      refine (leadS _ (rvR s n) _ RR.out).mono ?_
      rintro e w2 ⟨rfl, rfl⟩
      by_cases hin : lead (rvR s n) < (rvR s n).length
      · have hld : decide ((lead (rvR s n) : Int) < 0) = false := decide_eq_false (by omega)
        rw [leadV_yes hin]
        have HY := Lib.hid (rvZ_yes hin)
        clear hin
        go_wp2
        go_ret
        exact ⟨_, rfl, by rw [HY.out]; exact O, Y⟩
      · rw [leadV_no hin]
        have HY := Lib.hid (rvZ_no hin)
        have O3 := O.store (i := 0) (by omega) 1
        have Y3 := Y.setCell (p := ⟨g, 0, none⟩) g1 (.int .i64 1)
        clear hin
        go_wp2
        go_ret
        exact ⟨_, rfl, by rw [HY.out]; exact O3, Y3⟩
end Go.Proofs.Ytjaagabbbnokdaa

namespace Go.Proofs.Ytjaagabbbnokdaa
open Go.ChangeShapes Go.WideShapes Go.ChangeAt Go.RowKit Go.Joins Go.Deep
set_option linter.unusedVariables false
set_option linter.unusedSimpArgs false
set_option maxRecDepth 100000

theorem Blk.far5 {w : World} {g b : Nat} {T : TypeId} {cs : Array Value} (h : Blk w g T cs) (hne : g ≠ b) (v0 v1 v2 v3 v4 : Value) :
    Blk (((((w.setCell ⟨b, 0, none⟩ v0).setCell ⟨b, 1, none⟩ v1).setCell ⟨b, 2, none⟩ v2).setCell ⟨b, 3, none⟩ v3).setCell ⟨b, 4, none⟩ v4) g T cs :=
  ((((h.far (p := ⟨b, 0, none⟩) (by dsimp only; omega) v0).far (p := ⟨b, 1, none⟩) (by dsimp only; omega) v1).far (p := ⟨b, 2, none⟩) (by dsimp only; omega) v2).far (p := ⟨b, 3, none⟩) (by dsimp only; omega) v3).far (p := ⟨b, 4, none⟩) (by dsimp only; omega) v4
set_option maxHeartbeats 8000000 in
theorem rcxS (g s d n k : Int) (v : Value) (ps : List Pk) (w : World) (hv : RP w v ps) (hs : SmP ps) (hn : ps.length ≤ 8) (hk : 0 ≤ k ∧ k ≤ 1000) (hg : 0 ≤ g ∧ g ≤ 1000000000000) (hnb : 0 ≤ n ∧ n ≤ 1000000000000) :
    Calls Try.prog 131 #[.agg #[.int .i64 g, .int .i64 s, .int .i64 d, v, .int .i64 n], .int .i64 k] w fun e w' => ∃ r x A1 l1 c1 A2 l2 c2 q n', e = .returned (.tuple #[.agg #[.int .i64 g, .int .i64 s, .int .i64 d, r, .int .i64 n'], .agg #[.int .i64 x, .slice A1 l1 c1, .slice A2 l2 c2], .bool q]) ∧ MP w' w.heap.size r ps ∧ (0 ≤ n' ∧ n' ≤ 1000000000000) ∧ Bel w w' := by
  have HS := Lib.hid hs
  have HK : Hid (-9223372036854775808 ≤ k ∧ k ≤ 9223372036854775807) := Lib.hid (by omega)
  have HG : Hid (-9223372036854775808 ≤ g ∧ g ≤ 9223372036854775807) := Lib.hid (by omega)
  have HN6 : Hid (-9223372036854775808 ≤ n ∧ n ≤ 9223372036854775807) := Lib.hid (by omega)
  have HN := Lib.hid hnb
  have HN8 := Lib.hid hn
  have HZ : Hid (-9223372036854775808 ≤ khZ k [g, n] ∧ khZ k [g, n] ≤ 9223372036854775807) := Lib.hid (by have := khZ_bd k [g, n]; omega)
  clear hs hk hg hnb
  obtain ⟨A, cp, rfl, _, _, _⟩ := id hv
  have Y0 := (((Bel.refl w).alloc (.cells #[.int .i64 g, .int .i64 s, .int .i64 d, .slice A ps.length cp, .int .i64 n] 29)).alloc (.cells #[.int .i64 0, .int .i64 0, .int .i64 0, .slice none 0 0, .int .i64 0] 29)).alloc (.cells #[.int .i64 0, .slice none 0 0, .slice none 0 0] 63)
  have X0 := ((Blk.new w 29 #[.int .i64 g, .int .i64 s, .int .i64 d, .slice A ps.length cp, .int .i64 n]).alloc (.cells #[.int .i64 0, .int .i64 0, .int .i64 0, .slice none 0 0, .int .i64 0] 29)).alloc (.cells #[.int .i64 0, .slice none 0 0, .slice none 0 0] 63)
  have R0 := (Blk.new2 w (.cells #[.int .i64 g, .int .i64 s, .int .i64 d, .slice A ps.length cp, .int .i64 n] 29) 29 #[.int .i64 0, .int .i64 0, .int .i64 0, .slice none 0 0, .int .i64 0]).alloc (.cells #[.int .i64 0, .slice none 0 0, .slice none 0 0] 63)
  have Q0 := Blk.new3 w (.cells #[.int .i64 g, .int .i64 s, .int .i64 d, .slice A ps.length cp, .int .i64 n] 29) (.cells #[.int .i64 0, .int .i64 0, .int .i64 0, .slice none 0 0, .int .i64 0] 29) 63 #[.int .i64 0, .slice none 0 0, .slice none 0 0]
  obtain ⟨cx, fx, zx⟩ := X0.facts
  go_enter Try.func131, Try.ntmps131
  go_wp2_with fail
  refine (l15cS g s d n _ ps _ (hv.keep Y0) HS.out (by omega)).mono ?_
  rintro e w1 ⟨r1, rfl, O1, b1⟩
  clear cx fx zx
  obtain ⟨A1, c1, e1, _, _⟩ := O1.shape
  subst e1
  have hgD : w.heap.size + 3 ≤ w1.heap.size := by have := b1.size; rw [World.size_alloc, World.size_alloc, World.size_alloc] at this; omega
  rw [World.size_alloc, World.size_alloc, World.size_alloc] at O1
  have B2 := (Bel.refl w1).alloc (.cells #[.int .i64 g, .int .i64 s, .int .i64 d, .slice A1 ps.length c1, .int .i64 n] 29)
  have D2 := Blk.new w1 29 #[.int .i64 g, .int .i64 s, .int .i64 d, .slice A1 ps.length c1, .int .i64 n]
  have N2 := O1.keep B2
  have X2 := B2.keep (b1.keep X0)
  have R2 := B2.keep (b1.keep R0)
  have Q2 := B2.keep (b1.keep Q0)
  have Y2 := (Y0.trans b1).trans B2
  have hbo := O1.block
  have M2 := (MPn.of O1 (Nat.le_refl _)).keep B2
  clear O1 X0 R0 Q0 Y0 b1 B2
  go_upto_region 2 with fail
  generalize w1.alloc (.cells #[.int .i64 g, .int .i64 s, .int .i64 d, .slice A1 ps.length c1, .int .i64 n] 29) = w2 at *
  generalize w1.heap.size = gD at *
  have hg2 : gD < w2.heap.size := D2.lt
  obtain ⟨cx, fx, zx⟩ := X2.facts
  go_wp2_with fail
  refine (recoS g s d n _ ps _ (hv.keep Y2)).mono ?_
  rintro e w4 ⟨rfl, b4⟩
  clear cx fx zx
  have D4 := b4.keep D2
  have X4 := b4.keep X2
  have R4 := b4.keep R2
  have Q4 := b4.keep Q2
  have O4 := N2.keep b4
  have M4 := M2.keep b4
  have Y4 := Y2.trans b4
  have hg4 : gD < w4.heap.size := D4.lt
  have hv4 := hv.keep Y4
  clear D2 X2 R2 Q2 N2 M2 Y2 b4 hg2
  obtain ⟨cx, fx, zx⟩ := X4.facts
  cases hq : recoB g s d n ps with
  | false =>
    obtain ⟨cd, fd, zd⟩ := D4.facts
    obtain ⟨cr, fr, zr⟩ := R4.facts
    obtain ⟨cq, fq, zq⟩ := Q4.facts
    have R9 := (((R4.set5 (.int .i64 g) (.int .i64 s) (.int .i64 d) (.slice A1 ps.length c1) (.int .i64 n)).far (p := ⟨w.heap.size + 2, 0, none⟩) (by dsimp only; omega) (.int .i64 0)).far (p := ⟨w.heap.size + 2, 1, none⟩) (by dsimp only; omega) (.slice none 0 0)).far (p := ⟨w.heap.size + 2, 2, none⟩) (by dsimp only; omega) (.slice none 0 0)
    have Q9 := (((Q4.far5 (b := w.heap.size + 1) (by omega) (.int .i64 g) (.int .i64 s) (.int .i64 d) (.slice A1 ps.length c1) (.int .i64 n)).set 0 (.int .i64 0)).set 1 (.slice none 0 0)).set 2 (.slice none 0 0)
    have O9 := (((O4.set5 (g := w.heap.size + 1) (by omega) (.int .i64 g) (.int .i64 s) (.int .i64 d) (.slice A1 ps.length c1) (.int .i64 n)).setFar (p := ⟨w.heap.size + 2, 0, none⟩) (by dsimp only; omega) (.int .i64 0)).setFar (p := ⟨w.heap.size + 2, 1, none⟩) (by dsimp only; omega) (.slice none 0 0)).setFar (p := ⟨w.heap.size + 2, 2, none⟩) (by dsimp only; omega) (.slice none 0 0)
    have Y9 := (((Y4.set5 (g := w.heap.size + 1) (by omega) (.int .i64 g) (.int .i64 s) (.int .i64 d) (.slice A1 ps.length c1) (.int .i64 n)).setCell (p := ⟨w.heap.size + 2, 0, none⟩) (by dsimp only; omega) (.int .i64 0)).setCell (p := ⟨w.heap.size + 2, 1, none⟩) (by dsimp only; omega) (.slice none 0 0)).setCell (p := ⟨w.heap.size + 2, 2, none⟩) (by dsimp only; omega) (.slice none 0 0)
    go_wp2
    have cr9 := R9.facts.1
    have cq9 := Q9.facts.1
    clear cr fr cd fd cq fq
    refine bodyPost_ret (v := .tuple #[.agg #[.int .i64 g, .int .i64 s, .int .i64 d, .slice A1 ps.length c1, .int .i64 n], .agg #[.int .i64 0, .slice none 0 0, .slice none 0 0], .bool false]) (by simp [results, Try.results131, go_sem, cr9, cq9]) rfl ?_
    exact ⟨_, _, _, _, _, _, _, _, _, _, rfl, O9.low (by omega), HN.out, Y9⟩
  | true =>
  cases h0 : ((ps.length : Int) == 0) with
  | true =>
    obtain ⟨cd, fd, zd⟩ := D4.facts
    obtain ⟨cr, fr, zr⟩ := R4.facts
    obtain ⟨cq, fq, zq⟩ := Q4.facts
    have R9 := (((R4.set5 (.int .i64 g) (.int .i64 s) (.int .i64 d) (.slice A1 ps.length c1) (.int .i64 n)).far (p := ⟨w.heap.size + 2, 0, none⟩) (by dsimp only; omega) (.int .i64 0)).far (p := ⟨w.heap.size + 2, 1, none⟩) (by dsimp only; omega) (.slice none 0 0)).far (p := ⟨w.heap.size + 2, 2, none⟩) (by dsimp only; omega) (.slice none 0 0)
    have Q9 := (((Q4.far5 (b := w.heap.size + 1) (by omega) (.int .i64 g) (.int .i64 s) (.int .i64 d) (.slice A1 ps.length c1) (.int .i64 n)).set 0 (.int .i64 0)).set 1 (.slice none 0 0)).set 2 (.slice none 0 0)
    have O9 := (((O4.set5 (g := w.heap.size + 1) (by omega) (.int .i64 g) (.int .i64 s) (.int .i64 d) (.slice A1 ps.length c1) (.int .i64 n)).setFar (p := ⟨w.heap.size + 2, 0, none⟩) (by dsimp only; omega) (.int .i64 0)).setFar (p := ⟨w.heap.size + 2, 1, none⟩) (by dsimp only; omega) (.slice none 0 0)).setFar (p := ⟨w.heap.size + 2, 2, none⟩) (by dsimp only; omega) (.slice none 0 0)
    have Y9 := (((Y4.set5 (g := w.heap.size + 1) (by omega) (.int .i64 g) (.int .i64 s) (.int .i64 d) (.slice A1 ps.length c1) (.int .i64 n)).setCell (p := ⟨w.heap.size + 2, 0, none⟩) (by dsimp only; omega) (.int .i64 0)).setCell (p := ⟨w.heap.size + 2, 1, none⟩) (by dsimp only; omega) (.slice none 0 0)).setCell (p := ⟨w.heap.size + 2, 2, none⟩) (by dsimp only; omega) (.slice none 0 0)
    go_wp2
    have cr9 := R9.facts.1
    have cq9 := Q9.facts.1
    clear cr fr cd fd cq fq
    refine bodyPost_ret (v := .tuple #[.agg #[.int .i64 g, .int .i64 s, .int .i64 d, .slice A1 ps.length c1, .int .i64 n], .agg #[.int .i64 0, .slice none 0 0, .slice none 0 0], .bool false]) (by simp [results, Try.results131, go_sem, cr9, cq9]) rfl ?_
    exact ⟨_, _, _, _, _, _, _, _, _, _, rfl, O9.low (by omega), HN.out, Y9⟩
  | false =>
  cases h1 : (n == 1000000000000) with
  | true =>
    obtain ⟨cd, fd, zd⟩ := D4.facts
    obtain ⟨cr, fr, zr⟩ := R4.facts
    obtain ⟨cq, fq, zq⟩ := Q4.facts
    have R9 := (((R4.set5 (.int .i64 g) (.int .i64 s) (.int .i64 d) (.slice A1 ps.length c1) (.int .i64 n)).far (p := ⟨w.heap.size + 2, 0, none⟩) (by dsimp only; omega) (.int .i64 0)).far (p := ⟨w.heap.size + 2, 1, none⟩) (by dsimp only; omega) (.slice none 0 0)).far (p := ⟨w.heap.size + 2, 2, none⟩) (by dsimp only; omega) (.slice none 0 0)
    have Q9 := (((Q4.far5 (b := w.heap.size + 1) (by omega) (.int .i64 g) (.int .i64 s) (.int .i64 d) (.slice A1 ps.length c1) (.int .i64 n)).set 0 (.int .i64 0)).set 1 (.slice none 0 0)).set 2 (.slice none 0 0)
    have O9 := (((O4.set5 (g := w.heap.size + 1) (by omega) (.int .i64 g) (.int .i64 s) (.int .i64 d) (.slice A1 ps.length c1) (.int .i64 n)).setFar (p := ⟨w.heap.size + 2, 0, none⟩) (by dsimp only; omega) (.int .i64 0)).setFar (p := ⟨w.heap.size + 2, 1, none⟩) (by dsimp only; omega) (.slice none 0 0)).setFar (p := ⟨w.heap.size + 2, 2, none⟩) (by dsimp only; omega) (.slice none 0 0)
    have Y9 := (((Y4.set5 (g := w.heap.size + 1) (by omega) (.int .i64 g) (.int .i64 s) (.int .i64 d) (.slice A1 ps.length c1) (.int .i64 n)).setCell (p := ⟨w.heap.size + 2, 0, none⟩) (by dsimp only; omega) (.int .i64 0)).setCell (p := ⟨w.heap.size + 2, 1, none⟩) (by dsimp only; omega) (.slice none 0 0)).setCell (p := ⟨w.heap.size + 2, 2, none⟩) (by dsimp only; omega) (.slice none 0 0)
    go_wp2
    have cr9 := R9.facts.1
    have cq9 := Q9.facts.1
    clear cr fr cd fd cq fq
    refine bodyPost_ret (v := .tuple #[.agg #[.int .i64 g, .int .i64 s, .int .i64 d, .slice A1 ps.length c1, .int .i64 n], .agg #[.int .i64 0, .slice none 0 0, .slice none 0 0], .bool false]) (by simp [results, Try.results131, go_sem, cr9, cq9]) rfl ?_
    exact ⟨_, _, _, _, _, _, _, _, _, _, rfl, O9.low (by omega), HN.out, Y9⟩
  | false =>
    have hp0 : 1 ≤ ps.length := by have := beq_eq_false_iff_ne.1 h0; omega
    have hn1 : n + 1 ≤ 1000000000000 := by have := beq_eq_false_iff_ne.1 h1; have := HN.out; omega
    have hwr : IntKind.i64.wrap (n + 1) = n + 1 := IntWalk.i64_in _ (by have := HN.out; omega)
    have HN1 : Hid (0 ≤ n + 1 ∧ n + 1 ≤ 1000000000000) := Lib.hid (by have := HN.out; omega)
    go_upto_region 4 with fail
    clear cx fx zx
    have HSW : ∀ W, Bel w4 W → W.cell? ⟨w.heap.size, 0, none⟩ = some (.int .i64 g) ∧ W.cell? ⟨w.heap.size, 1, none⟩ = some (.int .i64 s) ∧ W.cell? ⟨w.heap.size, 2, none⟩ = some (.int .i64 d) ∧ W.cell? ⟨w.heap.size, 3, none⟩ = some (.slice A ps.length cp) ∧ W.cell? ⟨w.heap.size, 4, none⟩ = some (.int .i64 n) := fun W b => ⟨(b.keep X4).facts.1 0, (b.keep X4).facts.1 1, (b.keep X4).facts.1 2, (b.keep X4).facts.1 3, (b.keep X4).facts.1 4⟩
    have B0 := (Bel.refl w4).drew
    have BZ := ((Bel.refl w4).alloc (.cells #[.int .i64 0, .slice none 0 0, .slice none 0 0] 63)).drew
    have KZ := (Blk.new w4 63 #[.int .i64 0, .slice none 0 0, .slice none 0 0]).drew
    refine wp_region_noPanic ?_
    refine wp_region_last 15 (fun W => W.cell? ⟨w.heap.size, 0, none⟩ = some (.int .i64 g) ∧ W.cell? ⟨w.heap.size, 1, none⟩ = some (.int .i64 s) ∧ W.cell? ⟨w.heap.size, 2, none⟩ = some (.int .i64 d) ∧ W.cell? ⟨w.heap.size, 3, none⟩ = some (.slice A ps.length cp) ∧ W.cell? ⟨w.heap.size, 4, none⟩ = some (.int .i64 n)) (by kernel_rfl) (by kernel_rfl) (HSW _ (Bel.refl _).drew) (fun hHeld => ?_)
    refine' wpAnyH_take (i := 0) (oi := _) (v := _) ?hi1 (by kernel_rfl) (by kernel_rfl) (by kernel_rfl) (fun _ _ _ h => h) (Or.inl ⟨?hw1, ?hy1⟩) (by assumption) ?rest1
    case hi1 => simp only [List.getElem?_toArray, List.getElem?_cons_zero]; rfl
    case hw1 => rfl
    case hy1 =>
      intro W hSW
      try dsimp only at hSW
      go_simp
      try with_reducible rfl
    simp only [Act.put, List.setIfInBounds_toArray, List.set_cons_zero, List.set_cons_succ]
    refine' wpAnyH_take (i := 1) (oi := _) (v := _) ?hi2 (by kernel_rfl) (by kernel_rfl) (by kernel_rfl) (fun _ _ _ h => h) (Or.inl ⟨?hw2, ?hy2⟩) (by assumption) ?rest2
    case hi2 => simp only [List.getElem?_toArray, List.getElem?_cons_succ, List.getElem?_cons_zero]; rfl
    case hw2 => rfl
    case hy2 =>
      intro W hSW
      try dsimp only at hSW
      go_simp
      try with_reducible rfl
    simp only [Act.put, List.setIfInBounds_toArray, List.set_cons_zero, List.set_cons_succ]
    refine' wpAnyH_take (i := 2) (oi := _) (v := _) ?hi3 (by kernel_rfl) (by kernel_rfl) (by kernel_rfl) (fun _ _ _ h => h) (Or.inl ⟨?hw3, ?hy3⟩) (by assumption) ?rest3
    case hi3 => simp only [List.getElem?_toArray, List.getElem?_cons_succ, List.getElem?_cons_zero]; rfl
    case hw3 => rfl
    case hy3 =>
      intro W hSW
      try dsimp only at hSW
      go_simp
      try with_reducible rfl
    simp only [Act.put, List.setIfInBounds_toArray, List.set_cons_zero, List.set_cons_succ]
    refine' wpAnyH_take (i := 3) (oi := _) (v := _) ?hi4 (by kernel_rfl) (by kernel_rfl) (by kernel_rfl) (fun _ _ _ h => h) (Or.inl ⟨?hw4, ?hy4⟩) (by assumption) ?rest4
    case hi4 => simp only [List.getElem?_toArray, List.getElem?_cons_succ, List.getElem?_cons_zero]; rfl
    case hw4 => rfl
    case hy4 =>
      intro W hSW
      try dsimp only at hSW
      go_simp
      try with_reducible rfl
    simp only [Act.put, List.setIfInBounds_toArray, List.set_cons_zero, List.set_cons_succ]
    refine' wpAnyH_take (i := 5) (oi := _) (v := _) ?hi5 (by kernel_rfl) (by kernel_rfl) (by kernel_rfl) (fun _ _ _ h => h) (Or.inl ⟨?hw5, ?hy5⟩) (by assumption) ?rest5
    case hi5 => simp only [List.getElem?_toArray, List.getElem?_cons_succ, List.getElem?_cons_zero]; rfl
    case hw5 => rfl
    case hy5 =>
      intro W hSW
      try dsimp only at hSW
      go_simp
      try with_reducible rfl
    simp only [Act.put, List.setIfInBounds_toArray, List.set_cons_zero, List.set_cons_succ]
    refine' wpAnyH_take (i := 6) (oi := _) (v := _) ?hi6 (by kernel_rfl) (by kernel_rfl) (by kernel_rfl) (fun _ _ _ h => h) (Or.inl ⟨?hw6, ?hy6⟩) (by assumption) ?rest6
    case hi6 => simp only [List.getElem?_toArray, List.getElem?_cons_succ, List.getElem?_cons_zero]; rfl
    case hw6 => rfl
    case hy6 =>
      intro W hSW
      try dsimp only at hSW
      go_simp
      try with_reducible rfl
    simp only [Act.put, List.setIfInBounds_toArray, List.set_cons_zero, List.set_cons_succ]
    refine' wpAnyH_take (i := 7) (oi := _) (v := _) ?hi7 (by kernel_rfl) (by kernel_rfl) (by kernel_rfl) (fun _ _ _ h => h) (Or.inl ⟨?hw7, ?hy7⟩) (by assumption) ?rest7
    case hi7 => simp only [List.getElem?_toArray, List.getElem?_cons_succ, List.getElem?_cons_zero]; rfl
    case hw7 => rfl
    case hy7 =>
      intro W hSW
      try dsimp only at hSW
      go_simp
      try with_reducible rfl
    simp only [Act.put, List.setIfInBounds_toArray, List.set_cons_zero, List.set_cons_succ]
    refine wpAnyH_ready (rs := [4, 13]) (by kernel_rfl) (by simp) ?_
    refine' AllReadyH.cons (o := _) ?ho8 (fun Kq hKq => ?step8) ?more8
    case ho8 => simp only [List.getElem?_toArray, List.getElem?_cons_succ, List.getElem?_cons_zero]; rfl
    case step8 =>
      go_simp
      go_at_call 159
      with_reducible refine (l15sS g s d n k A ps.length cp _ HK.out HG.out HN6.out).mono ?_
      rintro e w5 ⟨rfl, b5⟩
      have B5 := B0.trans b5
      refine hKq.out _ _ ?hS8 (fun hHeld => ?_)
      case hS8 => exact HSW _ B5
      clear hKq Kq
      try simp only [Act.put, List.setIfInBounds_toArray, List.set_cons_zero, List.set_cons_succ]
      refine wpAnyH_ready (rs := [8, 13]) (by kernel_rfl) (by simp) ?_
      refine' AllReadyH.cons (o := _) ?ho9 (fun Kq hKq => ?step9) ?more9
      case ho9 => simp only [List.getElem?_toArray, List.getElem?_cons_succ, List.getElem?_cons_zero]; rfl
      case step9 =>
        go_simp
        go_at_call 158
        with_reducible refine (rvS (khZ k [g, n]) ps.length _ HZ.out hp0 (by omega)).mono ?_
        rintro e w6 ⟨rv, rfl, O6, b6⟩
        have B6 := B5.trans b6
        obtain ⟨Av, cv, ev, _, _, _⟩ := O6.reads
        subst ev
        have V6 := O6.reads
        refine hKq.out _ _ ?hS9 (fun hHeld => ?_)
        case hS9 => exact HSW _ B6
        clear hKq Kq
        try simp only [Act.put, List.setIfInBounds_toArray, List.set_cons_zero, List.set_cons_succ]
        refine wpAnyH_ready (rs := [9, 13]) (by kernel_rfl) (by simp) ?_
        refine' AllReadyH.cons (o := _) ?ho10 (fun Kq hKq => ?step10) ?more10
        case ho10 => simp only [List.getElem?_toArray, List.getElem?_cons_succ, List.getElem?_cons_zero]; rfl
        case step10 =>
          go_simp
          go_at_call 34
          with_reducible refine (cpkS _ _ ps (rvZ (khZ k [g, n]) ps.length) _ (hv4.keep B6) V6 HS.out (by omega)).mono ?_
          rintro e w7 ⟨q1, q2, rfl, Q71, Q72, b7⟩
          obtain ⟨P, hP⟩ : ∃ P, P = cpkZ ps (rvZ (khZ k [g, n]) ps.length) := ⟨_, rfl⟩
          rw [← hP] at Q71 Q72 ⊢
          clear hP
          generalize cpkB ps (rvZ (khZ k [g, n]) ps.length) = qq at *
          have B7 := B6.trans b7
          obtain ⟨A8, c8, e8, _, _, _⟩ := Q71.reads
          obtain ⟨A9, c9, e9, _, _, _⟩ := Q72.reads
          subst e8 e9
          refine hKq.out _ _ ?hS10 (fun hHeld => ?_)
          case hS10 => exact HSW _ B7
          clear hKq Kq
          try simp only [Act.put, List.setIfInBounds_toArray, List.set_cons_zero, List.set_cons_succ]
          refine' wpAnyH_take (i := 10) (oi := _) (v := _) ?hi11 (by kernel_rfl) (by kernel_rfl) (by kernel_rfl) (fun _ _ _ h => h) (Or.inl ⟨?hw11, ?hy11⟩) (by assumption) ?rest11
          case hi11 => simp only [List.getElem?_toArray, List.getElem?_cons_succ, List.getElem?_cons_zero]; rfl
          case hw11 => rfl
          case hy11 =>
            intro W hSW
            try dsimp only at hSW
            go_simp
            try with_reducible rfl
          simp only [Act.put, List.setIfInBounds_toArray, List.set_cons_zero, List.set_cons_succ]
          refine' wpAnyH_take (i := 11) (oi := _) (v := _) ?hi12 (by kernel_rfl) (by kernel_rfl) (by kernel_rfl) (fun _ _ _ h => h) (Or.inl ⟨?hw12, ?hy12⟩) (by assumption) ?rest12
          case hi12 => simp only [List.getElem?_toArray, List.getElem?_cons_succ, List.getElem?_cons_zero]; rfl
          case hw12 => rfl
          case hy12 =>
            intro W hSW
            try dsimp only at hSW
            go_simp
            try with_reducible rfl
          simp only [Act.put, List.setIfInBounds_toArray, List.set_cons_zero, List.set_cons_succ]
          refine' wpAnyH_take (i := 12) (oi := _) (v := _) ?hi13 (by kernel_rfl) (by kernel_rfl) (by kernel_rfl) (fun _ _ _ h => h) (Or.inl ⟨?hw13, ?hy13⟩) (by assumption) ?rest13
          case hi13 => simp only [List.getElem?_toArray, List.getElem?_cons_succ, List.getElem?_cons_zero]; rfl
          case hw13 => rfl
          case hy13 =>
            intro W hSW
            try dsimp only at hSW
            go_simp
            try with_reducible rfl
          simp only [Act.put, List.setIfInBounds_toArray, List.set_cons_zero, List.set_cons_succ]
          refine wpAnyH_ready (rs := [13]) (by kernel_rfl) (by simp) ?_
          refine' AllReadyH.cons (o := _) ?ho14 (fun Kq hKq => ?step14) ?more14
          case ho14 => simp only [List.getElem?_toArray, List.getElem?_cons_succ, List.getElem?_cons_zero]; rfl
          case step14 =>
            go_simp
            have B7Z := B7.alloc (.cells #[.int .i64 0, .slice none 0 0, .slice none 0 0] 63)
            have K7Z := Blk.new w7 63 #[.int .i64 0, .slice none 0 0, .slice none 0 0]
            refine hKq.out _ _ ?hS14 (fun hHeld => ?_)
            case hS14 => exact HSW _ B7Z
            clear hKq Kq
            try simp only [Act.put, List.setIfInBounds_toArray, List.set_cons_zero, List.set_cons_succ]
            have hlb : w4.heap.size ≤ w7.heap.size := by first | exact Nat.le_refl _ | exact B5.size | exact B6.size | exact B7.size
            refine wpAnyH_ready (rs := [14]) (by kernel_rfl) (by simp) ?_
            refine' AllReadyH.cons (o := _) ?ho15 (fun Kq hKq => ?step15) ?more15
            case ho15 => simp only [List.getElem?_toArray, List.getElem?_cons_succ, List.getElem?_cons_zero]; rfl
            case step15 =>
              go_simp
              refine hKq.out _ _ ?hS15 (fun hHeld => ?_)
              case hS15 => exact HSW _ (B7.alloc (.cells #[.int .i64 P.1, .slice A8 P.2.1.length c8, .slice A9 P.2.2.length c9] 63))
              clear hKq Kq
              try simp only [Act.put, List.setIfInBounds_toArray, List.set_cons_zero, List.set_cons_succ]
              refine wpAnyH_done (by kernel_rfl) ?_ _
              simp only [headPost, List.drop_succ_cons, List.drop_zero]
              have B8 := B7.alloc (.cells #[.int .i64 P.1, .slice A8 P.2.1.length c8, .slice A9 P.2.2.length c9] 63)
              have K8 := Blk.new w7 63 #[.int .i64 P.1, .slice A8 P.2.1.length c8, .slice A9 P.2.2.length c9]
              generalize w7.alloc (.cells #[.int .i64 P.1, .slice A8 P.2.1.length c8, .slice A9 P.2.2.length c9] 63) = w8 at *
              generalize w7.heap.size = gb at *
              have hgb : gD < gb := by omega
              have D8 := B8.keep D4
              have R8 := B8.keep R4
              have Q8 := B8.keep Q4
              have X8 := B8.keep X4
              have M8 := M4.keep B8
              have Y8 := Y4.trans B8
              clear hHeld HSW B0 BZ KZ D4 R4 Q4 X4 M4 O4 Y4 hv4 hbo Q71 Q72 B8
              obtain ⟨cx, fx, zx⟩ := X8.facts
              obtain ⟨cd, fd, zd⟩ := D8.facts
              have D9 := D8.set 4 (.int .i64 (n + 1))
              have K9 := K8.far (p := ⟨gD, 4, none⟩) (by dsimp only; omega) (.int .i64 (n + 1))
              have R9 := R8.far (p := ⟨gD, 4, none⟩) (by dsimp only; omega) (.int .i64 (n + 1))
              have Q9 := Q8.far (p := ⟨gD, 4, none⟩) (by dsimp only; omega) (.int .i64 (n + 1))
              have O9 := M8.set (i := 4) (.int .i64 (n + 1))
              have Y9 := Y8.setCell (p := ⟨gD, 4, none⟩) (by dsimp only; omega) (.int .i64 (n + 1))
              go_wp2_with fail
              refine NoPanic.normal ?_
              go_upto_region 6 with fail
              clear cx fx zx cd fd zd D8 K8 R8 Q8 X8 M8 Y8
              generalize w8.setCell ⟨gD, 4, none⟩ (.int .i64 (n + 1)) = w9 at *
              obtain ⟨cd, fd, zd⟩ := D9.facts
              obtain ⟨ck, fk, zk⟩ := K9.facts
              obtain ⟨cr, fr, zr⟩ := R9.facts
              obtain ⟨cq, fq, zq⟩ := Q9.facts
              go_region
              have HR := ((((R9.set5 (.int .i64 g) (.int .i64 s) (.int .i64 d) (.slice A1 ps.length c1) (.int .i64 (n + 1))).far (p := ⟨w.heap.size + 2, 0, none⟩) (by dsimp only; omega) (.int .i64 P.1)).far (p := ⟨w.heap.size + 2, 1, none⟩) (by dsimp only; omega) (.slice A8 P.2.1.length c8)).far (p := ⟨w.heap.size + 2, 2, none⟩) (by dsimp only; omega) (.slice A9 P.2.2.length c9)).drew
              have HQ := ((((Q9.far5 (b := w.heap.size + 1) (by omega) (.int .i64 g) (.int .i64 s) (.int .i64 d) (.slice A1 ps.length c1) (.int .i64 (n + 1))).set 0 (.int .i64 P.1)).set 1 (.slice A8 P.2.1.length c8)).set 2 (.slice A9 P.2.2.length c9)).drew
              have HO := ((((O9.set5 (g := w.heap.size + 1) (by omega) (.int .i64 g) (.int .i64 s) (.int .i64 d) (.slice A1 ps.length c1) (.int .i64 (n + 1))).setFar (p := ⟨w.heap.size + 2, 0, none⟩) (by dsimp only; omega) (.int .i64 P.1)).setFar (p := ⟨w.heap.size + 2, 1, none⟩) (by dsimp only; omega) (.slice A8 P.2.1.length c8)).setFar (p := ⟨w.heap.size + 2, 2, none⟩) (by dsimp only; omega) (.slice A9 P.2.2.length c9)).keep (Bel.refl _).drew
              have HY := ((((Y9.set5 (g := w.heap.size + 1) (by omega) (.int .i64 g) (.int .i64 s) (.int .i64 d) (.slice A1 ps.length c1) (.int .i64 (n + 1))).setCell (p := ⟨w.heap.size + 2, 0, none⟩) (by dsimp only; omega) (.int .i64 P.1)).setCell (p := ⟨w.heap.size + 2, 1, none⟩) (by dsimp only; omega) (.slice A8 P.2.1.length c8)).setCell (p := ⟨w.heap.size + 2, 2, none⟩) (by dsimp only; omega) (.slice A9 P.2.2.length c9)).drew
              go_wp2
              have cr9 := HR.facts.1
              have cq9 := HQ.facts.1
              clear cr fr cd fd cq fq ck fk
              refine bodyPost_ret (v := .tuple #[.agg #[.int .i64 g, .int .i64 s, .int .i64 d, .slice A1 ps.length c1, .int .i64 (n + 1)], .agg #[.int .i64 P.1, .slice A8 P.2.1.length c8, .slice A9 P.2.2.length c9], .bool qq]) (by simp [results, Try.results131, go_sem, cr9, cq9]) rfl ?_
              exact ⟨_, _, _, _, _, _, _, _, _, _, rfl, HO.low (by omega), HN1.out, HY⟩
            exact AllReadyH.nil
          exact AllReadyH.nil
        refine' AllReadyH.cons (o := _) ?ho16 (fun Kq hKq => ?step16) ?more16
        case ho16 => simp only [List.getElem?_toArray, List.getElem?_cons_succ, List.getElem?_cons_zero]; rfl
        case step16 =>
          go_simp
          have B6Z := B6.alloc (.cells #[.int .i64 0, .slice none 0 0, .slice none 0 0] 63)
          have K6Z := Blk.new w6 63 #[.int .i64 0, .slice none 0 0, .slice none 0 0]
          refine hKq.out _ _ ?hS16 (fun hHeld => ?_)
          case hS16 => exact HSW _ B6Z
          clear hKq Kq
          try simp only [Act.put, List.setIfInBounds_toArray, List.set_cons_zero, List.set_cons_succ]
          refine wpAnyH_ready (rs := [9]) (by kernel_rfl) (by simp) ?_
          refine' AllReadyH.cons (o := _) ?ho17 (fun Kq hKq => ?step17) ?more17
          case ho17 => simp only [List.getElem?_toArray, List.getElem?_cons_succ, List.getElem?_cons_zero]; rfl
          case step17 =>
            go_simp
            go_at_call 34
            with_reducible refine (cpkS _ _ ps (rvZ (khZ k [g, n]) ps.length) _ (hv4.keep B6Z) (V6.keep ((Bel.refl w6).alloc _)) HS.out (by omega)).mono ?_
            rintro e w7 ⟨q1, q2, rfl, Q71, Q72, b7⟩
            obtain ⟨P, hP⟩ : ∃ P, P = cpkZ ps (rvZ (khZ k [g, n]) ps.length) := ⟨_, rfl⟩
            rw [← hP] at Q71 Q72 ⊢
            clear hP
            generalize cpkB ps (rvZ (khZ k [g, n]) ps.length) = qq at *
            have B7 := B6Z.trans b7
            obtain ⟨A8, c8, e8, _, _, _⟩ := Q71.reads
            obtain ⟨A9, c9, e9, _, _, _⟩ := Q72.reads
            subst e8 e9
            have K7 := b7.keep K6Z
            refine hKq.out _ _ ?hS17 (fun hHeld => ?_)
            case hS17 => exact HSW _ B7
            clear hKq Kq
            try simp only [Act.put, List.setIfInBounds_toArray, List.set_cons_zero, List.set_cons_succ]
            refine' wpAnyH_take (i := 10) (oi := _) (v := _) ?hi18 (by kernel_rfl) (by kernel_rfl) (by kernel_rfl) (fun _ _ _ h => h) (Or.inl ⟨?hw18, ?hy18⟩) (by assumption) ?rest18
            case hi18 => simp only [List.getElem?_toArray, List.getElem?_cons_succ, List.getElem?_cons_zero]; rfl
            case hw18 => rfl
            case hy18 =>
              intro W hSW
              try dsimp only at hSW
              go_simp
              try with_reducible rfl
            simp only [Act.put, List.setIfInBounds_toArray, List.set_cons_zero, List.set_cons_succ]
            refine' wpAnyH_take (i := 11) (oi := _) (v := _) ?hi19 (by kernel_rfl) (by kernel_rfl) (by kernel_rfl) (fun _ _ _ h => h) (Or.inl ⟨?hw19, ?hy19⟩) (by assumption) ?rest19
            case hi19 => simp only [List.getElem?_toArray, List.getElem?_cons_succ, List.getElem?_cons_zero]; rfl
            case hw19 => rfl
            case hy19 =>
              intro W hSW
              try dsimp only at hSW
              go_simp
              try with_reducible rfl
            simp only [Act.put, List.setIfInBounds_toArray, List.set_cons_zero, List.set_cons_succ]
            refine' wpAnyH_take (i := 12) (oi := _) (v := _) ?hi20 (by kernel_rfl) (by kernel_rfl) (by kernel_rfl) (fun _ _ _ h => h) (Or.inl ⟨?hw20, ?hy20⟩) (by assumption) ?rest20
            case hi20 => simp only [List.getElem?_toArray, List.getElem?_cons_succ, List.getElem?_cons_zero]; rfl
            case hw20 => rfl
            case hy20 =>
              intro W hSW
              try dsimp only at hSW
              go_simp
              try with_reducible rfl
            simp only [Act.put, List.setIfInBounds_toArray, List.set_cons_zero, List.set_cons_succ]
            have hlb : w4.heap.size ≤ w6.heap.size := by first | exact Nat.le_refl _ | exact B5.size | exact B6.size | exact B7.size
            have KF := K7
            obtain ⟨ck, fk, zk⟩ := KF.facts
            refine wpAnyH_ready (rs := [14]) (by kernel_rfl) (by simp) ?_
            refine' AllReadyH.cons (o := _) ?ho21 (fun Kq hKq => ?step21) ?more21
            case ho21 => simp only [List.getElem?_toArray, List.getElem?_cons_succ, List.getElem?_cons_zero]; rfl
            case step21 =>
              go_simp
              refine hKq.out _ _ ?hS21 (fun hHeld => ?_)
              case hS21 => exact HSW _ ((((B7).setCell (p := ⟨w6.heap.size, 0, none⟩) hlb (.int .i64 P.1)).setCell (p := ⟨w6.heap.size, 1, none⟩) hlb (.slice A8 P.2.1.length c8)).setCell (p := ⟨w6.heap.size, 2, none⟩) hlb (.slice A9 P.2.2.length c9))
              clear hKq Kq
              try simp only [Act.put, List.setIfInBounds_toArray, List.set_cons_zero, List.set_cons_succ]
              refine wpAnyH_done (by kernel_rfl) ?_ _
              simp only [headPost, List.drop_succ_cons, List.drop_zero]
              have B8 := (((B7).setCell (p := ⟨w6.heap.size, 0, none⟩) hlb (.int .i64 P.1)).setCell (p := ⟨w6.heap.size, 1, none⟩) hlb (.slice A8 P.2.1.length c8)).setCell (p := ⟨w6.heap.size, 2, none⟩) hlb (.slice A9 P.2.2.length c9)
              have K8 := ((KF.set 0 (.int .i64 P.1)).set 1 (.slice A8 P.2.1.length c8)).set 2 (.slice A9 P.2.2.length c9)
              clear ck fk zk KF
              generalize ((w7.setCell ⟨w6.heap.size, 0, none⟩ (.int .i64 P.1)).setCell ⟨w6.heap.size, 1, none⟩ (.slice A8 P.2.1.length c8)).setCell ⟨w6.heap.size, 2, none⟩ (.slice A9 P.2.2.length c9) = w8 at *
              generalize w6.heap.size = gb at *
              have hgb : gD < gb := by omega
              have D8 := B8.keep D4
              have R8 := B8.keep R4
              have Q8 := B8.keep Q4
              have X8 := B8.keep X4
              have M8 := M4.keep B8
              have Y8 := Y4.trans B8
              clear hHeld HSW B0 BZ KZ D4 R4 Q4 X4 M4 O4 Y4 hv4 hbo Q71 Q72 B8
              obtain ⟨cx, fx, zx⟩ := X8.facts
              obtain ⟨cd, fd, zd⟩ := D8.facts
              have D9 := D8.set 4 (.int .i64 (n + 1))
              have K9 := K8.far (p := ⟨gD, 4, none⟩) (by dsimp only; omega) (.int .i64 (n + 1))
              have R9 := R8.far (p := ⟨gD, 4, none⟩) (by dsimp only; omega) (.int .i64 (n + 1))
              have Q9 := Q8.far (p := ⟨gD, 4, none⟩) (by dsimp only; omega) (.int .i64 (n + 1))
              have O9 := M8.set (i := 4) (.int .i64 (n + 1))
              have Y9 := Y8.setCell (p := ⟨gD, 4, none⟩) (by dsimp only; omega) (.int .i64 (n + 1))
              go_wp2_with fail
              refine NoPanic.normal ?_
              go_upto_region 6 with fail
              clear cx fx zx cd fd zd D8 K8 R8 Q8 X8 M8 Y8
              generalize w8.setCell ⟨gD, 4, none⟩ (.int .i64 (n + 1)) = w9 at *
              obtain ⟨cd, fd, zd⟩ := D9.facts
              obtain ⟨ck, fk, zk⟩ := K9.facts
              obtain ⟨cr, fr, zr⟩ := R9.facts
              obtain ⟨cq, fq, zq⟩ := Q9.facts
              go_region
              have HR := ((((R9.set5 (.int .i64 g) (.int .i64 s) (.int .i64 d) (.slice A1 ps.length c1) (.int .i64 (n + 1))).far (p := ⟨w.heap.size + 2, 0, none⟩) (by dsimp only; omega) (.int .i64 P.1)).far (p := ⟨w.heap.size + 2, 1, none⟩) (by dsimp only; omega) (.slice A8 P.2.1.length c8)).far (p := ⟨w.heap.size + 2, 2, none⟩) (by dsimp only; omega) (.slice A9 P.2.2.length c9)).drew
              have HQ := ((((Q9.far5 (b := w.heap.size + 1) (by omega) (.int .i64 g) (.int .i64 s) (.int .i64 d) (.slice A1 ps.length c1) (.int .i64 (n + 1))).set 0 (.int .i64 P.1)).set 1 (.slice A8 P.2.1.length c8)).set 2 (.slice A9 P.2.2.length c9)).drew
              have HO := ((((O9.set5 (g := w.heap.size + 1) (by omega) (.int .i64 g) (.int .i64 s) (.int .i64 d) (.slice A1 ps.length c1) (.int .i64 (n + 1))).setFar (p := ⟨w.heap.size + 2, 0, none⟩) (by dsimp only; omega) (.int .i64 P.1)).setFar (p := ⟨w.heap.size + 2, 1, none⟩) (by dsimp only; omega) (.slice A8 P.2.1.length c8)).setFar (p := ⟨w.heap.size + 2, 2, none⟩) (by dsimp only; omega) (.slice A9 P.2.2.length c9)).keep (Bel.refl _).drew
              have HY := ((((Y9.set5 (g := w.heap.size + 1) (by omega) (.int .i64 g) (.int .i64 s) (.int .i64 d) (.slice A1 ps.length c1) (.int .i64 (n + 1))).setCell (p := ⟨w.heap.size + 2, 0, none⟩) (by dsimp only; omega) (.int .i64 P.1)).setCell (p := ⟨w.heap.size + 2, 1, none⟩) (by dsimp only; omega) (.slice A8 P.2.1.length c8)).setCell (p := ⟨w.heap.size + 2, 2, none⟩) (by dsimp only; omega) (.slice A9 P.2.2.length c9)).drew
              go_wp2
              have cr9 := HR.facts.1
              have cq9 := HQ.facts.1
              clear cr fr cd fd cq fq ck fk
              refine bodyPost_ret (v := .tuple #[.agg #[.int .i64 g, .int .i64 s, .int .i64 d, .slice A1 ps.length c1, .int .i64 (n + 1)], .agg #[.int .i64 P.1, .slice A8 P.2.1.length c8, .slice A9 P.2.2.length c9], .bool qq]) (by simp [results, Try.results131, go_sem, cr9, cq9]) rfl ?_
              exact ⟨_, _, _, _, _, _, _, _, _, _, rfl, HO.low (by omega), HN1.out, HY⟩
            exact AllReadyH.nil
          exact AllReadyH.nil
        exact AllReadyH.nil
      refine' AllReadyH.cons (o := _) ?ho22 (fun Kq hKq => ?step22) ?more22
      case ho22 => simp only [List.getElem?_toArray, List.getElem?_cons_succ, List.getElem?_cons_zero]; rfl
      case step22 =>
        go_simp
        have B5Z := B5.alloc (.cells #[.int .i64 0, .slice none 0 0, .slice none 0 0] 63)
        have K5Z := Blk.new w5 63 #[.int .i64 0, .slice none 0 0, .slice none 0 0]
        refine hKq.out _ _ ?hS22 (fun hHeld => ?_)
        case hS22 => exact HSW _ B5Z
        clear hKq Kq
        try simp only [Act.put, List.setIfInBounds_toArray, List.set_cons_zero, List.set_cons_succ]
        refine wpAnyH_ready (rs := [8]) (by kernel_rfl) (by simp) ?_
        refine' AllReadyH.cons (o := _) ?ho23 (fun Kq hKq => ?step23) ?more23
        case ho23 => simp only [List.getElem?_toArray, List.getElem?_cons_succ, List.getElem?_cons_zero]; rfl
        case step23 =>
          go_simp
          go_at_call 158
          with_reducible refine (rvS (khZ k [g, n]) ps.length _ HZ.out hp0 (by omega)).mono ?_
          rintro e w6 ⟨rv, rfl, O6, b6⟩
          have B6 := B5Z.trans b6
          obtain ⟨Av, cv, ev, _, _, _⟩ := O6.reads
          subst ev
          have V6 := O6.reads
          have K6 := b6.keep K5Z
          refine hKq.out _ _ ?hS23 (fun hHeld => ?_)
          case hS23 => exact HSW _ B6
          clear hKq Kq
          try simp only [Act.put, List.setIfInBounds_toArray, List.set_cons_zero, List.set_cons_succ]
          refine wpAnyH_ready (rs := [9]) (by kernel_rfl) (by simp) ?_
          refine' AllReadyH.cons (o := _) ?ho24 (fun Kq hKq => ?step24) ?more24
          case ho24 => simp only [List.getElem?_toArray, List.getElem?_cons_succ, List.getElem?_cons_zero]; rfl
          case step24 =>
            go_simp
            go_at_call 34
            with_reducible refine (cpkS _ _ ps (rvZ (khZ k [g, n]) ps.length) _ (hv4.keep B6) V6 HS.out (by omega)).mono ?_
            rintro e w7 ⟨q1, q2, rfl, Q71, Q72, b7⟩
            obtain ⟨P, hP⟩ : ∃ P, P = cpkZ ps (rvZ (khZ k [g, n]) ps.length) := ⟨_, rfl⟩
            rw [← hP] at Q71 Q72 ⊢
            clear hP
            generalize cpkB ps (rvZ (khZ k [g, n]) ps.length) = qq at *
            have B7 := B6.trans b7
            obtain ⟨A8, c8, e8, _, _, _⟩ := Q71.reads
            obtain ⟨A9, c9, e9, _, _, _⟩ := Q72.reads
            subst e8 e9
            have K7 := b7.keep K6
            refine hKq.out _ _ ?hS24 (fun hHeld => ?_)
            case hS24 => exact HSW _ B7
            clear hKq Kq
            try simp only [Act.put, List.setIfInBounds_toArray, List.set_cons_zero, List.set_cons_succ]
            refine' wpAnyH_take (i := 10) (oi := _) (v := _) ?hi25 (by kernel_rfl) (by kernel_rfl) (by kernel_rfl) (fun _ _ _ h => h) (Or.inl ⟨?hw25, ?hy25⟩) (by assumption) ?rest25
            case hi25 => simp only [List.getElem?_toArray, List.getElem?_cons_succ, List.getElem?_cons_zero]; rfl
            case hw25 => rfl
            case hy25 =>
              intro W hSW
              try dsimp only at hSW
              go_simp
              try with_reducible rfl
            simp only [Act.put, List.setIfInBounds_toArray, List.set_cons_zero, List.set_cons_succ]
            refine' wpAnyH_take (i := 11) (oi := _) (v := _) ?hi26 (by kernel_rfl) (by kernel_rfl) (by kernel_rfl) (fun _ _ _ h => h) (Or.inl ⟨?hw26, ?hy26⟩) (by assumption) ?rest26
            case hi26 => simp only [List.getElem?_toArray, List.getElem?_cons_succ, List.getElem?_cons_zero]; rfl
            case hw26 => rfl
            case hy26 =>
              intro W hSW
              try dsimp only at hSW
              go_simp
              try with_reducible rfl
            simp only [Act.put, List.setIfInBounds_toArray, List.set_cons_zero, List.set_cons_succ]
            refine' wpAnyH_take (i := 12) (oi := _) (v := _) ?hi27 (by kernel_rfl) (by kernel_rfl) (by kernel_rfl) (fun _ _ _ h => h) (Or.inl ⟨?hw27, ?hy27⟩) (by assumption) ?rest27
            case hi27 => simp only [List.getElem?_toArray, List.getElem?_cons_succ, List.getElem?_cons_zero]; rfl
            case hw27 => rfl
            case hy27 =>
              intro W hSW
              try dsimp only at hSW
              go_simp
              try with_reducible rfl
            simp only [Act.put, List.setIfInBounds_toArray, List.set_cons_zero, List.set_cons_succ]
            have hlb : w4.heap.size ≤ w5.heap.size := by first | exact Nat.le_refl _ | exact B5.size | exact B6.size | exact B7.size
            have KF := K7
            obtain ⟨ck, fk, zk⟩ := KF.facts
            refine wpAnyH_ready (rs := [14]) (by kernel_rfl) (by simp) ?_
            refine' AllReadyH.cons (o := _) ?ho28 (fun Kq hKq => ?step28) ?more28
            case ho28 => simp only [List.getElem?_toArray, List.getElem?_cons_succ, List.getElem?_cons_zero]; rfl
            case step28 =>
              go_simp
              refine hKq.out _ _ ?hS28 (fun hHeld => ?_)
              case hS28 => exact HSW _ ((((B7).setCell (p := ⟨w5.heap.size, 0, none⟩) hlb (.int .i64 P.1)).setCell (p := ⟨w5.heap.size, 1, none⟩) hlb (.slice A8 P.2.1.length c8)).setCell (p := ⟨w5.heap.size, 2, none⟩) hlb (.slice A9 P.2.2.length c9))
              clear hKq Kq
              try simp only [Act.put, List.setIfInBounds_toArray, List.set_cons_zero, List.set_cons_succ]
              refine wpAnyH_done (by kernel_rfl) ?_ _
              simp only [headPost, List.drop_succ_cons, List.drop_zero]
              have B8 := (((B7).setCell (p := ⟨w5.heap.size, 0, none⟩) hlb (.int .i64 P.1)).setCell (p := ⟨w5.heap.size, 1, none⟩) hlb (.slice A8 P.2.1.length c8)).setCell (p := ⟨w5.heap.size, 2, none⟩) hlb (.slice A9 P.2.2.length c9)
              have K8 := ((KF.set 0 (.int .i64 P.1)).set 1 (.slice A8 P.2.1.length c8)).set 2 (.slice A9 P.2.2.length c9)
              clear ck fk zk KF
              generalize ((w7.setCell ⟨w5.heap.size, 0, none⟩ (.int .i64 P.1)).setCell ⟨w5.heap.size, 1, none⟩ (.slice A8 P.2.1.length c8)).setCell ⟨w5.heap.size, 2, none⟩ (.slice A9 P.2.2.length c9) = w8 at *
              generalize w5.heap.size = gb at *
              have hgb : gD < gb := by omega
              have D8 := B8.keep D4
              have R8 := B8.keep R4
              have Q8 := B8.keep Q4
              have X8 := B8.keep X4
              have M8 := M4.keep B8
              have Y8 := Y4.trans B8
              clear hHeld HSW B0 BZ KZ D4 R4 Q4 X4 M4 O4 Y4 hv4 hbo Q71 Q72 B8
              obtain ⟨cx, fx, zx⟩ := X8.facts
              obtain ⟨cd, fd, zd⟩ := D8.facts
              have D9 := D8.set 4 (.int .i64 (n + 1))
              have K9 := K8.far (p := ⟨gD, 4, none⟩) (by dsimp only; omega) (.int .i64 (n + 1))
              have R9 := R8.far (p := ⟨gD, 4, none⟩) (by dsimp only; omega) (.int .i64 (n + 1))
              have Q9 := Q8.far (p := ⟨gD, 4, none⟩) (by dsimp only; omega) (.int .i64 (n + 1))
              have O9 := M8.set (i := 4) (.int .i64 (n + 1))
              have Y9 := Y8.setCell (p := ⟨gD, 4, none⟩) (by dsimp only; omega) (.int .i64 (n + 1))
              go_wp2_with fail
              refine NoPanic.normal ?_
              go_upto_region 6 with fail
              clear cx fx zx cd fd zd D8 K8 R8 Q8 X8 M8 Y8
              generalize w8.setCell ⟨gD, 4, none⟩ (.int .i64 (n + 1)) = w9 at *
              obtain ⟨cd, fd, zd⟩ := D9.facts
              obtain ⟨ck, fk, zk⟩ := K9.facts
              obtain ⟨cr, fr, zr⟩ := R9.facts
              obtain ⟨cq, fq, zq⟩ := Q9.facts
              go_region
              have HR := ((((R9.set5 (.int .i64 g) (.int .i64 s) (.int .i64 d) (.slice A1 ps.length c1) (.int .i64 (n + 1))).far (p := ⟨w.heap.size + 2, 0, none⟩) (by dsimp only; omega) (.int .i64 P.1)).far (p := ⟨w.heap.size + 2, 1, none⟩) (by dsimp only; omega) (.slice A8 P.2.1.length c8)).far (p := ⟨w.heap.size + 2, 2, none⟩) (by dsimp only; omega) (.slice A9 P.2.2.length c9)).drew
              have HQ := ((((Q9.far5 (b := w.heap.size + 1) (by omega) (.int .i64 g) (.int .i64 s) (.int .i64 d) (.slice A1 ps.length c1) (.int .i64 (n + 1))).set 0 (.int .i64 P.1)).set 1 (.slice A8 P.2.1.length c8)).set 2 (.slice A9 P.2.2.length c9)).drew
              have HO := ((((O9.set5 (g := w.heap.size + 1) (by omega) (.int .i64 g) (.int .i64 s) (.int .i64 d) (.slice A1 ps.length c1) (.int .i64 (n + 1))).setFar (p := ⟨w.heap.size + 2, 0, none⟩) (by dsimp only; omega) (.int .i64 P.1)).setFar (p := ⟨w.heap.size + 2, 1, none⟩) (by dsimp only; omega) (.slice A8 P.2.1.length c8)).setFar (p := ⟨w.heap.size + 2, 2, none⟩) (by dsimp only; omega) (.slice A9 P.2.2.length c9)).keep (Bel.refl _).drew
              have HY := ((((Y9.set5 (g := w.heap.size + 1) (by omega) (.int .i64 g) (.int .i64 s) (.int .i64 d) (.slice A1 ps.length c1) (.int .i64 (n + 1))).setCell (p := ⟨w.heap.size + 2, 0, none⟩) (by dsimp only; omega) (.int .i64 P.1)).setCell (p := ⟨w.heap.size + 2, 1, none⟩) (by dsimp only; omega) (.slice A8 P.2.1.length c8)).setCell (p := ⟨w.heap.size + 2, 2, none⟩) (by dsimp only; omega) (.slice A9 P.2.2.length c9)).drew
              go_wp2
              have cr9 := HR.facts.1
              have cq9 := HQ.facts.1
              clear cr fr cd fd cq fq ck fk
              refine bodyPost_ret (v := .tuple #[.agg #[.int .i64 g, .int .i64 s, .int .i64 d, .slice A1 ps.length c1, .int .i64 (n + 1)], .agg #[.int .i64 P.1, .slice A8 P.2.1.length c8, .slice A9 P.2.2.length c9], .bool qq]) (by simp [results, Try.results131, go_sem, cr9, cq9]) rfl ?_
              exact ⟨_, _, _, _, _, _, _, _, _, _, rfl, HO.low (by omega), HN1.out, HY⟩
            exact AllReadyH.nil
          exact AllReadyH.nil
        exact AllReadyH.nil
      exact AllReadyH.nil
    refine' AllReadyH.cons (o := _) ?ho29 (fun Kq hKq => ?step29) ?more29
    case ho29 => simp only [List.getElem?_toArray, List.getElem?_cons_succ, List.getElem?_cons_zero]; rfl
    case step29 =>
      go_simp
      refine hKq.out _ _ ?hS29 (fun hHeld => ?_)
      case hS29 => exact HSW _ BZ
      clear hKq Kq
      try simp only [Act.put, List.setIfInBounds_toArray, List.set_cons_zero, List.set_cons_succ]
      refine wpAnyH_ready (rs := [4]) (by kernel_rfl) (by simp) ?_
      refine' AllReadyH.cons (o := _) ?ho30 (fun Kq hKq => ?step30) ?more30
      case ho30 => simp only [List.getElem?_toArray, List.getElem?_cons_succ, List.getElem?_cons_zero]; rfl
      case step30 =>
        go_simp
        go_at_call 159
        with_reducible refine (l15sS g s d n k A ps.length cp _ HK.out HG.out HN6.out).mono ?_
        rintro e w5 ⟨rfl, b5⟩
        have B5 := BZ.trans b5
        have K5 := b5.keep KZ
        refine hKq.out _ _ ?hS30 (fun hHeld => ?_)
        case hS30 => exact HSW _ B5
        clear hKq Kq
        try simp only [Act.put, List.setIfInBounds_toArray, List.set_cons_zero, List.set_cons_succ]
        refine wpAnyH_ready (rs := [8]) (by kernel_rfl) (by simp) ?_
        refine' AllReadyH.cons (o := _) ?ho31 (fun Kq hKq => ?step31) ?more31
        case ho31 => simp only [List.getElem?_toArray, List.getElem?_cons_succ, List.getElem?_cons_zero]; rfl
        case step31 =>
          go_simp
          go_at_call 158
          with_reducible refine (rvS (khZ k [g, n]) ps.length _ HZ.out hp0 (by omega)).mono ?_
          rintro e w6 ⟨rv, rfl, O6, b6⟩
          have B6 := B5.trans b6
          obtain ⟨Av, cv, ev, _, _, _⟩ := O6.reads
          subst ev
          have V6 := O6.reads
          have K6 := b6.keep K5
          refine hKq.out _ _ ?hS31 (fun hHeld => ?_)
          case hS31 => exact HSW _ B6
          clear hKq Kq
          try simp only [Act.put, List.setIfInBounds_toArray, List.set_cons_zero, List.set_cons_succ]
          refine wpAnyH_ready (rs := [9]) (by kernel_rfl) (by simp) ?_
          refine' AllReadyH.cons (o := _) ?ho32 (fun Kq hKq => ?step32) ?more32
          case ho32 => simp only [List.getElem?_toArray, List.getElem?_cons_succ, List.getElem?_cons_zero]; rfl
          case step32 =>
            go_simp
            go_at_call 34
            with_reducible refine (cpkS _ _ ps (rvZ (khZ k [g, n]) ps.length) _ (hv4.keep B6) V6 HS.out (by omega)).mono ?_
            rintro e w7 ⟨q1, q2, rfl, Q71, Q72, b7⟩
            obtain ⟨P, hP⟩ : ∃ P, P = cpkZ ps (rvZ (khZ k [g, n]) ps.length) := ⟨_, rfl⟩
            rw [← hP] at Q71 Q72 ⊢
            clear hP
            generalize cpkB ps (rvZ (khZ k [g, n]) ps.length) = qq at *
            have B7 := B6.trans b7
            obtain ⟨A8, c8, e8, _, _, _⟩ := Q71.reads
            obtain ⟨A9, c9, e9, _, _, _⟩ := Q72.reads
            subst e8 e9
            have K7 := b7.keep K6
            refine hKq.out _ _ ?hS32 (fun hHeld => ?_)
            case hS32 => exact HSW _ B7
            clear hKq Kq
            try simp only [Act.put, List.setIfInBounds_toArray, List.set_cons_zero, List.set_cons_succ]
            refine' wpAnyH_take (i := 10) (oi := _) (v := _) ?hi33 (by kernel_rfl) (by kernel_rfl) (by kernel_rfl) (fun _ _ _ h => h) (Or.inl ⟨?hw33, ?hy33⟩) (by assumption) ?rest33
            case hi33 => simp only [List.getElem?_toArray, List.getElem?_cons_succ, List.getElem?_cons_zero]; rfl
            case hw33 => rfl
            case hy33 =>
              intro W hSW
              try dsimp only at hSW
              go_simp
              try with_reducible rfl
            simp only [Act.put, List.setIfInBounds_toArray, List.set_cons_zero, List.set_cons_succ]
            refine' wpAnyH_take (i := 11) (oi := _) (v := _) ?hi34 (by kernel_rfl) (by kernel_rfl) (by kernel_rfl) (fun _ _ _ h => h) (Or.inl ⟨?hw34, ?hy34⟩) (by assumption) ?rest34
            case hi34 => simp only [List.getElem?_toArray, List.getElem?_cons_succ, List.getElem?_cons_zero]; rfl
            case hw34 => rfl
            case hy34 =>
              intro W hSW
              try dsimp only at hSW
              go_simp
              try with_reducible rfl
            simp only [Act.put, List.setIfInBounds_toArray, List.set_cons_zero, List.set_cons_succ]
            refine' wpAnyH_take (i := 12) (oi := _) (v := _) ?hi35 (by kernel_rfl) (by kernel_rfl) (by kernel_rfl) (fun _ _ _ h => h) (Or.inl ⟨?hw35, ?hy35⟩) (by assumption) ?rest35
            case hi35 => simp only [List.getElem?_toArray, List.getElem?_cons_succ, List.getElem?_cons_zero]; rfl
            case hw35 => rfl
            case hy35 =>
              intro W hSW
              try dsimp only at hSW
              go_simp
              try with_reducible rfl
            simp only [Act.put, List.setIfInBounds_toArray, List.set_cons_zero, List.set_cons_succ]
            have hlb : w4.heap.size ≤ w4.heap.size := by first | exact Nat.le_refl _ | exact B5.size | exact B6.size | exact B7.size
            have KF := K7
            obtain ⟨ck, fk, zk⟩ := KF.facts
            refine wpAnyH_ready (rs := [14]) (by kernel_rfl) (by simp) ?_
            refine' AllReadyH.cons (o := _) ?ho36 (fun Kq hKq => ?step36) ?more36
            case ho36 => simp only [List.getElem?_toArray, List.getElem?_cons_succ, List.getElem?_cons_zero]; rfl
            case step36 =>
              go_simp
              refine hKq.out _ _ ?hS36 (fun hHeld => ?_)
              case hS36 => exact HSW _ ((((B7).setCell (p := ⟨w4.heap.size, 0, none⟩) hlb (.int .i64 P.1)).setCell (p := ⟨w4.heap.size, 1, none⟩) hlb (.slice A8 P.2.1.length c8)).setCell (p := ⟨w4.heap.size, 2, none⟩) hlb (.slice A9 P.2.2.length c9))
              clear hKq Kq
              try simp only [Act.put, List.setIfInBounds_toArray, List.set_cons_zero, List.set_cons_succ]
              refine wpAnyH_done (by kernel_rfl) ?_ _
              simp only [headPost, List.drop_succ_cons, List.drop_zero]
              have B8 := (((B7).setCell (p := ⟨w4.heap.size, 0, none⟩) hlb (.int .i64 P.1)).setCell (p := ⟨w4.heap.size, 1, none⟩) hlb (.slice A8 P.2.1.length c8)).setCell (p := ⟨w4.heap.size, 2, none⟩) hlb (.slice A9 P.2.2.length c9)
              have K8 := ((KF.set 0 (.int .i64 P.1)).set 1 (.slice A8 P.2.1.length c8)).set 2 (.slice A9 P.2.2.length c9)
              clear ck fk zk KF
              generalize ((w7.setCell ⟨w4.heap.size, 0, none⟩ (.int .i64 P.1)).setCell ⟨w4.heap.size, 1, none⟩ (.slice A8 P.2.1.length c8)).setCell ⟨w4.heap.size, 2, none⟩ (.slice A9 P.2.2.length c9) = w8 at *
              generalize w4.heap.size = gb at *
              have hgb : gD < gb := by omega
              have D8 := B8.keep D4
              have R8 := B8.keep R4
              have Q8 := B8.keep Q4
              have X8 := B8.keep X4
              have M8 := M4.keep B8
              have Y8 := Y4.trans B8
              clear hHeld HSW B0 BZ KZ D4 R4 Q4 X4 M4 O4 Y4 hv4 hbo Q71 Q72 B8
              obtain ⟨cx, fx, zx⟩ := X8.facts
              obtain ⟨cd, fd, zd⟩ := D8.facts
              have D9 := D8.set 4 (.int .i64 (n + 1))
              have K9 := K8.far (p := ⟨gD, 4, none⟩) (by dsimp only; omega) (.int .i64 (n + 1))
              have R9 := R8.far (p := ⟨gD, 4, none⟩) (by dsimp only; omega) (.int .i64 (n + 1))
              have Q9 := Q8.far (p := ⟨gD, 4, none⟩) (by dsimp only; omega) (.int .i64 (n + 1))
              have O9 := M8.set (i := 4) (.int .i64 (n + 1))
              have Y9 := Y8.setCell (p := ⟨gD, 4, none⟩) (by dsimp only; omega) (.int .i64 (n + 1))
              go_wp2_with fail
              refine NoPanic.normal ?_
              go_upto_region 6 with fail
              clear cx fx zx cd fd zd D8 K8 R8 Q8 X8 M8 Y8
              generalize w8.setCell ⟨gD, 4, none⟩ (.int .i64 (n + 1)) = w9 at *
              obtain ⟨cd, fd, zd⟩ := D9.facts
              obtain ⟨ck, fk, zk⟩ := K9.facts
              obtain ⟨cr, fr, zr⟩ := R9.facts
              obtain ⟨cq, fq, zq⟩ := Q9.facts
              go_region
              have HR := ((((R9.set5 (.int .i64 g) (.int .i64 s) (.int .i64 d) (.slice A1 ps.length c1) (.int .i64 (n + 1))).far (p := ⟨w.heap.size + 2, 0, none⟩) (by dsimp only; omega) (.int .i64 P.1)).far (p := ⟨w.heap.size + 2, 1, none⟩) (by dsimp only; omega) (.slice A8 P.2.1.length c8)).far (p := ⟨w.heap.size + 2, 2, none⟩) (by dsimp only; omega) (.slice A9 P.2.2.length c9)).drew
              have HQ := ((((Q9.far5 (b := w.heap.size + 1) (by omega) (.int .i64 g) (.int .i64 s) (.int .i64 d) (.slice A1 ps.length c1) (.int .i64 (n + 1))).set 0 (.int .i64 P.1)).set 1 (.slice A8 P.2.1.length c8)).set 2 (.slice A9 P.2.2.length c9)).drew
              have HO := ((((O9.set5 (g := w.heap.size + 1) (by omega) (.int .i64 g) (.int .i64 s) (.int .i64 d) (.slice A1 ps.length c1) (.int .i64 (n + 1))).setFar (p := ⟨w.heap.size + 2, 0, none⟩) (by dsimp only; omega) (.int .i64 P.1)).setFar (p := ⟨w.heap.size + 2, 1, none⟩) (by dsimp only; omega) (.slice A8 P.2.1.length c8)).setFar (p := ⟨w.heap.size + 2, 2, none⟩) (by dsimp only; omega) (.slice A9 P.2.2.length c9)).keep (Bel.refl _).drew
              have HY := ((((Y9.set5 (g := w.heap.size + 1) (by omega) (.int .i64 g) (.int .i64 s) (.int .i64 d) (.slice A1 ps.length c1) (.int .i64 (n + 1))).setCell (p := ⟨w.heap.size + 2, 0, none⟩) (by dsimp only; omega) (.int .i64 P.1)).setCell (p := ⟨w.heap.size + 2, 1, none⟩) (by dsimp only; omega) (.slice A8 P.2.1.length c8)).setCell (p := ⟨w.heap.size + 2, 2, none⟩) (by dsimp only; omega) (.slice A9 P.2.2.length c9)).drew
              go_wp2
              have cr9 := HR.facts.1
              have cq9 := HQ.facts.1
              clear cr fr cd fd cq fq ck fk
              refine bodyPost_ret (v := .tuple #[.agg #[.int .i64 g, .int .i64 s, .int .i64 d, .slice A1 ps.length c1, .int .i64 (n + 1)], .agg #[.int .i64 P.1, .slice A8 P.2.1.length c8, .slice A9 P.2.2.length c9], .bool qq]) (by simp [results, Try.results131, go_sem, cr9, cq9]) rfl ?_
              exact ⟨_, _, _, _, _, _, _, _, _, _, rfl, HO.low (by omega), HN1.out, HY⟩
            exact AllReadyH.nil
          exact AllReadyH.nil
        exact AllReadyH.nil
      exact AllReadyH.nil
    exact AllReadyH.nil
end Go.Proofs.Ytjaagabbbnokdaa

namespace Go.Proofs.Ytjaagabbbnokdaa
open Go.ChangeShapes Go.WideShapes Go.ChangeAt Go.RowKit
set_option linter.unusedVariables false
set_option maxRecDepth 100000

def eqPkB (p q : Pk) : Bool := (p.1 == q.1) && decide (p.2.1 = q.2.1) && decide (p.2.2 = q.2.2)
theorem eqPkB_iff (p q : Pk) : eqPkB p q = decide (p = q) := by
  obtain ⟨a, x, y⟩ := p
  obtain ⟨b, z, t⟩ := q
  unfold eqPkB
  by_cases h1 : a = b
  · by_cases h2 : x = z
    · by_cases h3 : y = t
      · simp [h1, h2, h3]
      · simp [h1, h2, h3]
    · simp [h1, h2]
  · simp [h1]
theorem pks_step {α : Type} {xs ys : List α} {k : Nat} (h : xs.take k = ys.take k) (e : xs[k]? = ys[k]?) : xs.take (k + 1) = ys.take (k + 1) := by
  rw [List.take_add_one, List.take_add_one, h, e]

set_option maxHeartbeats 1000000 in
theorem eqPkI (p q : Pk) (v1 u1 v2 u2 : Value) (w : World) (h1 : RI w v1 p.2.1) (h2 : RI w u1 p.2.2) (h3 : RI w v2 q.2.1) (h4 : RI w u2 q.2.2) :
    Calls Try.prog 39 #[.agg #[.int .i64 p.1, v1, u1], .agg #[.int .i64 q.1, v2, u2]] w fun e w' => e = .returned (.bool (eqPkB p q)) ∧ Bel w w' := by
  obtain ⟨a, x1, y1⟩ := p
  obtain ⟨b, x2, y2⟩ := q
  dsimp only at *
  have HB : Hid (eqPkB (a, x1, y1) (b, x2, y2) = ((a == b) && decide (x1 = x2) && decide (y1 = y2))) := rfl
  have X := (Blk.new w 63 #[.int .i64 a, v1, u1]).alloc (.cells #[.int .i64 b, v2, u2] 63)
  have Z := Blk.new2 w (.cells #[.int .i64 a, v1, u1] 63) 63 #[.int .i64 b, v2, u2]
  have Y : Bel w ((w.alloc (.cells #[.int .i64 a, v1, u1] 63)).alloc (.cells #[.int .i64 b, v2, u2] 63)) := ((Bel.refl _).alloc _).alloc _
  cases q0 : (a == b)
  · have HF : Hid (eqPkB (a, x1, y1) (b, x2, y2) = false) := Lib.hid (by rw [HB.out, q0]; rfl)
    go_enter Try.func39, Try.ntmps39
    go_wp2
    go_ret
    exact ⟨by rw [HF.out]; rfl, Y⟩
  go_enter Try.func39, Try.ntmps39
  go_wp2_with fail
  refine (sEqI v1 v2 x1 x2 _ (h1.keep Y) (h3.keep Y)).mono ?_
  rintro e w1 ⟨rfl, hb1⟩
  have X1 := hb1.keep X
  have Z1 := hb1.keep Z
  have Y1 := Y.trans hb1
  obtain ⟨cx, _, zx⟩ := X1.facts
  obtain ⟨cz, _, zz⟩ := Z1.facts
  cases q1 : decide (x1 = x2)
  · have HF : Hid (eqPkB (a, x1, y1) (b, x2, y2) = false) := Lib.hid (by rw [HB.out, q1]; simp)
    go_wp2
    go_ret
    exact ⟨by rw [HF.out]; rfl, Y1⟩
  go_wp2_with fail
  refine (sEqI u1 u2 y1 y2 _ (h2.keep Y1) (h4.keep Y1)).mono ?_
  rintro e w2 ⟨rfl, hb2⟩
  have HF : Hid (eqPkB (a, x1, y1) (b, x2, y2) = decide (y1 = y2)) := Lib.hid (by rw [HB.out, q0, q1]; rfl)
  go_wp2
  go_ret
  exact ⟨by rw [HF.out]; rfl, Y1.trans hb2⟩
set_option maxHeartbeats 1000000 in
theorem eqPkS (p q : Pk) (v1 u1 v2 u2 : Value) (w : World) (h1 : RI w v1 p.2.1) (h2 : RI w u1 p.2.2) (h3 : RI w v2 q.2.1) (h4 : RI w u2 q.2.2) :
    Calls Try.prog 90 #[.agg #[.int .i64 p.1, v1, u1], .agg #[.int .i64 q.1, v2, u2]] w fun e w' => e = .returned (.bool (eqPkB p q)) ∧ Bel w w' := by
  obtain ⟨a, x1, y1⟩ := p
  obtain ⟨b, x2, y2⟩ := q
  dsimp only at *
  have HB : Hid (eqPkB (a, x1, y1) (b, x2, y2) = ((a == b) && decide (x1 = x2) && decide (y1 = y2))) := rfl
  have X := (Blk.new w 63 #[.int .i64 a, v1, u1]).alloc (.cells #[.int .i64 b, v2, u2] 63)
  have Z := Blk.new2 w (.cells #[.int .i64 a, v1, u1] 63) 63 #[.int .i64 b, v2, u2]
  have Y : Bel w ((w.alloc (.cells #[.int .i64 a, v1, u1] 63)).alloc (.cells #[.int .i64 b, v2, u2] 63)) := ((Bel.refl _).alloc _).alloc _
  cases q0 : (a == b)
  · have HF : Hid (eqPkB (a, x1, y1) (b, x2, y2) = false) := Lib.hid (by rw [HB.out, q0]; rfl)
    go_enter Try.func90, Try.ntmps90
    go_wp2
    go_ret
    exact ⟨by rw [HF.out]; rfl, Y⟩
  go_enter Try.func90, Try.ntmps90
  go_wp2_with fail
  refine (sEqS v1 v2 x1 x2 _ (h1.keep Y) (h3.keep Y)).mono ?_
  rintro e w1 ⟨rfl, hb1⟩
  have X1 := hb1.keep X
  have Z1 := hb1.keep Z
  have Y1 := Y.trans hb1
  obtain ⟨cx, _, zx⟩ := X1.facts
  obtain ⟨cz, _, zz⟩ := Z1.facts
  cases q1 : decide (x1 = x2)
  · have HF : Hid (eqPkB (a, x1, y1) (b, x2, y2) = false) := Lib.hid (by rw [HB.out, q1]; simp)
    go_wp2
    go_ret
    exact ⟨by rw [HF.out]; rfl, Y1⟩
  go_wp2_with fail
  refine (sEqS u1 u2 y1 y2 _ (h2.keep Y1) (h4.keep Y1)).mono ?_
  rintro e w2 ⟨rfl, hb2⟩
  have HF : Hid (eqPkB (a, x1, y1) (b, x2, y2) = decide (y1 = y2)) := Lib.hid (by rw [HB.out, q0, q1]; rfl)
  go_wp2
  go_ret
  exact ⟨by rw [HF.out]; rfl, Y1.trans hb2⟩
def eqRecB (a1 b1 c1 m1 a2 b2 c2 m2 : Int) (xs ys : List Pk) : Bool := (a1 == a2) && (b1 == b2) && (c1 == c2) && (m1 == m2) && decide (xs = ys)
end Go.Proofs.Ytjaagabbbnokdaa

namespace Go.Proofs.Ytjaagabbbnokdaa
open Go.RowKit
set_option linter.unusedVariables false

theorem lcK_entC {n : Nat} {vs : List (List Int)} {cs : List Int} (hm : Mtx n vs) : ∀ k, k ≤ vs.length → ∀ l, Dv (ent (lcK n vs cs k) l - sm k (fun i => ent cs i * ent (rw_ vs i) l))
  | 0, _, l => by
    have e : ent (List.replicate n 0) l = 0 := by
      rcases Nat.lt_or_ge l n with h | h
      · exact ent_in (by simp [h])
      · exact ent_out (by simp [h])
    show Dv (ent (List.replicate n 0) l - 0)
    rw [e]
    exact dv_zero
  | k + 1, hk, l => by
    have ih := lcK_entC (cs := cs) hm k (by omega) l
    have e : ent (lcK n vs cs (k + 1)) l = (ent (lcK n vs cs k) l + ent (rw_ vs k) l * ent cs k) % 1019 := ent_addsZ _ _ _ _ (by rw [(lcK_row hm k (by omega)).1, (mtx_row hm (show k < vs.length by omega)).1])
    rw [e]
    show Dv (_ - (sm k (fun i => ent cs i * ent (rw_ vs i) l) + ent cs k * ent (rw_ vs k) l))
    refine dv_trans (dv_mod _) ?_
    rw [Int.mul_comm (ent (rw_ vs k) l)]
    rwa [show ∀ p q r : Int, p + q - (r + q) = p - r by intros; omega]
theorem dv_add {x y : Int} (h : Dv x) (k : Dv y) : Dv (x + y) := Int.dvd_add h k
theorem lcZ_dv {m : List (List Int)} {cs : List Int} (hm : Mtx (colN m) m) (l : Nat) : Dv (ent (lcZ m cs) l - sm m.length (fun i => ent cs i * ent (rw_ m i) l)) := lcK_entC hm _ (Nat.le_refl _) l
theorem lcZ_zero {m : List (List Int)} {s : Nat} (hm : Mtx (colN m) m) : lcZ m (List.replicate s 0) = List.replicate (colN m) 0 := by
  have hr := lcZ_row (cs := List.replicate s 0) hm
  refine row_ext (by rw [hr.1, List.length_replicate]) (fun l hl => ?_)
  have h1 := lcZ_dv (cs := List.replicate s 0) hm l
  have e0 : ∀ (s i : Nat), ent (List.replicate s 0) i = 0 := fun s i => by
    rcases Nat.lt_or_ge i s with h | h
    · exact ent_in (by simp [h])
    · exact ent_out (by simp [h])
  rw [sm_zero (fun i _ => by rw [e0, Int.zero_mul])] at h1
  rw [e0]
  exact dv_eq h1 (ent_bd hr l) ⟨Int.le_refl _, by decide⟩
theorem lcZ_adds {m : List (List Int)} {s : Nat} {X x : List Int} (q : Int) (hm : Mtx (colN m) m) (h : Row s X) (k : Row s x) : lcZ m (addsZ X x q) = addsZ (lcZ m X) (lcZ m x) q := by
  have r1 := lcZ_row (cs := X) hm
  have r2 := lcZ_row (cs := x) hm
  have r3 := lcZ_row (cs := addsZ X x q) hm
  have r4 := row_adds q r1 r2
  refine row_ext (by rw [r3.1, r4.1]) (fun l hl => ?_)
  have h1 := lcZ_dv (cs := X) hm l
  have h2 := lcZ_dv (cs := x) hm l
  have h3 := lcZ_dv (cs := addsZ X x q) hm l
  refine dv_eq ?_ (ent_bd r3 l) (ent_bd r4 l)
  rw [ent_addsZ _ _ _ _ (by rw [r1.1, r2.1])]
  refine dv_trans h3 (dv_symm (dv_trans (dv_mod _) (dv_symm ?_)))
  have h4 : Dv (sm m.length (fun i => ent (addsZ X x q) i * ent (rw_ m i) l) - sm m.length (fun i => ent X i * ent (rw_ m i) l + q * (ent x i * ent (rw_ m i) l))) := sm_dv_sub (fun i _ => by
    rw [ent_addsZ _ _ _ _ (by rw [h.1, k.1])]
    have h5 := dv_mul (dv_mod (ent X i + ent x i * q)) (ent (rw_ m i) l)
    have e : ent (rw_ m i) l * ((ent X i + ent x i * q) % 1019 - (ent X i + ent x i * q)) = (ent X i + ent x i * q) % 1019 * ent (rw_ m i) l - (ent X i * ent (rw_ m i) l + q * (ent x i * ent (rw_ m i) l)) := by
      rw [Int.mul_sub, Int.mul_comm (ent (rw_ m i) l) ((ent X i + ent x i * q) % 1019), Int.mul_comm (ent (rw_ m i) l) (ent X i + ent x i * q), Int.add_mul, Int.mul_comm (ent x i) q, Int.mul_assoc]
    rwa [e] at h5)
  refine dv_trans h4 ?_
  rw [sm_add, sm_mul]
  have h6 := dv_mul h2 q
  have e : sm m.length (fun i => ent X i * ent (rw_ m i) l) + q * sm m.length (fun i => ent x i * ent (rw_ m i) l) - (ent (lcZ m X) l + ent (lcZ m x) l * q) = (sm m.length (fun i => ent X i * ent (rw_ m i) l) - ent (lcZ m X) l) + (q * (sm m.length (fun i => ent x i * ent (rw_ m i) l) - ent (lcZ m x) l)) := by
    rw [Int.mul_sub, Int.mul_comm (ent (lcZ m x) l) q]; omega
  rw [e]
  exact dv_add (dv_symm h1) (dv_mul (dv_symm h2) q)

def Cons (a : Int) (m : List (List Int)) (p : Pk) : Prop := p.1 = a ∧ Row m.length p.2.1 ∧ p.2.2 = lcZ m p.2.1
theorem cons_cofs {a : Int} {m : List (List Int)} {ps : List Pk} (h : ∀ p ∈ ps, Cons a m p) : Mtx m.length (cofs ps) := fun r hr => by
  obtain ⟨p, hp, rfl⟩ := List.mem_map.1 hr
  exact (h p hp).2.1
theorem cons_pays {a : Int} {m : List (List Int)} {ps : List Pk} (hm : Mtx (colN m) m) (h : ∀ p ∈ ps, Cons a m p) : Mtx (colN m) (pays ps) := fun r hr => by
  obtain ⟨p, hp, rfl⟩ := List.mem_map.1 hr
  rw [(h p hp).2.2]
  exact lcZ_row hm
theorem cons_lcK {a : Int} {m : List (List Int)} {ps : List Pk} {cs : List Int} (hm : Mtx (colN m) m) (h : ∀ p ∈ ps, Cons a m p) : ∀ k, k ≤ ps.length → lcK (colN m) (pays ps) cs k = lcZ m (lcK m.length (cofs ps) cs k)
  | 0, _ => (lcZ_zero hm).symm
  | k + 1, hk => by
    have ih := cons_lcK (cs := cs) hm h k (by omega)
    have hx : ps[k]? = some (ps[k]'(by omega)) := List.getElem?_eq_getElem _
    have e1 : rw_ (cofs ps) k = (ps[k]'(by omega)).2.1 := by
      have := rw_get (m := cofs ps) (i := k) (by rw [cofs_len]; omega)
      have h2 : (cofs ps)[k]? = some (ps[k]'(by omega)).2.1 := by simp [cofs, hx]
      rw [h2] at this
      exact (Option.some.inj this).symm
    have e2 : rw_ (pays ps) k = (ps[k]'(by omega)).2.2 := by
      have := rw_get (m := pays ps) (i := k) (by rw [pays_len]; omega)
      rw [pays_at hx] at this
      exact (Option.some.inj this).symm
    have hc := h _ (List.mem_of_getElem? hx)
    show addsZ (lcK (colN m) (pays ps) cs k) (rw_ (pays ps) k) (ent cs k) = lcZ m (addsZ (lcK m.length (cofs ps) cs k) (rw_ (cofs ps) k) (ent cs k))
    rw [e1, e2, ih, hc.2.2]
    exact (lcZ_adds (s := m.length) _ hm (lcK_row (cons_cofs h) k (by rw [cofs_len]; omega)) hc.2.1).symm
theorem cons_com {a : Int} {m : List (List Int)} {ps : List Pk} {cs : List Int} (hg : gnrB a m = true) (h : ∀ p ∈ ps, Cons a m p) (h0 : 0 < ps.length) (hc : vecB cs = true) (hl : cs.length = ps.length) : cpkB ps cs = true ∧ Cons a m (cpkZ ps cs) := by
  obtain ⟨_, g2, g3, hm, _⟩ := gnrB_facts hg
  obtain ⟨b1, c1⟩ := comB_yes (vs := cofs ps) (cs := cs) (by rw [cofs_len]; omega) (by rw [cofs_len]; omega) hc (cons_cofs h) (by omega)
  obtain ⟨b2, c2⟩ := comB_yes (vs := pays ps) (cs := cs) (by rw [pays_len]; omega) (by rw [pays_len]; omega) hc (cons_pays hm h) (by omega)
  have r1 := lcZ_row (vs := cofs ps) (cs := cs) (by rw [c1]; exact cons_cofs h)
  have r2 := lcZ_row (vs := pays ps) (cs := cs) (by rw [c2]; exact cons_pays hm h)
  rw [c1] at r1
  rw [c2] at r2
  have hd : ∀ p ∈ ps, p.1 = a := fun p hp => (h p hp).1
  have hg0 : hdG ps = a := by
    have hx : ps[0]? = some (ps[0]'h0) := List.getElem?_eq_getElem _
    rw [hdG_at hx]
    exact hd _ (List.mem_of_getElem? hx)
  have hs : sgB ps = true := by
    unfold sgB
    rw [List.all_eq_true]
    intro p hp
    unfold sgP
    rw [hd p hp, hg0]
    simp
  obtain ⟨k1, k2⟩ := cpk_ok (ps := ps) (cs := cs) hs (by rw [comZ_yes b1, r1.1]; exact beq_eq_false_iff_ne.2 (by omega)) (by rw [comZ_yes b2, r2.1]; exact beq_eq_false_iff_ne.2 (by omega))
  refine ⟨k1, ?_⟩
  rw [k2]
  refine ⟨hg0, ?_, ?_⟩
  · show Row m.length (comZ (cofs ps) cs)
    rw [comZ_yes b1]
    exact r1
  · show comZ (pays ps) cs = lcZ m (comZ (cofs ps) cs)
    rw [comZ_yes b1, comZ_yes b2]
    unfold lcZ
    rw [c1, c2, cofs_len, pays_len]
    exact cons_lcK hm h _ (Nat.le_refl _)
theorem cons_cp {a : Int} {m : List (List Int)} {p : Pk} (hg : gnrB a m = true) (h : Cons a m p) : cpB a m p.2.1 = true := by
  obtain ⟨_, g2, _⟩ := gnrB_facts hg
  unfold cpB
  rw [hg, row_vecB (c := m.length) h.2.1 (by omega), h.2.1.1]
  simp
theorem eqPk_self (p : Pk) : eqPkB p p = true := by
  obtain ⟨a, x, y⟩ := p
  show ((a == a) && decide (x = x) && decide (y = y)) = true
  simp
theorem vecB_of255 {cs : List Int} (hl : cs.length ≤ 40) (h : ∀ x ∈ cs, 0 ≤ x ∧ x ≤ 255) : vecB cs = true := row_vecB (c := cs.length) ⟨rfl, fun x hx => by have := h x hx; omega⟩ hl
end Go.Proofs.Ytjaagabbbnokdaa
