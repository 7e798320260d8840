/-
  NewDecoder, a decoder's copy, AddPacket of the reference: contracts for a valid decoder (it stays valid).
  AddPacket of the reference: a contract for a valid decoder and a packet that can be read (the decoder stays valid).
-/
import Derived.Test.YtjaagabbbnokdaaGreatTB
import Derived.Test.YtjaagabbbnokdaaGreatMx6
import Derived.Test.YtjaagabbbnokdaaGreatTC
import Derived.Test.YtjaagabbbnokdaaGreatTA
import Derived.Deep.RegionHeld3
import Derived.Deep.RegionLaw
import Derived.Deep.DeepCutAuto
import Derived.Deep.CutRange
namespace Go.Proofs.YtjaagabbbnokdaaGreat
open Go.ChangeShapes Go.WideShapes Go.ChangeAt Go.RowKit Go.Joins Go.Deep
set_option linter.unusedVariables false
set_option maxRecDepth 100000

theorem lead_at {r : List Int} {p : Nat} (h : ent r p ≠ 0) : lead r ≤ p := by
  rcases Nat.lt_or_ge p (lead r) with h1 | h1
  · exact absurd (lead_before h1) h
  · exact h1
theorem ins_lead {c : Nat} {b : List (List Int)} {P : Nat → Nat} (h : Red c b P) {v : List Int} (hv : Row c v) (hi : innB b v = true) {s : Nat} (hP : ∀ i, i < b.length → P i < s)
    (hl : lead (reduceZ b v) < s) : ∀ r ∈ insZ b v, lead r < s := by
  unfold innB at hi
  rw [decide_eq_true_eq] at hi
  unfold insZ
  have hw := reduce_row h hv
  have hz := reduce_piv h hv
  generalize reduceZ b v = w at *
  have lw := lead_hit hi
  have bw := ent_bd hw (lead w)
  have hinv := invZ_mul bw.1 bw.2 lw
  have ru : Row c (unitZ w) := row_scale _ hw
  have u1 : ent (unitZ w) (lead w) = 1 := by unfold unitZ; rw [ent_scaleZ]; exact hinv
  have u0 : ∀ l, ent w l = 0 → ent (unitZ w) l = 0 := by intro l hl; unfold unitZ; rw [ent_scaleZ, hl]; simp
  intro r hr
  rcases putZ_mem.1 hr with h1 | h1
  · obtain ⟨i, hi2⟩ := List.mem_iff_getElem?.1 h1
    have hlt := (List.getElem?_eq_some_iff.1 hi2).1
    rw [clrAll_len] at hlt
    rw [← rw_in hi2, clrAll_row hlt]
    have e1 := clr1_j (k := lead w) (mtx_row h.mtx hlt) ru (u0 _ (hz i hlt))
    rw [h.one i hlt] at e1
    have := lead_at (r := clr1 (rw_ b i) (unitZ w) (lead w)) (p := P i) (by rw [e1]; decide)
    have := hP i hlt
    omega
  · rw [h1]
    have := lead_at (r := unitZ w) (p := lead w) (by rw [u1]; decide)
    omega

theorem dec_put {a s d : Int} {n : Nat} {m : List (List Int)} {xs : List Int} (h : decB a s d (n : Int) m = true) (hx : Row n xs) (h0 : 0 ≤ leadV (reduceZ m xs)) (h1 : leadV (reduceZ m xs) ≤ s - 1) :
    decB a s d (n : Int) (insF n m xs) = true := by
  obtain ⟨f1, f2, f3, f4⟩ := decB_facts h
  obtain ⟨c, hc, c40, m40, hR⟩ := basB_facts f2
  have : c = n := by omega
  subst this
  obtain ⟨g1, g2, g3⟩ := fmtB_facts f1
  have hlt : lead (reduceZ m xs) < (reduceZ m xs).length := by
    rcases Nat.lt_or_ge (lead (reduceZ m xs)) (reduceZ m xs).length with q | q
    · exact q
    · rw [leadV_no (by omega)] at h0; omega
  have hin : innB m xs = true := decide_eq_true hlt
  have e : insF c m xs = insZ m xs := by unfold insF insB; rw [mrowB_yes hx c40, hin]; rfl
  rw [e]
  rw [leadV_yes hlt] at h1
  obtain ⟨⟨Q, hQ⟩, _, _⟩ := insZ_facts hR hx hin
  have hall := ins_lead hR hx hin (s := s.toNat) (fun i hi => by
    have h2 := List.all_eq_true.1 f4 (rw_ m i) (rw_mem hi)
    unfold ldB at h2
    rw [leadV_row hR hi] at h2
    simp only [Bool.not_eq_true', decide_eq_false_iff_not] at h2
    omega) (by omega)
  unfold decB
  rw [f1, basB_red hQ c40]
  simp only [Bool.true_and, Bool.and_eq_true, Bool.not_eq_true', bne_eq_false_iff_eq]
  refine ⟨f3, List.all_eq_true.2 fun r hr => ?_⟩
  unfold ldB
  simp only [Bool.not_eq_true', decide_eq_false_iff_not]
  have := hall r hr
  by_cases q : lead r < r.length
  · rw [leadV_yes q]; omega
  · rw [leadV_no q]; omega

set_option maxHeartbeats 1000000 in
theorem newDS (a b c : Int) (w : World) (h : fmtB a b c = true) :
    Calls Tryz.prog 86 #[.int .i64 a, .int .i64 b, .int .i64 c] w fun e w' => e = .returned (.agg #[.int .i64 a, .int .i64 b, .int .i64 c, .int .i64 (b + c), .slice none 0 0]) ∧ Bel w w' := by
  obtain ⟨g1, g2, g3⟩ := fmtB_facts h
  have HF := Lib.hid h
  clear h
  have hwr : IntKind.i64.wrap (b + c) = b + c := IntWalk.i64_in _ (by omega)
  have HN : Hid (∀ W, Calls Tryz.prog 68 #[.int .i64 (b + c)] W fun e w' => e = .returned (.agg #[.int .i64 (b + c), .slice none 0 0]) ∧ Bel W w') := Lib.hid (fun W => by
    have := newBS (b + c).toNat W (by omega)
    rwa [show (((b + c).toNat : Nat) : Int) = b + c by omega] at this)
  have R0 := Blk.new w 42 #[.int .i64 0, .int .i64 0, .int .i64 0, .int .i64 0, .slice none 0 0]
  have Y0 : Bel w (w.alloc (.cells #[.int .i64 0, .int .i64 0, .int .i64 0, .int .i64 0, .slice none 0 0] 42)) := (Bel.refl _).alloc _
  go_enter Tryz.func86, Tryz.ntmps86
  go_wp2_with fail
  refine (fmtS a b c _).mono ?_
  rintro e w1 ⟨rfl, rfl⟩
  rw [HF.out]
  clear HF
  go_wp2_with fail
  refine (HN.out _).mono ?_
  rintro e w2 ⟨rfl, b2⟩
  have R2 := b2.keep R0
  have Y2 := Y0.trans b2
  obtain ⟨cr, fr, zr⟩ := R2.facts
  have R9 := ((((R2.set 0 (.int .i64 a)).set 1 (.int .i64 b)).set 2 (.int .i64 c)).set 3 (.int .i64 (b + c))).set 4 (.slice none 0 0)
  have Y9 := ((((Y2.setCell (p := ⟨w.heap.size, 0, none⟩) (Nat.le_refl _) (.int .i64 a)).setCell (p := ⟨w.heap.size, 1, none⟩) (Nat.le_refl _) (.int .i64 b)).setCell (p := ⟨w.heap.size, 2, none⟩) (Nat.le_refl _) (.int .i64 c)).setCell (p := ⟨w.heap.size, 3, none⟩) (Nat.le_refl _) (.int .i64 (b + c))).setCell (p := ⟨w.heap.size, 4, none⟩) (Nat.le_refl _) (.slice none 0 0)
  go_wp2
  have cr9 := R9.facts.1
  clear cr fr
  refine bodyPost_ret (v := .agg #[.int .i64 a, .int .i64 b, .int .i64 c, .int .i64 (b + c), .slice none 0 0]) (by simp [results, Tryz.results86, go_sem, cr9]) rfl ⟨rfl, Y9⟩

set_option maxHeartbeats 1000000 in
theorem l14cS (a b c d : Int) (v : Value) (m : List (List Int)) (w : World) (hv : RII w v m) (hn : m.length ≤ 1048576) (hr : ∀ xs ∈ m, xs.length ≤ 1048576) :
    Calls Tryz.prog 112 #[.agg #[.int .i64 a, .int .i64 b, .int .i64 c, .int .i64 d, v]] w fun e w' => ∃ r, e = .returned (.agg #[.int .i64 a, .int .i64 b, .int .i64 c, .int .i64 d, r]) ∧ ML w' w.heap.size r m ∧ Bel w w' := by
  have HRW := Lib.hid hr
  clear hr
  obtain ⟨A, cp, rfl, h2, h3, hA⟩ := id hv
  have Y0 := (((Bel.refl w).alloc (.cells #[.int .i64 a, .int .i64 b, .int .i64 c, .int .i64 d, .slice A m.length cp] 42)).alloc (.cells #[.int .i64 0, .int .i64 0, .int .i64 0, .int .i64 0, .slice none 0 0] 42)).alloc (.cells #[.int .i64 a, .int .i64 b, .int .i64 c, .int .i64 d, .slice A m.length cp] 42)
  have X0 := ((Blk.new w 42 #[.int .i64 a, .int .i64 b, .int .i64 c, .int .i64 d, .slice A m.length cp]).alloc (.cells #[.int .i64 0, .int .i64 0, .int .i64 0, .int .i64 0, .slice none 0 0] 42)).alloc (.cells #[.int .i64 a, .int .i64 b, .int .i64 c, .int .i64 d, .slice A m.length cp] 42)
  have R0 := (Blk.new2 w (.cells #[.int .i64 a, .int .i64 b, .int .i64 c, .int .i64 d, .slice A m.length cp] 42) 42 #[.int .i64 0, .int .i64 0, .int .i64 0, .int .i64 0, .slice none 0 0]).alloc (.cells #[.int .i64 a, .int .i64 b, .int .i64 c, .int .i64 d, .slice A m.length cp] 42)
  have K0 := Blk.new3 w (.cells #[.int .i64 a, .int .i64 b, .int .i64 c, .int .i64 d, .slice A m.length cp] 42) (.cells #[.int .i64 0, .int .i64 0, .int .i64 0, .int .i64 0, .slice none 0 0] 42) 42 #[.int .i64 a, .int .i64 b, .int .i64 c, .int .i64 d, .slice A m.length cp]
  obtain ⟨cx, fx, zx⟩ := X0.facts
  go_enter Tryz.func112, Tryz.ntmps112
  go_wp2_with fail
  refine (l8cS d _ m _ (hv.keep Y0) hn HRW.out).mono ?_
  rintro e w1 ⟨r, rfl, O1, b1⟩
  obtain ⟨Ar, cr, er, _, _⟩ := O1.shape
  subst er
  have hz := b1.size
  rw [World.size_alloc, World.size_alloc, World.size_alloc] at hz
  have O1' := O1.low (lo' := w.heap.size + 3) (by rw [World.size_alloc, World.size_alloc, World.size_alloc]; omega)
  clear cx fx zx
  have K1 := b1.keep K0
  have R1 := b1.keep R0
  have Y1 := Y0.trans b1
  have K2 := (K1.set 3 (.int .i64 d)).set 4 (.slice Ar m.length cr)
  have R2 := (R1.far (p := ⟨w.heap.size + 2, 3, none⟩) (by dsimp only; omega) (.int .i64 d)).far (p := ⟨w.heap.size + 2, 4, none⟩) (by dsimp only; omega) (.slice Ar m.length cr)
  have O2 := (O1'.setFar (p := ⟨w.heap.size + 2, 3, none⟩) (by dsimp only; omega) (.int .i64 d)).setFar (p := ⟨w.heap.size + 2, 4, none⟩) (by dsimp only; omega) (.slice Ar m.length cr)
  have Y2 := (Y1.setCell (p := ⟨w.heap.size + 2, 3, none⟩) (by dsimp only; omega) (.int .i64 d)).setCell (p := ⟨w.heap.size + 2, 4, none⟩) (by dsimp only; omega) (.slice Ar m.length cr)
  obtain ⟨ck1, fk1, zk1⟩ := K1.facts
  clear X0 R0 K0 Y0 O1 O1' R1 Y1 b1 hv hA HRW
  obtain ⟨ck, fk, zk⟩ := K2.facts
  obtain ⟨cq, fq, zq⟩ := R2.facts
  have R9 := ((((R2.set 0 (.int .i64 a)).set 1 (.int .i64 b)).set 2 (.int .i64 c)).set 3 (.int .i64 d)).set 4 (.slice Ar m.length cr)
  have O9 := ((((O2.setFar (p := ⟨w.heap.size + 1, 0, none⟩) (by dsimp only; omega) (.int .i64 a)).setFar (p := ⟨w.heap.size + 1, 1, none⟩) (by dsimp only; omega) (.int .i64 b)).setFar (p := ⟨w.heap.size + 1, 2, none⟩) (by dsimp only; omega) (.int .i64 c)).setFar (p := ⟨w.heap.size + 1, 3, none⟩) (by dsimp only; omega) (.int .i64 d)).setFar (p := ⟨w.heap.size + 1, 4, none⟩) (by dsimp only; omega) (.slice Ar m.length cr)
  have Y9 := ((((Y2.setCell (p := ⟨w.heap.size + 1, 0, none⟩) (by dsimp only; omega) (.int .i64 a)).setCell (p := ⟨w.heap.size + 1, 1, none⟩) (by dsimp only; omega) (.int .i64 b)).setCell (p := ⟨w.heap.size + 1, 2, none⟩) (by dsimp only; omega) (.int .i64 c)).setCell (p := ⟨w.heap.size + 1, 3, none⟩) (by dsimp only; omega) (.int .i64 d)).setCell (p := ⟨w.heap.size + 1, 4, none⟩) (by dsimp only; omega) (.slice Ar m.length cr)
  go_wp2
  have cr9 := R9.facts.1
  clear cq fq ck fk ck1 fk1
  refine bodyPost_ret (v := .agg #[.int .i64 a, .int .i64 b, .int .i64 c, .int .i64 d, .slice Ar m.length cr]) (by simp [results, Tryz.results112, go_sem, cr9]) rfl ⟨_, rfl, O9.low (by omega), Y9⟩
end Go.Proofs.YtjaagabbbnokdaaGreat

namespace Go.Proofs.YtjaagabbbnokdaaGreat
open Go.ChangeShapes Go.WideShapes Go.ChangeAt Go.RowKit Go.Joins Go.Deep
set_option linter.unusedVariables false
set_option maxRecDepth 100000

theorem Blk.set5 {w : World} {g : Nat} {T : TypeId} {u0 u1 u2 u3 u4 : Value} (h : Blk w g T #[u0, u1, u2, u3, u4]) (v0 v1 v2 v3 v4 : Value) :
    Blk (((((w.setCell ⟨g, 0, none⟩ v0).setCell ⟨g, 1, none⟩ v1).setCell ⟨g, 2, none⟩ v2).setCell ⟨g, 3, none⟩ v3).setCell ⟨g, 4, none⟩ v4) g T #[v0, v1, v2, v3, v4] :=
  ((((h.set 0 v0).set 1 v1).set 2 v2).set 3 v3).set 4 v4
theorem Bel.set5 {a w : World} {g : Nat} (h : Bel a w) (hg : a.heap.size ≤ g) (v0 v1 v2 v3 v4 : Value) :
    Bel a (((((w.setCell ⟨g, 0, none⟩ v0).setCell ⟨g, 1, none⟩ v1).setCell ⟨g, 2, none⟩ v2).setCell ⟨g, 3, none⟩ v3).setCell ⟨g, 4, none⟩ v4) :=
  ((((h.setCell (p := ⟨g, 0, none⟩) hg v0).setCell (p := ⟨g, 1, none⟩) hg v1).setCell (p := ⟨g, 2, none⟩) hg v2).setCell (p := ⟨g, 3, none⟩) hg v3).setCell (p := ⟨g, 4, none⟩) hg v4
theorem ML.set5 {w : World} {lo g : Nat} {v : Value} {m : List (List Int)} (h : ML w lo v m) (hg : g < lo) (v0 v1 v2 v3 v4 : Value) :
    ML (((((w.setCell ⟨g, 0, none⟩ v0).setCell ⟨g, 1, none⟩ v1).setCell ⟨g, 2, none⟩ v2).setCell ⟨g, 3, none⟩ v3).setCell ⟨g, 4, none⟩ v4) lo v m :=
  ((((h.setFar (p := ⟨g, 0, none⟩) hg v0).setFar (p := ⟨g, 1, none⟩) hg v1).setFar (p := ⟨g, 2, none⟩) hg v2).setFar (p := ⟨g, 3, none⟩) hg v3).setFar (p := ⟨g, 4, none⟩) hg v4

set_option maxHeartbeats 4000000 in
theorem addPS (a b c : Int) (n : Nat) (v : Value) (m : List (List Int)) (pg : Int) (vc vp : Value) (co pl : List Int) (w : World) (hv : RII w v m) (hc : RI w vc co) (hp : RI w vp pl) (hd : decB a b c (n : Int) m = true)
    (hl : co.length + pl.length ≤ 2097152) :
    Calls Tryz.prog 87 #[.agg #[.int .i64 a, .int .i64 b, .int .i64 c, .int .i64 (n : Int), v], .agg #[.int .i64 pg, vc, vp]] w fun e w' => ∃ r q m', e = .returned (.tuple #[.agg #[.int .i64 a, .int .i64 b, .int .i64 c, .int .i64 (n : Int), r], .bool q]) ∧ ML w' w.heap.size r m' ∧ decB a b c (n : Int) m' = true ∧ Bel w w' := by
  obtain ⟨f1, f2, f3, f4⟩ := decB_facts hd
  obtain ⟨n', hn', c40, m40, hR⟩ := basB_facts f2
  obtain rfl : n' = n := by omega
  obtain ⟨g1, g2, g3⟩ := fmtB_facts f1
  have hwr : IntKind.i64.wrap (b - 1) = b - 1 := IntWalk.i64_in _ (by omega)
  have HRW : Hid (∀ xs ∈ m, xs.length ≤ 1048576) := Lib.hid (fun r hr => by have := (hR.mtx r hr).1; omega)
  have HR := Lib.hid hR
  have HD := Lib.hid hd
  have hm : m.length ≤ 1048576 := by omega
  obtain ⟨A, cp, rfl, _, _, _⟩ := id hv
  obtain ⟨Ac, cc, rfl, _, _, _⟩ := id hc
  obtain ⟨Ap, cpp, rfl, _, _, _⟩ := id hp
  have HF3 := Lib.hid f3
  clear f1 f2 f3 f4 hd hn' g1 g3 hR m40
  have Y0 := (((Bel.refl w).alloc (.cells #[.int .i64 a, .int .i64 b, .int .i64 c, .int .i64 (n' : Int), .slice A m.length cp] 42)).alloc (.cells #[.int .i64 pg, .slice Ac co.length cc, .slice Ap pl.length cpp] 49)).alloc (.cells #[.int .i64 0, .int .i64 0, .int .i64 0, .int .i64 0, .slice none 0 0] 42)
  have X0 := ((Blk.new w 42 #[.int .i64 a, .int .i64 b, .int .i64 c, .int .i64 (n' : Int), .slice A m.length cp]).alloc (.cells #[.int .i64 pg, .slice Ac co.length cc, .slice Ap pl.length cpp] 49)).alloc (.cells #[.int .i64 0, .int .i64 0, .int .i64 0, .int .i64 0, .slice none 0 0] 42)
  have P0 := (Blk.new2 w (.cells #[.int .i64 a, .int .i64 b, .int .i64 c, .int .i64 (n' : Int), .slice A m.length cp] 42) 49 #[.int .i64 pg, .slice Ac co.length cc, .slice Ap pl.length cpp]).alloc (.cells #[.int .i64 0, .int .i64 0, .int .i64 0, .int .i64 0, .slice none 0 0] 42)
  have R0 := Blk.new3 w (.cells #[.int .i64 a, .int .i64 b, .int .i64 c, .int .i64 (n' : Int), .slice A m.length cp] 42) (.cells #[.int .i64 pg, .slice Ac co.length cc, .slice Ap pl.length cpp] 49) 42 #[.int .i64 0, .int .i64 0, .int .i64 0, .int .i64 0, .slice none 0 0]
  obtain ⟨cx, fx, zx⟩ := X0.facts
  go_enter Tryz.func87, Tryz.ntmps87
  go_wp2_with fail
  refine (l14cS a b c (n' : Int) _ m _ (hv.keep Y0) hm HRW.out).mono ?_
  rintro e w1 ⟨r1, rfl, O1, b1⟩
  clear cx fx zx HRW
  obtain ⟨A1, c1, e1, _, _⟩ := O1.shape
  subst e1
  have hz := b1.size
  rw [World.size_alloc, World.size_alloc, World.size_alloc] at hz
  have O1' := O1.low (lo' := w.heap.size + 3) (by rw [World.size_alloc, World.size_alloc, World.size_alloc]; omega)
  have B2 := (Bel.refl w1).alloc (.cells #[.int .i64 a, .int .i64 b, .int .i64 c, .int .i64 (n' : Int), .slice A1 m.length c1] 42)
  have K2 : Blk (w1.alloc (.cells #[.int .i64 a, .int .i64 b, .int .i64 c, .int .i64 (n' : Int), .slice A1 m.length c1] 42)) w1.heap.size 42 #[.int .i64 a, .int .i64 b, .int .i64 c, .int .i64 (n' : Int), .slice A1 m.length c1] := Blk.new w1 _ _
  have X2 := B2.keep (b1.keep X0)
  have P2 := B2.keep (b1.keep P0)
  have R2 := B2.keep (b1.keep R0)
  have O2 := O1'.keep B2
  have Y2 := (Y0.trans b1).trans B2
  clear X0 P0 R0 O1 O1' Y0 b1 B2
  obtain ⟨cx, fx, zx⟩ := X2.facts
  go_wp2_with fail
  refine (decS a b c (n' : Int) _ m _ (hv.keep Y2)).mono ?_
  rintro e w3 ⟨rfl, b3⟩
  rw [HD.out]
  clear cx fx zx
  have K3 := b3.keep K2
  have X3 := b3.keep X2
  have P3 := b3.keep P2
  have R3 := b3.keep R2
  have O3 := O2.keep b3
  have Y3 := Y2.trans b3
  clear K2 X2 P2 R2 O2 Y2 b3
  have hgB : w.heap.size + 3 ≤ w1.heap.size := hz
  generalize w1.heap.size = gB at *
  clear hz
  obtain ⟨cx, fx, zx⟩ := X3.facts
  obtain ⟨cq, fq, zq⟩ := P3.facts
  go_wp2_with fail
  refine (pktS pg b c _ _ co pl _ (hc.keep Y3) (hp.keep Y3)).mono ?_
  rintro e w4 ⟨rfl, b4⟩
  clear cx fx zx cq fq zq
  have K4 := b4.keep K3
  have X4 := b4.keep X3
  have P4 := b4.keep P3
  have R4 := b4.keep R3
  have O4 := O3.keep b4
  have Y4 := Y3.trans b4
  clear K3 X3 P3 R3 O3 Y3 b4
  cases hpk : pktB pg b c co pl with
  | false =>
    obtain ⟨ck, fk, zk⟩ := K4.facts
    obtain ⟨cr, fr, zr⟩ := R4.facts
    have R9 := R4.set5 (.int .i64 a) (.int .i64 b) (.int .i64 c) (.int .i64 (n' : Int)) (.slice A1 m.length c1)
    have O9 := O4.set5 (g := w.heap.size + 2) (by omega) (.int .i64 a) (.int .i64 b) (.int .i64 c) (.int .i64 (n' : Int)) (.slice A1 m.length c1)
    have Y9 := Y4.set5 (g := w.heap.size + 2) (by omega) (.int .i64 a) (.int .i64 b) (.int .i64 c) (.int .i64 (n' : Int)) (.slice A1 m.length c1)
    go_wp2
    have cr9 := R9.facts.1
    clear cr fr ck fk
    refine bodyPost_ret (v := .tuple #[.agg #[.int .i64 a, .int .i64 b, .int .i64 c, .int .i64 (n' : Int), .slice A1 m.length c1], .bool false]) (by simp [results, Tryz.results87, go_sem, cr9]) rfl ?_
    exact ⟨_, _, _, rfl, O9.low (by omega), HD.out, Y9⟩
  | true =>
    have hpk2 : Row n' (co ++ pl) := by
      unfold pktB at hpk
      rw [Bool.and_eq_true, Bool.and_eq_true, Bool.and_eq_true, Bool.and_eq_true] at hpk
      obtain ⟨⟨⟨⟨_, q2⟩, q3⟩, q4⟩, q5⟩ := hpk
      simp only [beq_iff_eq] at q2 q3
      have q6 := HF3.out
      refine ⟨by rw [List.length_append]; omega, fun x hx => ?_⟩
      rcases List.mem_append.1 hx with hx | hx
      · exact (vecB_facts q4).1 x hx
      · exact (vecB_facts q5).1 x hx
    have HPK := Lib.hid hpk2
    clear hpk hpk2
    obtain ⟨cx, fx, zx⟩ := X4.facts
    obtain ⟨cq, fq, zq⟩ := P4.facts
    by_cases hpg : pg = a
    · subst hpg
      have hcp := hc.keep Y4
      have hpp := hp.keep Y4
      have r1 : w4.cell? ⟨w.heap.size + 1, 1, none⟩ = some (.slice Ac co.length cc) := P4.facts.1 1
      have r2 : w4.cell? ⟨w.heap.size + 1, 2, none⟩ = some (.slice Ap pl.length cpp) := P4.facts.1 2
      have zq4 := P4.lt
      go_upto_region 4 with fail
      have HSW : ∀ W, Bel w4 W → W.cell? ⟨w.heap.size + 1, 1, none⟩ = some (.slice Ac co.length cc) ∧ W.cell? ⟨w.heap.size + 1, 2, none⟩ = some (.slice Ap pl.length cpp) := fun W b => ⟨b.cell1 zq4 r1, b.cell1 zq4 r2⟩
      have BE := ((Bel.refl w4).alloc (.cells #[] 3)).drew
      have B0 := (Bel.refl w4).drew
      have OE : OI (w4.alloc (.cells #[] 3)).drew w4.heap.size (.slice (some ⟨w4.heap.size, 0, none⟩) 0 0) [] := (OI.lit (xs := []) (Blk.new w4 _ _) (Nat.le_refl _) (by simp)).keep (Bel.refl (w4.alloc (.cells #[] 3))).drew
      go_region_held3 (fun W => W.cell? ⟨w.heap.size + 1, 1, none⟩ = some (.slice Ac co.length cc) ∧ W.cell? ⟨w.heap.size + 1, 2, none⟩ = some (.slice Ap pl.length cpp)) (first | assumption | with_reducible exact HSW _ B0 | with_reducible exact HSW _ BE | with_reducible exact HSW _ Ba | with_reducible exact HSW _ Bb) (first
        | (have _ := Oa; refine step_appI _ (by rfl) _ _ (by rfl) w4.heap.size _ _ co pl (by rfl) (by rfl) (by exact Oa) (by exact hpp.keep Ba) (by omega) (by exact Ba.size) ?_; intro vb wb Ob hGb; have Bb : Bel w4 wb := Ba.grown hGb (fun q hq => (Oa.block q hq).1))
        | (refine step_appI _ (by rfl) _ _ (by rfl) w4.heap.size _ _ [] co (by rfl) (by rfl) (by exact OE) (by exact hcp.keep BE) (by simp only [List.length_nil]; omega) (by exact BE.size) ?_; intro va wa Oa hGa; have Ba : Bel w4 wa := BE.grown hGa (fun q hq => (OE.block q hq).1)))
      have K5 := Bb.keep K4
      have X5 := Bb.keep X4
      have R5 := Bb.keep R4
      have O5 := O4.keep Bb
      have Y5 := Y4.trans Bb
      have hz4 : gB < w4.heap.size := K4.lt
      clear K4 X4 P4 R4 O4 Y4 HSW BE B0 OE Oa Ba hGa hGb Bb r1 r2 zq4 cx fx zx cq fq zq hcp hpp
      have hv5 := hv.keep Y5
      have HFIT : Hid (fitB (n' : Int) m (co ++ pl) = true) := Lib.hid (by rw [fitB_red HR.out c40]; exact mrowB_yes HPK.out c40)
      have s1 : wb.cell? ⟨w.heap.size, 1, none⟩ = some (.int .i64 b) := X5.facts.1 1
      have s3 : wb.cell? ⟨w.heap.size, 3, none⟩ = some (.int .i64 (n' : Int)) := X5.facts.1 3
      have s4 : wb.cell? ⟨w.heap.size, 4, none⟩ = some (.slice A m.length cp) := X5.facts.1 4
      have zx5 := X5.lt
      go_upto_region 5 with fail
      have HSW : ∀ W, Bel wb W → W.cell? ⟨w.heap.size, 1, none⟩ = some (.int .i64 b) ∧ W.cell? ⟨w.heap.size, 3, none⟩ = some (.int .i64 (n' : Int)) ∧ W.cell? ⟨w.heap.size, 4, none⟩ = some (.slice A m.length cp) := fun W b => ⟨b.cell1 zx5 s1, b.cell1 zx5 s3, b.cell1 zx5 s4⟩
      have B0 := (Bel.refl wb).drew
      go_region_held3 (fun W => W.cell? ⟨w.heap.size, 1, none⟩ = some (.int .i64 b) ∧ W.cell? ⟨w.heap.size, 3, none⟩ = some (.int .i64 (n' : Int)) ∧ W.cell? ⟨w.heap.size, 4, none⟩ = some (.slice A m.length cp)) (first | assumption | with_reducible exact HSW _ B0 | with_reducible exact HSW _ Bd) (first
        | (go_at_call 115; (with_reducible refine (redVS n' _ _ m (co ++ pl) _ (hv5.keep B0) (Ob.reads.keep B0) HFIT.out).mono ?_); rintro e wd ⟨rd, rfl, Od, bd⟩; have Bd := B0.trans bd)
        | (go_at_call 76; (with_reducible refine (leadS rd (reduceZ m (co ++ pl)) _ Od.reads).mono ?_); rintro e we ⟨rfl, rfl⟩)
        | (go_at_call 28; (with_reducible refine (l1InB (leadV (reduceZ m (co ++ pl))) 0 (b - 1) _).mono ?_); rintro e wf ⟨rfl, rfl⟩))
      have K6 := Bd.keep K5
      have X6 := Bd.keep X5
      have R6 := Bd.keep R5
      have O6 := O5.keep Bd
      have Y6 := Y5.trans Bd
      have hv6 := hv5.keep Bd
      have Ob6 := Ob.reads.keep Bd
      clear K5 X5 R5 O5 Y5 HSW B0 Bd bd Od hv5 s1 s3 s4 zx5 HFIT Ob
      cases hin : inB (leadV (reduceZ m (co ++ pl))) 0 (b - 1) with
      | false =>
        obtain ⟨ck, fk, zk⟩ := K6.facts
        obtain ⟨cr, fr, zr⟩ := R6.facts
        have R9 := R6.set5 (.int .i64 pg) (.int .i64 b) (.int .i64 c) (.int .i64 (n' : Int)) (.slice A1 m.length c1)
        have O9 := O6.set5 (g := w.heap.size + 2) (by omega) (.int .i64 pg) (.int .i64 b) (.int .i64 c) (.int .i64 (n' : Int)) (.slice A1 m.length c1)
        have Y9 := Y6.set5 (g := w.heap.size + 2) (by omega) (.int .i64 pg) (.int .i64 b) (.int .i64 c) (.int .i64 (n' : Int)) (.slice A1 m.length c1)
        go_wp2
        have cr9 := R9.facts.1
        clear cr fr ck fk
        refine bodyPost_ret (v := .tuple #[.agg #[.int .i64 pg, .int .i64 b, .int .i64 c, .int .i64 (n' : Int), .slice A1 m.length c1], .bool false]) (by simp [results, Tryz.results87, go_sem, cr9]) rfl ?_
        exact ⟨_, _, _, rfl, O9.low (by omega), HD.out, Y9⟩
      | true =>
        obtain ⟨i0, i1⟩ := inB_facts hin
        have HDP := Lib.hid (dec_put HD.out HPK.out i0 i1)
        clear hin i0 i1
        obtain ⟨cx, fx, zx⟩ := X6.facts
        go_wp2_with fail
        refine (insVS n' _ _ m (co ++ pl) _ _ hv6 Ob6 HR.out c40).mono ?_
        rintro e w7 ⟨r2, rfl, O7, b7⟩
        clear cx fx zx
        obtain ⟨D, hD⟩ : ∃ D, D = insF n' m (co ++ pl) := ⟨_, rfl⟩
        rw [← hD] at O7 HDP
        clear hD
        obtain ⟨A2, c2, e2, _, _⟩ := O7.shape
        subst e2
        have B8 := (Bel.refl w7).alloc (.cells #[.int .i64 (n' : Int), .slice A2 D.length c2] 40)
        have N8 : Blk (w7.alloc (.cells #[.int .i64 (n' : Int), .slice A2 D.length c2] 40)) w7.heap.size 40 #[.int .i64 (n' : Int), .slice A2 D.length c2] := Blk.new w7 _ _
        have hz7 := K6.lt
        have hz77 := b7.size
        have K8 := B8.keep (b7.keep K6)
        have R8 := B8.keep (b7.keep R6)
        have O8 := (O7.keep B8).low (lo' := w.heap.size + 3) (by omega)
        have O8g := (O7.keep B8).low (lo' := gB + 1) (by omega)
        have Y8 := (Y6.trans b7).trans B8
        have K9 := (K8.set 3 (.int .i64 (n' : Int))).set 4 (.slice A2 D.length c2)
        have R9' := (R8.far (p := ⟨gB, 3, none⟩) (by dsimp only; omega) (.int .i64 (n' : Int))).far (p := ⟨gB, 4, none⟩) (by dsimp only; omega) (.slice A2 D.length c2)
        have O9' := (O8g.setFar (p := ⟨gB, 3, none⟩) (by dsimp only; omega) (.int .i64 (n' : Int))).setFar (p := ⟨gB, 4, none⟩) (by dsimp only; omega) (.slice A2 D.length c2)
        have Y9' := (Y8.setCell (p := ⟨gB, 3, none⟩) (by dsimp only; omega) (.int .i64 (n' : Int))).setCell (p := ⟨gB, 4, none⟩) (by dsimp only; omega) (.slice A2 D.length c2)
        obtain ⟨cn, fn, zn⟩ := N8.facts
        obtain ⟨ck8, fk8, zk8⟩ := K8.facts
        obtain ⟨ck, fk, zk⟩ := K9.facts
        obtain ⟨cr, fr, zr⟩ := R9'.facts
        have R9 := R9'.set5 (.int .i64 pg) (.int .i64 b) (.int .i64 c) (.int .i64 (n' : Int)) (.slice A2 D.length c2)
        have O9 := O9'.set5 (g := w.heap.size + 2) (by omega) (.int .i64 pg) (.int .i64 b) (.int .i64 c) (.int .i64 (n' : Int)) (.slice A2 D.length c2)
        have Y9 := Y9'.set5 (g := w.heap.size + 2) (by omega) (.int .i64 pg) (.int .i64 b) (.int .i64 c) (.int .i64 (n' : Int)) (.slice A2 D.length c2)
        clear K6 X6 R6 O6 Y6 O7 b7 B8 K8 R8 O8 O8g Y8 hv6 Ob6
        generalize putB n' m (co ++ pl) = qq at *
        go_wp2
        have cr9 := R9.facts.1
        clear cr fr ck fk cn fn ck8 fk8
        refine bodyPost_ret (v := .tuple #[.agg #[.int .i64 pg, .int .i64 b, .int .i64 c, .int .i64 (n' : Int), .slice A2 D.length c2], .bool qq]) (by simp [results, Tryz.results87, go_sem, cr9]) rfl ?_
        exact ⟨_, _, _, rfl, O9.low (by omega), HDP.out, Y9⟩
    · have hne : (pg != a) = true := by simpa using hpg
      obtain ⟨ck, fk, zk⟩ := K4.facts
      obtain ⟨cr, fr, zr⟩ := R4.facts
      have R9 := R4.set5 (.int .i64 a) (.int .i64 b) (.int .i64 c) (.int .i64 (n' : Int)) (.slice A1 m.length c1)
      have O9 := O4.set5 (g := w.heap.size + 2) (by omega) (.int .i64 a) (.int .i64 b) (.int .i64 c) (.int .i64 (n' : Int)) (.slice A1 m.length c1)
      have Y9 := Y4.set5 (g := w.heap.size + 2) (by omega) (.int .i64 a) (.int .i64 b) (.int .i64 c) (.int .i64 (n' : Int)) (.slice A1 m.length c1)
      go_wp2
      have cr9 := R9.facts.1
      clear cr fr ck fk
      refine bodyPost_ret (v := .tuple #[.agg #[.int .i64 a, .int .i64 b, .int .i64 c, .int .i64 (n' : Int), .slice A1 m.length c1], .bool false]) (by simp [results, Tryz.results87, go_sem, cr9]) rfl ?_
      exact ⟨_, _, _, rfl, O9.low (by omega), HD.out, Y9⟩
end Go.Proofs.YtjaagabbbnokdaaGreat
