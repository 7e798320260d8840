/-
  MakeNullKeys: plain words. No condition.
  IsValidNullKeys: contracts of the program's function and of the reference's. No condition.
  UndetectedSpace: contracts of the program's function and of the reference's. No condition.
  The plain law of null keys: what a generation's packets pass, and what a set of null keys does not detect.
  PassesNullKeys: contracts of the program's function and of the reference's. No condition.
  The plain law of null keys, in the words of the program's functions.
  Dimension, ContainsVector, IsSubspace of the program: contracts for reduced bases.
-/
import Derived.Test.YtjaagabbbnokdaaGreatUA
import Derived.Test.YtjaagabbbnokdaaGreatUB
import Derived.Test.YtjaagabbbnokdaaGreatMat3
import Derived.Test.YtjaagabbbnokdaaGreatMani2
import Derived.Test.YtjaagabbbnokdaaGreatBq
import Derived.Test.YtjaagabbbnokdaaGreatDot
import Derived.Test.YtjaagabbbnokdaaGreatTC
import Derived.Deep.RegionHeld3
import Derived.Test.YtjaagabbbnokdaaGreatTA
import Derived.Test.YtjaagabbbnokdaaGreatMx5
namespace Go.Proofs.YtjaagabbbnokdaaGreat
open Go.ChangeShapes Go.WideShapes Go.ChangeAt Go.RowKit
set_option linter.unusedVariables false
set_option maxRecDepth 100000

theorem fldB (c : Int) (u : Value) (w : World) : (Instr.field 40 (.agg #[.int .i64 c, u]) 1).run Tryz.prog w = .ok u w := by
  simp only [Instr.field]
  simp [go_sem, asAgg]

def mnkB (a : Int) (m : List (List Int)) (n : Int) : Bool := gnrB a m && inB n 1 4
def mnkR (m : List (List Int)) : List (List Int) := orthZ (m.length + colN m) (genZ m)
def mnkX (m : List (List Int)) (s : Int) (i : Nat) : List Int := lcZ (mnkR m) (rvZ (wrap64 (s + (i : Int))) (mnkR m).length)
def mnkL (m : List (List Int)) (s : Int) (k : Nat) : List (List Int) := (List.range k).map (mnkX m s)
def mnkA (a : Int) (m : List (List Int)) (n : Int) : Int := if mnkB a m n = true then a else 0
def mnkN (a : Int) (m : List (List Int)) (n : Int) : Int := if mnkB a m n = true then (m.length : Int) else 0
def mnkW (a : Int) (m : List (List Int)) (n : Int) : Int := if mnkB a m n = true then (colN m : Int) else 0
def mnkK (a : Int) (m : List (List Int)) (s n : Int) : List (List Int) := if mnkB a m n = true then mnkL m s n.toNat else []
theorem mnk_no {a : Int} {m : List (List Int)} {n : Int} (h : mnkB a m n = false) (s : Int) : mnkA a m n = 0 ∧ mnkN a m n = 0 ∧ mnkW a m n = 0 ∧ mnkK a m s n = [] := by unfold mnkA mnkN mnkW mnkK; rw [h]; exact ⟨rfl, rfl, rfl, rfl⟩
theorem mnk_yes {a : Int} {m : List (List Int)} {k : Nat} (h : mnkB a m (k : Int) = true) (s : Int) : mnkA a m (k : Int) = a ∧ mnkN a m (k : Int) = m.length ∧ mnkW a m (k : Int) = colN m ∧ mnkK a m s (k : Int) = mnkL m s k := by unfold mnkA mnkN mnkW mnkK; rw [h]; exact ⟨rfl, rfl, rfl, rfl⟩
theorem mnkL_len (m : List (List Int)) (s : Int) (k : Nat) : (mnkL m s k).length = k := by simp [mnkL]
theorem mnkL_step (m : List (List Int)) (s : Int) (k : Nat) : mnkL m s (k + 1) = mnkL m s k ++ [mnkX m s k] := by unfold mnkL; rw [List.range_succ, List.map_append]; rfl
theorem mnkR_facts {a : Int} {m : List (List Int)} (h : gnrB a m = true) : 0 < (mnkR m).length ∧ (mnkR m).length ≤ 24 ∧ Mtx (m.length + colN m) (mnkR m) ∧ m.length + colN m ≤ 24 := by
  obtain ⟨_, h1, h2, h3, _⟩ := gnrB_facts h
  obtain ⟨P, hP⟩ := orth_red (m.length + colN m) (genZ m)
  exact ⟨genZ_orth h3 (by omega) (by omega), Nat.le_trans hP.len_le (by omega), hP.mtx, by omega⟩
theorem mnkX_com {a : Int} {m : List (List Int)} (h : gnrB a m = true) (z : Int) : comB (mnkR m) (rvZ z (mnkR m).length) = true := by
  obtain ⟨h1, h2, h3, h4⟩ := mnkR_facts h
  exact (comB_yes h1 (by rw [(rvZ_row _ _).1]) (row_vecB (rvZ_row _ _) (by omega)) h3 (by omega)).1
theorem mnkX_len {a : Int} {m : List (List Int)} (h : gnrB a m = true) (s : Int) (i : Nat) : (mnkX m s i).length ≤ 24 := by
  obtain ⟨h1, h2, h3, h4⟩ := mnkR_facts h
  have h5 := comB_facts (mnkX_com h (wrap64 (s + (i : Int))))
  have h6 := (lcZ_row (cs := rvZ (wrap64 (s + (i : Int))) (mnkR m).length) h5.2.2.2.2.1).1
  have h7 : colN (mnkR m) = m.length + colN m := (mtx_row h3 h1).1
  unfold mnkX
  omega
theorem mnkK_fl (a : Int) (m : List (List Int)) (s n : Int) : flN (mnkK a m s n) ≤ 1600 := by
  cases q : mnkB a m n
  · rw [(mnk_no q s).2.2.2]
    exact Nat.zero_le _
  · have q1 := q
    unfold mnkB at q1
    rw [Bool.and_eq_true] at q1
    have h1 := inB_facts q1.2
    obtain ⟨k, rfl⟩ : ∃ k : Nat, n = (k : Int) := Int.eq_ofNat_of_zero_le (by omega)
    rw [(mnk_yes q s).2.2.2]
    have h2 : flN (mnkL m s k) ≤ (mnkL m s k).length * 24 := flat_len (fun r hr => by
      obtain ⟨i, _, rfl⟩ := List.mem_map.1 hr
      exact mnkX_len q1.1 s i)
    rw [mnkL_len] at h2
    omega
end Go.Proofs.YtjaagabbbnokdaaGreat

namespace Go.Proofs.YtjaagabbbnokdaaGreat
open Go.ChangeShapes Go.WideShapes Go.ChangeAt Go.RowKit
set_option linter.unusedVariables false
set_option maxRecDepth 100000

def keyB (b c : Int) (xs : List Int) : Bool := vecB xs && ((xs.length : Int) == wrap64 (b + c))
def nkB (a b c : Int) (xss : List (List Int)) : Bool := fmtB a b c && inB (xss.length : Int) 1 4 && xss.all (keyB b c)

set_option maxHeartbeats 1000000 in
theorem keyC (a b c : Int) (u v : Value) (q : Addr) (xs : List Int) (w : World) (hq : q.spot = none) (h1 : w.cell? ⟨q.block, q.off + 1, none⟩ = some (.int .i64 b)) (h2 : w.cell? ⟨q.block, q.off + 2, none⟩ = some (.int .i64 c)) (hv : RI w v xs) (hf : fmtB a b c = true) :
    Calls Tryz.prog 49 #[v, .pointer (some q)] w fun e w' => e = .returned (.bool (!(keyB b c xs))) ∧ w = w' := by
  obtain ⟨qb, qo, qs⟩ := q
  dsimp only at hq h1 h2
  subst hq
  obtain ⟨_, hb, hc⟩ := fmtB_facts hf
  have HW : Hid (wrap64 (b + c) = b + c) := by show _ = _; unfold wrap64; omega
  have HM : Hid (keyB b c xs = (vecB xs && ((xs.length : Int) == b + c))) := by show _ = _; unfold keyB; rw [HW.out]
  clear hf
  obtain ⟨A, cp, rfl, _, _, _⟩ := id hv
  go_enter Tryz.func49, Tryz.ntmps49
  go_wp2_with fail
  refine (vecI _ xs _ hv).mono ?_
  rintro e w1 ⟨rfl, rfl⟩
  cases q1 : vecB xs
  · go_wp2
    go_ret
    exact ⟨by rw [HM.out, q1]; rfl, rfl⟩
  cases q3 : ((xs.length : Int) == b + c)
  · have q3' : ((xs.length : Int) != b + c) = true := by simp only [bne, q3]; rfl
    have Q3 := Lib.hid q3
    have Q1 := Lib.hid q1
    clear q3 q1
    go_wp2
    go_ret
    exact ⟨by rw [HM.out, Q1.out, Q3.out]; rfl, rfl⟩
  · have q3' : ((xs.length : Int) != b + c) = false := by simp only [bne, q3]; rfl
    have Q3 := Lib.hid q3
    have Q1 := Lib.hid q1
    clear q3 q1
    go_wp2
    go_ret
    exact ⟨by rw [HM.out, Q1.out, Q3.out]; rfl, rfl⟩
set_option maxHeartbeats 1000000 in
theorem keyIdx (b c : Int) (v : Value) (q : Addr) (xss : List (List Int)) (w : World) (hv : RII w v xss)
    (hcall : ∀ (u : Value) (xs : List Int), RI w u xs → Calls Tryz.prog 49 #[u, .pointer (some q)] w fun e w' => e = .returned (.bool (!(keyB b c xs))) ∧ w = w') :
    Calls Tryz.prog 89 #[v, .func (.func 49) #[] #[.pointer (some q)]] w fun e w' => (∃ k : Int, e = .returned (.int .i64 k) ∧ decide (0 ≤ k) = !(xss.all (keyB b c))) ∧ w = w' := by
  obtain ⟨A, cp, rfl, h1, h2, hA⟩ := hv
  have HC := Lib.hid hcall
  clear hcall
  go_enter Tryz.func89, Tryz.ntmps89
  go_wp2
  go_loopg [8] xss.length (fun f i wr => ∃ k : Nat, k + f = xss.length ∧ i = .int .i64 k ∧ w = wr ∧ Hid ((xss.take k).all (keyB b c) = true))
  case atStart => exact ⟨0, by omega, rfl, rfl, by show _ = _; simp⟩
  case round =>
    obtain ⟨k, hk, rfl, rfl, HB⟩ := hrel
    have hk2 : k ≤ xss.length := by omega
    have HK := Lib.hid hk
    clear hk
    by_cases hlt : k < xss.length
    · obtain ⟨b1, o1, rfl, z1, hc1⟩ := hA (by omega)
      have hx : Hid (xss[k]? = some (xss[k]'hlt)) := List.getElem?_eq_getElem hlt
      obtain ⟨u, g1, ru⟩ := hc1 k _ hx.out
      generalize xss[k]'hlt = xs at *
      clear hc1 hA
      have i0 : (0 : Int) ≤ (k : Int) := by omega
      have i1 : (k : Int) < (xss.length : Int) := by omega
      go_wp2_with fail
      refine (HC.out u xs ru).mono ?_
      rintro e w1 ⟨rfl, rfl⟩
      cases hq : keyB b c xs
      · have HF := Lib.hid (all_fail (p := keyB b c) hx.out hq)
        clear hq
        go_wp2
        go_ret
        exact ⟨⟨(k : Int), rfl, by rw [HF.out]; simp⟩, rfl⟩
      · have HF := Lib.hid (all_step (p := keyB b c) hx.out HB.out hq)
        clear hq
        go_wp2
        go_roundg (xss.length - (k + 1))
        case measure => have := HK.out; omega
        case rel => exact ⟨k + 1, by omega, by go_num, rfl, HF⟩
    · obtain rfl : k = xss.length := by omega
      have i1 : ¬ (xss.length : Int) < (xss.length : Int) := by omega
      have HF := Lib.hid (all_end HB.out)
      go_wp2
      go_ret
      exact ⟨⟨-1, rfl, by rw [HF.out]; rfl⟩, rfl⟩
set_option maxHeartbeats 400000 in
theorem keyCont (b c : Int) (v : Value) (q : Addr) (xss : List (List Int)) (w : World) (hv : RII w v xss)
    (hcall : ∀ (u : Value) (xs : List Int), RI w u xs → Calls Tryz.prog 49 #[u, .pointer (some q)] w fun e w' => e = .returned (.bool (!(keyB b c xs))) ∧ w = w') :
    Calls Tryz.prog 48 #[v, .func (.func 49) #[] #[.pointer (some q)]] w fun e w' => e = .returned (.bool (!(xss.all (keyB b c)))) ∧ w = w' := by
  have HC := Lib.hid hcall
  clear hcall
  go_enter Tryz.func48, Tryz.ntmps48
  go_wp2_with fail
  refine (keyIdx b c v q xss _ hv HC.out).mono ?_
  rintro e w1 ⟨⟨k, rfl, hk⟩, rfl⟩
  go_wp2
  go_ret
  exact ⟨by first | rfl | simp [hk], rfl⟩
set_option maxHeartbeats 1000000 in
theorem nkI (a b c : Int) (v : Value) (xss : List (List Int)) (w : World) (hv : RII w v xss) :
    Calls Tryz.prog 17 #[.agg #[.int .i64 a, .int .i64 b, .int .i64 c, v]] w fun e w' => e = .returned (.bool (nkB a b c xss)) ∧ Bel w w' := by
  have HM : Hid (nkB a b c xss = (fmtB a b c && inB (xss.length : Int) 1 4 && xss.all (keyB b c))) := rfl
  have hmf : ∀ (fn : Fn) (first cap : Array Value) (w : World), (Instr.makeFunc fn first cap).run Tryz.prog w = .ok (.func fn first cap) w := fun _ _ _ _ => rfl
  obtain ⟨A, cp, rfl, h1, h2, hA⟩ := id hv
  have Y : Bel w (w.alloc (.cells #[.int .i64 a, .int .i64 b, .int .i64 c, .slice A xss.length cp] 27)) := (Bel.refl _).alloc _
  have X := Blk.new w 27 #[.int .i64 a, .int .i64 b, .int .i64 c, .slice A xss.length cp]
  go_enter Tryz.func17, Tryz.ntmps17
  go_wp2_with fail
  refine (fmtI _ _ _ _).mono ?_
  rintro e w1 ⟨rfl, rfl⟩
  cases q1 : fmtB a b c
  · go_wp2
    go_ret
    exact ⟨by rw [HM.out, q1]; rfl, Y⟩
  go_wp2_with fail
  refine (inRB _ _ _ _).mono ?_
  rintro e w1 ⟨rfl, rfl⟩
  cases q2 : inB (xss.length : Int) 1 4
  · go_wp2
    go_ret
    exact ⟨by rw [HM.out, q1, q2]; rfl, Y⟩
  go_wp2_with fail
  refine (keyCont b c _ _ xss _ (hv.keep Y) (fun u xs hu => keyC a b c u u _ xs _ rfl (X.facts.1 1) (X.facts.1 2) hu q1)).mono ?_
  rintro e w1 ⟨rfl, rfl⟩
  go_wp2
  go_ret
  exact ⟨by rw [HM.out, q1, q2]; simp, Y⟩
end Go.Proofs.YtjaagabbbnokdaaGreat

namespace Go.Proofs.YtjaagabbbnokdaaGreat
open Go.ChangeShapes Go.WideShapes Go.ChangeAt Go.RowKit
set_option linter.unusedVariables false
set_option maxRecDepth 100000

def undN (a b c : Int) (xss : List (List Int)) : Nat := if nkB a b c xss = true then b.toNat + c.toNat else 0
def undM (a b c : Int) (xss : List (List Int)) : List (List Int) := if nkB a b c xss = true then orthZ (b.toNat + c.toNat) (spanZ (b.toNat + c.toNat) xss) else []
theorem und_no {a b c : Int} {xss : List (List Int)} (h : nkB a b c xss = false) : undN a b c xss = 0 ∧ undM a b c xss = [] := by unfold undN undM; rw [h]; exact ⟨rfl, rfl⟩
theorem und_yes {a : Int} {s d : Nat} {xss : List (List Int)} (h : nkB a (s : Int) (d : Int) xss = true) : undN a (s : Int) (d : Int) xss = s + d ∧ undM a (s : Int) (d : Int) xss = orthZ (s + d) (spanZ (s + d) xss) := by unfold undN undM; rw [h]; exact ⟨rfl, rfl⟩
theorem nkB_fmt {a b c : Int} {xss : List (List Int)} (h : nkB a b c xss = true) : ∃ s d : Nat, b = (s : Int) ∧ c = (d : Int) ∧ 1 ≤ s ∧ s ≤ 8 ∧ 1 ≤ d ∧ d ≤ 16 := by
  unfold nkB at h
  rw [Bool.and_eq_true, Bool.and_eq_true] at h
  obtain ⟨_, h1, h2⟩ := fmtB_facts h.1.1
  exact ⟨b.toNat, c.toNat, by omega, by omega, by omega, by omega, by omega, by omega⟩
theorem und_fl (a b c : Int) (xss : List (List Int)) : flN (undM a b c xss) ≤ 1600 := by
  cases q : nkB a b c xss
  · rw [(und_no q).2]
    exact Nat.zero_le _
  · obtain ⟨s, d, rfl, rfl, _, h1, _, h2⟩ := nkB_fmt q
    rw [(und_yes q).2]
    obtain ⟨P, hP⟩ := orth_red (s + d) (spanZ (s + d) xss)
    have h4 := mtx_fl hP.mtx
    have h3 : (orthZ (s + d) (spanZ (s + d) xss)).length * (s + d) ≤ 24 * 24 := Nat.mul_le_mul (Nat.le_trans hP.len_le (by omega)) (by omega)
    omega
set_option maxHeartbeats 2000000 in
theorem undI (a b c : Int) (v : Value) (xss : List (List Int)) (w : World) (hv : RII w v xss) :
    Calls Tryz.prog 19 #[.agg #[.int .i64 a, .int .i64 b, .int .i64 c, v]] w fun e w' => ∃ r, e = .returned (.agg #[.int .i64 ((undN a b c xss : Nat) : Int), r]) ∧ OM w' w.heap.size r (undM a b c xss) ∧ Bel w w' := by
  obtain ⟨A, cp, rfl, h2, h3, hA⟩ := id hv
  have X := (Blk.new w 27 #[.int .i64 a, .int .i64 b, .int .i64 c, .slice A xss.length cp]).alloc (.cells #[.int .i64 0, .slice none 0 0] 40)
  have R := Blk.new2 w (.cells #[.int .i64 a, .int .i64 b, .int .i64 c, .slice A xss.length cp] 27) 40 #[.int .i64 0, .slice none 0 0]
  have Y : Bel w ((w.alloc (.cells #[.int .i64 a, .int .i64 b, .int .i64 c, .slice A xss.length cp] 27)).alloc (.cells #[.int .i64 0, .slice none 0 0] 40)) := ((Bel.refl _).alloc _).alloc _
  obtain ⟨cx, _, zx⟩ := X.facts
  go_enter Tryz.func19, Tryz.ntmps19
  go_wp2_with fail
  refine (nkI a b c _ xss _ (hv.keep Y)).mono ?_
  rintro e w1 ⟨rfl, hb1⟩
  have X1 := hb1.keep X
  have R1 := hb1.keep R
  have Y1 := Y.trans hb1
  clear cx zx X R Y hb1
  obtain ⟨cx, _, zx⟩ := X1.facts
  cases q : nkB a b c xss
  · obtain ⟨f1, f2⟩ := und_no q
    have HF1 := Lib.hid f1
    have HF2 := Lib.hid f2
    clear f1 f2 q
    go_wp2_with fail
    refine (newBI 0 _ (by omega)).mono ?_
    rintro e w2 ⟨rfl, hb2⟩
    have R2 := hb2.keep R1
    have Y2 := Y1.trans hb2
    clear cx
    obtain ⟨cr, fr, zr⟩ := R2.facts
    have Y3 := (Y2.setCell (p := ⟨w.heap.size + 1, 0, none⟩) (by dsimp only; omega) (.int .i64 ((0 : Nat) : Int))).setCell (p := ⟨w.heap.size + 1, 1, none⟩) (by dsimp only; omega) (.slice none 0 0)
    go_wp2
    refine bodyPost_ret (v := .agg #[.int .i64 ((0 : Nat) : Int), .slice none 0 0]) (by simp [results, Tryz.results19, go_sem, cr]) rfl ⟨_, by rw [HF1.out], by rw [HF2.out]; exact OM.nil _ _, Y3⟩
  obtain ⟨s, d, rfl, rfl, s1, s2, d1, d2⟩ := nkB_fmt q
  obtain ⟨f1, f2⟩ := und_yes q
  have HF1 := Lib.hid f1
  have HF2 := Lib.hid f2
  clear f1 f2 q
  have HSD : Hid ((s : Int) + (d : Int) = ((s + d : Nat) : Int)) := Lib.hid (by omega)
  obtain ⟨n, hn⟩ : ∃ n, n = s + d := ⟨_, rfl⟩
  have hn40 : n ≤ 40 := by omega
  rw [← hn] at HF1 HF2 HSD
  clear hn
  go_wp2_with fail
  rw [HSD.out]
  refine (spanI _ xss n _ (hv.keep Y1) hn40).mono ?_
  rintro e w2 ⟨r2, rfl, O2, hb2⟩
  have R2 := hb2.keep R1
  have Y2 := Y1.trans hb2
  obtain ⟨A2, c2, e2, _, _, _⟩ := O2.reads
  subst e2
  have RD := Lib.hid (span_red n xss)
  have RR := Lib.hid O2.reads
  clear cx zx X1 R1 Y1 hb2 O2
  go_wp2_with fail
  obtain ⟨P, hP⟩ := RD.out
  refine (orthI _ (spanZ n xss) n P _ RR.out hP hn40).mono ?_
  clear hP
  rintro e w3 ⟨r3, rfl, O3, hb3⟩
  have R3 := hb3.keep R2
  have Y3 := Y2.trans hb3
  obtain ⟨A3, c3, e3, _, _, _⟩ := O3.reads
  subst e3
  have sz2 := R2.lt
  have sz3 := hb3.size
  obtain ⟨cr, fr, zr⟩ := R3.facts
  have Y4 := (Y3.setCell (p := ⟨w.heap.size + 1, 0, none⟩) (by dsimp only; omega) (.int .i64 (n : Int))).setCell (p := ⟨w.heap.size + 1, 1, none⟩) (by dsimp only; omega) (.slice A3 (orthZ n (spanZ n xss)).length c3)
  have O4 := OM.setFar (OM.setFar (OM.low O3 (show w.heap.size + 2 ≤ w2.heap.size by omega)) (p := ⟨w.heap.size + 1, 0, none⟩) (by dsimp only; omega) (.int .i64 (n : Int))) (p := ⟨w.heap.size + 1, 1, none⟩) (by dsimp only; omega) (.slice A3 (orthZ n (spanZ n xss)).length c3)
  go_wp2
  refine bodyPost_ret (v := .agg #[.int .i64 (n : Int), .slice A3 (orthZ n (spanZ n xss)).length c3]) (by simp [results, Tryz.results19, go_sem, cr]) rfl ⟨_, by rw [HF1.out], by rw [HF2.out]; exact OM.low O4 (by omega), Y4⟩
end Go.Proofs.YtjaagabbbnokdaaGreat

namespace Go.Proofs.YtjaagabbbnokdaaGreat
open Go.RowKit
set_option linter.unusedVariables false

theorem getD_at {xs : List Int} {i : Nat} (h : i < xs.length) : xs[i]? = some (xs.getD i 0) := by simp [List.getD, h]
theorem lcK_ent {n : Nat} {vs : List (List Int)} {cs : List Int} (hm : Mtx n vs) : ∀ k, k ≤ vs.length → ∀ l, Dv (ent (lcK n vs cs k) l - sm k (fun i => ent cs i * ent (rw_ vs i) l))
  | 0, _, l => by
    have e : ent (List.replicate n 0) l = 0 := by
      rcases Nat.lt_or_ge l n with h | h
      · exact ent_in (by simp [h])
      · exact ent_out (by simp [h])
    show Dv (ent (List.replicate n 0) l - 0)
    rw [e]
    exact dv_zero
  | k + 1, hk, l => by
    have ih := lcK_ent (cs := cs) hm k (by omega) l
    have e : ent (lcK n vs cs (k + 1)) l = (ent (lcK n vs cs k) l + ent (rw_ vs k) l * ent cs k) % 1019 := ent_addsZ _ _ _ _ (by rw [(lcK_row hm k (by omega)).1, (mtx_row hm (show k < vs.length by omega)).1])
    rw [e]
    show Dv (_ - (sm k (fun i => ent cs i * ent (rw_ vs i) l) + ent cs k * ent (rw_ vs k) l))
    refine dv_trans (dv_mod _) ?_
    rw [Int.mul_comm (ent (rw_ vs k) l)]
    rwa [show ∀ p q r : Int, p + q - (r + q) = p - r by intros; omega]
theorem lcZ_in {vs : List (List Int)} {cs : List Int} (hm : Mtx (colN vs) vs) : InS vs (lcZ vs cs) := ⟨fun i => ent cs i, fun l => lcK_ent hm _ (Nat.le_refl _) l⟩
theorem lcZ_piv {c : Nat} {vs : List (List Int)} {cs : List Int} {P : Nat → Nat} (h : Red c vs P) (hc : colN vs = c) {j : Nat} (hj : j < vs.length) : Dv (ent (lcZ vs cs) (P j) - ent cs j) := by
  have h1 := lcK_ent (cs := cs) (n := colN vs) (by rw [hc]; exact h.mtx) vs.length (Nat.le_refl _) (P j)
  rw [sm_one hj (fun i hi hne => by rw [h.col j hj i hi hne, Int.mul_zero]), h.one j hj, Int.mul_one] at h1
  exact h1

theorem gen_in {m : List (List Int)} {co : List Int} (hm : Mtx (colN m) m) (hl : co.length = m.length) : InS (genZ m) (co ++ lcZ m co) := by
  refine ⟨fun i => ent co i, fun l => ?_⟩
  rw [genZ_len]
  rcases Nat.lt_or_ge l m.length with h | h
  · rw [ent_app_left (by omega), sm_one h (fun i hi hne => by rw [genZ_ent hi h, if_neg (Ne.symm hne), Int.mul_zero]), genZ_ent h h, if_pos rfl, Int.mul_one]
    exact dv_refl _
  · obtain ⟨q, rfl⟩ : ∃ q, l = m.length + q := ⟨l - m.length, by omega⟩
    have e : ent (co ++ lcZ m co) (m.length + q) = ent (lcZ m co) q := by rw [← hl]; exact ent_app_right _ _ _
    rw [e, sm_congr (g := fun i => ent co i * ent (rw_ m i) q) (fun i hi => by
      rw [genZ_row hi]
      have := ent_app_right (unitV m.length i) (rw_ m i) q
      rw [unitV_len] at this
      rw [this])]
    exact lcK_ent hm _ (Nat.le_refl _) q
theorem gen_row {m : List (List Int)} {co pl : List Int} (hl : co.length = m.length) (hc : ∀ x ∈ co, 0 ≤ x ∧ x ≤ 1018) (hp : Row (colN m) pl) : Row (m.length + colN m) (co ++ pl) := by
  refine ⟨by rw [List.length_append, hl, hp.1], fun x hx => ?_⟩
  rcases List.mem_append.1 hx with h | h
  · exact hc x h
  · exact hp.2 x h
theorem gen_eq {m : List (List Int)} {co pl : List Int} (hm : Mtx (colN m) m) (hl : co.length = m.length) (hp : Row (colN m) pl) (h : InS (genZ m) (co ++ pl)) : pl = lcZ m co := by
  have h1 := (genZ_red hm).eqv h (gen_in hm hl) (fun i hi => by
    rw [genZ_len] at hi
    rw [ent_app_left (by omega), ent_app_left (by omega)])
  have hr := lcZ_row (cs := co) hm
  refine row_ext (by rw [hp.1, hr.1]) (fun k hk => ?_)
  have h2 := h1 (co.length + k)
  rw [ent_app_right, ent_app_right] at h2
  exact dv_eq h2 (ent_bd hp k) (ent_bd hr k)

theorem rvZ_nz (s : Int) {n : Nat} (hn : 1 ≤ n) : ∃ j, j < n ∧ ent (rvZ s n) j ≠ 0 := by
  by_cases h : lead (rvR s n) < (rvR s n).length
  · rw [rvZ_yes h]
    exact ⟨_, by rw [rvR_len] at h; exact h, lead_hit h⟩
  · rw [rvZ_no h]
    refine ⟨0, by omega, ?_⟩
    have : ((rvR s n).set 0 1)[0]? = some 1 := by rw [List.getElem?_set_self (by rw [rvR_len]; omega)]
    rw [ent_in this]
    decide

structure Keys (m : List (List Int)) (K : List (List Int)) : Prop where
  row : ∀ x ∈ K, Row (m.length + colN m) x
  orth : ∀ x ∈ K, ∀ i, i < m.length → Dv (ipd (m.length + colN m) (rw_ (genZ m) i) x)
  nz : ∃ x ∈ K, ∃ l, ent x l ≠ 0
theorem mnk_keys {a : Int} {m : List (List Int)} (s : Int) {k : Nat} (hg : gnrB a m = true) (hk : 1 ≤ k) : Keys m (mnkL m s k) := by
  obtain ⟨_, h1, h2, h3, _⟩ := gnrB_facts hg
  obtain ⟨r1, r2, r3, r4⟩ := mnkR_facts hg
  obtain ⟨P, hP⟩ := orth_red (m.length + colN m) (genZ m)
  have hP' : Red (m.length + colN m) (mnkR m) P := hP
  have hcol : colN (mnkR m) = m.length + colN m := (mtx_row r3 r1).1
  have hmt : Mtx (colN (mnkR m)) (mnkR m) := by rw [hcol]; exact r3
  have hrow : ∀ x ∈ mnkL m s k, Row (m.length + colN m) x := fun x hx => by
    obtain ⟨i, _, rfl⟩ := List.mem_map.1 hx
    have := lcZ_row (cs := rvZ (wrap64 (s + (i : Int))) (mnkR m).length) hmt
    rw [hcol] at this
    exact this
  refine ⟨hrow, fun x hx i hi => ?_, ?_⟩
  · have hx2 := hx
    obtain ⟨j, _, rfl⟩ := List.mem_map.1 hx
    exact (orth_iff (genZ_red h3) (by omega) (hrow _ hx2)).1 (lcZ_in hmt) i (by rw [genZ_len]; exact hi)
  · refine ⟨mnkX m s 0, List.mem_map.2 ⟨0, List.mem_range.2 hk, rfl⟩, ?_⟩
    obtain ⟨j, hj, hne⟩ := rvZ_nz (wrap64 (s + ((0 : Nat) : Int))) r1
    refine ⟨P j, fun h0 => hne ?_⟩
    have h5 := lcZ_piv (cs := rvZ (wrap64 (s + ((0 : Nat) : Int))) (mnkR m).length) hP' hcol hj
    have h6 : ent (lcZ (mnkR m) (rvZ (wrap64 (s + ((0 : Nat) : Int))) (mnkR m).length)) (P j) = 0 := h0
    rw [h6] at h5
    exact (dv_eq h5 ⟨Int.le_refl _, by decide⟩ (ent_bd (rvZ_row _ _) j)).symm

theorem keys_und {m K : List (List Int)} (hc : m.length + colN m ≤ 40) (h : Keys m K) :
    (∃ Q, Red (m.length + colN m) (orthZ (m.length + colN m) (spanZ (m.length + colN m) K)) Q) ∧ (orthZ (m.length + colN m) (spanZ (m.length + colN m) K)).length < m.length + colN m ∧
    ∀ v, Row (m.length + colN m) v → (InS (orthZ (m.length + colN m) (spanZ (m.length + colN m) K)) v ↔ ∀ x ∈ K, Dv (ipd (m.length + colN m) x v)) := by
  have hrow := h.row
  have hnz := h.nz
  generalize m.length + colN m = c at *
  obtain ⟨S, hS⟩ := span_red c K
  have hsame := span_same c K
  have hf : K.filter (mrowB c) = K := List.filter_eq_self.2 (fun x hx => mrowB_yes (hrow x hx) hc)
  rw [hf] at hsame
  have hlen : 0 < (spanZ c K).length := by
    rcases Nat.eq_zero_or_pos (spanZ c K).length with h0 | h0
    · exfalso
      obtain ⟨x, hx, l, hl⟩ := hnz
      obtain ⟨cs, hcs⟩ := hsame.mem1 hx
      have h1 := hcs l
      rw [h0] at h1
      exact hl (dv_eq h1 (ent_bd (hrow x hx) l) ⟨Int.le_refl _, by decide⟩)
    · exact h0
  refine ⟨orth_red _ _, orth_lt hS hc hlen, fun v hv => ?_⟩
  rw [orth_iff hS hc hv]
  constructor
  · intro h1 x hx
    exact orth_span h1 (hsame.mem1 hx)
  · intro h1 i hi
    refine orth_span (m := K) (fun j hj => h1 _ (rw_mem hj)) ?_
    exact hsame.symm.mem1 (rw_mem hi)

theorem keys_nk {a : Int} {m K : List (List Int)} (hg : gnrB a m = true) (h : Keys m K) (h1 : 1 ≤ K.length) (h2 : K.length ≤ 4) : nkB a (m.length : Int) (colN m : Int) K = true := by
  obtain ⟨g1, g2, g3, _, _⟩ := gnrB_facts hg
  unfold nkB fmtB
  rw [show inB a 0 1000000000000 = true from decide_eq_true g1, show inB (m.length : Int) 1 8 = true from decide_eq_true (by omega), show inB (colN m : Int) 1 16 = true from decide_eq_true (by omega), show inB (K.length : Int) 1 4 = true from decide_eq_true (by omega)]
  simp only [Bool.and_self, Bool.true_and]
  rw [List.all_eq_true]
  intro x hx
  have hr := h.row x hx
  unfold keyB
  rw [row_vecB hr (by omega), hr.1, show wrap64 ((m.length : Int) + (colN m : Int)) = ((m.length + colN m : Nat) : Int) by unfold wrap64; omega]
  simp
theorem dot_ipd {x y : List Int} {c : Nat} (hx : x.length = c) : (dotZ x y == 0) = decide (Dv (ipd c x y)) := by
  have e : ∀ k, dotSum x y k = sm k (fun l => ent x l * ent y l) := by
    intro k
    induction k with
    | zero => rfl
    | succ k ih => unfold dotSum sm; rw [ih]; rfl
  unfold dotZ ipd
  rw [hx, e c]
  rw [Bool.eq_iff_iff, beq_iff_eq, decide_eq_true_iff]
  exact ⟨fun h => Int.dvd_of_emod_eq_zero h, fun h => Int.emod_eq_zero_of_dvd h⟩
end Go.Proofs.YtjaagabbbnokdaaGreat

namespace Go.Proofs.YtjaagabbbnokdaaGreat
open Go.ChangeShapes Go.WideShapes Go.ChangeAt Go.RowKit
set_option linter.unusedVariables false
set_option maxRecDepth 100000

def orthB (row xs : List Int) : Bool := dotZ xs row == 0
def passB (a b c g : Int) (xss : List (List Int)) (co pa : List Int) : Bool := nkB a b c xss && pktB g b c co pa && !(g != a) && xss.all (orthB (co ++ pa))
theorem pass_facts {a b c g : Int} {xss : List (List Int)} {co pa : List Int} (h1 : nkB a b c xss = true) (h2 : pktB g b c co pa = true) :
    vecB (co ++ pa) = true ∧ (∀ xs ∈ xss, vecB xs = true ∧ xs.length = (co ++ pa).length) ∧ (co ++ pa).length ≤ 24 ∧ xss.length ≤ 4 := by
  simp only [nkB, pktB, Bool.and_eq_true] at h1 h2
  obtain ⟨⟨n1, n2⟩, n3⟩ := h1
  obtain ⟨⟨⟨⟨p1, p2⟩, p3⟩, p4⟩, p5⟩ := h2
  obtain ⟨f1, f2, f3⟩ := fmtB_facts n1
  have e1 : (co.length : Int) = b := by simpa using p2
  have e2 : (pa.length : Int) = c := by simpa using p3
  have v1 := vecB_facts p4
  have v2 := vecB_facts p5
  have hl : (co ++ pa).length ≤ 24 := by simp; omega
  refine ⟨?_, ?_, hl, ?_⟩
  · unfold vecB
    rw [Bool.and_eq_true]
    refine ⟨?_, by simp; omega⟩
    rw [List.all_eq_true]
    intro x hx
    rcases List.mem_append.1 hx with h | h
    · exact elB_yes (v1.1 x h)
    · exact elB_yes (v2.1 x h)
  · intro xs hxs
    have hk := List.all_eq_true.1 n3 xs hxs
    simp only [keyB, Bool.and_eq_true] at hk
    refine ⟨hk.1, ?_⟩
    have h4 : (xs.length : Int) = wrap64 (b + c) := by simpa using hk.2
    have h5 : wrap64 (b + c) = b + c := by unfold wrap64; omega
    rw [h5] at h4
    simp
    omega
  · have := inB_facts n2
    omega

set_option maxHeartbeats 1000000 in
theorem passC (u v : Value) (q : Addr) (xs row : List Int) (w : World) (hq : q.spot = none) (h1 : w.cell? ⟨q.block, q.off, none⟩ = some u) (hu : RI w u row) (hv : RI w v xs) (hl : xs.length ≤ row.length) (hn : xs.length ≤ 40) (hx : ∀ x ∈ xs, 0 ≤ x ∧ x ≤ 1018) (hy : ∀ x ∈ row, 0 ≤ x ∧ x ≤ 1018) :
    Calls Tryz.prog 58 #[v, .pointer (some q)] w fun e w' => e = .returned (.bool (!(orthB row xs))) ∧ w = w' := by
  obtain ⟨qb, qo, qs⟩ := q
  dsimp only at hq h1
  subst hq
  have HC := Lib.hid (dotI v u xs row w hv hu hl hn hx hy)
  have HM : Hid ((!(orthB row xs)) = (dotZ xs row != 0)) := rfl
  clear hx hy
  generalize dotZ xs row = z at *
  go_enter Tryz.func58, Tryz.ntmps58
  go_wp2_with fail
  refine HC.out.mono ?_
  rintro e w1 ⟨rfl, rfl⟩
  go_wp2
  go_ret
  exact ⟨by rw [HM.out]; rfl, rfl⟩
set_option maxHeartbeats 1000000 in
theorem passIdx (row : List Int) (v : Value) (q : Addr) (xss : List (List Int)) (w : World) (hv : RII w v xss)
    (hcall : ∀ (u : Value) (xs : List Int), xs ∈ xss → RI w u xs → Calls Tryz.prog 58 #[u, .pointer (some q)] w fun e w' => e = .returned (.bool (!(orthB row xs))) ∧ w = w') :
    Calls Tryz.prog 89 #[v, .func (.func 58) #[] #[.pointer (some q)]] w fun e w' => (∃ k : Int, e = .returned (.int .i64 k) ∧ decide (0 ≤ k) = !(xss.all (orthB row))) ∧ w = w' := by
  obtain ⟨A, cp, rfl, h1, h2, hA⟩ := hv
  have HC := Lib.hid hcall
  clear hcall
  go_enter Tryz.func89, Tryz.ntmps89
  go_wp2
  go_loopg [8] xss.length (fun f i wr => ∃ k : Nat, k + f = xss.length ∧ i = .int .i64 k ∧ w = wr ∧ Hid ((xss.take k).all (orthB row) = true))
  case atStart => exact ⟨0, by omega, rfl, rfl, by show _ = _; simp⟩
  case round =>
    obtain ⟨k, hk, rfl, rfl, HB⟩ := hrel
    have hk2 : k ≤ xss.length := by omega
    have HK := Lib.hid hk
    clear hk
    by_cases hlt : k < xss.length
    · obtain ⟨b1, o1, rfl, z1, hc1⟩ := hA (by omega)
      have hx : Hid (xss[k]? = some (xss[k]'hlt)) := List.getElem?_eq_getElem hlt
      obtain ⟨u, g1, ru⟩ := hc1 k _ hx.out
      generalize xss[k]'hlt = xs at *
      clear hc1 hA
      have i0 : (0 : Int) ≤ (k : Int) := by omega
      have i1 : (k : Int) < (xss.length : Int) := by omega
      go_wp2_with fail
      refine (HC.out u xs (List.mem_of_getElem? hx.out) ru).mono ?_
      rintro e w1 ⟨rfl, rfl⟩
      cases hq : orthB row xs
      · have HF := Lib.hid (all_fail (p := orthB row) hx.out hq)
        clear hq
        go_wp2
        go_ret
        exact ⟨⟨(k : Int), rfl, by rw [HF.out]; simp⟩, rfl⟩
      · have HF := Lib.hid (all_step (p := orthB row) hx.out HB.out hq)
        clear hq
        go_wp2
        go_roundg (xss.length - (k + 1))
        case measure => have := HK.out; omega
        case rel => exact ⟨k + 1, by omega, by go_num, rfl, HF⟩
    · obtain rfl : k = xss.length := by omega
      have i1 : ¬ (xss.length : Int) < (xss.length : Int) := by omega
      have HF := Lib.hid (all_end HB.out)
      go_wp2
      go_ret
      exact ⟨⟨-1, rfl, by rw [HF.out]; rfl⟩, rfl⟩
set_option maxHeartbeats 400000 in
theorem passCont (row : List Int) (v : Value) (q : Addr) (xss : List (List Int)) (w : World) (hv : RII w v xss)
    (hcall : ∀ (u : Value) (xs : List Int), xs ∈ xss → RI w u xs → Calls Tryz.prog 58 #[u, .pointer (some q)] w fun e w' => e = .returned (.bool (!(orthB row xs))) ∧ w = w') :
    Calls Tryz.prog 48 #[v, .func (.func 58) #[] #[.pointer (some q)]] w fun e w' => e = .returned (.bool (!(xss.all (orthB row)))) ∧ w = w' := by
  have HC := Lib.hid hcall
  clear hcall
  go_enter Tryz.func48, Tryz.ntmps48
  go_wp2_with fail
  refine (passIdx row v q xss _ hv HC.out).mono ?_
  rintro e w1 ⟨⟨k, rfl, hk⟩, rfl⟩
  go_wp2
  go_ret
  exact ⟨by first | rfl | simp [hk], rfl⟩
set_option maxHeartbeats 2000000 in
theorem passI (a b c g : Int) (v vc vp : Value) (xss : List (List Int)) (co pa : List Int) (w : World) (hv : RII w v xss) (hc : RI w vc co) (hp : RI w vp pa) :
    Calls Tryz.prog 21 #[.agg #[.int .i64 a, .int .i64 b, .int .i64 c, v], .agg #[.int .i64 g, vc, vp]] w fun e w' => e = .returned (.bool (passB a b c g xss co pa)) ∧ Bel w w' := by
  have HM : Hid (passB a b c g xss co pa = (nkB a b c xss && pktB g b c co pa && !(g != a) && xss.all (orthB (co ++ pa)))) := rfl
  have hmf : ∀ (fn : Fn) (first cap : Array Value) (w : World), (Instr.makeFunc fn first cap).run Tryz.prog w = .ok (.func fn first cap) w := fun _ _ _ _ => rfl
  have X0 := (Blk.new w 27 #[.int .i64 a, .int .i64 b, .int .i64 c, v]).alloc (.cells #[.int .i64 g, vc, vp] 49)
  have X1 := Blk.new2 w (.cells #[.int .i64 a, .int .i64 b, .int .i64 c, v] 27) 49 #[.int .i64 g, vc, vp]
  have Y : Bel w ((w.alloc (.cells #[.int .i64 a, .int .i64 b, .int .i64 c, v] 27)).alloc (.cells #[.int .i64 g, vc, vp] 49)) := ((Bel.refl _).alloc _).alloc _
  go_enter Tryz.func21, Tryz.ntmps21
  go_wp2_with fail
  refine (nkI a b c _ xss _ (hv.keep Y)).mono ?_
  rintro e w1 ⟨rfl, hb1⟩
  have X0_1 := hb1.keep X0
  have X1_1 := hb1.keep X1
  have Y1 := Y.trans hb1
  clear hb1
  obtain ⟨cx0, _, _⟩ := X0_1.facts
  obtain ⟨cx1, _, _⟩ := X1_1.facts
  cases q1 : nkB a b c xss
  · rw [q1] at HM
    go_wp2
    go_ret
    exact ⟨by rw [HM.out]; rfl, Y1⟩
  rw [q1] at HM
  have Q1 := Lib.hid q1
  clear q1
  go_wp2_with fail
  refine (pktI g b c _ _ co pa _ (hc.keep Y1) (hp.keep Y1)).mono ?_
  rintro e w2 ⟨rfl, hb2⟩
  have X0_2 := hb2.keep X0_1
  have X1_2 := hb2.keep X1_1
  have Y2 := Y1.trans hb2
  clear hb2 cx0 cx1
  obtain ⟨cx0, _, _⟩ := X0_2.facts
  obtain ⟨cx1, _, _⟩ := X1_2.facts
  cases q2 : pktB g b c co pa
  · rw [q2] at HM
    go_wp2
    go_ret
    exact ⟨by rw [HM.out]; rfl, Y2⟩
  rw [q2] at HM
  have PF := Lib.hid (pass_facts Q1.out q2)
  clear q2 Q1
  cases q3 : (g != a)
  case true =>
    rw [q3] at HM
    go_wp2
    go_ret
    exact ⟨by rw [HM.out]; rfl, Y2⟩
  rw [q3] at HM
  go_wp2_with fail
  refine (rowI g _ _ co pa _ (hc.keep Y2) (hp.keep Y2) (by have := PF.out.2.2.1; simp at this; omega)).mono ?_
  rintro e w3 ⟨r, rfl, hr, hb3⟩
  have X0_3 := hb3.keep X0_2
  have Y3 := Y2.trans hb3
  obtain ⟨Ar, cr, er, _, _, _⟩ := hr.reads
  subst er
  have hr' : RI w3 (.slice Ar (co.length + pa.length) cr) (co ++ pa) := by have h9 := hr.reads; rwa [List.length_append] at h9
  have Zr := Blk.new w3 47 #[.slice Ar (co.length + pa.length) cr]
  have X0_4 := X0_3.alloc (.cells #[.slice Ar (co.length + pa.length) cr] 47)
  have B4 : Bel w3 (w3.alloc (.cells #[.slice Ar (co.length + pa.length) cr] 47)) := (Bel.refl _).alloc _
  have Y4 := Y3.trans B4
  clear cx0 cx1 q3
  obtain ⟨cx0, _, _⟩ := X0_4.facts
  have cxr : (w3.alloc (.cells #[.slice Ar (co.length + pa.length) cr] 47)).cell? ⟨w3.heap.size, 0, none⟩ = some (.slice Ar (co.length + pa.length) cr) := Zr.facts.1 0
  go_wp2_with fail
  refine (passCont (co ++ pa) _ _ xss _ (hv.keep Y4) (fun u xs hm hu => passC _ u ⟨w3.heap.size, 0, none⟩ xs (co ++ pa) _ rfl cxr (hr'.keep B4) hu (Nat.le_of_eq (PF.out.2.1 xs hm).2) (by have := PF.out.2.2.1; have := (PF.out.2.1 xs hm).2; omega) (vecB_facts (PF.out.2.1 xs hm).1).1 (vecB_facts PF.out.1).1)).mono ?_
  rintro e w5 ⟨rfl, rfl⟩
  go_wp2
  go_ret
  exact ⟨by rw [HM.out]; simp, Y4⟩
end Go.Proofs.YtjaagabbbnokdaaGreat

namespace Go.Proofs.YtjaagabbbnokdaaGreat
open Go.RowKit
set_option linter.unusedVariables false

theorem orth_all {c : Nat} {K : List (List Int)} {row : List Int} (hr : ∀ x ∈ K, Row c x) : (K.all (orthB row) = true) ↔ ∀ x ∈ K, Dv (ipd c x row) := by
  rw [List.all_eq_true]
  constructor
  · intro h x hx
    have h1 := h x hx
    unfold orthB at h1
    rw [dot_ipd (hr x hx).1, decide_eq_true_iff] at h1
    exact h1
  · intro h x hx
    unfold orthB
    rw [dot_ipd (hr x hx).1, decide_eq_true_iff]
    exact h x hx
theorem nk_plain {a : Int} {m K : List (List Int)} {cs ql : List Int} (hg : gnrB a m = true) (h : Keys m K) (hcs : cs.length = m.length) (hcb : ∀ x ∈ cs, 0 ≤ x ∧ x ≤ 1018) (hql : Row (colN m) ql) (hne : ql ≠ lcZ m cs) :
    K.all (orthB (cs ++ lcZ m cs)) = true ∧ (K.all (orthB (cs ++ ql)) = true ↔ InS (orthZ (m.length + colN m) (spanZ (m.length + colN m) K)) (cs ++ ql)) ∧
    (∀ r ∈ genZ m, InS (orthZ (m.length + colN m) (spanZ (m.length + colN m) K)) r) ∧ ¬ InS (genZ m) (cs ++ ql) := by
  obtain ⟨_, g2, g3, g4, _⟩ := gnrB_facts hg
  obtain ⟨_, _, hU⟩ := keys_und (by omega) h
  refine ⟨?_, ?_, ?_, ?_⟩
  · rw [orth_all h.row]
    intro x hx
    rw [ipd_comm]
    exact orth_span (m := genZ m) (fun i hi => h.orth x hx i (by rw [genZ_len] at hi; exact hi)) (gen_in g4 hcs)
  · rw [orth_all h.row, hU _ (gen_row hcs hcb hql)]
  · intro r hr
    rw [hU r ((genZ_mtx g4) r hr)]
    intro x hx
    obtain ⟨i, hi⟩ := List.mem_iff_getElem?.1 hr
    have hlt := (List.getElem?_eq_some_iff.1 hi).1
    rw [genZ_len] at hlt
    rw [← rw_in hi, ipd_comm]
    exact h.orth x hx i hlt
  · intro hin
    exact hne (gen_eq g4 hcs hql hin)
theorem pkt_yes {a : Int} {m : List (List Int)} {cs pl : List Int} (hg : gnrB a m = true) (hcs : cs.length = m.length) (hv : vecB cs = true) (hpl : Row (colN m) pl) : pktB a (m.length : Int) (colN m : Int) cs pl = true := by
  obtain ⟨g1, g2, g3, _, _⟩ := gnrB_facts hg
  unfold pktB fmtB
  rw [show inB a 0 1000000000000 = true from decide_eq_true g1, show inB (m.length : Int) 1 8 = true from decide_eq_true (by omega), show inB (colN m : Int) 1 16 = true from decide_eq_true (by omega), hcs, hpl.1, hv, row_vecB hpl (by omega)]
  simp
theorem pass_eq {a : Int} {m K : List (List Int)} {cs pl : List Int} (hg : gnrB a m = true) (hk : nkB a (m.length : Int) (colN m : Int) K = true) (hcs : cs.length = m.length) (hv : vecB cs = true) (hpl : Row (colN m) pl) :
    passB a (m.length : Int) (colN m : Int) a K cs pl = K.all (orthB (cs ++ pl)) := by
  unfold passB
  rw [hk, pkt_yes hg hcs hv hpl]
  simp
theorem set_ne {pl : List Int} {k : Nat} {x z : Int} (hk : k < pl.length) (hx : pl.getD k 0 = x) (hz : z ≠ x) : pl.set k z ≠ pl := by
  intro h
  apply hz
  rw [← hx, List.getD_eq_getElem?_getD]
  have : (pl.set k z)[k]? = some z := List.getElem?_set_self hk
  rw [h] at this
  rw [this]
  rfl
theorem set_row {c : Nat} {pl : List Int} {k : Nat} {z : Int} (h : Row c pl) (hz : 0 ≤ z ∧ z ≤ 1018) : Row c (pl.set k z) := by
  refine ⟨by rw [List.length_set]; exact h.1, fun y hy => ?_⟩
  rcases List.mem_or_eq_of_mem_set hy with h1 | h1
  · exact h.2 y h1
  · rw [h1]; exact hz
end Go.Proofs.YtjaagabbbnokdaaGreat

namespace Go.Proofs.YtjaagabbbnokdaaGreat
open Go.ChangeShapes Go.WideShapes Go.ChangeAt Go.RowKit
set_option linter.unusedVariables false
set_option maxRecDepth 100000

set_option maxHeartbeats 1000000 in
theorem dimR (c : Nat) (v : Value) (m : List (List Int)) (P : Nat → Nat) (w : World) (hv : RII w v m) (hR : Red c m P) (hc : c ≤ 40) :
    Calls Tryz.prog 23 #[.agg #[.int .i64 (c : Int), v]] w fun e w' => e = .returned (.int .i64 (m.length : Int)) ∧ Bel w w' := by
  have HB := Lib.hid (basB_red hR hc)
  obtain ⟨A, cp, rfl, _, _, _⟩ := id hv
  have X := Blk.new w 40 #[.int .i64 (c : Int), .slice A m.length cp]
  have Y : Bel w (w.alloc (.cells #[.int .i64 (c : Int), .slice A m.length cp] 40)) := (Bel.refl _).alloc _
  obtain ⟨cx, fx, zx⟩ := X.facts
  go_enter Tryz.func23, Tryz.ntmps23
  go_wp2_with fail
  refine (basI (c : Int) _ m _ (hv.keep Y)).mono ?_
  rintro e w1 ⟨rfl, b1⟩
  rw [HB.out]
  clear cx fx zx
  have X1 := b1.keep X
  obtain ⟨cx, fx, zx⟩ := X1.facts
  go_wp2
  go_ret
  exact ⟨rfl, Y.trans b1⟩

set_option maxHeartbeats 1000000 in
theorem takesR (c : Nat) (v u : Value) (m : List (List Int)) (xs : List Int) (P : Nat → Nat) (w : World) (hv : RII w v m) (hu : RI w u xs) (hR : Red c m P) (hx : Row c xs) (hc : c ≤ 40) :
    Calls Tryz.prog 64 #[.agg #[.int .i64 (c : Int), v], u] w fun e w' => e = .returned (.bool true) ∧ Bel w w' := by
  have HB := Lib.hid (basB_red hR hc)
  have HV := Lib.hid (row_vecB hx hc)
  have hl : (xs.length : Int) = (c : Int) := by rw [hx.1]
  obtain ⟨A, cp, rfl, _, _, _⟩ := id hv
  obtain ⟨Au, cu, rfl, _, _, _⟩ := id hu
  have HL := Lib.hid hl
  clear hl
  have X := Blk.new w 40 #[.int .i64 (c : Int), .slice A m.length cp]
  have Y : Bel w (w.alloc (.cells #[.int .i64 (c : Int), .slice A m.length cp] 40)) := (Bel.refl _).alloc _
  obtain ⟨cx, fx, zx⟩ := X.facts
  go_enter Tryz.func64, Tryz.ntmps64
  go_wp2_with fail
  refine (basI (c : Int) _ m _ (hv.keep Y)).mono ?_
  rintro e w1 ⟨rfl, b1⟩
  rw [HB.out]
  clear cx fx zx
  have X1 := b1.keep X
  go_wp2_with fail
  refine (vecI _ xs _ (hu.keep (Y.trans b1))).mono ?_
  rintro e w2 ⟨rfl, rfl⟩
  rw [HV.out]
  obtain ⟨cx, fx, zx⟩ := X1.facts
  have hl := HL.out
  go_wp2
  go_ret
  exact ⟨rfl, Y.trans b1⟩

theorem lead_in {c : Nat} {m : List (List Int)} {P : Nat → Nat} {xs : List Int} (hR : Red c m P) (hx : Row c xs) : (leadV (reduceZ m xs) < 0) ↔ InS m xs := by
  rw [reduce_iff hR hx]
  by_cases h : lead (reduceZ m xs) < (reduceZ m xs).length
  · rw [leadV_yes h]
    constructor
    · intro q; omega
    · intro q; exact absurd h q
  · rw [leadV_no h]
    exact ⟨fun _ => h, fun _ => by decide⟩
set_option maxHeartbeats 1000000 in
theorem conR (c : Nat) (v u : Value) (m : List (List Int)) (xs : List Int) (P : Nat → Nat) (q : Bool) (w : World) (hv : RII w v m) (hu : RI w u xs) (hR : Red c m P) (hx : Row c xs) (hc : c ≤ 40) (hq : q = true ↔ InS m xs) :
    Calls Tryz.prog 24 #[.agg #[.int .i64 (c : Int), v], u] w fun e w' => e = .returned (.bool q) ∧ Bel w w' := by
  have hd : decide (leadV (reduceZ m xs) < 0) = q := by
    rw [Bool.eq_iff_iff, decide_eq_true_iff, hq]
    exact lead_in hR hx
  have HDQ := Lib.hid hd
  clear hd hq
  have HT := Lib.hid (fun (W : World) (b : Bel w W) => takesR c v u m xs P W (hv.keep b) (hu.keep b) hR hx hc)
  have HRD := Lib.hid (fun (W : World) (b : Bel w W) => reduceI (c : Int) v u m xs c P W (hv.keep b) (hu.keep b) hR hx hc)
  obtain ⟨A, cp, rfl, _, _, _⟩ := id hv
  have X := Blk.new w 40 #[.int .i64 (c : Int), .slice A m.length cp]
  have Y : Bel w (w.alloc (.cells #[.int .i64 (c : Int), .slice A m.length cp] 40)) := (Bel.refl _).alloc _
  obtain ⟨cx, fx, zx⟩ := X.facts
  go_enter Tryz.func24, Tryz.ntmps24
  go_wp2_with fail
  refine (HT.out _ Y).mono ?_
  rintro e w1 ⟨rfl, b1⟩
  clear cx fx zx
  have X1 := b1.keep X
  have Y1 := Y.trans b1
  obtain ⟨cx, fx, zx⟩ := X1.facts
  go_wp2_with fail
  refine (HRD.out _ Y1).mono ?_
  rintro e w2 ⟨r, rfl, O2, b2⟩
  clear cx fx zx
  go_wp2_with fail
  refine (leadI r (reduceZ m xs) _ O2.reads).mono ?_
  rintro e w3 ⟨rfl, rfl⟩
  have hd := HDQ.out
  generalize leadV (reduceZ m xs) = l at *
  go_wp2
  go_ret
  exact ⟨rfl, Y1.trans b2⟩

set_option maxHeartbeats 1000000 in
theorem sameR (c : Nat) (v u : Value) (m n : List (List Int)) (P Q : Nat → Nat) (w : World) (hv : RII w v m) (hu : RII w u n) (hR : Red c m P) (hS : Red c n Q) (hc : c ≤ 40) :
    Calls Tryz.prog 60 #[.agg #[.int .i64 (c : Int), v], .agg #[.int .i64 (c : Int), u]] w fun e w' => e = .returned (.bool true) ∧ Bel w w' := by
  have HB := Lib.hid (basB_red hR hc)
  have HC := Lib.hid (basB_red hS hc)
  obtain ⟨A, cp, rfl, _, _, _⟩ := id hv
  obtain ⟨Au, cu, rfl, _, _, _⟩ := id hu
  have X := (Blk.new w 40 #[.int .i64 (c : Int), .slice A m.length cp]).alloc (.cells #[.int .i64 (c : Int), .slice Au n.length cu] 40)
  have Z := Blk.new2 w (.cells #[.int .i64 (c : Int), .slice A m.length cp] 40) 40 #[.int .i64 (c : Int), .slice Au n.length cu]
  have Y := ((Bel.refl w).alloc (.cells #[.int .i64 (c : Int), .slice A m.length cp] 40)).alloc (.cells #[.int .i64 (c : Int), .slice Au n.length cu] 40)
  obtain ⟨cx, fx, zx⟩ := X.facts
  go_enter Tryz.func60, Tryz.ntmps60
  go_wp2_with fail
  refine (basI (c : Int) _ m _ (hv.keep Y)).mono ?_
  rintro e w1 ⟨rfl, b1⟩
  rw [HB.out]
  clear cx fx zx
  have X1 := b1.keep X
  have Z1 := b1.keep Z
  obtain ⟨cz, fz, zz⟩ := Z1.facts
  go_wp2_with fail
  refine (basI (c : Int) _ n _ (hu.keep (Y.trans b1))).mono ?_
  rintro e w2 ⟨rfl, b2⟩
  rw [HC.out]
  clear cz fz zz
  have X2 := b2.keep X1
  have Z2 := b2.keep Z1
  obtain ⟨cx, fx, zx⟩ := X2.facts
  obtain ⟨cz, fz, zz⟩ := Z2.facts
  go_wp2
  go_ret
  exact ⟨rfl, (Y.trans b1).trans b2⟩

set_option maxHeartbeats 2000000 in
theorem issR (c : Nat) (v u : Value) (m n : List (List Int)) (P Q : Nat → Nat) (w : World) (hv : RII w v m) (hu : RII w u n) (hR : Red c m P) (hS : Red c n Q) (hc : c ≤ 40) (hin : ∀ r ∈ m, InS n r) :
    Calls Tryz.prog 22 #[.agg #[.int .i64 (c : Int), v], .agg #[.int .i64 (c : Int), u]] w fun e w' => e = .returned (.bool true) ∧ Bel w w' := by
  have HSW := Lib.hid (fun (W : World) (b : Bel w W) => sameR c v u m n P Q W (hv.keep b) (hu.keep b) hR hS hc)
  have HRD := Lib.hid (fun (W : World) (r : Value) (xs : List Int) (b : Bel w W) (h : RI W r xs) (hx : Row c xs) => reduceI (c : Int) u r n xs c Q W (hu.keep b) h hS hx hc)
  have HIN := Lib.hid hin
  have HMT := Lib.hid hR.mtx
  have HS := Lib.hid hS
  clear hin
  obtain ⟨A, cp, rfl, h1, h2, hA⟩ := id hv
  obtain ⟨Au, cu, rfl, _, _, _⟩ := id hu
  have X := (Blk.new w 40 #[.int .i64 (c : Int), .slice A m.length cp]).alloc (.cells #[.int .i64 (c : Int), .slice Au n.length cu] 40)
  have Z := Blk.new2 w (.cells #[.int .i64 (c : Int), .slice A m.length cp] 40) 40 #[.int .i64 (c : Int), .slice Au n.length cu]
  have Y := ((Bel.refl w).alloc (.cells #[.int .i64 (c : Int), .slice A m.length cp] 40)).alloc (.cells #[.int .i64 (c : Int), .slice Au n.length cu] 40)
  obtain ⟨cx, fx, zx⟩ := X.facts
  obtain ⟨cz, fz, zz⟩ := Z.facts
  go_enter Tryz.func22, Tryz.ntmps22
  go_wp2_with fail
  refine (HSW.out _ Y).mono ?_
  rintro e w1 ⟨rfl, b1⟩
  clear cx fx zx cz fz zz
  have X1 := b1.keep X
  have Z1 := b1.keep Z
  have Y1 := Y.trans b1
  have hz1 : w.heap.size + 1 < w1.heap.size := Z1.lt
  obtain ⟨cx, fx, zx⟩ := X1.facts
  go_wp2
  go_loopg [14] m.length (fun f i wr => ∃ k : Nat, k + f = m.length ∧ i = .int .i64 (k : Int) ∧ Blk wr (w.heap.size + 1) 40 #[.int .i64 (c : Int), .slice Au n.length cu] ∧ Bel w wr)
  case atStart => exact ⟨0, by omega, rfl, Z1, Y1⟩
  case round =>
    clear cx fx zx X1 Z1 Y1
    obtain ⟨k, hk, rfl, Zr, Yr⟩ := hrel
    have HK := Lib.hid hk
    have hk2 : k ≤ m.length := by omega
    clear hk
    by_cases hlt : k < m.length
    · obtain ⟨b1', o1, rfl, hb1, hc1⟩ := hA (by omega)
      obtain ⟨r, hr, hr2⟩ := hc1 k (rw_ m k) (rw_get hlt)
      have g1 := Yr.cell1 hb1 hr
      have i0 : (0 : Int) ≤ (k : Int) := by omega
      have i1 : (k : Int) < (m.length : Int) := by omega
      have hwr : IntKind.i64.wrap ((k : Int) + 1) = ((k + 1 : Nat) : Int) := by rw [IntWalk.i64_in _ (by omega)]; omega
      have HRR := Lib.hid (hr2.keep Yr)
      have HLD : Hid (leadV (reduceZ n (rw_ m k)) < 0) := Lib.hid ((lead_in HS.out (mtx_row HMT.out hlt)).2 (HIN.out _ (rw_mem hlt)))
      obtain ⟨cz, fz, zz⟩ := Zr.facts
      clear hr2
      go_wp2_with fail
      refine (HRD.out _ _ _ Yr HRR.out (mtx_row HMT.out hlt)).mono ?_
      rintro e w2 ⟨rd, rfl, O2, b2⟩
      clear cz fz zz
      go_wp2_with fail
      refine (leadI rd (reduceZ n (rw_ m k)) _ O2.reads).mono ?_
      rintro e w3 ⟨rfl, rfl⟩
      have hld := HLD.out
      generalize leadV (reduceZ n (rw_ m k)) = l at *
      have hld2 : ¬ (0 : Int) ≤ l := by omega
      go_wp2
      go_roundg (m.length - (k + 1))
      case measure => have := HK.out; omega
      case rel => exact ⟨k + 1, by omega, by first | rfl | go_num | (congr 1; omega), b2.keep Zr, Yr.trans b2⟩
    · obtain rfl : k = m.length := by omega
      have i1 : ¬ (m.length : Int) < (m.length : Int) := by omega
      go_wp2
      go_ret
      exact ⟨rfl, Yr⟩
end Go.Proofs.YtjaagabbbnokdaaGreat
