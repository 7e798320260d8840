/-
  The laws' helpers for NullKeys: contracts of szNullKeys, toNullKeys, eqNullKeys. Condition of toNullKeys: at most 2^20 elements a slice.
  IsValidNullKeys: contracts of the program's function and of the reference's. No condition.
  UndetectedSpace: contracts of the program's function and of the reference's. No condition.
-/
import Derived.Test.YtjaagabbbnokdaaSl3
import Derived.Test.YtjaagabbbnokdaaMat3
import Derived.Test.YtjaagabbbnokdaaMani2
import Derived.Test.YtjaagabbbnokdaaBq
import Derived.Test.YtjaagabbbnokdaaGG
import Derived.Test.YtjaagabbbnokdaaGF
namespace Go.Proofs.Ytjaagabbbnokdaa
open Go.ChangeShapes Go.WideShapes Go.ChangeAt Go.RowKit
set_option linter.unusedVariables false
set_option maxRecDepth 100000

set_option maxHeartbeats 400000 in
theorem szNk_ok (a b c : Int) (v : Value) (xv : List (List Int)) (l : Int) (w : World) (hv : RII w v xv) (h0 : (szM xv : Int) ≤ l) (h1 : l ≤ 1048576) :
    Calls Try.prog 25 #[.agg #[.int .i64 a, .int .i64 b, .int .i64 c, v], .int .i64 l] w fun e w' => e = .returned (.int .i64 (l - ((szM xv : Int)))) ∧ Bel w w' := by
  have hd0 : decide (l - (szM xv : Int) < 0) = false := by simp; omega
  go_enter Try.func25, Try.ntmps25
  go_wp2_with fail
  refine (szII_ok v xv (l) _ (hv.keep ((Bel.refl _).alloc _)) (by omega) (by omega)).mono ?_
  rintro e w1 ⟨rfl, rfl⟩
  go_wp2
  go_ret
  exact ⟨rfl, (Bel.refl _).alloc _⟩
set_option maxHeartbeats 400000 in
theorem szNk_no (a b c : Int) (v : Value) (xv : List (List Int)) (l : Int) (w : World) (hv : RII w v xv) (h0 : l < (szM xv : Int)) (h1 : 0 ≤ l) (h2 : l ≤ 1048576) :
    Calls Try.prog 25 #[.agg #[.int .i64 a, .int .i64 b, .int .i64 c, v], .int .i64 l] w fun e w' => e = .returned (.int .i64 (-1)) ∧ Bel w w' := by
  go_enter Try.func25, Try.ntmps25
  go_wp2_with fail
  refine (szII_no v xv (l) _ (hv.keep ((Bel.refl _).alloc _)) (by omega) (by omega) (by omega)).mono ?_
  rintro e w1 ⟨rfl, rfl⟩
  go_wp2
  go_ret
  exact ⟨rfl, (Bel.refl _).alloc _⟩
set_option maxHeartbeats 1000000 in
theorem toNk (a b c : Int) (v : Value) (xv : List (List Int)) (w : World) (hv : RII w v xv) (nv : szM xv ≤ 1048576) :
    Calls Try.prog 27 #[.agg #[.int .i64 a, .int .i64 b, .int .i64 c, v]] w fun e w' => ∃ rv, e = .returned (.agg #[.int .i64 a, .int .i64 b, .int .i64 c, rv]) ∧ OM w' w.heap.size rv xv ∧ Bel w w' := by
  go_enter Try.func27, Try.ntmps27
  go_wp2_with fail
  refine (toM v xv _ (hv.keep ((((Bel.refl _).alloc _).alloc _).alloc _)) nv).mono ?_
  rintro e w1 ⟨rv, rfl, Ov, hb1⟩
  replace Ov := Ov.low (show w.heap.size + 3 ≤ _ by simp)
  have X1 := hb1.keep (((Blk.new w _ _).alloc _).alloc _)
  have R1 := hb1.keep ((Blk.new2 w _ _ _).alloc _)
  have Q1 := hb1.keep (Blk.new3 w _ _ _ _)
  have Y1 : Bel w w1 := ((((Bel.refl _).alloc _).alloc _).alloc _).trans hb1
  have s1 := Y1.size
  obtain ⟨Av, cv, ev, _, _, _⟩ := Ov.reads
  subst ev
  obtain ⟨cx, fx, zx⟩ := X1.facts
  obtain ⟨cr, fr, zr⟩ := R1.facts
  obtain ⟨cq, fq, zq⟩ := Q1.facts
  go_wp2
  refine bodyPost_ret (v := .agg #[.int .i64 a, .int .i64 b, .int .i64 c, .slice Av xv.length cv]) (by simp [results, Try.results27, go_sem, cr]) rfl ⟨_, rfl, ?_, ?_⟩
  · refine OM.low (base := w.heap.size + 3) ?_ (by omega)
    repeat (first | (with_reducible exact Ov) | (refine OM.setFar ?_ (by dsimp only; omega) _))
  · repeat (first | (with_reducible exact Y1) | (refine Bel.setCell ?_ (by dsimp only; omega) _))
set_option maxHeartbeats 1000000 in
theorem eqNk_same (a b c : Int) (v : Value) (xv : List (List Int)) (yv : Value) (w : World) (hv : RII w v xv) (gv : RII w yv xv) :
    Calls Try.prog 29 #[.agg #[.int .i64 a, .int .i64 b, .int .i64 c, v], .agg #[.int .i64 a, .int .i64 b, .int .i64 c, yv]] w fun e w' => e = .returned (.bool true) ∧ Bel w w' := by
  go_enter Try.func29, Try.ntmps29
  go_wp2_with fail
  refine (eqII_same v yv xv _ (hv.keep (((Bel.refl _).alloc _).alloc _)) (gv.keep (((Bel.refl _).alloc _).alloc _))).mono ?_
  rintro e w1 ⟨rfl, hb1⟩
  have Y1 : Bel w w1 := (((Bel.refl _).alloc _).alloc _).trans hb1
  have B1 := hb1.keep ((Blk.new w _ _).alloc _)
  have D1 := hb1.keep (Blk.new2 w _ _ _)
  obtain ⟨c1, _, _⟩ := B1.facts
  obtain ⟨c2, _, _⟩ := D1.facts
  go_wp2
  go_ret
  exact ⟨rfl, Y1⟩
end Go.Proofs.Ytjaagabbbnokdaa

namespace Go.Proofs.Ytjaagabbbnokdaa
open Go.ChangeShapes Go.WideShapes Go.ChangeAt Go.RowKit
set_option linter.unusedVariables false
set_option maxRecDepth 100000

def keyB (b c : Int) (xs : List Int) : Bool := vecB xs && ((xs.length : Int) == wrap64 (b + c))
def nkB (a b c : Int) (xss : List (List Int)) : Bool := fmtB a b c && inB (xss.length : Int) 1 4 && xss.all (keyB b c)

set_option maxHeartbeats 1000000 in
theorem keyC (a b c : Int) (u v : Value) (q : Addr) (xs : List Int) (w : World) (hq : q.spot = none) (h1 : w.cell? ⟨q.block, q.off + 1, none⟩ = some (.int .i64 b)) (h2 : w.cell? ⟨q.block, q.off + 2, none⟩ = some (.int .i64 c)) (hv : RI w v xs) (hf : fmtB a b c = true) :
    Calls Try.prog 122 #[v, .pointer (some q)] w fun e w' => e = .returned (.bool (!(keyB b c xs))) ∧ w = w' := by
  obtain ⟨qb, qo, qs⟩ := q
  dsimp only at hq h1 h2
  subst hq
  obtain ⟨_, hb, hc⟩ := fmtB_facts hf
  have HW : Hid (wrap64 (b + c) = b + c) := by show _ = _; unfold wrap64; omega
  have HM : Hid (keyB b c xs = (vecB xs && ((xs.length : Int) == b + c))) := by show _ = _; unfold keyB; rw [HW.out]
  clear hf
  obtain ⟨A, cp, rfl, _, _, _⟩ := id hv
  go_enter Try.func122, Try.ntmps122
  go_wp2_with fail
  refine (vecI _ xs _ hv).mono ?_
  rintro e w1 ⟨rfl, rfl⟩
  cases q1 : vecB xs
  · go_wp2
    go_ret
    exact ⟨by rw [HM.out, q1]; rfl, rfl⟩
  cases q3 : ((xs.length : Int) == b + c)
  · have q3' : ((xs.length : Int) != b + c) = true := by simp only [bne, q3]; rfl
    have Q3 := Lib.hid q3
    have Q1 := Lib.hid q1
    clear q3 q1
    go_wp2
    go_ret
    exact ⟨by rw [HM.out, Q1.out, Q3.out]; rfl, rfl⟩
  · have q3' : ((xs.length : Int) != b + c) = false := by simp only [bne, q3]; rfl
    have Q3 := Lib.hid q3
    have Q1 := Lib.hid q1
    clear q3 q1
    go_wp2
    go_ret
    exact ⟨by rw [HM.out, Q1.out, Q3.out]; rfl, rfl⟩
set_option maxHeartbeats 1000000 in
theorem keyIdx (b c : Int) (v : Value) (q : Addr) (xss : List (List Int)) (w : World) (hv : RII w v xss)
    (hcall : ∀ (u : Value) (xs : List Int), RI w u xs → Calls Try.prog 122 #[u, .pointer (some q)] w fun e w' => e = .returned (.bool (!(keyB b c xs))) ∧ w = w') :
    Calls Try.prog 152 #[v, .func (.func 122) #[] #[.pointer (some q)]] w fun e w' => (∃ k : Int, e = .returned (.int .i64 k) ∧ decide (0 ≤ k) = !(xss.all (keyB b c))) ∧ w = w' := by
  obtain ⟨A, cp, rfl, h1, h2, hA⟩ := hv
  have HC := Lib.hid hcall
  clear hcall
  go_enter Try.func152, Try.ntmps152
  go_wp2
  go_loopg [8] xss.length (fun f i wr => ∃ k : Nat, k + f = xss.length ∧ i = .int .i64 k ∧ w = wr ∧ Hid ((xss.take k).all (keyB b c) = true))
  case atStart => exact ⟨0, by omega, rfl, rfl, by show _ = _; simp⟩
  case round =>
    obtain ⟨k, hk, rfl, rfl, HB⟩ := hrel
    have hk2 : k ≤ xss.length := by omega
    have HK := Lib.hid hk
    clear hk
    by_cases hlt : k < xss.length
    · obtain ⟨b1, o1, rfl, z1, hc1⟩ := hA (by omega)
      have hx : Hid (xss[k]? = some (xss[k]'hlt)) := List.getElem?_eq_getElem hlt
      obtain ⟨u, g1, ru⟩ := hc1 k _ hx.out
      generalize xss[k]'hlt = xs at *
      clear hc1 hA
      have i0 : (0 : Int) ≤ (k : Int) := by omega
      have i1 : (k : Int) < (xss.length : Int) := by omega
      go_wp2_with fail
      refine (HC.out u xs ru).mono ?_
      rintro e w1 ⟨rfl, rfl⟩
      cases hq : keyB b c xs
      · have HF := Lib.hid (all_fail (p := keyB b c) hx.out hq)
        clear hq
        go_wp2
        go_ret
        exact ⟨⟨(k : Int), rfl, by rw [HF.out]; simp⟩, rfl⟩
      · have HF := Lib.hid (all_step (p := keyB b c) hx.out HB.out hq)
        clear hq
        go_wp2
        go_roundg (xss.length - (k + 1))
        case measure => have := HK.out; omega
        case rel => exact ⟨k + 1, by omega, by go_num, rfl, HF⟩
    · obtain rfl : k = xss.length := by omega
      have i1 : ¬ (xss.length : Int) < (xss.length : Int) := by omega
      have HF := Lib.hid (all_end HB.out)
      go_wp2
      go_ret
      exact ⟨⟨-1, rfl, by rw [HF.out]; rfl⟩, rfl⟩
set_option maxHeartbeats 400000 in
theorem keyCont (b c : Int) (v : Value) (q : Addr) (xss : List (List Int)) (w : World) (hv : RII w v xss)
    (hcall : ∀ (u : Value) (xs : List Int), RI w u xs → Calls Try.prog 122 #[u, .pointer (some q)] w fun e w' => e = .returned (.bool (!(keyB b c xs))) ∧ w = w') :
    Calls Try.prog 121 #[v, .func (.func 122) #[] #[.pointer (some q)]] w fun e w' => e = .returned (.bool (!(xss.all (keyB b c)))) ∧ w = w' := by
  have HC := Lib.hid hcall
  clear hcall
  go_enter Try.func121, Try.ntmps121
  go_wp2_with fail
  refine (keyIdx b c v q xss _ hv HC.out).mono ?_
  rintro e w1 ⟨⟨k, rfl, hk⟩, rfl⟩
  go_wp2
  go_ret
  exact ⟨by first | rfl | simp [hk], rfl⟩
set_option maxHeartbeats 1000000 in
theorem nkI (a b c : Int) (v : Value) (xss : List (List Int)) (w : World) (hv : RII w v xss) :
    Calls Try.prog 74 #[.agg #[.int .i64 a, .int .i64 b, .int .i64 c, v]] w fun e w' => e = .returned (.bool (nkB a b c xss)) ∧ Bel w w' := by
  have HM : Hid (nkB a b c xss = (fmtB a b c && inB (xss.length : Int) 1 4 && xss.all (keyB b c))) := rfl
  have hmf : ∀ (fn : Fn) (first cap : Array Value) (w : World), (Instr.makeFunc fn first cap).run Try.prog w = .ok (.func fn first cap) w := fun _ _ _ _ => rfl
  obtain ⟨A, cp, rfl, h1, h2, hA⟩ := id hv
  have Y : Bel w (w.alloc (.cells #[.int .i64 a, .int .i64 b, .int .i64 c, .slice A xss.length cp] 52)) := (Bel.refl _).alloc _
  have X := Blk.new w 52 #[.int .i64 a, .int .i64 b, .int .i64 c, .slice A xss.length cp]
  go_enter Try.func74, Try.ntmps74
  go_wp2_with fail
  refine (fmtI _ _ _ _).mono ?_
  rintro e w1 ⟨rfl, rfl⟩
  cases q1 : fmtB a b c
  · go_wp2
    go_ret
    exact ⟨by rw [HM.out, q1]; rfl, Y⟩
  go_wp2_with fail
  refine (inRB _ _ _ _).mono ?_
  rintro e w1 ⟨rfl, rfl⟩
  cases q2 : inB (xss.length : Int) 1 4
  · go_wp2
    go_ret
    exact ⟨by rw [HM.out, q1, q2]; rfl, Y⟩
  go_wp2_with fail
  refine (keyCont b c _ _ xss _ (hv.keep Y) (fun u xs hu => keyC a b c u u _ xs _ rfl (X.facts.1 1) (X.facts.1 2) hu q1)).mono ?_
  rintro e w1 ⟨rfl, rfl⟩
  go_wp2
  go_ret
  exact ⟨by rw [HM.out, q1, q2]; simp, Y⟩
set_option maxHeartbeats 1000000 in
theorem nkS (a b c : Int) (v : Value) (xss : List (List Int)) (w : World) (hv : RII w v xss) :
    Calls Try.prog 72 #[.agg #[.int .i64 a, .int .i64 b, .int .i64 c, v]] w fun e w' => e = .returned (.bool (nkB a b c xss)) ∧ Bel w w' := by
  have HM : Hid (nkB a b c xss = (fmtB a b c && inB (xss.length : Int) 1 4 && xss.all (keyB b c))) := rfl
  obtain ⟨A, cp, rfl, h1, h2, hA⟩ := id hv
  have HKB : Hid (∀ xs, keyB b c xs = (vecB xs && ((xs.length : Int) == wrap64 (b + c)))) := fun _ => rfl
  have X := Blk.new w 52 #[.int .i64 a, .int .i64 b, .int .i64 c, .slice A xss.length cp]
  have Y : Bel w (w.alloc (.cells #[.int .i64 a, .int .i64 b, .int .i64 c, .slice A xss.length cp] 52)) := (Bel.refl _).alloc _
  go_enter Try.func72, Try.ntmps72
  go_wp2
  go_loopg [3] xss.length (fun f i wr => ∃ k : Nat, k + f = xss.length ∧ i = .int .i64 k ∧ Blk wr w.heap.size 52 #[.int .i64 a, .int .i64 b, .int .i64 c, .slice A xss.length cp] ∧ Bel w wr ∧ Hid ((xss.take k).all (keyB b c) = true))
  case atStart => exact ⟨0, by omega, rfl, X, Y, by show _ = _; simp⟩
  case round =>
    clear X Y
    obtain ⟨k, hk, rfl, X, Y, HB⟩ := hrel
    have hk2 : k ≤ xss.length := by omega
    have HK := Lib.hid hk
    clear hk
    obtain ⟨cc, _, zx⟩ := X.facts
    have r1 : wr.cell? ⟨w.heap.size, 1, none⟩ = some (.int .i64 b) := cc 1
    have r2 : wr.cell? ⟨w.heap.size, 2, none⟩ = some (.int .i64 c) := cc 2
    have r3 : wr.cell? ⟨w.heap.size, 3, none⟩ = some (.slice A xss.length cp) := cc 3
    have r0 : wr.cell? ⟨w.heap.size, 0, none⟩ = some (.int .i64 a) := cc 0
    clear cc
    by_cases hlt : k < xss.length
    · obtain ⟨b1, o1, rfl, z1, hc1⟩ := hA (by omega)
      have hx : Hid (xss[k]? = some (xss[k]'hlt)) := List.getElem?_eq_getElem hlt
      obtain ⟨u, g1, ru⟩ := hc1 k _ hx.out
      replace g1 := Y.cell1 z1 g1
      have zz := Nat.lt_of_lt_of_le z1 Y.size
      generalize xss[k]'hlt = xs at *
      clear hc1 hA
      obtain ⟨Au, cu, rfl, _, _, _⟩ := id ru
      have i0 : (0 : Int) ≤ (k : Int) := by omega
      have i1 : (k : Int) < (xss.length : Int) := by omega
      have qq1 := Bw.cell r1 zx
      have qq2 := Bw.cell r2 zx
      have qq3 := Bw.cell r3 zx
      have qq4 := Bw.cell g1 zz
      have VC := Lib.hid (fun (W : World) (h : Bel wr W) => vecS _ xs W ((ru.keep Y).keep h))
      cases q1 : vecB xs
      · have HF := Lib.hid (all_fail (p := keyB b c) hx.out (by rw [HKB.out, q1]; rfl))
        rw [q1] at VC
        clear q1
        go_wp2
        refine wp_region_bel (by kernel_rfl) (by kernel_rfl) ?_
        repeat (first | go_big_quiet_step (first | (go_at_call 97; exact belQ_same (VC.out _ (Bw.bel _)))) | quiet_step (first | (go_at_call 97; exact belQ_same (VC.out _ (Bw.bel _)))))
        refine wpQuiet_nil ?_
        rintro _ ⟨⟨w3, hb3⟩, rfl⟩
        clear qq1 qq2 qq3 qq4
        go_wp2
        go_ret
        exact ⟨by rw [HM.out, HF.out]; simp, Y.trans hb3⟩
      · rw [q1] at VC
        cases q3 : ((xs.length : Int) == wrap64 (b + c))
        · have q3' : ((xs.length : Int) != wrap64 (b + c)) = true := by simp only [bne, q3]; rfl
          have HF := Lib.hid (all_fail (p := keyB b c) hx.out (by rw [HKB.out, q1, q3]; rfl))
          clear q1 q3
          go_wp2
          refine wp_region_bel (by kernel_rfl) (by kernel_rfl) ?_
          repeat (first | go_big_quiet_step (first | (go_at_call 97; exact belQ_same (VC.out _ (Bw.bel _)))) | quiet_step (first | (go_at_call 97; exact belQ_same (VC.out _ (Bw.bel _)))))
          refine wpQuiet_nil ?_
          rintro _ ⟨⟨w3, hb3⟩, rfl⟩
          clear qq1 qq2 qq3 qq4
          go_wp2
          go_ret
          exact ⟨by rw [HM.out, HF.out]; simp, Y.trans hb3⟩
        · have q3' : ((xs.length : Int) != wrap64 (b + c)) = false := by simp only [bne, q3]; rfl
          have HF := Lib.hid (all_step (p := keyB b c) hx.out HB.out (by rw [HKB.out, q1, q3]; rfl))
          clear q1 q3
          go_wp2
          refine wp_region_bel (by kernel_rfl) (by kernel_rfl) ?_
          repeat (first | go_big_quiet_step (first | (go_at_call 97; exact belQ_same (VC.out _ (Bw.bel _)))) | quiet_step (first | (go_at_call 97; exact belQ_same (VC.out _ (Bw.bel _)))))
          refine wpQuiet_nil ?_
          rintro _ ⟨⟨w3, hb3⟩, rfl⟩
          clear qq1 qq2 qq3 qq4
          go_wp2
          go_roundg (xss.length - (k + 1))
          case measure => have := HK.out; omega
          case rel => exact ⟨k + 1, by omega, by go_num, hb3.keep X, Y.trans hb3, HF⟩
    · obtain rfl : k = xss.length := by omega
      have i1 : ¬ (xss.length : Int) < (xss.length : Int) := by omega
      have HF := Lib.hid (all_end HB.out)
      go_wp2_with fail
      refine (fmtS _ _ _ _).mono ?_
      rintro e w1 ⟨rfl, rfl⟩
      cases q1 : fmtB a b c
      · go_wp2
        go_ret
        exact ⟨by rw [HM.out, q1]; rfl, Y⟩
      go_wp2_with fail
      refine (l1InB _ _ _ _).mono ?_
      rintro e w1 ⟨rfl, rfl⟩
      go_wp2
      go_ret
      exact ⟨by rw [HM.out, q1, HF.out]; simp, Y⟩
end Go.Proofs.Ytjaagabbbnokdaa

namespace Go.Proofs.Ytjaagabbbnokdaa
open Go.ChangeShapes Go.WideShapes Go.ChangeAt Go.RowKit
set_option linter.unusedVariables false
set_option maxRecDepth 100000

def undN (a b c : Int) (xss : List (List Int)) : Nat := if nkB a b c xss = true then b.toNat + c.toNat else 0
def undM (a b c : Int) (xss : List (List Int)) : List (List Int) := if nkB a b c xss = true then orthZ (b.toNat + c.toNat) (spanZ (b.toNat + c.toNat) xss) else []
theorem und_no {a b c : Int} {xss : List (List Int)} (h : nkB a b c xss = false) : undN a b c xss = 0 ∧ undM a b c xss = [] := by unfold undN undM; rw [h]; exact ⟨rfl, rfl⟩
theorem und_yes {a : Int} {s d : Nat} {xss : List (List Int)} (h : nkB a (s : Int) (d : Int) xss = true) : undN a (s : Int) (d : Int) xss = s + d ∧ undM a (s : Int) (d : Int) xss = orthZ (s + d) (spanZ (s + d) xss) := by unfold undN undM; rw [h]; exact ⟨rfl, rfl⟩
theorem nkB_fmt {a b c : Int} {xss : List (List Int)} (h : nkB a b c xss = true) : ∃ s d : Nat, b = (s : Int) ∧ c = (d : Int) ∧ 1 ≤ s ∧ s ≤ 8 ∧ 1 ≤ d ∧ d ≤ 16 := by
  unfold nkB at h
  rw [Bool.and_eq_true, Bool.and_eq_true] at h
  obtain ⟨_, h1, h2⟩ := fmtB_facts h.1.1
  exact ⟨b.toNat, c.toNat, by omega, by omega, by omega, by omega, by omega, by omega⟩
theorem und_fl (a b c : Int) (xss : List (List Int)) : flN (undM a b c xss) ≤ 1600 := by
  cases q : nkB a b c xss
  · rw [(und_no q).2]
    exact Nat.zero_le _
  · obtain ⟨s, d, rfl, rfl, _, h1, _, h2⟩ := nkB_fmt q
    rw [(und_yes q).2]
    obtain ⟨P, hP⟩ := orth_red (s + d) (spanZ (s + d) xss)
    have h4 := mtx_fl hP.mtx
    have h3 : (orthZ (s + d) (spanZ (s + d) xss)).length * (s + d) ≤ 24 * 24 := Nat.mul_le_mul (Nat.le_trans hP.len_le (by omega)) (by omega)
    omega
set_option maxHeartbeats 2000000 in
theorem undI (a b c : Int) (v : Value) (xss : List (List Int)) (w : World) (hv : RII w v xss) :
    Calls Try.prog 28 #[.agg #[.int .i64 a, .int .i64 b, .int .i64 c, v]] w fun e w' => ∃ r, e = .returned (.agg #[.int .i64 ((undN a b c xss : Nat) : Int), r]) ∧ OM w' w.heap.size r (undM a b c xss) ∧ Bel w w' := by
  obtain ⟨A, cp, rfl, h2, h3, hA⟩ := id hv
  have X := (Blk.new w 52 #[.int .i64 a, .int .i64 b, .int .i64 c, .slice A xss.length cp]).alloc (.cells #[.int .i64 0, .slice none 0 0] 39)
  have R := Blk.new2 w (.cells #[.int .i64 a, .int .i64 b, .int .i64 c, .slice A xss.length cp] 52) 39 #[.int .i64 0, .slice none 0 0]
  have Y : Bel w ((w.alloc (.cells #[.int .i64 a, .int .i64 b, .int .i64 c, .slice A xss.length cp] 52)).alloc (.cells #[.int .i64 0, .slice none 0 0] 39)) := ((Bel.refl _).alloc _).alloc _
  obtain ⟨cx, _, zx⟩ := X.facts
  go_enter Try.func28, Try.ntmps28
  go_wp2_with fail
  refine (nkI a b c _ xss _ (hv.keep Y)).mono ?_
  rintro e w1 ⟨rfl, hb1⟩
  have X1 := hb1.keep X
  have R1 := hb1.keep R
  have Y1 := Y.trans hb1
  clear cx zx X R Y hb1
  obtain ⟨cx, _, zx⟩ := X1.facts
  cases q : nkB a b c xss
  · obtain ⟨f1, f2⟩ := und_no q
    have HF1 := Lib.hid f1
    have HF2 := Lib.hid f2
    clear f1 f2 q
    go_wp2_with fail
    refine (newBI 0 _ (by omega)).mono ?_
    rintro e w2 ⟨rfl, hb2⟩
    have R2 := hb2.keep R1
    have Y2 := Y1.trans hb2
    clear cx
    obtain ⟨cr, fr, zr⟩ := R2.facts
    have Y3 := (Y2.setCell (p := ⟨w.heap.size + 1, 0, none⟩) (by dsimp only; omega) (.int .i64 ((0 : Nat) : Int))).setCell (p := ⟨w.heap.size + 1, 1, none⟩) (by dsimp only; omega) (.slice none 0 0)
    go_wp2
    refine bodyPost_ret (v := .agg #[.int .i64 ((0 : Nat) : Int), .slice none 0 0]) (by simp [results, Try.results28, go_sem, cr]) rfl ⟨_, by rw [HF1.out], by rw [HF2.out]; exact OM.nil _ _, Y3⟩
  obtain ⟨s, d, rfl, rfl, s1, s2, d1, d2⟩ := nkB_fmt q
  obtain ⟨f1, f2⟩ := und_yes q
  have HF1 := Lib.hid f1
  have HF2 := Lib.hid f2
  clear f1 f2 q
  have HSD : Hid ((s : Int) + (d : Int) = ((s + d : Nat) : Int)) := Lib.hid (by omega)
  obtain ⟨n, hn⟩ : ∃ n, n = s + d := ⟨_, rfl⟩
  have hn40 : n ≤ 40 := by omega
  rw [← hn] at HF1 HF2 HSD
  clear hn
  go_wp2_with fail
  rw [HSD.out]
  refine (spanI _ xss n _ (hv.keep Y1) hn40).mono ?_
  rintro e w2 ⟨r2, rfl, O2, hb2⟩
  have R2 := hb2.keep R1
  have Y2 := Y1.trans hb2
  obtain ⟨A2, c2, e2, _, _, _⟩ := O2.reads
  subst e2
  have RD := Lib.hid (span_red n xss)
  have RR := Lib.hid O2.reads
  clear cx zx X1 R1 Y1 hb2 O2
  go_wp2_with fail
  obtain ⟨P, hP⟩ := RD.out
  refine (orthI _ (spanZ n xss) n P _ RR.out hP hn40).mono ?_
  clear hP
  rintro e w3 ⟨r3, rfl, O3, hb3⟩
  have R3 := hb3.keep R2
  have Y3 := Y2.trans hb3
  obtain ⟨A3, c3, e3, _, _, _⟩ := O3.reads
  subst e3
  have sz2 := R2.lt
  have sz3 := hb3.size
  obtain ⟨cr, fr, zr⟩ := R3.facts
  have Y4 := (Y3.setCell (p := ⟨w.heap.size + 1, 0, none⟩) (by dsimp only; omega) (.int .i64 (n : Int))).setCell (p := ⟨w.heap.size + 1, 1, none⟩) (by dsimp only; omega) (.slice A3 (orthZ n (spanZ n xss)).length c3)
  have O4 := OM.setFar (OM.setFar (OM.low O3 (show w.heap.size + 2 ≤ w2.heap.size by omega)) (p := ⟨w.heap.size + 1, 0, none⟩) (by dsimp only; omega) (.int .i64 (n : Int))) (p := ⟨w.heap.size + 1, 1, none⟩) (by dsimp only; omega) (.slice A3 (orthZ n (spanZ n xss)).length c3)
  go_wp2
  refine bodyPost_ret (v := .agg #[.int .i64 (n : Int), .slice A3 (orthZ n (spanZ n xss)).length c3]) (by simp [results, Try.results28, go_sem, cr]) rfl ⟨_, by rw [HF1.out], by rw [HF2.out]; exact OM.low O4 (by omega), Y4⟩
set_option maxHeartbeats 2000000 in
theorem undS (a b c : Int) (v : Value) (xss : List (List Int)) (w : World) (hv : RII w v xss) :
    Calls Try.prog 26 #[.agg #[.int .i64 a, .int .i64 b, .int .i64 c, v]] w fun e w' => ∃ r, e = .returned (.agg #[.int .i64 ((undN a b c xss : Nat) : Int), r]) ∧ ML w' w.heap.size r (undM a b c xss) ∧ Bel w w' := by
  obtain ⟨A, cp, rfl, h2, h3, hA⟩ := id hv
  have X := (Blk.new w 52 #[.int .i64 a, .int .i64 b, .int .i64 c, .slice A xss.length cp]).alloc (.cells #[.int .i64 0, .slice none 0 0] 39)
  have R := Blk.new2 w (.cells #[.int .i64 a, .int .i64 b, .int .i64 c, .slice A xss.length cp] 52) 39 #[.int .i64 0, .slice none 0 0]
  have Y : Bel w ((w.alloc (.cells #[.int .i64 a, .int .i64 b, .int .i64 c, .slice A xss.length cp] 52)).alloc (.cells #[.int .i64 0, .slice none 0 0] 39)) := ((Bel.refl _).alloc _).alloc _
  obtain ⟨cx, _, zx⟩ := X.facts
  go_enter Try.func26, Try.ntmps26
  go_wp2_with fail
  refine (nkS a b c _ xss _ (hv.keep Y)).mono ?_
  rintro e w1 ⟨rfl, hb1⟩
  have X1 := hb1.keep X
  have R1 := hb1.keep R
  have Y1 := Y.trans hb1
  clear cx zx X R Y hb1
  obtain ⟨cx, _, zx⟩ := X1.facts
  cases q : nkB a b c xss
  · obtain ⟨f1, f2⟩ := und_no q
    have HF1 := Lib.hid f1
    have HF2 := Lib.hid f2
    clear f1 f2 q
    go_wp2_with fail
    refine (newBS 0 _ (by omega)).mono ?_
    rintro e w2 ⟨rfl, hb2⟩
    have R2 := hb2.keep R1
    have Y2 := Y1.trans hb2
    clear cx
    obtain ⟨cr, fr, zr⟩ := R2.facts
    have Y3 := (Y2.setCell (p := ⟨w.heap.size + 1, 0, none⟩) (by dsimp only; omega) (.int .i64 ((0 : Nat) : Int))).setCell (p := ⟨w.heap.size + 1, 1, none⟩) (by dsimp only; omega) (.slice none 0 0)
    go_wp2
    refine bodyPost_ret (v := .agg #[.int .i64 ((0 : Nat) : Int), .slice none 0 0]) (by simp [results, Try.results26, go_sem, cr]) rfl ⟨_, by rw [HF1.out], by rw [HF2.out]; exact ML.nil _ _, Y3⟩
  obtain ⟨s, d, rfl, rfl, s1, s2, d1, d2⟩ := nkB_fmt q
  obtain ⟨f1, f2⟩ := und_yes q
  have HF1 := Lib.hid f1
  have HF2 := Lib.hid f2
  clear f1 f2 q
  have HSD : Hid ((s : Int) + (d : Int) = ((s + d : Nat) : Int)) := Lib.hid (by omega)
  obtain ⟨n, hn⟩ : ∃ n, n = s + d := ⟨_, rfl⟩
  have hn40 : n ≤ 40 := by omega
  rw [← hn] at HF1 HF2 HSD
  clear hn
  go_wp2_with fail
  rw [HSD.out]
  refine (spanS _ xss n _ (hv.keep Y1) hn40).mono ?_
  rintro e w2 ⟨r2, rfl, O2, hb2⟩
  have R2 := hb2.keep R1
  have Y2 := Y1.trans hb2
  obtain ⟨A2, c2, e2, _, _⟩ := O2.shape
  subst e2
  have RD := Lib.hid (span_red n xss)
  have RR := Lib.hid O2.reads
  clear cx zx X1 R1 Y1 hb2 O2
  go_wp2_with fail
  obtain ⟨P, hP⟩ := RD.out
  refine (orthS _ (spanZ n xss) n P _ RR.out hP hn40).mono ?_
  clear hP
  rintro e w3 ⟨r3, rfl, O3, hb3⟩
  have R3 := hb3.keep R2
  have Y3 := Y2.trans hb3
  obtain ⟨A3, c3, e3, _, _⟩ := O3.shape
  subst e3
  have sz2 := R2.lt
  have sz3 := hb3.size
  obtain ⟨cr, fr, zr⟩ := R3.facts
  have Y4 := (Y3.setCell (p := ⟨w.heap.size + 1, 0, none⟩) (by dsimp only; omega) (.int .i64 (n : Int))).setCell (p := ⟨w.heap.size + 1, 1, none⟩) (by dsimp only; omega) (.slice A3 (orthZ n (spanZ n xss)).length c3)
  have O4 := ML.setFar (ML.setFar (ML.low O3 (show w.heap.size + 2 ≤ w2.heap.size by omega)) (p := ⟨w.heap.size + 1, 0, none⟩) (by dsimp only; omega) (.int .i64 (n : Int))) (p := ⟨w.heap.size + 1, 1, none⟩) (by dsimp only; omega) (.slice A3 (orthZ n (spanZ n xss)).length c3)
  go_wp2
  refine bodyPost_ret (v := .agg #[.int .i64 (n : Int), .slice A3 (orthZ n (spanZ n xss)).length c3]) (by simp [results, Try.results26, go_sem, cr]) rfl ⟨_, by rw [HF1.out], by rw [HF2.out]; exact ML.low O4 (by omega), Y4⟩
end Go.Proofs.Ytjaagabbbnokdaa
