/-
  IsValidNullKeys: contracts of the program's function and of the reference's. No condition.
-/
import Derived.Test.YtdhglociegpmaaaMat3
import Derived.Test.YtdhglociegpmaaaMani2
import Derived.Test.YtdhglociegpmaaaBq
namespace Go.Proofs.Ytdhglociegpmaaa
open Go.ChangeShapes Go.WideShapes Go.ChangeAt Go.RowKit
set_option linter.unusedVariables false
set_option maxRecDepth 100000

def keyB (b c : Int) (xs : List Int) : Bool := vecB xs && ((xs.length : Int) == wrap64 (b + c))
def nkB (a b c : Int) (xss : List (List Int)) : Bool := fmtB a b c && inB (xss.length : Int) 1 4 && xss.all (keyB b c)

set_option maxHeartbeats 1000000 in
theorem keyC (a b c : Int) (u v : Value) (q : Addr) (xs : List Int) (w : World) (hq : q.spot = none) (h1 : w.cell? ⟨q.block, q.off + 1, none⟩ = some (.int .i64 b)) (h2 : w.cell? ⟨q.block, q.off + 2, none⟩ = some (.int .i64 c)) (hv : RI w v xs) (hf : fmtB a b c = true) :
    Calls Try.prog 146 #[v, .pointer (some q)] w fun e w' => e = .returned (.bool (!(keyB b c xs))) ∧ w = w' := by
  obtain ⟨qb, qo, qs⟩ := q
  dsimp only at hq h1 h2
  subst hq
  obtain ⟨_, hb, hc⟩ := fmtB_facts hf
  have HW : Hid (wrap64 (b + c) = b + c) := by show _ = _; unfold wrap64; omega
  have HM : Hid (keyB b c xs = (vecB xs && ((xs.length : Int) == b + c))) := by show _ = _; unfold keyB; rw [HW.out]
  clear hf
  obtain ⟨A, cp, rfl, _, _, _⟩ := id hv
  go_enter Try.func146, Try.ntmps146
  go_wp2_with fail
  refine (vecI _ xs _ hv).mono ?_
  rintro e w1 ⟨rfl, rfl⟩
  cases q1 : vecB xs
  · go_wp2
    go_ret
    exact ⟨by rw [HM.out, q1]; rfl, rfl⟩
  cases q3 : ((xs.length : Int) == b + c)
  · have q3' : ((xs.length : Int) != b + c) = true := by simp only [bne, q3]; rfl
    have Q3 := Lib.hid q3
    have Q1 := Lib.hid q1
    clear q3 q1
    go_wp2
    go_ret
    exact ⟨by rw [HM.out, Q1.out, Q3.out]; rfl, rfl⟩
  · have q3' : ((xs.length : Int) != b + c) = false := by simp only [bne, q3]; rfl
    have Q3 := Lib.hid q3
    have Q1 := Lib.hid q1
    clear q3 q1
    go_wp2
    go_ret
    exact ⟨by rw [HM.out, Q1.out, Q3.out]; rfl, rfl⟩
set_option maxHeartbeats 1000000 in
theorem keyIdx (b c : Int) (v : Value) (q : Addr) (xss : List (List Int)) (w : World) (hv : RII w v xss)
    (hcall : ∀ (u : Value) (xs : List Int), RI w u xs → Calls Try.prog 146 #[u, .pointer (some q)] w fun e w' => e = .returned (.bool (!(keyB b c xs))) ∧ w = w') :
    Calls Try.prog 147 #[v, .func (.func 146) #[] #[.pointer (some q)]] w fun e w' => (∃ k : Int, e = .returned (.int .i64 k) ∧ decide (0 ≤ k) = !(xss.all (keyB b c))) ∧ w = w' := by
  obtain ⟨A, cp, rfl, h1, h2, hA⟩ := hv
  have HC := Lib.hid hcall
  clear hcall
  go_enter Try.func147, Try.ntmps147
  go_wp2
  go_loopg [8] xss.length (fun f i wr => ∃ k : Nat, k + f = xss.length ∧ i = .int .i64 k ∧ w = wr ∧ Hid ((xss.take k).all (keyB b c) = true))
  case atStart => exact ⟨0, by omega, rfl, rfl, by show _ = _; simp⟩
  case round =>
    obtain ⟨k, hk, rfl, rfl, HB⟩ := hrel
    have hk2 : k ≤ xss.length := by omega
    have HK := Lib.hid hk
    clear hk
    by_cases hlt : k < xss.length
    · obtain ⟨b1, o1, rfl, z1, hc1⟩ := hA (by omega)
      have hx : Hid (xss[k]? = some (xss[k]'hlt)) := List.getElem?_eq_getElem hlt
      obtain ⟨u, g1, ru⟩ := hc1 k _ hx.out
      generalize xss[k]'hlt = xs at *
      clear hc1 hA
      have i0 : (0 : Int) ≤ (k : Int) := by omega
      have i1 : (k : Int) < (xss.length : Int) := by omega
      go_wp2_with fail
      refine (HC.out u xs ru).mono ?_
      rintro e w1 ⟨rfl, rfl⟩
      cases hq : keyB b c xs
      · have HF := Lib.hid (all_fail (p := keyB b c) hx.out hq)
        clear hq
        go_wp2
        go_ret
        exact ⟨⟨(k : Int), rfl, by rw [HF.out]; simp⟩, rfl⟩
      · have HF := Lib.hid (all_step (p := keyB b c) hx.out HB.out hq)
        clear hq
        go_wp2
        go_roundg (xss.length - (k + 1))
        case measure => have := HK.out; omega
        case rel => exact ⟨k + 1, by omega, by go_num, rfl, HF⟩
    · obtain rfl : k = xss.length := by omega
      have i1 : ¬ (xss.length : Int) < (xss.length : Int) := by omega
      have HF := Lib.hid (all_end HB.out)
      go_wp2
      go_ret
      exact ⟨⟨-1, rfl, by rw [HF.out]; rfl⟩, rfl⟩
set_option maxHeartbeats 400000 in
theorem keyCont (b c : Int) (v : Value) (q : Addr) (xss : List (List Int)) (w : World) (hv : RII w v xss)
    (hcall : ∀ (u : Value) (xs : List Int), RI w u xs → Calls Try.prog 146 #[u, .pointer (some q)] w fun e w' => e = .returned (.bool (!(keyB b c xs))) ∧ w = w') :
    Calls Try.prog 106 #[v, .func (.func 146) #[] #[.pointer (some q)]] w fun e w' => e = .returned (.bool (!(xss.all (keyB b c)))) ∧ w = w' := by
  have HC := Lib.hid hcall
  clear hcall
  go_enter Try.func106, Try.ntmps106
  go_wp2_with fail
  refine (keyIdx b c v q xss _ hv HC.out).mono ?_
  rintro e w1 ⟨⟨k, rfl, hk⟩, rfl⟩
  go_wp2
  go_ret
  exact ⟨by first | rfl | simp [hk], rfl⟩
set_option maxHeartbeats 1000000 in
theorem nkI (a b c : Int) (v : Value) (xss : List (List Int)) (w : World) (hv : RII w v xss) :
    Calls Try.prog 103 #[.agg #[.int .i64 a, .int .i64 b, .int .i64 c, v]] w fun e w' => e = .returned (.bool (nkB a b c xss)) ∧ Bel w w' := by
  have HM : Hid (nkB a b c xss = (fmtB a b c && inB (xss.length : Int) 1 4 && xss.all (keyB b c))) := rfl
  have hmf : ∀ (fn : Fn) (first cap : Array Value) (w : World), (Instr.makeFunc fn first cap).run Try.prog w = .ok (.func fn first cap) w := fun _ _ _ _ => rfl
  obtain ⟨A, cp, rfl, h1, h2, hA⟩ := id hv
  have Y : Bel w (w.alloc (.cells #[.int .i64 a, .int .i64 b, .int .i64 c, .slice A xss.length cp] 66)) := (Bel.refl _).alloc _
  have X := Blk.new w 66 #[.int .i64 a, .int .i64 b, .int .i64 c, .slice A xss.length cp]
  go_enter Try.func103, Try.ntmps103
  go_wp2_with fail
  refine (fmtI _ _ _ _).mono ?_
  rintro e w1 ⟨rfl, rfl⟩
  cases q1 : fmtB a b c
  · go_wp2
    go_ret
    exact ⟨by rw [HM.out, q1]; rfl, Y⟩
  go_wp2_with fail
  refine (inRB _ _ _ _).mono ?_
  rintro e w1 ⟨rfl, rfl⟩
  cases q2 : inB (xss.length : Int) 1 4
  · go_wp2
    go_ret
    exact ⟨by rw [HM.out, q1, q2]; rfl, Y⟩
  go_wp2_with fail
  refine (keyCont b c _ _ xss _ (hv.keep Y) (fun u xs hu => keyC a b c u u _ xs _ rfl (X.facts.1 1) (X.facts.1 2) hu q1)).mono ?_
  rintro e w1 ⟨rfl, rfl⟩
  go_wp2
  go_ret
  exact ⟨by rw [HM.out, q1, q2]; simp, Y⟩
set_option maxHeartbeats 1000000 in
theorem nkS (a b c : Int) (v : Value) (xss : List (List Int)) (w : World) (hv : RII w v xss) :
    Calls Try.prog 98 #[.agg #[.int .i64 a, .int .i64 b, .int .i64 c, v]] w fun e w' => e = .returned (.bool (nkB a b c xss)) ∧ Bel w w' := by
  have HM : Hid (nkB a b c xss = (fmtB a b c && inB (xss.length : Int) 1 4 && xss.all (keyB b c))) := rfl
  obtain ⟨A, cp, rfl, h1, h2, hA⟩ := id hv
  have HKB : Hid (∀ xs, keyB b c xs = (vecB xs && ((xs.length : Int) == wrap64 (b + c)))) := fun _ => rfl
  have X := Blk.new w 66 #[.int .i64 a, .int .i64 b, .int .i64 c, .slice A xss.length cp]
  have Y : Bel w (w.alloc (.cells #[.int .i64 a, .int .i64 b, .int .i64 c, .slice A xss.length cp] 66)) := (Bel.refl _).alloc _
  go_enter Try.func98, Try.ntmps98
  go_wp2
  go_loopg [3] xss.length (fun f i wr => ∃ k : Nat, k + f = xss.length ∧ i = .int .i64 k ∧ Blk wr w.heap.size 66 #[.int .i64 a, .int .i64 b, .int .i64 c, .slice A xss.length cp] ∧ Bel w wr ∧ Hid ((xss.take k).all (keyB b c) = true))
  case atStart => exact ⟨0, by omega, rfl, X, Y, by show _ = _; simp⟩
  case round =>
    clear X Y
    obtain ⟨k, hk, rfl, X, Y, HB⟩ := hrel
    have hk2 : k ≤ xss.length := by omega
    have HK := Lib.hid hk
    clear hk
    obtain ⟨cc, _, zx⟩ := X.facts
    have r1 : wr.cell? ⟨w.heap.size, 1, none⟩ = some (.int .i64 b) := cc 1
    have r2 : wr.cell? ⟨w.heap.size, 2, none⟩ = some (.int .i64 c) := cc 2
    have r3 : wr.cell? ⟨w.heap.size, 3, none⟩ = some (.slice A xss.length cp) := cc 3
    have r0 : wr.cell? ⟨w.heap.size, 0, none⟩ = some (.int .i64 a) := cc 0
    clear cc
    by_cases hlt : k < xss.length
    · obtain ⟨b1, o1, rfl, z1, hc1⟩ := hA (by omega)
      have hx : Hid (xss[k]? = some (xss[k]'hlt)) := List.getElem?_eq_getElem hlt
      obtain ⟨u, g1, ru⟩ := hc1 k _ hx.out
      replace g1 := Y.cell1 z1 g1
      have zz := Nat.lt_of_lt_of_le z1 Y.size
      generalize xss[k]'hlt = xs at *
      clear hc1 hA
      obtain ⟨Au, cu, rfl, _, _, _⟩ := id ru
      have i0 : (0 : Int) ≤ (k : Int) := by omega
      have i1 : (k : Int) < (xss.length : Int) := by omega
      have qq1 := Bw.cell r1 zx
      have qq2 := Bw.cell r2 zx
      have qq3 := Bw.cell r3 zx
      have qq4 := Bw.cell g1 zz
      have VC := Lib.hid (fun (W : World) (h : Bel wr W) => vecS _ xs W ((ru.keep Y).keep h))
      cases q1 : vecB xs
      · have HF := Lib.hid (all_fail (p := keyB b c) hx.out (by rw [HKB.out, q1]; rfl))
        rw [q1] at VC
        clear q1
        go_wp2
        refine wp_region_bel (by kernel_rfl) (by kernel_rfl) ?_
        repeat (first | go_big_quiet_step (first | (go_at_call 40; exact belQ_same (VC.out _ (Bw.bel _)))) | quiet_step (first | (go_at_call 40; exact belQ_same (VC.out _ (Bw.bel _)))))
        refine wpQuiet_nil ?_
        rintro _ ⟨⟨w3, hb3⟩, rfl⟩
        clear qq1 qq2 qq3 qq4
        go_wp2
        go_ret
        exact ⟨by rw [HM.out, HF.out]; simp, Y.trans hb3⟩
      · rw [q1] at VC
        cases q3 : ((xs.length : Int) == wrap64 (b + c))
        · have q3' : ((xs.length : Int) != wrap64 (b + c)) = true := by simp only [bne, q3]; rfl
          have HF := Lib.hid (all_fail (p := keyB b c) hx.out (by rw [HKB.out, q1, q3]; rfl))
          clear q1 q3
          go_wp2
          refine wp_region_bel (by kernel_rfl) (by kernel_rfl) ?_
          repeat (first | go_big_quiet_step (first | (go_at_call 40; exact belQ_same (VC.out _ (Bw.bel _)))) | quiet_step (first | (go_at_call 40; exact belQ_same (VC.out _ (Bw.bel _)))))
          refine wpQuiet_nil ?_
          rintro _ ⟨⟨w3, hb3⟩, rfl⟩
          clear qq1 qq2 qq3 qq4
          go_wp2
          go_ret
          exact ⟨by rw [HM.out, HF.out]; simp, Y.trans hb3⟩
        · have q3' : ((xs.length : Int) != wrap64 (b + c)) = false := by simp only [bne, q3]; rfl
          have HF := Lib.hid (all_step (p := keyB b c) hx.out HB.out (by rw [HKB.out, q1, q3]; rfl))
          clear q1 q3
          go_wp2
          refine wp_region_bel (by kernel_rfl) (by kernel_rfl) ?_
          repeat (first | go_big_quiet_step (first | (go_at_call 40; exact belQ_same (VC.out _ (Bw.bel _)))) | quiet_step (first | (go_at_call 40; exact belQ_same (VC.out _ (Bw.bel _)))))
          refine wpQuiet_nil ?_
          rintro _ ⟨⟨w3, hb3⟩, rfl⟩
          clear qq1 qq2 qq3 qq4
          go_wp2
          go_roundg (xss.length - (k + 1))
          case measure => have := HK.out; omega
          case rel => exact ⟨k + 1, by omega, by go_num, hb3.keep X, Y.trans hb3, HF⟩
    · obtain rfl : k = xss.length := by omega
      have i1 : ¬ (xss.length : Int) < (xss.length : Int) := by omega
      have HF := Lib.hid (all_end HB.out)
      go_wp2_with fail
      refine (fmtS _ _ _ _).mono ?_
      rintro e w1 ⟨rfl, rfl⟩
      cases q1 : fmtB a b c
      · go_wp2
        go_ret
        exact ⟨by rw [HM.out, q1]; rfl, Y⟩
      go_wp2_with fail
      refine (l1InB _ _ _ _).mono ?_
      rintro e w1 ⟨rfl, rfl⟩
      go_wp2
      go_ret
      exact ⟨by rw [HM.out, q1, HF.out]; simp, Y⟩
end Go.Proofs.Ytdhglociegpmaaa
