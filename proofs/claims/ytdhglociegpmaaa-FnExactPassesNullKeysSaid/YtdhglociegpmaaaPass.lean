/-
  PassesNullKeys: contracts of the program's function and of the reference's. No condition.
-/
import Derived.Test.YtdhglociegpmaaaNkV
import Derived.Test.YtdhglociegpmaaaVh
import Derived.Test.YtdhglociegpmaaaDot
import Derived.Test.YtdhglociegpmaaaRow1
import Derived.Test.YtdhglociegpmaaaRow2
import Derived.Deep.RegionHeld3
namespace Go.Proofs.Ytdhglociegpmaaa
open Go.ChangeShapes Go.WideShapes Go.ChangeAt Go.RowKit
set_option linter.unusedVariables false
set_option maxRecDepth 100000

def orthB (row xs : List Int) : Bool := dotZ xs row == 0
def passB (a b c g : Int) (xss : List (List Int)) (co pa : List Int) : Bool := nkB a b c xss && pktB g b c co pa && !(g != a) && xss.all (orthB (co ++ pa))
theorem pass_facts {a b c g : Int} {xss : List (List Int)} {co pa : List Int} (h1 : nkB a b c xss = true) (h2 : pktB g b c co pa = true) :
    vecB (co ++ pa) = true ∧ (∀ xs ∈ xss, vecB xs = true ∧ xs.length = (co ++ pa).length) ∧ (co ++ pa).length ≤ 24 ∧ xss.length ≤ 4 := by
  simp only [nkB, pktB, Bool.and_eq_true] at h1 h2
  obtain ⟨⟨n1, n2⟩, n3⟩ := h1
  obtain ⟨⟨⟨⟨p1, p2⟩, p3⟩, p4⟩, p5⟩ := h2
  obtain ⟨f1, f2, f3⟩ := fmtB_facts n1
  have e1 : (co.length : Int) = b := by simpa using p2
  have e2 : (pa.length : Int) = c := by simpa using p3
  have v1 := vecB_facts p4
  have v2 := vecB_facts p5
  have hl : (co ++ pa).length ≤ 24 := by simp; omega
  refine ⟨?_, ?_, hl, ?_⟩
  · unfold vecB
    rw [Bool.and_eq_true]
    refine ⟨?_, by simp; omega⟩
    rw [List.all_eq_true]
    intro x hx
    rcases List.mem_append.1 hx with h | h
    · exact elB_yes (v1.1 x h)
    · exact elB_yes (v2.1 x h)
  · intro xs hxs
    have hk := List.all_eq_true.1 n3 xs hxs
    simp only [keyB, Bool.and_eq_true] at hk
    refine ⟨hk.1, ?_⟩
    have h4 : (xs.length : Int) = wrap64 (b + c) := by simpa using hk.2
    have h5 : wrap64 (b + c) = b + c := by unfold wrap64; omega
    rw [h5] at h4
    simp
    omega
  · have := inB_facts n2
    omega

set_option maxHeartbeats 1000000 in
theorem passC (u v : Value) (q : Addr) (xs row : List Int) (w : World) (hq : q.spot = none) (h1 : w.cell? ⟨q.block, q.off, none⟩ = some u) (hu : RI w u row) (hv : RI w v xs) (hl : xs.length ≤ row.length) (hn : xs.length ≤ 40) (hx : ∀ x ∈ xs, 0 ≤ x ∧ x ≤ 1018) (hy : ∀ x ∈ row, 0 ≤ x ∧ x ≤ 1018) :
    Calls Try.prog 107 #[v, .pointer (some q)] w fun e w' => e = .returned (.bool (!(orthB row xs))) ∧ w = w' := by
  obtain ⟨qb, qo, qs⟩ := q
  dsimp only at hq h1
  subst hq
  have HC := Lib.hid (dotI v u xs row w hv hu hl hn hx hy)
  have HM : Hid ((!(orthB row xs)) = (dotZ xs row != 0)) := rfl
  clear hx hy
  generalize dotZ xs row = z at *
  go_enter Try.func107, Try.ntmps107
  go_wp2_with fail
  refine HC.out.mono ?_
  rintro e w1 ⟨rfl, rfl⟩
  go_wp2
  go_ret
  exact ⟨by rw [HM.out]; rfl, rfl⟩
set_option maxHeartbeats 1000000 in
theorem passIdx (row : List Int) (v : Value) (q : Addr) (xss : List (List Int)) (w : World) (hv : RII w v xss)
    (hcall : ∀ (u : Value) (xs : List Int), xs ∈ xss → RI w u xs → Calls Try.prog 107 #[u, .pointer (some q)] w fun e w' => e = .returned (.bool (!(orthB row xs))) ∧ w = w') :
    Calls Try.prog 147 #[v, .func (.func 107) #[] #[.pointer (some q)]] w fun e w' => (∃ k : Int, e = .returned (.int .i64 k) ∧ decide (0 ≤ k) = !(xss.all (orthB row))) ∧ w = w' := by
  obtain ⟨A, cp, rfl, h1, h2, hA⟩ := hv
  have HC := Lib.hid hcall
  clear hcall
  go_enter Try.func147, Try.ntmps147
  go_wp2
  go_loopg [8] xss.length (fun f i wr => ∃ k : Nat, k + f = xss.length ∧ i = .int .i64 k ∧ w = wr ∧ Hid ((xss.take k).all (orthB row) = true))
  case atStart => exact ⟨0, by omega, rfl, rfl, by show _ = _; simp⟩
  case round =>
    obtain ⟨k, hk, rfl, rfl, HB⟩ := hrel
    have hk2 : k ≤ xss.length := by omega
    have HK := Lib.hid hk
    clear hk
    by_cases hlt : k < xss.length
    · obtain ⟨b1, o1, rfl, z1, hc1⟩ := hA (by omega)
      have hx : Hid (xss[k]? = some (xss[k]'hlt)) := List.getElem?_eq_getElem hlt
      obtain ⟨u, g1, ru⟩ := hc1 k _ hx.out
      generalize xss[k]'hlt = xs at *
      clear hc1 hA
      have i0 : (0 : Int) ≤ (k : Int) := by omega
      have i1 : (k : Int) < (xss.length : Int) := by omega
      go_wp2_with fail
      refine (HC.out u xs (List.mem_of_getElem? hx.out) ru).mono ?_
      rintro e w1 ⟨rfl, rfl⟩
      cases hq : orthB row xs
      · have HF := Lib.hid (all_fail (p := orthB row) hx.out hq)
        clear hq
        go_wp2
        go_ret
        exact ⟨⟨(k : Int), rfl, by rw [HF.out]; simp⟩, rfl⟩
      · have HF := Lib.hid (all_step (p := orthB row) hx.out HB.out hq)
        clear hq
        go_wp2
        go_roundg (xss.length - (k + 1))
        case measure => have := HK.out; omega
        case rel => exact ⟨k + 1, by omega, by go_num, rfl, HF⟩
    · obtain rfl : k = xss.length := by omega
      have i1 : ¬ (xss.length : Int) < (xss.length : Int) := by omega
      have HF := Lib.hid (all_end HB.out)
      go_wp2
      go_ret
      exact ⟨⟨-1, rfl, by rw [HF.out]; rfl⟩, rfl⟩
set_option maxHeartbeats 400000 in
theorem passCont (row : List Int) (v : Value) (q : Addr) (xss : List (List Int)) (w : World) (hv : RII w v xss)
    (hcall : ∀ (u : Value) (xs : List Int), xs ∈ xss → RI w u xs → Calls Try.prog 107 #[u, .pointer (some q)] w fun e w' => e = .returned (.bool (!(orthB row xs))) ∧ w = w') :
    Calls Try.prog 106 #[v, .func (.func 107) #[] #[.pointer (some q)]] w fun e w' => e = .returned (.bool (!(xss.all (orthB row)))) ∧ w = w' := by
  have HC := Lib.hid hcall
  clear hcall
  go_enter Try.func106, Try.ntmps106
  go_wp2_with fail
  refine (passIdx row v q xss _ hv HC.out).mono ?_
  rintro e w1 ⟨⟨k, rfl, hk⟩, rfl⟩
  go_wp2
  go_ret
  exact ⟨by first | rfl | simp [hk], rfl⟩
set_option maxHeartbeats 2000000 in
theorem passI (a b c g : Int) (v vc vp : Value) (xss : List (List Int)) (co pa : List Int) (w : World) (hv : RII w v xss) (hc : RI w vc co) (hp : RI w vp pa) :
    Calls Try.prog 46 #[.agg #[.int .i64 a, .int .i64 b, .int .i64 c, v], .agg #[.int .i64 g, vc, vp]] w fun e w' => e = .returned (.bool (passB a b c g xss co pa)) ∧ Bel w w' := by
  have HM : Hid (passB a b c g xss co pa = (nkB a b c xss && pktB g b c co pa && !(g != a) && xss.all (orthB (co ++ pa)))) := rfl
  have hmf : ∀ (fn : Fn) (first cap : Array Value) (w : World), (Instr.makeFunc fn first cap).run Try.prog w = .ok (.func fn first cap) w := fun _ _ _ _ => rfl
  have X0 := (Blk.new w 66 #[.int .i64 a, .int .i64 b, .int .i64 c, v]).alloc (.cells #[.int .i64 g, vc, vp] 50)
  have X1 := Blk.new2 w (.cells #[.int .i64 a, .int .i64 b, .int .i64 c, v] 66) 50 #[.int .i64 g, vc, vp]
  have Y : Bel w ((w.alloc (.cells #[.int .i64 a, .int .i64 b, .int .i64 c, v] 66)).alloc (.cells #[.int .i64 g, vc, vp] 50)) := ((Bel.refl _).alloc _).alloc _
  go_enter Try.func46, Try.ntmps46
  go_wp2_with fail
  refine (nkI a b c _ xss _ (hv.keep Y)).mono ?_
  rintro e w1 ⟨rfl, hb1⟩
  have X0_1 := hb1.keep X0
  have X1_1 := hb1.keep X1
  have Y1 := Y.trans hb1
  clear hb1
  obtain ⟨cx0, _, _⟩ := X0_1.facts
  obtain ⟨cx1, _, _⟩ := X1_1.facts
  cases q1 : nkB a b c xss
  · rw [q1] at HM
    go_wp2
    go_ret
    exact ⟨by rw [HM.out]; rfl, Y1⟩
  rw [q1] at HM
  have Q1 := Lib.hid q1
  clear q1
  go_wp2_with fail
  refine (pktI g b c _ _ co pa _ (hc.keep Y1) (hp.keep Y1)).mono ?_
  rintro e w2 ⟨rfl, hb2⟩
  have X0_2 := hb2.keep X0_1
  have X1_2 := hb2.keep X1_1
  have Y2 := Y1.trans hb2
  clear hb2 cx0 cx1
  obtain ⟨cx0, _, _⟩ := X0_2.facts
  obtain ⟨cx1, _, _⟩ := X1_2.facts
  cases q2 : pktB g b c co pa
  · rw [q2] at HM
    go_wp2
    go_ret
    exact ⟨by rw [HM.out]; rfl, Y2⟩
  rw [q2] at HM
  have PF := Lib.hid (pass_facts Q1.out q2)
  clear q2 Q1
  cases q3 : (g != a)
  case true =>
    rw [q3] at HM
    go_wp2
    go_ret
    exact ⟨by rw [HM.out]; rfl, Y2⟩
  rw [q3] at HM
  go_wp2_with fail
  refine (rowI g _ _ co pa _ (hc.keep Y2) (hp.keep Y2) (by have := PF.out.2.2.1; simp at this; omega)).mono ?_
  rintro e w3 ⟨r, rfl, hr, hb3⟩
  have X0_3 := hb3.keep X0_2
  have Y3 := Y2.trans hb3
  obtain ⟨Ar, cr, er, _, _, _⟩ := hr.reads
  subst er
  have hr' : RI w3 (.slice Ar (co.length + pa.length) cr) (co ++ pa) := by have h9 := hr.reads; rwa [List.length_append] at h9
  have Zr := Blk.new w3 22 #[.slice Ar (co.length + pa.length) cr]
  have X0_4 := X0_3.alloc (.cells #[.slice Ar (co.length + pa.length) cr] 22)
  have B4 : Bel w3 (w3.alloc (.cells #[.slice Ar (co.length + pa.length) cr] 22)) := (Bel.refl _).alloc _
  have Y4 := Y3.trans B4
  clear cx0 cx1 q3
  obtain ⟨cx0, _, _⟩ := X0_4.facts
  have cxr : (w3.alloc (.cells #[.slice Ar (co.length + pa.length) cr] 22)).cell? ⟨w3.heap.size, 0, none⟩ = some (.slice Ar (co.length + pa.length) cr) := Zr.facts.1 0
  go_wp2_with fail
  refine (passCont (co ++ pa) _ _ xss _ (hv.keep Y4) (fun u xs hm hu => passC _ u ⟨w3.heap.size, 0, none⟩ xs (co ++ pa) _ rfl cxr (hr'.keep B4) hu (Nat.le_of_eq (PF.out.2.1 xs hm).2) (by have := PF.out.2.2.1; have := (PF.out.2.1 xs hm).2; omega) (vecB_facts (PF.out.2.1 xs hm).1).1 (vecB_facts PF.out.1).1)).mono ?_
  rintro e w5 ⟨rfl, rfl⟩
  go_wp2
  go_ret
  exact ⟨by rw [HM.out]; simp, Y4⟩
set_option maxHeartbeats 2000000 in
theorem passS (a b c g : Int) (v vc vp : Value) (xss : List (List Int)) (co pa : List Int) (w : World) (hv : RII w v xss) (hc : RI w vc co) (hp : RI w vp pa) :
    Calls Try.prog 44 #[.agg #[.int .i64 a, .int .i64 b, .int .i64 c, v], .agg #[.int .i64 g, vc, vp]] w fun e w' => e = .returned (.bool (passB a b c g xss co pa)) ∧ Bel w w' := by
  have HM : Hid (passB a b c g xss co pa = (nkB a b c xss && pktB g b c co pa && !(g != a) && xss.all (orthB (co ++ pa)))) := rfl
  obtain ⟨A, cp, rfl, _, _, _⟩ := id hv
  have X0 := (Blk.new w 66 #[.int .i64 a, .int .i64 b, .int .i64 c, .slice A xss.length cp]).alloc (.cells #[.int .i64 g, vc, vp] 50)
  have X1 := Blk.new2 w (.cells #[.int .i64 a, .int .i64 b, .int .i64 c, .slice A xss.length cp] 66) 50 #[.int .i64 g, vc, vp]
  have Y : Bel w ((w.alloc (.cells #[.int .i64 a, .int .i64 b, .int .i64 c, .slice A xss.length cp] 66)).alloc (.cells #[.int .i64 g, vc, vp] 50)) := ((Bel.refl _).alloc _).alloc _
  go_enter Try.func44, Try.ntmps44
  go_wp2_with fail
  refine (nkS a b c _ xss _ (hv.keep Y)).mono ?_
  rintro e w1 ⟨rfl, hb1⟩
  have X0_1 := hb1.keep X0
  have X1_1 := hb1.keep X1
  have Y1 := Y.trans hb1
  clear hb1
  obtain ⟨cx0, _, _⟩ := X0_1.facts
  obtain ⟨cx1, _, _⟩ := X1_1.facts
  cases q1 : nkB a b c xss
  · rw [q1] at HM
    go_wp2
    go_ret
    exact ⟨by rw [HM.out]; rfl, Y1⟩
  rw [q1] at HM
  have Q1 := Lib.hid q1
  clear q1
  go_wp2_with fail
  refine (pktS g b c _ _ co pa _ (hc.keep Y1) (hp.keep Y1)).mono ?_
  rintro e w2 ⟨rfl, hb2⟩
  have X0_2 := hb2.keep X0_1
  have X1_2 := hb2.keep X1_1
  have Y2 := Y1.trans hb2
  clear hb2 cx0 cx1
  obtain ⟨cx0, _, _⟩ := X0_2.facts
  obtain ⟨cx1, _, _⟩ := X1_2.facts
  cases q2 : pktB g b c co pa
  · rw [q2] at HM
    go_wp2
    go_ret
    exact ⟨by rw [HM.out]; rfl, Y2⟩
  rw [q2] at HM
  have PF := Lib.hid (pass_facts Q1.out q2)
  clear q2 Q1
  cases q3 : (g != a)
  case true =>
    rw [q3] at HM
    go_wp2
    go_ret
    exact ⟨by rw [HM.out]; rfl, Y2⟩
  rw [q3] at HM
  go_wp2
  clear q3 cx0 cx1
  have HX0 := Lib.hid X0_2
  have HX1 := Lib.hid X1_2
  have HY2 := Lib.hid Y2
  have HR := Lib.hid (hv.keep Y2)
  have HC := Lib.hid (hc.keep Y2)
  have HP := Lib.hid (hp.keep Y2)
  clear X0_2 X1_2 Y2 X0_1 X1_1 Y1 X0 X1 Y hv hc hp
  go_loopg [5] xss.length (fun f i wr => ∃ k : Nat, k + f = xss.length ∧ i = .int .i64 k ∧ Bel w2 wr ∧ Hid ((xss.take k).all (orthB (co ++ pa)) = true))
  case atStart => exact ⟨0, by omega, rfl, Bel.refl _, by show _ = _; simp⟩
  case round =>
    obtain ⟨k, hk, rfl, HBl, HB⟩ := hrel
    have hk2 : k ≤ xss.length := by omega
    have HK := Lib.hid hk
    clear hk
    obtain ⟨cx0, _, zx0⟩ := (HBl.keep HX0.out).facts
    obtain ⟨cx1, _, zx1⟩ := (HBl.keep HX1.out).facts
    have rv := cx0 3
    simp at rv
    by_cases hlt : k < xss.length
    · obtain ⟨A', cp', eA, _, _, hA⟩ := HR.out
      obtain ⟨b1, o1, e1, z1, hc1⟩ := hA (by omega)
      injection eA with eA1 eA2 eA3
      subst eA1 eA3
      subst e1
      have hx : Hid (xss[k]? = some (xss[k]'hlt)) := List.getElem?_eq_getElem hlt
      obtain ⟨u, g1, ru⟩ := hc1 k _ hx.out
      have hm : (xss[k]'hlt) ∈ xss := List.getElem_mem hlt
      generalize xss[k]'hlt = xs at *
      have g1' := (HBl.cells.1 _ _ z1).trans g1
      have z1' := Nat.lt_of_lt_of_le z1 HBl.size
      have HPB : Hid (pairB (co ++ pa) xs = true) := by
        show _ = _
        have f1 := PF.out.1
        have f2 := PF.out.2.1 xs hm
        unfold pairB
        rw [f1, f2.1, f2.2]
        simp
      have HO : Hid (orthB (co ++ pa) xs = (dotZ (co ++ pa) xs == 0)) := by
        show _ = _
        unfold orthB
        rw [dotZ_comm (PF.out.2.1 xs hm).2]
      have r10 : wr.cell? ⟨w.heap.size + 1, 0, none⟩ = some (.int .i64 g) := cx1 0
      have r11 : wr.cell? ⟨w.heap.size + 1, 1, none⟩ = some vc := cx1 1
      have r12 : wr.cell? ⟨w.heap.size + 1, 2, none⟩ = some vp := cx1 2
      clear hc1 hA g1 cx0 cx1
      have i0 : (0 : Int) ≤ (k : Int) := by omega
      have i1 : (k : Int) < (xss.length : Int) := by omega
      have Yd := HBl.drew
      go_wp2_with fail
      go_region_held3 (fun w' => w'.cell? ⟨w.heap.size, 3, none⟩ = some (.slice (some ⟨b1, o1, none⟩) xss.length cp) ∧ w'.cell? ⟨w.heap.size + 1, 0, none⟩ = some (.int .i64 g) ∧ w'.cell? ⟨w.heap.size + 1, 1, none⟩ = some vc ∧ w'.cell? ⟨w.heap.size + 1, 2, none⟩ = some vp ∧ w'.cell? ⟨b1, o1 + k, none⟩ = some u) (first | exact ⟨hbT.cell1 zx0 rv, hbT.cell1 zx1 r10, hbT.cell1 zx1 r11, hbT.cell1 zx1 r12, hbT.cell1 z1' g1'⟩ | exact ⟨hbE.cell1 (Nat.lt_of_lt_of_le zx0 hbT.size) (hbT.cell1 zx0 rv), hbE.cell1 (Nat.lt_of_lt_of_le zx1 hbT.size) (hbT.cell1 zx1 r10), hbE.cell1 (Nat.lt_of_lt_of_le zx1 hbT.size) (hbT.cell1 zx1 r11), hbE.cell1 (Nat.lt_of_lt_of_le zx1 hbT.size) (hbT.cell1 zx1 r12), hbE.cell1 (Nat.lt_of_lt_of_le z1' hbT.size) (hbT.cell1 z1' g1')⟩ | go_keep) (first | (go_at_call 101; ((with_reducible refine (rowS g _ _ co pa _ (by exact HC.out.keep Yd) (by exact HP.out.keep Yd) (by have := PF.out.2.2.1; simp at this; omega)).mono ?_); rintro e wT ⟨r, rfl, hr, hbT⟩)) | (go_at_call 100; ((with_reducible refine (dotS _ _ (co ++ pa) xs _ (by exact hr.reads) (by exact (ru.keep Yd).keep hbT) HPB.out).mono ?_); rintro e wE ⟨rfl, hbE⟩)))
      have hbR := HBl.trans ((((Bel.refl wr).drew).trans hbT).trans hbE)
      clear hbT hbE rv r10 r11 r12 g1'
      cases hq : orthB (co ++ pa) xs
      · have hq' : (dotZ (co ++ pa) xs != 0) = true := by rw [HO.out] at hq; simp only [bne, hq]; rfl
        have HF := Lib.hid (all_fail (p := orthB (co ++ pa)) hx.out hq)
        clear hq
        go_wp2
        go_ret
        exact ⟨by rw [HM.out, HF.out]; rfl, HY2.out.trans hbR⟩
      · have hq' : (dotZ (co ++ pa) xs != 0) = false := by rw [HO.out] at hq; simp only [bne, hq]; rfl
        have HF := Lib.hid (all_step (p := orthB (co ++ pa)) hx.out HB.out hq)
        clear hq
        go_wp2
        go_roundg (xss.length - (k + 1))
        case measure => have := HK.out; omega
        case rel => exact ⟨k + 1, by omega, by go_num, hbR, HF⟩
    · obtain rfl : k = xss.length := by omega
      have i1 : ¬ (xss.length : Int) < (xss.length : Int) := by omega
      have HF := Lib.hid (all_end HB.out)
      go_wp2
      go_ret
      exact ⟨by rw [HM.out, HF.out]; rfl, HY2.out.trans HBl⟩
end Go.Proofs.Ytdhglociegpmaaa
