/-
  Contracts of EqualPackets and EqualRecoders, of the program and of the reference. No condition.
-/
import Derived.Test.YtchodlfkoafeaaaEqI
import Derived.Test.YtchodlfkoafeaaaPks1
import Derived.Test.YtchodlfkoafeaaaBq
namespace Go.Proofs.Ytchodlfkoafeaaa
open Go.ChangeShapes Go.WideShapes Go.ChangeAt Go.RowKit
set_option linter.unusedVariables false
set_option maxRecDepth 100000

def eqPkB (p q : Pk) : Bool := (p.1 == q.1) && decide (p.2.1 = q.2.1) && decide (p.2.2 = q.2.2)
theorem eqPkB_iff (p q : Pk) : eqPkB p q = decide (p = q) := by
  obtain ⟨a, x, y⟩ := p
  obtain ⟨b, z, t⟩ := q
  unfold eqPkB
  by_cases h1 : a = b
  · by_cases h2 : x = z
    · by_cases h3 : y = t
      · simp [h1, h2, h3]
      · simp [h1, h2, h3]
    · simp [h1, h2]
  · simp [h1]
theorem pks_step {α : Type} {xs ys : List α} {k : Nat} (h : xs.take k = ys.take k) (e : xs[k]? = ys[k]?) : xs.take (k + 1) = ys.take (k + 1) := by
  rw [List.take_add_one, List.take_add_one, h, e]

set_option maxHeartbeats 1000000 in
theorem eqPkI (p q : Pk) (v1 u1 v2 u2 : Value) (w : World) (h1 : RI w v1 p.2.1) (h2 : RI w u1 p.2.2) (h3 : RI w v2 q.2.1) (h4 : RI w u2 q.2.2) :
    Calls Try.prog 44 #[.agg #[.int .i64 p.1, v1, u1], .agg #[.int .i64 q.1, v2, u2]] w fun e w' => e = .returned (.bool (eqPkB p q)) ∧ Bel w w' := by
  obtain ⟨a, x1, y1⟩ := p
  obtain ⟨b, x2, y2⟩ := q
  dsimp only at *
  have HB : Hid (eqPkB (a, x1, y1) (b, x2, y2) = ((a == b) && decide (x1 = x2) && decide (y1 = y2))) := rfl
  have X := (Blk.new w 74 #[.int .i64 a, v1, u1]).alloc (.cells #[.int .i64 b, v2, u2] 74)
  have Z := Blk.new2 w (.cells #[.int .i64 a, v1, u1] 74) 74 #[.int .i64 b, v2, u2]
  have Y : Bel w ((w.alloc (.cells #[.int .i64 a, v1, u1] 74)).alloc (.cells #[.int .i64 b, v2, u2] 74)) := ((Bel.refl _).alloc _).alloc _
  cases q0 : (a == b)
  · have HF : Hid (eqPkB (a, x1, y1) (b, x2, y2) = false) := Lib.hid (by rw [HB.out, q0]; rfl)
    go_enter Try.func44, Try.ntmps44
    go_wp2
    go_ret
    exact ⟨by rw [HF.out]; rfl, Y⟩
  go_enter Try.func44, Try.ntmps44
  go_wp2_with fail
  refine (sEqI v1 v2 x1 x2 _ (h1.keep Y) (h3.keep Y)).mono ?_
  rintro e w1 ⟨rfl, hb1⟩
  have X1 := hb1.keep X
  have Z1 := hb1.keep Z
  have Y1 := Y.trans hb1
  obtain ⟨cx, _, zx⟩ := X1.facts
  obtain ⟨cz, _, zz⟩ := Z1.facts
  cases q1 : decide (x1 = x2)
  · have HF : Hid (eqPkB (a, x1, y1) (b, x2, y2) = false) := Lib.hid (by rw [HB.out, q1]; simp)
    go_wp2
    go_ret
    exact ⟨by rw [HF.out]; rfl, Y1⟩
  go_wp2_with fail
  refine (sEqI u1 u2 y1 y2 _ (h2.keep Y1) (h4.keep Y1)).mono ?_
  rintro e w2 ⟨rfl, hb2⟩
  have HF : Hid (eqPkB (a, x1, y1) (b, x2, y2) = decide (y1 = y2)) := Lib.hid (by rw [HB.out, q0, q1]; rfl)
  go_wp2
  go_ret
  exact ⟨by rw [HF.out]; rfl, Y1.trans hb2⟩
set_option maxHeartbeats 1000000 in
theorem eqPkS (p q : Pk) (v1 u1 v2 u2 : Value) (w : World) (h1 : RI w v1 p.2.1) (h2 : RI w u1 p.2.2) (h3 : RI w v2 q.2.1) (h4 : RI w u2 q.2.2) :
    Calls Try.prog 41 #[.agg #[.int .i64 p.1, v1, u1], .agg #[.int .i64 q.1, v2, u2]] w fun e w' => e = .returned (.bool (eqPkB p q)) ∧ Bel w w' := by
  obtain ⟨a, x1, y1⟩ := p
  obtain ⟨b, x2, y2⟩ := q
  dsimp only at *
  have HB : Hid (eqPkB (a, x1, y1) (b, x2, y2) = ((a == b) && decide (x1 = x2) && decide (y1 = y2))) := rfl
  have X := (Blk.new w 74 #[.int .i64 a, v1, u1]).alloc (.cells #[.int .i64 b, v2, u2] 74)
  have Z := Blk.new2 w (.cells #[.int .i64 a, v1, u1] 74) 74 #[.int .i64 b, v2, u2]
  have Y : Bel w ((w.alloc (.cells #[.int .i64 a, v1, u1] 74)).alloc (.cells #[.int .i64 b, v2, u2] 74)) := ((Bel.refl _).alloc _).alloc _
  cases q0 : (a == b)
  · have HF : Hid (eqPkB (a, x1, y1) (b, x2, y2) = false) := Lib.hid (by rw [HB.out, q0]; rfl)
    go_enter Try.func41, Try.ntmps41
    go_wp2
    go_ret
    exact ⟨by rw [HF.out]; rfl, Y⟩
  go_enter Try.func41, Try.ntmps41
  go_wp2_with fail
  refine (sEqS v1 v2 x1 x2 _ (h1.keep Y) (h3.keep Y)).mono ?_
  rintro e w1 ⟨rfl, hb1⟩
  have X1 := hb1.keep X
  have Z1 := hb1.keep Z
  have Y1 := Y.trans hb1
  obtain ⟨cx, _, zx⟩ := X1.facts
  obtain ⟨cz, _, zz⟩ := Z1.facts
  cases q1 : decide (x1 = x2)
  · have HF : Hid (eqPkB (a, x1, y1) (b, x2, y2) = false) := Lib.hid (by rw [HB.out, q1]; simp)
    go_wp2
    go_ret
    exact ⟨by rw [HF.out]; rfl, Y1⟩
  go_wp2_with fail
  refine (sEqS u1 u2 y1 y2 _ (h2.keep Y1) (h4.keep Y1)).mono ?_
  rintro e w2 ⟨rfl, hb2⟩
  have HF : Hid (eqPkB (a, x1, y1) (b, x2, y2) = decide (y1 = y2)) := Lib.hid (by rw [HB.out, q0, q1]; rfl)
  go_wp2
  go_ret
  exact ⟨by rw [HF.out]; rfl, Y1.trans hb2⟩
set_option maxHeartbeats 2000000 in
theorem pksEqF (v u : Value) (xs ys : List Pk) (w : World) (hv : RP w v xs) (hu : RP w u ys) :
    Calls Try.prog 43 #[v, u, .func (.func 44) #[] #[]] w fun e w' => e = .returned (.bool (decide (xs = ys))) ∧ Bel w w' := by
  obtain ⟨A, c, rfl, h1, h2, hA⟩ := hv
  obtain ⟨B, d, rfl, h3, h4, hB⟩ := hu
  by_cases hlen : xs.length = ys.length
  · have hne : ((xs.length : Int) != (ys.length : Int)) = false := by simp [hlen]
    have hle : xs.length ≤ ys.length := by omega
    have HL := Lib.hid hlen
    clear hlen
    go_enter Try.func43, Try.ntmps43
    go_wp2
    go_loopg [17] xs.length (fun f i wr => ∃ k : Nat, k + f = xs.length ∧ i = .int .i64 k ∧ Bel w wr ∧ Hid (xs.take k = ys.take k))
    case atStart => exact ⟨0, by omega, rfl, Bel.refl _, Lib.hid (by simp)⟩
    case round =>
      obtain ⟨k, hk, rfl, Y, HE⟩ := hrel
      have hk2 : k ≤ xs.length := by omega
      have HK := Lib.hid hk
      clear hk
      by_cases hlt : k < xs.length
      · obtain ⟨b1, o1, rfl, z1, hc1⟩ := hA (by omega)
        obtain ⟨b2, o2, rfl, z2, hc2⟩ := hB (by omega)
        have hx : Hid (xs[k]? = some (xs[k]'hlt)) := List.getElem?_eq_getElem hlt
        have hy : Hid (ys[k]? = some (ys[k]'(by omega))) := List.getElem?_eq_getElem (by omega)
        obtain ⟨g0, t1, t2, g1, g2, r1, r2⟩ := (hc1 k _ hx.out).keep Y z1
        obtain ⟨k0, s1, s2, k1, k2, n1, n2⟩ := (hc2 k _ hy.out).keep Y z2
        generalize xs[k]'hlt = p at *
        generalize ys[k]'(by omega) = q at *
        obtain ⟨A1, c1, e1, _, _, _⟩ := id r1
        obtain ⟨A2, c2, e2, _, _, _⟩ := id r2
        obtain ⟨A3, c3, e3, _, _, _⟩ := id n1
        obtain ⟨A4, c4, e4, _, _, _⟩ := id n2
        subst e1 e2 e3 e4
        clear hc1 hc2 hA hB
        have i0 : (0 : Int) ≤ (k : Int) := by omega
        have i1 : (k : Int) < (xs.length : Int) := by omega
        have i2 : (k : Int) < (ys.length : Int) := by omega
        have y1 := Nat.lt_of_lt_of_le z1 Y.size
        have y2 := Nat.lt_of_lt_of_le z2 Y.size
        have Ya1 : Bel wr (wr.alloc (.cells #[.int .i64 p.1, .slice A1 p.2.1.length c1, .slice A2 p.2.2.length c2] 74)) := (Bel.refl _).alloc _
        obtain ⟨cb, _, zb⟩ := (Blk.new wr 74 #[.int .i64 p.1, .slice A1 p.2.1.length c1, .slice A2 p.2.2.length c2]).facts
        have k0a := Ya1.cell1 y2 k0
        have k1a := Ya1.cell1 y2 k1
        have k2a := Ya1.cell1 y2 k2
        go_wp2_with fail
        refine (eqPkI p q _ _ _ _ _ (r1.keep (((Bel.refl _).alloc _).alloc _)) (r2.keep (((Bel.refl _).alloc _).alloc _)) (n1.keep (((Bel.refl _).alloc _).alloc _)) (n2.keep (((Bel.refl _).alloc _).alloc _))).mono ?_
        rintro e w3 ⟨rfl, hb3⟩
        have Y3 : Bel w w3 := ((Y.alloc _).alloc _).trans hb3
        cases hq : eqPkB p q
        · have HN : Hid (decide (xs = ys) = false) := decide_eq_false (fun e => by
            rw [eqPkB_iff] at hq
            have h9 := of_decide_eq_false hq
            rw [e] at hx
            have := hx.out.symm.trans hy.out
            injection this with this
            exact h9 this)
          clear hq
          go_wp2
          go_ret
          exact ⟨by rw [HN.out]; rfl, Y3⟩
        · have HN : Hid (xs.take (k + 1) = ys.take (k + 1)) := pks_step HE.out (by
            rw [eqPkB_iff] at hq
            have h9 := of_decide_eq_true hq
            rw [hx.out, hy.out, h9])
          clear hq
          go_wp2
          go_roundg (xs.length - (k + 1))
          case measure => have := HK.out; omega
          case rel => exact ⟨k + 1, by omega, by go_num, Y3, HN⟩
      · obtain rfl : k = xs.length := by omega
        have i1 : ¬ (xs.length : Int) < (xs.length : Int) := by omega
        have HN : Hid (decide (xs = ys) = true) := decide_eq_true (by have h9 := HE.out; rw [List.take_length, HL.out, List.take_length] at h9; exact h9)
        go_wp2
        go_ret
        exact ⟨by rw [HN.out]; rfl, Y⟩
  · have hne : ((xs.length : Int) != (ys.length : Int)) = true := by rw [bne_iff_ne]; omega
    have HN : Hid (decide (xs = ys) = false) := decide_eq_false (fun e => hlen (by rw [e]))
    clear hlen
    go_enter Try.func43, Try.ntmps43
    go_wp2
    go_ret
    exact ⟨by rw [HN.out]; rfl, Bel.refl _⟩
def eqRecB (a1 b1 c1 m1 a2 b2 c2 m2 : Int) (xs ys : List Pk) : Bool := (a1 == a2) && (b1 == b2) && (c1 == c2) && (m1 == m2) && decide (xs = ys)
set_option maxHeartbeats 400000 in
theorem eqRecI_0 (a1 b1 c1 m1 a2 b2 c2 m2 : Int) (v1 v2 : Value) (xs ys : List Pk) (w : World) (h1 : RP w v1 xs) (h2 : RP w v2 ys) (e0 : (a1 == a2) = false) :
    Calls Try.prog 10 #[.agg #[.int .i64 a1, .int .i64 b1, .int .i64 c1, v1, .int .i64 m1], .agg #[.int .i64 a2, .int .i64 b2, .int .i64 c2, v2, .int .i64 m2]] w fun e w' => e = .returned (.bool (eqRecB a1 b1 c1 m1 a2 b2 c2 m2 xs ys)) ∧ Bel w w' := by
  have HB : Hid (eqRecB a1 b1 c1 m1 a2 b2 c2 m2 xs ys = false) := by show _ = _; simp only [eqRecB, e0]; simp
  go_enter Try.func10, Try.ntmps10
  go_wp2
  go_ret
  exact ⟨by rw [HB.out]; rfl, ((Bel.refl _).alloc _).alloc _⟩
set_option maxHeartbeats 400000 in
theorem eqRecI_1 (a1 b1 c1 m1 a2 b2 c2 m2 : Int) (v1 v2 : Value) (xs ys : List Pk) (w : World) (h1 : RP w v1 xs) (h2 : RP w v2 ys) (e0 : (a1 == a2) = true) (e1 : (b1 == b2) = false) :
    Calls Try.prog 10 #[.agg #[.int .i64 a1, .int .i64 b1, .int .i64 c1, v1, .int .i64 m1], .agg #[.int .i64 a2, .int .i64 b2, .int .i64 c2, v2, .int .i64 m2]] w fun e w' => e = .returned (.bool (eqRecB a1 b1 c1 m1 a2 b2 c2 m2 xs ys)) ∧ Bel w w' := by
  have HB : Hid (eqRecB a1 b1 c1 m1 a2 b2 c2 m2 xs ys = false) := by show _ = _; simp only [eqRecB, e0, e1]; simp
  go_enter Try.func10, Try.ntmps10
  go_wp2
  go_ret
  exact ⟨by rw [HB.out]; rfl, ((Bel.refl _).alloc _).alloc _⟩
set_option maxHeartbeats 400000 in
theorem eqRecI_2 (a1 b1 c1 m1 a2 b2 c2 m2 : Int) (v1 v2 : Value) (xs ys : List Pk) (w : World) (h1 : RP w v1 xs) (h2 : RP w v2 ys) (e0 : (a1 == a2) = true) (e1 : (b1 == b2) = true) (e2 : (c1 == c2) = false) :
    Calls Try.prog 10 #[.agg #[.int .i64 a1, .int .i64 b1, .int .i64 c1, v1, .int .i64 m1], .agg #[.int .i64 a2, .int .i64 b2, .int .i64 c2, v2, .int .i64 m2]] w fun e w' => e = .returned (.bool (eqRecB a1 b1 c1 m1 a2 b2 c2 m2 xs ys)) ∧ Bel w w' := by
  have HB : Hid (eqRecB a1 b1 c1 m1 a2 b2 c2 m2 xs ys = false) := by show _ = _; simp only [eqRecB, e0, e1, e2]; simp
  go_enter Try.func10, Try.ntmps10
  go_wp2
  go_ret
  exact ⟨by rw [HB.out]; rfl, ((Bel.refl _).alloc _).alloc _⟩
set_option maxHeartbeats 400000 in
theorem eqRecI_3 (a1 b1 c1 m1 a2 b2 c2 m2 : Int) (v1 v2 : Value) (xs ys : List Pk) (w : World) (h1 : RP w v1 xs) (h2 : RP w v2 ys) (e0 : (a1 == a2) = true) (e1 : (b1 == b2) = true) (e2 : (c1 == c2) = true) (e3 : (m1 == m2) = false) :
    Calls Try.prog 10 #[.agg #[.int .i64 a1, .int .i64 b1, .int .i64 c1, v1, .int .i64 m1], .agg #[.int .i64 a2, .int .i64 b2, .int .i64 c2, v2, .int .i64 m2]] w fun e w' => e = .returned (.bool (eqRecB a1 b1 c1 m1 a2 b2 c2 m2 xs ys)) ∧ Bel w w' := by
  have HB : Hid (eqRecB a1 b1 c1 m1 a2 b2 c2 m2 xs ys = false) := by show _ = _; simp only [eqRecB, e0, e1, e2, e3]; simp
  go_enter Try.func10, Try.ntmps10
  go_wp2
  go_ret
  exact ⟨by rw [HB.out]; rfl, ((Bel.refl _).alloc _).alloc _⟩
set_option maxHeartbeats 400000 in
theorem eqRecI_4 (a1 b1 c1 m1 a2 b2 c2 m2 : Int) (v1 v2 : Value) (xs ys : List Pk) (w : World) (h1 : RP w v1 xs) (h2 : RP w v2 ys) (e0 : (a1 == a2) = true) (e1 : (b1 == b2) = true) (e2 : (c1 == c2) = true) (e3 : (m1 == m2) = true) :
    Calls Try.prog 10 #[.agg #[.int .i64 a1, .int .i64 b1, .int .i64 c1, v1, .int .i64 m1], .agg #[.int .i64 a2, .int .i64 b2, .int .i64 c2, v2, .int .i64 m2]] w fun e w' => e = .returned (.bool (eqRecB a1 b1 c1 m1 a2 b2 c2 m2 xs ys)) ∧ Bel w w' := by
  have HB : Hid (eqRecB a1 b1 c1 m1 a2 b2 c2 m2 xs ys = decide (xs = ys)) := by show _ = _; simp only [eqRecB, e0, e1, e2, e3]; simp
  have hmf : ∀ (fn : Fn) (first cap : Array Value) (w : World), (Instr.makeFunc fn first cap).run Try.prog w = .ok (.func fn first cap) w := fun _ _ _ _ => rfl
  go_enter Try.func10, Try.ntmps10
  go_wp2_with fail
  refine (pksEqF _ _ xs ys _ (h1.keep (((Bel.refl _).alloc _).alloc _)) (h2.keep (((Bel.refl _).alloc _).alloc _))).mono ?_
  rintro e w1 ⟨rfl, hb1⟩
  go_wp2
  go_ret
  exact ⟨by rw [HB.out]; rfl, (((Bel.refl _).alloc _).alloc _).trans hb1⟩
theorem eqRecI (a1 b1 c1 m1 a2 b2 c2 m2 : Int) (v1 v2 : Value) (xs ys : List Pk) (w : World) (h1 : RP w v1 xs) (h2 : RP w v2 ys) :
    Calls Try.prog 10 #[.agg #[.int .i64 a1, .int .i64 b1, .int .i64 c1, v1, .int .i64 m1], .agg #[.int .i64 a2, .int .i64 b2, .int .i64 c2, v2, .int .i64 m2]] w fun e w' => e = .returned (.bool (eqRecB a1 b1 c1 m1 a2 b2 c2 m2 xs ys)) ∧ Bel w w' := by
  cases e0 : (a1 == a2)
  · exact eqRecI_0 a1 b1 c1 m1 a2 b2 c2 m2 v1 v2 xs ys w h1 h2 e0
  cases e1 : (b1 == b2)
  · exact eqRecI_1 a1 b1 c1 m1 a2 b2 c2 m2 v1 v2 xs ys w h1 h2 e0 e1
  cases e2 : (c1 == c2)
  · exact eqRecI_2 a1 b1 c1 m1 a2 b2 c2 m2 v1 v2 xs ys w h1 h2 e0 e1 e2
  cases e3 : (m1 == m2)
  · exact eqRecI_3 a1 b1 c1 m1 a2 b2 c2 m2 v1 v2 xs ys w h1 h2 e0 e1 e2 e3
  exact eqRecI_4 a1 b1 c1 m1 a2 b2 c2 m2 v1 v2 xs ys w h1 h2 e0 e1 e2 e3
set_option maxHeartbeats 2000000 in
theorem eqRecS (a1 b1 c1 m1 a2 b2 c2 m2 : Int) (v1 v2 : Value) (xs ys : List Pk) (w : World) (h1 : RP w v1 xs) (h2 : RP w v2 ys) :
    Calls Try.prog 8 #[.agg #[.int .i64 a1, .int .i64 b1, .int .i64 c1, v1, .int .i64 m1], .agg #[.int .i64 a2, .int .i64 b2, .int .i64 c2, v2, .int .i64 m2]] w fun e w' => e = .returned (.bool (eqRecB a1 b1 c1 m1 a2 b2 c2 m2 xs ys)) ∧ Bel w w' := by
  have HB : Hid (eqRecB a1 b1 c1 m1 a2 b2 c2 m2 xs ys = ((a1 == a2) && (b1 == b2) && (c1 == c2) && (m1 == m2) && decide (xs = ys))) := rfl
  obtain ⟨A, ca, rfl, _, _, hA⟩ := h1
  obtain ⟨B, cb, rfl, _, _, hB⟩ := h2
  have X := (Blk.new w 29 #[.int .i64 a1, .int .i64 b1, .int .i64 c1, .slice A xs.length ca, .int .i64 m1]).alloc (.cells #[.int .i64 a2, .int .i64 b2, .int .i64 c2, .slice B ys.length cb, .int .i64 m2] 29)
  have Z := Blk.new2 w (.cells #[.int .i64 a1, .int .i64 b1, .int .i64 c1, .slice A xs.length ca, .int .i64 m1] 29) 29 #[.int .i64 a2, .int .i64 b2, .int .i64 c2, .slice B ys.length cb, .int .i64 m2]
  have Y : Bel w ((w.alloc (.cells #[.int .i64 a1, .int .i64 b1, .int .i64 c1, .slice A xs.length ca, .int .i64 m1] 29)).alloc (.cells #[.int .i64 a2, .int .i64 b2, .int .i64 c2, .slice B ys.length cb, .int .i64 m2] 29)) := ((Bel.refl _).alloc _).alloc _
  cases e0 : (a1 == a2)
  · have HF : Hid (eqRecB a1 b1 c1 m1 a2 b2 c2 m2 xs ys = false) := Lib.hid (by rw [HB.out, e0]; simp)
    have f0 : (a1 != a2) = true := by simp only [bne, e0]; rfl
    go_enter Try.func8, Try.ntmps8
    go_wp2
    go_ret
    exact ⟨by rw [HF.out]; rfl, Y⟩
  have f0 : (a1 != a2) = false := by simp only [bne, e0]; rfl
  cases e1 : (b1 == b2)
  · have HF : Hid (eqRecB a1 b1 c1 m1 a2 b2 c2 m2 xs ys = false) := Lib.hid (by rw [HB.out, e1]; simp)
    have f1 : (b1 != b2) = true := by simp only [bne, e1]; rfl
    go_enter Try.func8, Try.ntmps8
    go_wp2
    go_ret
    exact ⟨by rw [HF.out]; rfl, Y⟩
  have f1 : (b1 != b2) = false := by simp only [bne, e1]; rfl
  cases e2 : (c1 == c2)
  · have HF : Hid (eqRecB a1 b1 c1 m1 a2 b2 c2 m2 xs ys = false) := Lib.hid (by rw [HB.out, e2]; simp)
    have f2 : (c1 != c2) = true := by simp only [bne, e2]; rfl
    go_enter Try.func8, Try.ntmps8
    go_wp2
    go_ret
    exact ⟨by rw [HF.out]; rfl, Y⟩
  have f2 : (c1 != c2) = false := by simp only [bne, e2]; rfl
  cases e3 : (m1 == m2)
  · have HF : Hid (eqRecB a1 b1 c1 m1 a2 b2 c2 m2 xs ys = false) := Lib.hid (by rw [HB.out, e3]; simp)
    have f3 : (m1 != m2) = true := by simp only [bne, e3]; rfl
    go_enter Try.func8, Try.ntmps8
    go_wp2
    go_ret
    exact ⟨by rw [HF.out]; rfl, Y⟩
  have f3 : (m1 != m2) = false := by simp only [bne, e3]; rfl
  have HD : Hid (eqRecB a1 b1 c1 m1 a2 b2 c2 m2 xs ys = decide (xs = ys)) := Lib.hid (by rw [HB.out, e0, e1, e2, e3]; simp)
  by_cases hlen : xs.length = ys.length
  case neg =>
    have f4 : ((xs.length : Int) != (ys.length : Int)) = true := by rw [bne_iff_ne]; omega
    have HF : Hid (eqRecB a1 b1 c1 m1 a2 b2 c2 m2 xs ys = false) := Lib.hid (by rw [HD.out]; exact decide_eq_false (fun e => hlen (by rw [e])))
    clear hlen
    go_enter Try.func8, Try.ntmps8
    go_wp2
    go_ret
    exact ⟨by rw [HF.out]; rfl, Y⟩
  have f4 : ((xs.length : Int) != (ys.length : Int)) = false := by simp [hlen]
  have hle : xs.length ≤ ys.length := by omega
  have HL := Lib.hid hlen
  clear hlen e0 e1 e2 e3
  go_enter Try.func8, Try.ntmps8
  go_wp2
  clear f0 f1 f2 f3 f4
  go_loopg [5] xs.length (fun f i wr => ∃ k : Nat, k + f = xs.length ∧ i = .int .i64 k ∧ Blk wr w.heap.size 29 #[.int .i64 a1, .int .i64 b1, .int .i64 c1, .slice A xs.length ca, .int .i64 m1] ∧ Blk wr (w.heap.size + 1) 29 #[.int .i64 a2, .int .i64 b2, .int .i64 c2, .slice B ys.length cb, .int .i64 m2] ∧ Bel w wr ∧ Hid (xs.take k = ys.take k))
  case atStart => exact ⟨0, by omega, rfl, X, Z, Y, Lib.hid (by simp)⟩
  case round =>
    clear X Z Y
    obtain ⟨k, hk, rfl, X, Z, Y, HE⟩ := hrel
    have hk2 : k ≤ xs.length := by omega
    have HK := Lib.hid hk
    clear hk
    obtain ⟨cx, _, zx⟩ := X.facts
    obtain ⟨cz, _, zz⟩ := Z.facts
    have rx : wr.cell? ⟨w.heap.size, 3, none⟩ = some (.slice A xs.length ca) := cx 3
    have rz : wr.cell? ⟨w.heap.size + 1, 3, none⟩ = some (.slice B ys.length cb) := cz 3
    clear cx cz
    by_cases hlt : k < xs.length
    · obtain ⟨b1', o1, rfl, z1, hc1⟩ := hA (by omega)
      obtain ⟨b2', o2, rfl, z2, hc2⟩ := hB (by omega)
      have hx : Hid (xs[k]? = some (xs[k]'hlt)) := List.getElem?_eq_getElem hlt
      have hy : Hid (ys[k]? = some (ys[k]'(by omega))) := List.getElem?_eq_getElem (by omega)
      obtain ⟨g0, t1, t2, g1, g2, r1, r2⟩ := (hc1 k _ hx.out).keep Y z1
      obtain ⟨k0, s1, s2, k1, k2, n1, n2⟩ := (hc2 k _ hy.out).keep Y z2
      have y1 := Nat.lt_of_lt_of_le z1 Y.size
      have y2 := Nat.lt_of_lt_of_le z2 Y.size
      generalize xs[k]'hlt = p at *
      generalize ys[k]'(by omega) = q at *
      obtain ⟨A1, q1, e1, _, _, _⟩ := id r1
      obtain ⟨A2, q2, e2, _, _, _⟩ := id r2
      obtain ⟨A3, q3, e3, _, _, _⟩ := id n1
      obtain ⟨A4, q4, e4, _, _, _⟩ := id n2
      subst e1 e2 e3 e4
      clear hc1 hc2 hA hB
      have i0 : (0 : Int) ≤ (k : Int) := by omega
      have i1 : (k : Int) < (xs.length : Int) := by omega
      have i2 : (k : Int) < (ys.length : Int) := by omega
      go_wp2
      have qx := Bw.cell rx zx
      have qz := Bw.cell rz zz
      have p0 := Bw.cell g0 y1
      have p1 := Bw.cell g1 y1
      have p2 := Bw.cell g2 y1
      have p3 := Bw.cell k0 y2
      have p4 := Bw.cell k1 y2
      have p5 := Bw.cell k2 y2
      refine wp_region_bel (by kernel_rfl) (by kernel_rfl) ?_
      repeat (first | go_big_quiet_step (first | (go_at_call 41; exact belQ (eqPkS p q _ _ _ _ _ (r1.keep (Bw.bel _)) (r2.keep (Bw.bel _)) (n1.keep (Bw.bel _)) (n2.keep (Bw.bel _))))) | quiet_step (first | (go_at_call 41; exact belQ (eqPkS p q _ _ _ _ _ (r1.keep (Bw.bel _)) (r2.keep (Bw.bel _)) (n1.keep (Bw.bel _)) (n2.keep (Bw.bel _))))))
      refine wpQuiet_nil ?_
      rintro w3 ⟨⟨_, hb3⟩, rfl⟩
      have X3 := hb3.keep X
      have Z3 := hb3.keep Z
      have Y3 := Y.trans hb3
      clear qx qz p0 p1 p2 p3 p4 p5
      cases hq : eqPkB p q
      · have HN : Hid (eqRecB a1 b1 c1 m1 a2 b2 c2 m2 xs ys = false) := Lib.hid (by
          rw [HD.out]
          refine decide_eq_false (fun e => ?_)
          rw [eqPkB_iff] at hq
          have h9 := of_decide_eq_false hq
          rw [e] at hx
          have := hx.out.symm.trans hy.out
          injection this with this
          exact h9 this)
        clear hq
        go_wp2
        go_ret
        exact ⟨by rw [HN.out]; rfl, Y3⟩
      · have HN : Hid (xs.take (k + 1) = ys.take (k + 1)) := pks_step HE.out (by
          rw [eqPkB_iff] at hq
          have h9 := of_decide_eq_true hq
          rw [hx.out, hy.out, h9])
        clear hq
        go_wp2
        go_roundg (xs.length - (k + 1))
        case measure => have := HK.out; omega
        case rel => exact ⟨k + 1, by omega, by go_num, X3, Z3, Y3, HN⟩
    · obtain rfl : k = xs.length := by omega
      have i1 : ¬ (xs.length : Int) < (xs.length : Int) := by omega
      have HN : Hid (eqRecB a1 b1 c1 m1 a2 b2 c2 m2 xs ys = true) := Lib.hid (by rw [HD.out]; exact decide_eq_true (by have h9 := HE.out; rw [List.take_length, HL.out, List.take_length] at h9; exact h9))
      go_wp2
      go_ret
      exact ⟨by rw [HN.out]; rfl, Y⟩
end Go.Proofs.Ytchodlfkoafeaaa
