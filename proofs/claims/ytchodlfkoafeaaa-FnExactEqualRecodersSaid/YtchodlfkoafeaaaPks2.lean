/-
  The laws' helpers over slices of packets: contracts of szCodedPacketS, toCodedPacketS, eqCodedPacketS. Condition: at most 2^20 elements.
-/
import Derived.Test.YtchodlfkoafeaaaPks1
import Derived.Test.YtchodlfkoafeaaaKPkt
import Derived.Deep.RegionHeld3
namespace Go.Proofs.Ytchodlfkoafeaaa
open Go.ChangeShapes Go.WideShapes Go.ChangeAt Go.RowKit
set_option linter.unusedVariables false
set_option maxRecDepth 100000

set_option maxHeartbeats 1000000 in
theorem szPkts_ok (v : Value) (ps : List Pk) (l : Int) (w : World) (hv : RP w v ps) (h0 : (szP ps : Int) ≤ l) (h1 : l ≤ 1048576) :
    Calls Try.prog 40 #[v, .int .i64 l] w fun e w' => e = .returned (.int .i64 (l - szP ps)) ∧ Bel w w' := by
  obtain ⟨A, c, rfl, h2, h3, hA⟩ := hv
  have hz0 := szP_ge (ps := ps) (Nat.zero_le _)
  have hd : decide (l - (ps.length : Int) < 0) = false := decide_eq_false (by omega)
  go_enter Try.func40, Try.ntmps40
  go_wp2
  go_loopg [1, 5] ps.length (fun f q i wr => ∃ k : Nat, k + f = ps.length ∧ i = .int .i64 k ∧ q = .int .i64 (l - ps.length - sumP ps k) ∧ Bel w wr)
  case atStart => exact ⟨0, by omega, rfl, by simp [sumP_zero], Bel.refl _⟩
  case round =>
    obtain ⟨k, hk, rfl, rfl, Y⟩ := hrel
    have hk2 : k ≤ ps.length := by omega
    have HK := Lib.hid hk
    clear hk
    by_cases hlt : k < ps.length
    · obtain ⟨b1, o1, rfl, z1, hc1⟩ := hA (by omega)
      have hx : Hid (ps[k]? = some (ps[k]'hlt)) := List.getElem?_eq_getElem hlt
      obtain ⟨g0, u1, u2, g1, g2, r1, r2⟩ := (hc1 k _ hx.out).keep Y z1
      have hs1 := sumP_step hx.out
      have hs2 := szP_at hx.out
      generalize ps[k]'hlt = p at *
      obtain ⟨a, xs, ys⟩ := p
      unfold pkN at hs1
      dsimp only at *
      have HS := Lib.hid hs1
      clear hc1 hA hs1
      have i0 : (0 : Int) ≤ (k : Int) := by omega
      have i1 : (k : Int) < (ps.length : Int) := by omega
      have hd2 : decide (l - (ps.length : Int) - (sumP ps k : Int) - ((xs.length : Int) + (ys.length : Int)) < 0) = false := decide_eq_false (by omega)
      go_wp2_with fail
      refine (szPkt_ok a u1 u2 xs ys _ _ r1 r2 (by omega) (by omega)).mono ?_
      rintro e w1 ⟨rfl, hb1⟩
      have Y1 := Y.trans hb1
      go_wp2
      go_roundg (ps.length - (k + 1))
      case measure => have := HK.out; omega
      case rel => exact ⟨k + 1, by omega, by go_num, by rw [HS.out]; congr 1; omega, Y1⟩
    · obtain rfl : k = ps.length := by omega
      have i1 : ¬ (ps.length : Int) < (ps.length : Int) := by omega
      have HS := Lib.hid (szP_eq ps)
      go_wp2
      go_ret
      exact ⟨by rw [show l - (ps.length : Int) - (sumP ps ps.length : Int) = l - (szP ps : Int) from by have := HS.out; omega]; rfl, Y⟩
set_option maxHeartbeats 1000000 in
theorem szPkts_no (v : Value) (ps : List Pk) (l : Int) (w : World) (hv : RP w v ps) (h0 : l < (szP ps : Int)) (h1 : 0 ≤ l) (h4 : l ≤ 1048576) :
    Calls Try.prog 40 #[v, .int .i64 l] w fun e w' => e = .returned (.int .i64 (-1)) ∧ Bel w w' := by
  obtain ⟨A, c, rfl, h2, h3, hA⟩ := hv
  have hz0 := szP_ge (ps := ps) (Nat.zero_le _)
  by_cases hb : l - (ps.length : Int) < 0
  · have hd : decide (l - (ps.length : Int) < 0) = true := decide_eq_true hb
    go_enter Try.func40, Try.ntmps40
    go_wp2
    go_ret
    exact ⟨rfl, Bel.refl _⟩
  have hd : decide (l - (ps.length : Int) < 0) = false := decide_eq_false hb
  go_enter Try.func40, Try.ntmps40
  go_wp2
  go_loopg [1, 5] ps.length (fun f q i wr => ∃ k : Nat, k + f = ps.length ∧ i = .int .i64 k ∧ q = .int .i64 (l - ps.length - sumP ps k) ∧ 0 ≤ l - ps.length - sumP ps k ∧ Bel w wr)
  case atStart => exact ⟨0, by omega, rfl, by simp [sumP_zero], by simp [sumP_zero]; omega, Bel.refl _⟩
  case round =>
    obtain ⟨k, hk, rfl, rfl, hp, Y⟩ := hrel
    have hk2 : k ≤ ps.length := by omega
    have HK := Lib.hid hk
    clear hk
    by_cases hlt : k < ps.length
    · obtain ⟨b1, o1, rfl, z1, hc1⟩ := hA (by omega)
      have hx : Hid (ps[k]? = some (ps[k]'hlt)) := List.getElem?_eq_getElem hlt
      obtain ⟨g0, u1, u2, g1, g2, r1, r2⟩ := (hc1 k _ hx.out).keep Y z1
      have hs1 := sumP_step hx.out
      generalize ps[k]'hlt = p at *
      obtain ⟨a, xs, ys⟩ := p
      unfold pkN at hs1
      dsimp only at *
      have HS := Lib.hid hs1
      clear hc1 hA hs1
      have i0 : (0 : Int) ≤ (k : Int) := by omega
      have i1 : (k : Int) < (ps.length : Int) := by omega
      by_cases hbb : l - (ps.length : Int) - (sumP ps k : Int) < (xs.length : Int) + (ys.length : Int)
      · go_wp2_with fail
        refine (szPkt_no a u1 u2 xs ys _ _ r1 r2 (by omega) (by omega) (by omega)).mono ?_
        rintro e w1 ⟨rfl, hb1⟩
        have Y1 := Y.trans hb1
        go_wp2
        go_ret
        exact ⟨rfl, Y1⟩
      · have hd2 : decide (l - (ps.length : Int) - (sumP ps k : Int) - ((xs.length : Int) + (ys.length : Int)) < 0) = false := decide_eq_false (by omega)
        have HBB := Lib.hid hbb
        clear hbb
        go_wp2_with fail
        refine (szPkt_ok a u1 u2 xs ys _ _ r1 r2 (by have := HBB.out; omega) (by omega)).mono ?_
        rintro e w1 ⟨rfl, hb1⟩
        have Y1 := Y.trans hb1
        go_wp2
        go_roundg (ps.length - (k + 1))
        case measure => have := HK.out; omega
        case rel => exact ⟨k + 1, by omega, by go_num, by rw [HS.out]; congr 1; omega, by rw [HS.out]; have := HBB.out; omega, Y1⟩
    · obtain rfl : k = ps.length := by omega
      have := szP_eq ps
      omega

set_option maxHeartbeats 2000000 in
theorem eqPkts_same (v u : Value) (ps : List Pk) (w : World) (hv : RP w v ps) (hu : RP w u ps) :
    Calls Try.prog 45 #[v, u] w fun e w' => e = .returned (.bool true) ∧ Bel w w' := by
  obtain ⟨A, c, rfl, h1, h2, hA⟩ := hv
  obtain ⟨B, d, rfl, h3, h4, hB⟩ := hu
  go_enter Try.func45, Try.ntmps45
  go_wp2
  go_loopg [5] ps.length (fun f i wr => ∃ k : Nat, k + f = ps.length ∧ i = .int .i64 k ∧ Bel w wr)
  case atStart => exact ⟨0, by omega, rfl, Bel.refl _⟩
  case round =>
    obtain ⟨k, hk, rfl, Y⟩ := hrel
    have hk2 : k ≤ ps.length := by omega
    have HK := Lib.hid hk
    clear hk
    by_cases hlt : k < ps.length
    · obtain ⟨b1, o1, rfl, z1, hc1⟩ := hA (by omega)
      obtain ⟨b2, o2, rfl, z2, hc2⟩ := hB (by omega)
      have hx : ps[k]? = some (ps[k]'hlt) := List.getElem?_eq_getElem hlt
      obtain ⟨g1, u1, u2, g2, g3, r1, r2⟩ := (hc1 k _ hx).keep Y z1
      obtain ⟨k1, t1, t2, k2, k3, s1, s2⟩ := (hc2 k _ hx).keep Y z2
      generalize ps[k]'hlt = p at *
      obtain ⟨a, xs, ys⟩ := p
      dsimp only at *
      clear hc1 hc2 hA hB hx
      have y1 := Nat.lt_of_lt_of_le z1 Y.size
      have y2 := Nat.lt_of_lt_of_le z2 Y.size
      have i0 : (0 : Int) ≤ (k : Int) := by omega
      have i1 : (k : Int) < (ps.length : Int) := by omega
      go_wp2
      go_region_held3 (fun w' => w'.cell? ⟨b1, o1 + k * 3, none⟩ = some (.int .i64 a) ∧ w'.cell? ⟨b1, o1 + k * 3 + 1, none⟩ = some u1 ∧ w'.cell? ⟨b1, o1 + k * 3 + 2, none⟩ = some u2 ∧ w'.cell? ⟨b2, o2 + k * 3, none⟩ = some (.int .i64 a) ∧ w'.cell? ⟨b2, o2 + k * 3 + 1, none⟩ = some t1 ∧ w'.cell? ⟨b2, o2 + k * 3 + 2, none⟩ = some t2)
        (first | exact ⟨hbE.cell1 y1 g1, hbE.cell1 y1 g2, hbE.cell1 y1 g3, hbE.cell1 y2 k1, hbE.cell1 y2 k2, hbE.cell1 y2 k3⟩ | go_keep)
        (first | (go_at_call 72; ((with_reducible refine (eqPkt_same a u1 u2 xs ys t1 t2 _ (by exact r1.keep ((Bel.refl wr).drew)) (by exact r2.keep ((Bel.refl wr).drew)) (by exact s1.keep ((Bel.refl wr).drew)) (by exact s2.keep ((Bel.refl wr).drew))).mono ?_); rintro e wE ⟨rfl, hbE⟩)))
      have YE : Bel w wE := (Y.trans ((Bel.refl _).drew)).trans hbE
      go_wp2
      go_roundg (ps.length - (k + 1))
      case measure => have := HK.out; omega
      case rel => exact ⟨k + 1, by omega, by go_num, YE⟩
    · obtain rfl : k = ps.length := by omega
      have i1 : ¬ (ps.length : Int) < (ps.length : Int) := by omega
      go_wp2
      go_ret
      exact ⟨rfl, Y⟩

theorem Pks_info : (Try.prog.info? 74).map (fun i => (i.zero, i.size, i.bytes)) = some (some (.agg #[.int .i64 0, .slice none 0 0, .slice none 0 0]), 3, 56) := by kernel_rfl
theorem mkPks (n : Nat) (hn : n ≤ 1099511627776) : ∀ w : World, (Instr.makeSlice 27 (.int .i64 (n : Int)) (.int .i64 (n : Int))).run Try.prog w =
    .ok (.slice (some ⟨w.heap.size, 0, none⟩) n n) (w.alloc (.cells (madeCells #[.int .i64 0, .slice none 0 0, .slice none 0 0] (n * 3)) 74)) := by
  intro w
  obtain ⟨i0, hi, hz0, hz1, hz2⟩ := info_parts Pks_info
  have hr := run_make (P := Try.prog) w 27 74 i0 (.agg #[.int .i64 0, .slice none 0 0, .slice none 0 0]) Try.underlying27 hi hz0 .i64 .i64 n n (by omega) (by omega) (by rw [hz2]; omega) (by omega)
  rw [hz1] at hr
  simp only [Int.toNat_natCast] at hr
  exact hr
/-- The first j packets lie in an array of cells, in memory from lo on. -/
def PkTo (w : World) (lo : Nat) (cs : Array Value) (ps : List Pk) (j : Nat) : Prop :=
  ∀ i p, i < j → ps[i]? = some p → cs[i * 3]? = some (.int .i64 p.1) ∧ ∃ u1 u2, cs[i * 3 + 1]? = some u1 ∧ cs[i * 3 + 2]? = some u2 ∧ OI w lo u1 p.2.1 ∧ OI w lo u2 p.2.2
theorem PkTo.zero (w : World) (lo : Nat) (cs : Array Value) (ps : List Pk) : PkTo w lo cs ps 0 := fun i p h => by omega
theorem PkTo.keep {w w' : World} {lo : Nat} {cs : Array Value} {ps : List Pk} {j : Nat} (h : PkTo w lo cs ps j) (k : Bel w w') : PkTo w' lo cs ps j := fun i p hi hp => by
  obtain ⟨h0, u1, u2, h1, h2, r1, r2⟩ := h i p hi hp
  exact ⟨h0, u1, u2, h1, h2, r1.keep k, r2.keep k⟩
theorem PkTo.setFar {w : World} {lo : Nat} {cs : Array Value} {ps : List Pk} {j : Nat} (h : PkTo w lo cs ps j) {p : Addr} (hp : p.block < lo) (z : Value) : PkTo (w.setCell p z) lo cs ps j := fun i q hi hq => by
  obtain ⟨h0, u1, u2, h1, h2, r1, r2⟩ := h i q hi hq
  exact ⟨h0, u1, u2, h1, h2, r1.setFar hp z, r2.setFar hp z⟩
theorem PkTo.step {w : World} {lo : Nat} {cs : Array Value} {ps : List Pk} {j : Nat} {p : Pk} {u1 u2 : Value} (h : PkTo w lo cs ps j) (hp : ps[j]? = some p) (hs : j * 3 + 2 < cs.size) (r1 : OI w lo u1 p.2.1) (r2 : OI w lo u2 p.2.2) :
    PkTo w lo (((cs.setIfInBounds (j * 3) (.int .i64 p.1)).setIfInBounds (j * 3 + 1) u1).setIfInBounds (j * 3 + 2) u2) ps (j + 1) := fun i q hi hq => by
  by_cases e : i = j
  · subst e
    rw [hp] at hq
    injection hq with hq
    subst hq
    refine ⟨?_, u1, u2, ?_, ?_, r1, r2⟩
    · rw [Array.getElem?_setIfInBounds_ne (by omega), Array.getElem?_setIfInBounds_ne (by omega), Array.getElem?_setIfInBounds_self_of_lt (by omega)]
    · rw [Array.getElem?_setIfInBounds_ne (by omega), Array.getElem?_setIfInBounds_self_of_lt (by simp only [Array.size_setIfInBounds]; omega)]
    · rw [Array.getElem?_setIfInBounds_self_of_lt (by simp only [Array.size_setIfInBounds]; omega)]
  · rw [Array.getElem?_setIfInBounds_ne (by omega), Array.getElem?_setIfInBounds_ne (by omega), Array.getElem?_setIfInBounds_ne (by omega), Array.getElem?_setIfInBounds_ne (by omega), Array.getElem?_setIfInBounds_ne (by omega), Array.getElem?_setIfInBounds_ne (by omega), Array.getElem?_setIfInBounds_ne (by omega), Array.getElem?_setIfInBounds_ne (by omega), Array.getElem?_setIfInBounds_ne (by omega)]
    exact h i q (by omega) hq
set_option maxHeartbeats 2000000 in
theorem toPkts (v : Value) (ps : List Pk) (w : World) (hv : RP w v ps) (hn : szP ps ≤ 1048576) :
    Calls Try.prog 42 #[v] w fun e w' => ∃ v', e = .returned v' ∧ OP w' w.heap.size v' ps ∧ Bel w w' := by
  obtain ⟨A, c, rfl, h2, h3, hA⟩ := hv
  have hz0 := szP_ge (ps := ps) (Nat.zero_le _)
  have hmk := mkPks ps.length (by omega)
  have hcs : (madeCells #[.int .i64 0, .slice none 0 0, .slice none 0 0] (ps.length * 3)).size = ps.length * 3 := size_madeCells _ _
  generalize madeCells #[.int .i64 0, .slice none 0 0, .slice none 0 0] (ps.length * 3) = C at *
  have HC := Lib.hid hcs
  clear hcs
  go_enter Try.func42, Try.ntmps42
  go_wp2
  clear hmk
  go_loopg [4] ps.length (fun f i wr => ∃ (j : Nat) (cs : Array Value), j + f = ps.length ∧ i = .int .i64 j ∧ cs.size = ps.length * 3 ∧ Blk wr w.heap.size 74 cs ∧ PkTo wr (w.heap.size + 1) cs ps j ∧ Bel w wr)
  case atStart => exact ⟨0, C, by omega, rfl, HC.out, Blk.new w _ _, PkTo.zero _ _ _ _, (Bel.refl _).alloc _⟩
  case round =>
    obtain ⟨j, cs, hj, rfl, hcz, hB, hP, hb⟩ := hrel
    have hj2 : j ≤ ps.length := by omega
    have HJ := Lib.hid hj
    have HZ := Lib.hid hcz
    clear hj hcz
    by_cases hlt : j < ps.length
    · obtain ⟨b1, o1, rfl, hb1, hc1⟩ := hA (by omega)
      have hx : Hid (ps[j]? = some (ps[j]'hlt)) := List.getElem?_eq_getElem hlt
      obtain ⟨g1, u1, u2, g2, g3, r1, r2⟩ := (hc1 j _ hx.out).keep hb hb1
      have hat := szP_at hx.out
      generalize ps[j]'hlt = p at *
      obtain ⟨a, xs, ys⟩ := p
      dsimp only at *
      clear hc1 hA
      have i0 : (0 : Int) ≤ (j : Int) := by omega
      have i1 : (j : Int) < (ps.length : Int) := by omega
      go_wp2_with fail
      refine (toPkt a u1 u2 xs ys _ r1 r2 (by omega) (by omega)).mono ?_
      rintro e w1 ⟨rv, ru, rfl, O1, O2, _, hb2⟩
      have hzz := hB.lt
      replace hB := hb2.keep hB
      replace hb := hb.trans hb2
      replace hP := hP.keep hb2
      replace O1 := O1.low (show w.heap.size + 1 ≤ wr.heap.size by omega)
      replace O2 := O2.low (show w.heap.size + 1 ≤ wr.heap.size by omega)
      obtain ⟨A1, c1, e1, _, _, _⟩ := O1.reads
      obtain ⟨A2, c2, e2, _, _, _⟩ := O2.reads
      subst e1 e2
      clear g1 g2 g3 r1 r2 hb2
      obtain ⟨cc, f1, z1⟩ := hB.facts
      have hcz := HZ.out
      have q1 : ∃ u, w1.cell? ⟨w.heap.size, j * 3, none⟩ = some u := ⟨_, (cc _).trans (Array.getElem?_eq_getElem (by omega))⟩
      have q2 : ∃ u, w1.cell? ⟨w.heap.size, j * 3 + 1, none⟩ = some u := ⟨_, (cc _).trans (Array.getElem?_eq_getElem (by omega))⟩
      have q3 : ∃ u, w1.cell? ⟨w.heap.size, j * 3 + 2, none⟩ = some u := ⟨_, (cc _).trans (Array.getElem?_eq_getElem (by omega))⟩
      clear hcz
      obtain ⟨t1, q1⟩ := q1
      obtain ⟨t2, q2⟩ := q2
      obtain ⟨t3, q3⟩ := q3
      have f2 := f1 (j * 3)
      have f3 := f1 (j * 3 + 1)
      have f4 := f1 (j * 3 + 2)
      clear cc f1
      go_wp2
      go_roundg (ps.length - (j + 1))
      case measure => have := HJ.out; omega
      case rel =>
        refine ⟨j + 1, _, by omega, by go_num, ?_, ((hB.set (j * 3) (.int .i64 a)).set (j * 3 + 1) (.slice A1 xs.length c1)).set (j * 3 + 2) (.slice A2 ys.length c2), ?_, ((hb.setCell (p := ⟨w.heap.size, j * 3, none⟩) (Nat.le_refl _) _).setCell (p := ⟨w.heap.size, j * 3 + 1, none⟩) (Nat.le_refl _) _).setCell (p := ⟨w.heap.size, j * 3 + 2, none⟩) (Nat.le_refl _) _⟩
        · simp only [Array.size_setIfInBounds]; exact HZ.out
        · have := (hP.step hx.out (by have := HZ.out; omega) O1 O2)
          exact ((this.setFar (p := ⟨w.heap.size, j * 3, none⟩) (by dsimp only; omega) _).setFar (p := ⟨w.heap.size, j * 3 + 1, none⟩) (by dsimp only; omega) _).setFar (p := ⟨w.heap.size, j * 3 + 2, none⟩) (by dsimp only; omega) _
    · obtain rfl : j = ps.length := by omega
      have i1 : ¬ (ps.length : Int) < (ps.length : Int) := by omega
      go_wp2
      go_ret
      refine ⟨_, rfl, ⟨_, _, rfl, Nat.le_refl _, by omega, fun h0 => ⟨w.heap.size, 0, rfl, Nat.le_refl _, hB.lt, fun i p hp => ?_⟩⟩, hb⟩
      obtain ⟨q0, t1, t2, q1, q2, O1, O2⟩ := hP i p (List.getElem?_eq_some_iff.1 hp).1 hp
      obtain ⟨cc, _, _⟩ := hB.facts
      rw [Nat.zero_add]
      exact ⟨(cc _).trans q0, t1, t2, (cc _).trans q1, (cc _).trans q2, O1.low (by omega), O2.low (by omega)⟩
end Go.Proofs.Ytchodlfkoafeaaa
