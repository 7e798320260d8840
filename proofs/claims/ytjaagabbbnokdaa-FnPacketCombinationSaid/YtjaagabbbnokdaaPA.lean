/-
  The program's addScaled (in place), ScaleVector, InverseField, and reduce of a basis: contracts. Conditions: valid vectors; a reduced matrix.
  Marking slices of slices of ints (markIntSS, heldIntSS) and the structs that hold one. Condition: numbers below 2^62.
  append of a row of its own onto an owned slice of slices of ints. Nothing of the program is run here but the builtin append.
  slices.Insert of one row into a slice of slices of ints: three roads (the walks follow the shelf's proofs for slices of ints), and one contract for an owned matrix. Condition: at most 2^20 rows.
  slices.Insert of one row into an owned slice of slices of ints: one contract. Condition: at most 2^20 rows.
  The program's insert of a vector into a basis, in place: its contract. Conditions: a reduced basis of width c at most 40, whose rows are its own; a valid vector of that width.
  Plain words on spans: how long a reduced matrix can be, the span of those of a list's vectors that fit a width, the free columns of a reduced matrix and the vectors that stand for them. No condition.
  NewBasis and SpanOf of the program: contracts. Conditions: a width of at most 40.
-/
import Derived.Test.YtjaagabbbnokdaaMx6
import Derived.Test.YtjaagabbbnokdaaVx
import Derived.Test.YtjaagabbbnokdaaMl
import Derived.Test.YtjaagabbbnokdaaLin3
import Derived.Shelf.Spec.SlicesInsert
import Derived.Lib.AppendZerosOnto
import Derived.Laws.NewBlocks
import Derived.Deep.RegionLaw
import Derived.Test.YtjaagabbbnokdaaMx5
namespace Go.Proofs.Ytjaagabbbnokdaa
open Go.ChangeShapes Go.WideShapes Go.ChangeAt Go.RowKit
set_option linter.unusedVariables false
set_option maxRecDepth 100000

/-- The first k numbers out of zs, the others out of xs. -/
def mixK (xs zs : List Int) (k : Nat) : List Int := zs.take k ++ xs.drop k
theorem mixK_len {xs zs : List Int} (hl : zs.length = xs.length) (k : Nat) : (mixK xs zs k).length = xs.length := by
  unfold mixK
  rw [List.length_append, List.length_take, List.length_drop]
  omega
theorem mixK_at {xs zs : List Int} (hl : zs.length = xs.length) {k : Nat} (hk : k < xs.length) : (mixK xs zs k)[k]? = xs[k]? := by
  unfold mixK
  rw [List.getElem?_append_right (by rw [List.length_take]; omega), List.length_take, List.getElem?_drop, show k + (k - min k zs.length) = k by omega]
theorem mixK_step {xs zs : List Int} (hl : zs.length = xs.length) {k : Nat} {z : Int} (hz : zs[k]? = some z) : (mixK xs zs k).set k z = mixK xs zs (k + 1) := by
  have hk : k < zs.length := (List.getElem?_eq_some_iff.1 hz).1
  apply List.ext_getElem?
  intro i
  by_cases e : i = k
  · subst e
    rw [List.getElem?_set_self (by rw [mixK_len hl]; omega)]
    unfold mixK
    rw [List.getElem?_append_left (by rw [List.length_take]; omega), List.getElem?_take, if_pos (by omega), hz]
  · rw [List.getElem?_set_ne (Ne.symm e)]
    unfold mixK
    rcases Nat.lt_or_ge i k with h | h
    · rw [List.getElem?_append_left (by rw [List.length_take]; omega), List.getElem?_append_left (by rw [List.length_take]; omega), List.getElem?_take, List.getElem?_take, if_pos h, if_pos (by omega)]
    · rw [List.getElem?_append_right (by rw [List.length_take]; omega), List.getElem?_append_right (by rw [List.length_take]; omega), List.length_take, List.length_take, List.getElem?_drop, List.getElem?_drop]
      congr 1
      omega
theorem mixK_zero (xs zs : List Int) : mixK xs zs 0 = xs := by simp [mixK]
theorem mixK_all {xs zs : List Int} (hl : zs.length = xs.length) : mixK xs zs xs.length = zs := by
  unfold mixK
  rw [← hl, List.take_length, hl, List.drop_length, List.append_nil]
theorem grown_set {w wr : World} {g i : Nat} {z : Value} (hG : w.grownBy wr (some g)) : w.grownBy (wr.setCell ⟨g, i, none⟩ z) (some g) :=
  ⟨hG.os, hG.tape, hG.output, by simpa [World.setCell] using hG.size, fun j hj hne => (Below.heap_setCell _ _ _ _ (fun e => hne (by rw [e]))).trans (hG.block j hj hne)⟩
theorem RIx.grownS {w w' : World} {lo : Nat} {ob : Option Nat} {v : Value} {xs : List Int} (h : RIx w lo ob v xs) (hg : w.grownBy w' ob) : RIx w' lo ob v xs := h.grown hg (.inl rfl)

set_option maxHeartbeats 1000000 in
theorem addsI (v u : Value) (q : Int) (xs ys : List Int) (base : Nat) (w : World) (hv : OI w base v xs) (hu : RIx w 0 v.ownBlock u ys) (hl : ys.length = xs.length) (hx : ∀ x ∈ xs, 0 ≤ x ∧ x ≤ 1018) (hy : ∀ x ∈ ys, 0 ≤ x ∧ x ≤ 1018) (hq : 0 ≤ q ∧ q ≤ 1018) :
    Calls Try.prog 105 #[v, u, .int .i64 q] w fun e w' => e = .returned v ∧ OI w' base v (addsZ xs ys q) ∧ w.grownBy w' v.ownBlock := by
  have HX := Lib.hid hx
  have HYY := Lib.hid hy
  have HL := Lib.hid hl
  have HZL : Hid ((addsZ xs ys q).length = xs.length) := Lib.hid (addsZ_len _ _ _ hl.symm)
  obtain ⟨B, d, rfl, h4, h5, hB⟩ := id hu
  clear hx hy
  rcases Nat.eq_zero_or_pos xs.length with h0 | h0
  · have e1 : xs = [] := List.eq_nil_of_length_eq_zero h0
    have e2 : ys = [] := List.eq_nil_of_length_eq_zero (by omega)
    subst e1 e2
    obtain ⟨Av, cv, ev, _, _, _⟩ := hv.reads
    subst ev
    have O1 : OI w base (.slice Av 0 cv) (addsZ [] [] q) := hv
    go_enter Try.func105, Try.ntmps105
    go_wp2
    refine wp_loop_rounds 1 ?_
    rw [rounds_succ]
    go_wp2
    go_ret
    exact ⟨rfl, O1, World.grownBy.refl w _⟩
  · obtain ⟨g, cap, rfl, g1, g2, g3, g4, g6, g5⟩ := hv.cells h0
    have O0 : OI w base (.slice (some ⟨g, 0, none⟩) xs.length cap) (mixK xs (addsZ xs ys q) 0) := by rw [mixK_zero]; exact hv
    clear g5 g6 hv
    have hu' : RIx w 0 (some g) (.slice B ys.length d) ys := hu
    clear hu
    have yl : (ys.length : Int) = (xs.length : Int) := by omega
    rw [hl] at hu' ⊢
    go_enter Try.func105, Try.ntmps105
    go_wp2
    clear yl
    go_loopg [11] xs.length (fun f i wr => ∃ k : Nat, k + f = xs.length ∧ i = .int .i64 k ∧ OI wr base (.slice (some ⟨g, 0, none⟩) xs.length cap) (mixK xs (addsZ xs ys q) k) ∧ w.grownBy wr (some g))
    case atStart => exact ⟨0, by omega, rfl, O0, World.grownBy.refl w _⟩
    case round =>
      clear O0
      obtain ⟨k, hk, rfl, O, GG⟩ := hrel
      have hk2 : k ≤ xs.length := by omega
      have HK := Lib.hid hk
      clear hk
      by_cases hlt : k < xs.length
      · obtain ⟨g', cap', e', _, zg, _, _, fz, cs⟩ := O.cells (by rw [mixK_len HZL.out]; omega)
        injection e' with e1 e2 e3
        injection e1 with e1
        injection e1 with e1
        subst e1
        clear e2 e3
        have hxk : xs[k]? = some (xs[k]'hlt) := List.getElem?_eq_getElem hlt
        have hyk : ys[k]? = some (ys[k]'(by omega)) := List.getElem?_eq_getElem (by omega)
        have c1 := cs k _ ((mixK_at HZL.out hlt).trans hxk)
        have f1 := fz k
        obtain ⟨B2, d2, eB, _, _, hB2⟩ := (hu'.grownS GG)
        injection eB with eB1 eB2 eB3
        subst eB1
        obtain ⟨b2, o2, rfl, _, zb, _, hc2⟩ := hB2 (by rw [HL.out]; omega)
        have g9 := hc2 k _ hyk
        have b1 := HX.out _ (List.mem_of_getElem? hxk)
        have b2' := HYY.out _ (List.mem_of_getElem? hyk)
        have HST := Lib.hid (mixK_step HZL.out (addsZ_at (q := q) hxk hyk))
        obtain ⟨u3, u4⟩ := mul_bd hq b2'
        have HO := Lib.hid (O.store (i := k) hlt ((xs[k]'hlt + ys[k]'(by omega) * q) % 1019))
        clear hc2 hB2 cs fz hxk hyk eB2 eB3
        generalize xs[k]'hlt = x at *
        generalize ys[k]'(by omega) = y at *
        have HE : Hid ((x + y * q) % 1019 = (x + q * y) % 1019) := Lib.hid (by rw [Int.mul_comm])
        have i0 : (0 : Int) ≤ (k : Int) := by omega
        have i1 : (k : Int) < (xs.length : Int) := by omega
        have O2 := HO.out
        rw [HST.out, HE.out] at O2
        go_wp2
        go_roundg (xs.length - (k + 1))
        case measure => have := HK.out; omega
        case rel => exact ⟨k + 1, by omega, by go_num, O2, grown_set GG⟩
      · obtain rfl : k = xs.length := by omega
        have i1 : ¬ (xs.length : Int) < (xs.length : Int) := by omega
        rw [mixK_all HZL.out] at O
        go_wp2
        go_ret
        exact ⟨rfl, O, GG⟩
theorem adds_zero (n : Nat) (xs : List Int) (q : Int) (hn : xs.length = n) : addsZ (List.replicate n 0) xs q = scaleZ xs q := by
  apply row_ext (by rw [addsZ_len _ _ _ (by simp [hn]), scaleZ_len]; simp [hn])
  intro k _
  rw [ent_addsZ _ _ _ _ (by simp [hn]), ent_scaleZ]
  have : ent (List.replicate n 0) k = 0 := by
    rcases Nat.lt_or_ge k n with h | h
    · exact ent_in (by simp [h])
    · exact ent_out (by simp [h])
  rw [this, Int.zero_add]
set_option maxHeartbeats 1000000 in
theorem scaleI (v : Value) (q : Int) (xs : List Int) (w : World) (hv : RI w v xs) (hx : vecB xs = true) (hq : elB q = true) :
    Calls Try.prog 103 #[v, .int .i64 q] w fun e w' => ∃ r, e = .returned r ∧ OI w' w.heap.size r (scaleZ xs q) ∧ Bel w w' := by
  obtain ⟨A, c, rfl, h2, h3, hA⟩ := id hv
  have HG := Lib.hid (vecB_facts hx).1
  have hn := (vecB_facts hx).2
  have HX := Lib.hid hx
  have HQ := Lib.hid hq
  have hmk := mkInts xs.length (by omega)
  have O := OI.made w xs.length (by omega)
  have Y : Bel w (w.alloc (.cells (madeCells #[.int .i64 0] xs.length) 3)) := (Bel.refl w).alloc _
  have HE := Lib.hid (adds_zero xs.length xs q rfl)
  clear hx hq
  generalize madeCells #[.int .i64 0] xs.length = C at *
  go_enter Try.func103, Try.ntmps103
  go_wp2_with fail
  refine (vecI _ xs _ hv).mono ?_
  rintro e w1 ⟨rfl, rfl⟩
  rw [HX.out]
  go_wp2_with fail
  refine (elI q _).mono ?_
  rintro e w1 ⟨rfl, rfl⟩
  rw [HQ.out]
  go_wp2_with fail
  refine (addsI _ _ q (List.replicate xs.length 0) xs w.heap.size _ O ?_ (by simp) ?_ HG.out (elB_facts HQ.out)).mono ?_
  · obtain ⟨A', c', e', k1, k2, k3⟩ := hv.keep Y
    refine ⟨A', c', e', k1, k2, fun h0 => ?_⟩
    obtain ⟨A2, c2, e2, _, _, k4⟩ := id hv
    injection e2 with e2a e2b e2c
    injection e' with ea eb ec
    obtain ⟨b, off, hb, hlt, hc⟩ := k3 h0
    obtain ⟨b', off', hb', hlt', _⟩ := k4 h0
    have : b = b' := by rw [← ea, e2a, hb'] at hb; injection hb with hb; injection hb with hb; exact hb.symm
    exact ⟨b, off, hb, Nat.zero_le _, hlt, fun e => by have h7 : w.heap.size = b := Option.some.inj e; omega, hc⟩
  · intro x hx
    rw [(List.mem_replicate.1 hx).2]; omega
  · rintro e w2 ⟨rfl, O2, G2⟩
    rw [HE.out] at O2
    have Y2 : Bel w w2 := Y.grown G2 (fun p hp => (O.block p hp).1)
    go_wp2
    go_ret
    exact ⟨_, rfl, O2, Y2⟩
theorem powFI (a n : Int) (w : World) (h : elB a = true) (hn : 0 ≤ n ∧ n ≤ 1000000000000) : Calls Try.prog 143 #[.int .i64 a, .int .i64 n] w fun e w' => e = .returned (.int .i64 (a ^ n.toNat % 1019)) ∧ w = w' := by
  obtain ⟨b1, b2⟩ := elB_facts h
  have HH := Lib.hid h
  have q2 : inB n 0 1000000000000 = true := decide_eq_true hn
  clear h
  go_enter Try.func143, Try.ntmps143
  go_wp2_with fail
  refine (elI a _).mono ?_
  rintro e w1 ⟨rfl, rfl⟩
  rw [HH.out]
  go_wp2_with fail
  refine (inRB _ _ _ _).mono ?_
  rintro e w1 ⟨rfl, rfl⟩
  rw [q2]
  go_wp2_with fail
  refine (powI a n 1019 _ b1 (by omega) hn.1 (by omega) (by omega)).mono ?_
  rintro e w1 ⟨rfl, rfl⟩
  obtain ⟨z, hz⟩ : ∃ z, z = a ^ n.toNat % 1019 := ⟨_, rfl⟩
  rw [← hz]
  have HZ := Lib.hid hz
  clear hz
  go_wp2
  go_ret
  exact ⟨by rw [← HZ.out]; rfl, rfl⟩
theorem invI (a : Int) (w : World) (h : elB a = true) : Calls Try.prog 104 #[.int .i64 a] w fun e w' => e = .returned (.int .i64 (invZ a)) ∧ w = w' := by
  have HE : Hid (invZ a = a ^ (1017 : Int).toNat % 1019) := Lib.hid rfl
  generalize invZ a = z at *
  go_enter Try.func104, Try.ntmps104
  go_wp2_with fail
  refine (powFI a 1017 _ h (by omega)).mono ?_
  rintro e w1 ⟨rfl, rfl⟩
  rw [← HE.out]
  go_wp2
  go_ret
  exact ⟨rfl, rfl⟩
set_option maxHeartbeats 2000000 in
theorem reduceI (d : Int) (v u : Value) (m : List (List Int)) (xs : List Int) (c : Nat) (P : Nat → Nat) (w : World) (hv : RII w v m) (hu : RI w u xs) (hR : Red c m P) (hx : Row c xs) (hc : c ≤ 40) :
    Calls Try.prog 101 #[.agg #[.int .i64 d, v], u] w fun e w' => ∃ r, e = .returned r ∧ OI w' w.heap.size r (reduceZ m xs) ∧ Bel w w' := by
  have HR := Lib.hid hR
  have HX := Lib.hid hx
  have HL := Lib.hid hx.1
  have hlx : xs.length ≤ 40 := by rw [hx.1]; exact hc
  clear hR hx
  obtain ⟨A, cp, rfl, h2, h3, hA⟩ := id hv
  have X := Blk.new w 39 #[.int .i64 d, .slice A m.length cp]
  have Y : Bel w (w.alloc (.cells #[.int .i64 d, .slice A m.length cp] 39)) := (Bel.refl _).alloc _
  go_enter Try.func101, Try.ntmps101
  go_wp2_with fail
  refine (cloneI u xs _ (hu.keep Y) (by omega)).mono ?_
  rintro e w1 ⟨r, rfl, O1, hb1⟩
  have X1 := hb1.keep X
  have Y1 := Y.trans hb1
  have sz := hb1.size
  have szw : w.heap.size < (w.alloc (.cells #[.int .i64 d, .slice A m.length cp] 39)).heap.size := by simp
  obtain ⟨lo1, hlo1⟩ : ∃ lo1, lo1 = (w.alloc (.cells #[.int .i64 d, .slice A m.length cp] 39)).heap.size := ⟨_, rfl⟩
  rw [← hlo1] at O1 szw sz
  clear hlo1
  obtain ⟨Ar, cr, er, k1, k2, _⟩ := O1.reads
  subst er
  obtain ⟨cc, _, zx⟩ := X1.facts
  go_wp2
  clear cc
  go_loopg [14] m.length (fun f i wr => ∃ k : Nat, k + f = m.length ∧ i = .int .i64 k ∧ OI wr lo1 (.slice Ar xs.length cr) (reduceZ (m.take k) xs) ∧ Bel w wr)
  case atStart => exact ⟨0, by omega, rfl, O1, Y1⟩
  case round =>
    clear O1 Y1 X1
    obtain ⟨k, hk, rfl, O, Yr⟩ := hrel
    have hk2 : k ≤ m.length := by omega
    have HK := Lib.hid hk
    clear hk
    by_cases hlt : k < m.length
    · obtain ⟨b1, o1, rfl, z1, hc1⟩ := hA (by omega)
      obtain ⟨ur, g1, ru⟩ := hc1 k _ (rw_get hlt)
      replace g1 := Yr.cell1 z1 g1
      clear hc1 hA
      have rowk := mtx_row HR.out.mtx hlt
      have HRK := Lib.hid rowk
      have inv := reduce_inv HR.out HX.out k (by omega)
      have HIN := Lib.hid inv.1
      have hleP : lead (rw_ m k) = P k := HR.out.lead_eq hlt
      have hlow := HR.out.low k hlt
      have hlk : lead (rw_ m k) < (rw_ m k).length := by rw [rowk.1, hleP]; exact hlow
      have HT := Lib.hid (reduce_take xs hlt)
      have hlz : (reduceZ (m.take k) xs).length = xs.length := by rw [inv.1.1, HL.out]
      have hlc : lead (rw_ m k) < xs.length := by rw [HL.out, ← rowk.1]; exact hlk
      have HLV := Lib.hid (leadV_yes hlk)
      have HLR : Hid ((rw_ m k).length = xs.length) := Lib.hid (by rw [rowk.1, HL.out])
      clear hleP hlow rowk inv
      obtain ⟨g, cap, eg, q1, q2, q3, q4, q6, q5⟩ := O.cells (by omega)
      injection eg with e1 e2 e3
      subst e1 e3
      have cx := q5 _ _ (ent_get (show lead (rw_ m k) < (reduceZ (m.take k) xs).length by omega))
      have HBX := Lib.hid (ent_bd HIN.out (lead (rw_ m k)))
      have HZL := Lib.hid hlz
      -- the row lies apart from what is being reduced
      have RX : Hid (RIx wr 0 (some g) ur (rw_ m k)) := Lib.hid (by
        obtain ⟨A', c', e', j1, j2, j3⟩ := id ru
        refine ⟨A', c', e', j1, j2, fun h0 => ?_⟩
        obtain ⟨b, off, hb, hlt2, hc⟩ := j3 h0
        exact ⟨b, off, hb, Nat.zero_le _, Nat.lt_of_lt_of_le hlt2 Yr.size, fun e => by injection e with e; omega, fun j x hx => Yr.cell1 hlt2 (hc j x hx)⟩)
      have HRU := Lib.hid (ru.keep Yr)
      obtain ⟨p, hp⟩ : ∃ p, p = lead (rw_ m k) := ⟨_, rfl⟩
      obtain ⟨x, hxx⟩ : ∃ x, x = ent (reduceZ (m.take k) xs) (lead (rw_ m k)) := ⟨_, rfl⟩
      rw [← hxx] at cx HBX
      rw [← hp] at cx hlc HLV HT
      have HXX := Lib.hid hxx
      have HP := Lib.hid hp
      clear q5 q6 e2 hlk hlz hxx hp q3
      have i0 : (0 : Int) ≤ (k : Int) := by omega
      have i1 : (k : Int) < (m.length : Int) := by omega
      have p0 : (0 : Int) ≤ (p : Int) := by omega
      have p1 : (p : Int) < (xs.length : Int) := by omega
      go_wp2_with fail
      refine (leadI _ _ _ HRU.out).mono ?_
      rintro e w2 ⟨rfl, rfl⟩
      rw [HLV.out]
      cases hz : (x != 0)
      · have HN : Hid (reduceZ (m.take (k + 1)) xs = reduceZ (m.take k) xs) := Lib.hid (by rw [HT.out]; apply clr1_0; rw [HP.out, ← HXX.out]; simpa using hz)
        rw [← HN.out] at O
        go_wp2
        go_roundg (m.length - (k + 1))
        case measure => have := HK.out; omega
        case rel => exact ⟨k + 1, by omega, by go_num, O, Yr⟩
      · obtain ⟨x0, x1⟩ := HBX.out
        have x2 : x ≠ 0 := by simpa using hz
        have HN : Hid (reduceZ (m.take (k + 1)) xs = addsZ (reduceZ (m.take k) xs) (rw_ m k) (1019 - x)) := Lib.hid (by
          rw [HT.out]
          unfold clr1
          rw [HP.out, ← HXX.out, hz]
          rfl)
        have HQB : Hid (0 ≤ 1019 - x ∧ 1019 - x ≤ 1018) := Lib.hid (by omega)
        clear x2
        go_wp2_with fail
        refine (addsI _ _ (1019 - x) (reduceZ (m.take k) xs) (rw_ m k) lo1 _ O RX.out (by rw [HLR.out, HZL.out]) HIN.out.2 HRK.out.2 HQB.out).mono ?_
        rintro e w3 ⟨rfl, O3, G3⟩
        rw [← HN.out] at O3
        have Y3 : Bel w w3 := Yr.grown G3 (fun q hq => by have := (O.block q hq).1; omega)
        go_wp2
        go_roundg (m.length - (k + 1))
        case measure => have := HK.out; omega
        case rel => exact ⟨k + 1, by omega, by go_num, O3, Y3⟩
    · obtain rfl : k = m.length := by omega
      have i1 : ¬ (m.length : Int) < (m.length : Int) := by omega
      rw [List.take_length] at O
      go_wp2
      go_ret
      exact ⟨_, rfl, O.low (by omega), Yr⟩
end Go.Proofs.Ytjaagabbbnokdaa

namespace Go.Proofs.Ytjaagabbbnokdaa
open Go.ChangeShapes Go.WideShapes Go.ChangeAt Go.RowKit
set_option linter.unusedVariables false
set_option maxRecDepth 100000

/-- How many numbers a matrix holds. -/
def flN (xss : List (List Int)) : Nat := xss.flatten.length
/-- One row of an owned matrix may turn, in its own block. -/
theorem OII.upd {w : World} {lo hi : Nat} {v : Value} {xss : List (List Int)} (h : OII w lo hi v xss) {j : Nat} (hj : j < xss.length) :
    ∃ u g cap, v = .slice (some ⟨g, 0, none⟩) xss.length cap ∧ xss.length ≤ cap ∧ cap ≤ 9223372036854775807 ∧ g < w.heap.size ∧ w.cell? ⟨g, j, none⟩ = some u ∧ OIn w lo hi u (rw_ xss j) ∧ u.ownBlock ≠ some g ∧
      ∀ w1 ys, w.grownBy w1 u.ownBlock → OI w1 lo u ys → OII w1 lo hi v (xss.set j ys) := by
  obtain ⟨us, hl, ⟨hl2, ⟨rfl, h9⟩ | ⟨g, cap, cur, rfl, hb, hh, h1, h2, h3, h4⟩⟩, hq, hr, hd, hv⟩ := h
  · omega
  · have hju : j < us.length := by omega
    have hu : us[j]? = some (us[j]'hju) := List.getElem?_eq_getElem hju
    refine ⟨us[j]'hju, g, cap, rfl, h1, by unfold maxLen at h2; omega, Blk.lt hh, ?_, hr j _ _ hu (rw_get hj), fun e => hv j _ hu g e rfl, fun w1 ys hg ho => ?_⟩
    · rw [(Blk.facts hh).1 j, ← Array.getElem?_toList]
      have h5 : (cur.toList.take (xss.length * 1))[j]? = some (us[j]'hju) := by rw [h4]; exact hu
      rw [List.getElem?_take] at h5
      rwa [if_pos (by omega)] at h5
    · refine ⟨us, by simp [hl], ?_, hq, fun i y zs q1 q2 => ?_, hd, hv⟩
      · rw [List.length_set]
        exact ⟨hl2, .inr ⟨g, cap, cur, rfl, hb, (hg.block g (Blk.lt hh) (fun e => hv j _ hu g e.symm rfl)).trans hh, h1, h2, h3, h4⟩⟩
      · by_cases e : i = j
        · subst e
          rw [List.getElem?_set_self hj] at q2
          injection q2 with q2
          subst q2
          rw [hu] at q1
          injection q1 with q1
          subst q1
          exact ⟨ho, (hr i _ _ hu (rw_get hj)).2⟩
        · rw [List.getElem?_set_ne (Ne.symm e)] at q2
          have h7 := hr i y zs q1 q2
          refine ⟨h7.1.far hg ?_, h7.2⟩
          cases hy : y.ownBlock with
          | none => exact .inl rfl
          | some q => exact .inr (fun e2 => hd i j y _ e q1 hu q hy e2.symm)

def MLr (w : World) (v : Value) (xss : List (List Int)) : Prop := RII w v xss
theorem MLr.reads {w : World} {v : Value} {xss : List (List Int)} (h : MLr w v xss) : RII w v xss := h
theorem ML.locr {w : World} {lo : Nat} {v : Value} {xss : List (List Int)} (h : ML w lo v xss) (hl : lo ≤ w.heap.size) : Loc lo w.heap.size (fun u => MLr u v xss) w := h.loc hl

/-- The marks in the first j rows. -/
def mkTo (k : Int) (xss : List (List Int)) (j : Nat) : List (List Int) := xss.mapIdx fun i r => if i < j then marks (k + (sumL xss i : Int)) r.length else r
def marksM (k : Int) (xss : List (List Int)) : List (List Int) := mkTo k xss xss.length
theorem mkTo_len (k : Int) (xss : List (List Int)) (j : Nat) : (mkTo k xss j).length = xss.length := by simp [mkTo]
theorem mkTo_row {k : Int} {xss : List (List Int)} {j i : Nat} (h : i < xss.length) : rw_ (mkTo k xss j) i = if i < j then marks (k + (sumL xss i : Int)) (rw_ xss i).length else rw_ xss i := by
  apply rw_in; simp [mkTo, List.getElem?_mapIdx, rw_get h]
theorem mkTo_zero (k : Int) (xss : List (List Int)) : mkTo k xss 0 = xss := by
  apply mat_ext (mkTo_len _ _ _)
  intro i hi
  rw [mkTo_len] at hi
  rw [mkTo_row hi, if_neg (by omega)]
theorem mkTo_step {k : Int} {xss : List (List Int)} {j : Nat} (hj : j < xss.length) : mkTo k xss (j + 1) = (mkTo k xss j).set j (marks (k + (sumL xss j : Int)) (rw_ xss j).length) := by
  apply mat_ext (by rw [List.length_set, mkTo_len, mkTo_len])
  intro i hi
  rw [mkTo_len] at hi
  rw [mkTo_row hi]
  by_cases e : i = j
  · subst e
    rw [if_pos (by omega)]
    symm
    apply rw_in; rw [List.getElem?_set_self (by rw [mkTo_len]; exact hi)]
  · have : rw_ ((mkTo k xss j).set j (marks (k + (sumL xss j : Int)) (rw_ xss j).length)) i = rw_ (mkTo k xss j) i := by
      unfold rw_ List.getD; rw [List.getElem?_set_ne (Ne.symm e)]
    rw [this, mkTo_row hi]
    rcases Nat.lt_trichotomy i j with h1 | h1 | h1
    · rw [if_pos (by omega), if_pos h1]
    · omega
    · rw [if_neg (by omega), if_neg (by omega)]
theorem Mid.sizeLe {lo hi : Nat} {a b : World} (m : Mid lo hi a b) : a.heap.size ≤ b.heap.size := m.size

set_option maxHeartbeats 1000000 in
theorem markII (v : Value) (k : Int) (xss : List (List Int)) (lo hi : Nat) (w : World) (h : Loc lo hi (fun u => OII u lo hi v xss) w) (h0 : 0 ≤ k) (hk : k + flN xss ≤ 4611686018427387904) :
    Calls Try.prog 70 #[v, .int .i64 k] w fun e w' => e = .returned (.int .i64 (k + (flN xss : Nat))) ∧ Loc lo hi (fun u => OII u lo hi v (marksM k xss)) w' ∧ Mid lo hi w w' := by
  have hlo := h.1
  have hhi := h.2.1
  have HO := h.out
  obtain ⟨A, cp, ev, _, _, _⟩ := HO.reads
  subst ev
  have HS : Hid (sumL xss xss.length = flN xss) := Lib.hid (sumL_all xss)
  have HMM : Hid (marksM k xss = mkTo k xss xss.length) := rfl
  have O0 : OII w lo hi (.slice A xss.length cp) (mkTo k xss 0) := by rw [mkTo_zero]; exact HO
  clear HO h
  go_enter Try.func70, Try.ntmps70
  go_wp2
  go_loopg [1, 5] xss.length (fun f m i wr => ∃ j : Nat, j + f = xss.length ∧ i = .int .i64 j ∧ m = .int .i64 (k + (sumL xss j : Int)) ∧ OII wr lo hi (.slice A xss.length cp) (mkTo k xss j) ∧ Mid lo hi w wr)
  case atStart => exact ⟨0, by omega, rfl, by simp [sumL], O0, Mid.refl _ _ _⟩
  case round =>
    clear O0
    obtain ⟨j, hj, rfl, rfl, O, M⟩ := hrel
    have hj2 : j ≤ xss.length := by omega
    have HJ := Lib.hid hj
    clear hj
    by_cases hlt : j < xss.length
    · obtain ⟨u, g, cap, ev, k1, k2, zg, cu, Ou, hne, hup⟩ := O.upd (j := j) (by rw [mkTo_len]; exact hlt)
      injection ev with e1 e2 e3
      subst e1 e3
      clear e2
      rw [mkTo_row hlt, if_neg (by omega)] at Ou
      have HST := Lib.hid (mkTo_step (k := k) hlt)
      have hs1 := sumL_step (rw_get hlt)
      have hs2 : sumL xss (j + 1) ≤ flN xss := sumL_le xss (j + 1)
      have HS1 := Lib.hid hs1
      have hb1 : k + (sumL xss j : Int) + (rw_ xss j).length ≤ 4611686018427387904 := by omega
      have HUP := Lib.hid hup
      have hms := M.size
      clear hs1 hs2 hup k1
      have i0 : (0 : Int) ≤ (j : Int) := by omega
      have i1 : (j : Int) < (xss.length : Int) := by omega
      go_wp2_with fail
      refine (markInts u (k + (sumL xss j : Int)) (rw_ xss j) lo _ Ou.1 (by omega) hb1).mono ?_
      rintro e w1 ⟨rfl, O1, G1⟩
      have O2 := HUP.out w1 _ G1 O1
      rw [← HST.out] at O2
      have M2 := M.trans (Mid.ofGrown (lo := lo) (hi := hi) G1 (fun q hq => ⟨(Ou.1.block q hq).1, Ou.2 q hq⟩))
      clear G1 O1 cu
      go_wp2
      go_roundg (xss.length - (j + 1))
      case measure => have := HJ.out; omega
      case rel => exact ⟨j + 1, by omega, by go_num, by rw [HS1.out]; congr 1; omega, O2, M2⟩
    · obtain rfl : j = xss.length := by omega
      have i1 : ¬ (xss.length : Int) < (xss.length : Int) := by omega
      have hms := M.size
      rw [← HMM.out] at O
      go_wp2
      go_ret
      exact ⟨by rw [HS.out]; rfl, O.loc hlo (Nat.le_trans hhi hms), M⟩
set_option maxHeartbeats 1000000 in
theorem heldII (v : Value) (k : Int) (xss : List (List Int)) (w : World) (hv : RII w v (marksM k xss)) (h0 : 0 ≤ k) (hk : k + flN xss ≤ 4611686018427387904) :
    Calls Try.prog 71 #[v, .int .i64 k] w fun e w' => e = .returned (.int .i64 (k + (flN xss : Nat))) ∧ w = w' := by
  obtain ⟨A, cp, rfl, h1, h2, hA⟩ := hv
  have HL : Hid ((marksM k xss).length = xss.length) := Lib.hid (mkTo_len _ _ _)
  rw [HL.out] at h1 hA ⊢
  have HS : Hid (sumL xss xss.length = flN xss) := Lib.hid (sumL_all xss)
  go_enter Try.func71, Try.ntmps71
  go_wp2
  go_loopg [1, 5] xss.length (fun f m i wr => ∃ j : Nat, j + f = xss.length ∧ i = .int .i64 j ∧ m = .int .i64 (k + (sumL xss j : Int)) ∧ w = wr)
  case atStart => exact ⟨0, by omega, rfl, by simp [sumL], rfl⟩
  case round =>
    obtain ⟨j, hj, rfl, rfl, rfl⟩ := hrel
    have hj2 : j ≤ xss.length := by omega
    have HJ := Lib.hid hj
    clear hj
    by_cases hlt : j < xss.length
    · obtain ⟨b1, o1, rfl, z1, hc1⟩ := hA (by omega)
      obtain ⟨u, g1, ru⟩ := hc1 j _ (rw_get (by rw [HL.out]; exact hlt))
      have er : rw_ (marksM k xss) j = marks (k + (sumL xss j : Int)) (rw_ xss j).length := by unfold marksM; rw [mkTo_row hlt, if_pos hlt]
      rw [er] at ru
      have hs1 := sumL_step (rw_get hlt)
      have hs2 : sumL xss (j + 1) ≤ flN xss := sumL_le xss (j + 1)
      have HS1 := Lib.hid hs1
      have hb1 : k + (sumL xss j : Int) + (rw_ xss j).length ≤ 4611686018427387904 := by omega
      have hd2 : decide (k + (sumL xss j : Int) + ((rw_ xss j).length : Int) < 0) = false := decide_eq_false (by omega)
      clear hs1 hs2 hc1 hA er
      have i0 : (0 : Int) ≤ (j : Int) := by omega
      have i1 : (j : Int) < (xss.length : Int) := by omega
      go_wp2_with fail
      refine (heldInts u (k + (sumL xss j : Int)) (rw_ xss j).length _ ru (by omega) hb1).mono ?_
      rintro e w1 ⟨rfl, rfl⟩
      go_wp2
      go_roundg (xss.length - (j + 1))
      case measure => have := HJ.out; omega
      case rel => exact ⟨j + 1, by omega, by go_num, by rw [HS1.out]; congr 1; omega, rfl⟩
    · obtain rfl : j = xss.length := by omega
      have i1 : ¬ (xss.length : Int) < (xss.length : Int) := by omega
      go_wp2
      go_ret
      exact ⟨by rw [HS.out]; rfl, rfl⟩
set_option maxHeartbeats 1000000 in
theorem mkBasis (d : Int) (v : Value) (k : Int) (xs : List (List Int)) (lo hi : Nat) (w : World) (h : Loc lo hi (fun u => OII u lo hi v xs) w) (h0 : 0 ≤ k) (hk : k + flN xs ≤ 4611686018427387904) :
    Calls Try.prog 23 #[.agg #[.int .i64 d, v], .int .i64 k] w fun e w' => e = .returned (.int .i64 (k + (flN xs : Nat))) ∧ Loc lo hi (fun u => OII u lo hi v (marksM k xs)) w' ∧ Mid lo hi w w' := by
  have Y : Bel w (w.alloc (.cells #[.int .i64 d, v] 39)) := (Bel.refl _).alloc _
  have H1 := Lib.hid (h.keep Y)
  obtain ⟨A, c, rfl, _, _, _⟩ := h.out.reads
  clear h
  go_enter Try.func23, Try.ntmps23
  go_wp2_with fail
  refine (markII _ k xs lo hi _ H1.out h0 hk).mono ?_
  rintro e w1 ⟨rfl, L1, M1⟩
  go_wp2
  go_ret
  exact ⟨rfl, L1, (Mid.ofBel Y).trans M1⟩
set_option maxHeartbeats 1000000 in
theorem hdBasis (d : Int) (v : Value) (k : Int) (xs : List (List Int)) (w : World) (h : RII w v (marksM k xs)) (h0 : 0 ≤ k) (hk : k + flN xs ≤ 4611686018427387904) :
    Calls Try.prog 24 #[.agg #[.int .i64 d, v], .int .i64 k] w fun e w' => e = .returned (.int .i64 (k + (flN xs : Nat))) ∧ Bel w w' := by
  have Y : Bel w (w.alloc (.cells #[.int .i64 d, v] 39)) := (Bel.refl _).alloc _
  have H1 := Lib.hid (h.keep Y)
  obtain ⟨A, c, rfl, _, _, _⟩ := h
  have hd : decide (k + ((flN xs : Nat) : Int) < 0) = false := decide_eq_false (by omega)
  go_enter Try.func24, Try.ntmps24
  go_wp2_with fail
  refine (heldII _ k xs _ H1.out h0 hk).mono ?_
  rintro e w1 ⟨rfl, rfl⟩
  go_wp2
  go_ret
  exact ⟨rfl, Y⟩
set_option maxHeartbeats 1000000 in
theorem mkGen (a : Int) (v : Value) (k : Int) (xs : List (List Int)) (lo hi : Nat) (w : World) (h : Loc lo hi (fun u => OII u lo hi v xs) w) (h0 : 0 ≤ k) (hk : k + flN xs ≤ 4611686018427387904) :
    Calls Try.prog 22 #[.agg #[.int .i64 a, v], .int .i64 k] w fun e w' => e = .returned (.int .i64 (k + (flN xs : Nat))) ∧ Loc lo hi (fun u => OII u lo hi v (marksM k xs)) w' ∧ Mid lo hi w w' := by
  have Y : Bel w (w.alloc (.cells #[.int .i64 a, v] 41)) := (Bel.refl _).alloc _
  have H1 := Lib.hid (h.keep Y)
  obtain ⟨A, c, rfl, _, _, _⟩ := h.out.reads
  clear h
  go_enter Try.func22, Try.ntmps22
  go_wp2_with fail
  refine (markII _ k xs lo hi _ H1.out h0 hk).mono ?_
  rintro e w1 ⟨rfl, L1, M1⟩
  go_wp2
  go_ret
  exact ⟨rfl, L1, (Mid.ofBel Y).trans M1⟩
set_option maxHeartbeats 1000000 in
theorem mkNk (a b c : Int) (v : Value) (k : Int) (xs : List (List Int)) (lo hi : Nat) (w : World) (h : Loc lo hi (fun u => OII u lo hi v xs) w) (h0 : 0 ≤ k) (hk : k + flN xs ≤ 4611686018427387904) :
    Calls Try.prog 30 #[.agg #[.int .i64 a, .int .i64 b, .int .i64 c, v], .int .i64 k] w fun e w' => e = .returned (.int .i64 (k + (flN xs : Nat))) ∧ Loc lo hi (fun u => OII u lo hi v (marksM k xs)) w' ∧ Mid lo hi w w' := by
  have Y : Bel w (w.alloc (.cells #[.int .i64 a, .int .i64 b, .int .i64 c, v] 52)) := (Bel.refl _).alloc _
  have H1 := Lib.hid (h.keep Y)
  obtain ⟨A, c, rfl, _, _, _⟩ := h.out.reads
  clear h
  go_enter Try.func30, Try.ntmps30
  go_wp2_with fail
  refine (markII _ k xs lo hi _ H1.out h0 hk).mono ?_
  rintro e w1 ⟨rfl, L1, M1⟩
  go_wp2
  go_ret
  exact ⟨rfl, L1, (Mid.ofBel Y).trans M1⟩
end Go.Proofs.Ytjaagabbbnokdaa

namespace Go.Proofs.Ytjaagabbbnokdaa
open Go.ChangeShapes Go.WideShapes Go.ChangeAt Go.RowKit
set_option linter.unusedVariables false
set_option maxRecDepth 100000

theorem OII.block {w : World} {lo hi : Nat} {v : Value} {xss : List (List Int)} (h : OII w lo hi v xss) : ∀ q, v.ownBlock = some q → lo ≤ q ∧ q < hi := by
  obtain ⟨us, hl, ho, hq, _⟩ := h
  exact fun q e => ⟨(World.ownsRow.lt ho q e).1, hq q e⟩
theorem OM.block {w : World} {lo : Nat} {v : Value} {xss : List (List Int)} (h : OM w lo v xss) : ∀ q, v.ownBlock = some q → lo ≤ q ∧ q < w.heap.size := OII.block h
theorem run_appO (w : World) (lo hi : Nat) (ty : TypeId) (v u : Value) (ad : Addr) (xss : List (List Int)) (xs : List Int) (h : OII w lo hi v xss) (hlo : lo ≤ hi) (hhi : hi ≤ w.heap.size) (hc : w.cell? ad = some u) (hs : ad.spot = none) (hu : OI w hi u xs) (hbytes : xss.length + 1 ≤ 1099511627776) :
    ∃ v' w', (Builtin.append_ #[34, 34] ty #[v, .slice (some ad) 1 1]).run Try.prog w = .ok v' w' ∧ OM w' lo v' (xss ++ [xs]) ∧ w.grownBy w' v.ownBlock ∧ (v'.ownBlock = v.ownBlock ∨ v'.ownBlock = some w.heap.size) := by
  obtain ⟨i0, hi0, hz0, hz1, hz2⟩ := info_parts row_info
  obtain ⟨us, hl, ho, hq, hr, hd, hv⟩ := h
  obtain ⟨A, c, rfl, _, _, _⟩ := hu.reads
  obtain ⟨v', w', hrun, h4, h5, _, h6⟩ := run_append_own_at (P := Try.prog) w lo 34 ty 59 i0 (.slice none 0 0) 1 24 Try.underlying34 hi0 hz0 hz1 hz2 rfl (by omega) v xss.length us ho ad 1 1 [.slice A xs.length c] (by simp)
    (fun j q hq => by
      have hj : j = 0 := by
        rcases Nat.eq_zero_or_pos j with e | e
        · exact e
        · rw [List.getElem?_eq_none (by simp; omega)] at hq; cases hq
      subst hj
      simp at hq
      subst hq
      obtain ⟨ab, ao, sp⟩ := ad
      dsimp only at hs
      subst hs
      rw [add_plain, Nat.add_zero]
      exact hc)
    (fun q hq => by simp at hq; subst hq; rfl) (by unfold maxLen; omega) (by omega) (by omega)
  have hub := hu.block
  have hgs := h5.size
  have key : ∀ (i : Nat) y, (us ++ [Value.slice A xs.length c])[i]? = some y → (i < us.length ∧ us[i]? = some y) ∨ (i = us.length ∧ y = .slice A xs.length c) := fun i y h1 => by
    rcases Nat.lt_or_ge i us.length with hj | hj
    · rw [List.getElem?_append_left hj] at h1; exact .inl ⟨hj, h1⟩
    · rw [List.getElem?_append_right hj] at h1
      have : i - us.length = 0 := by
        rcases Nat.eq_zero_or_pos (i - us.length) with e | e
        · exact e
        · rw [List.getElem?_eq_none (by simp; omega)] at h1; cases h1
      rw [this] at h1
      simp at h1
      exact .inr ⟨by omega, h1.symm⟩
  have old : ∀ (i : Nat) y, us[i]? = some y → ∀ q, y.ownBlock = some q → lo ≤ q ∧ q < hi := fun i y h1 q e => by
    have hlt := (List.getElem?_eq_some_iff.1 h1).1
    have h7 := hr i y _ h1 (rw_get (show i < xss.length by omega))
    exact ⟨(h7.1.block q e).1, h7.2 q e⟩
  refine ⟨v', w', hrun, ⟨us ++ [.slice A xs.length c], by simp [hl], by rw [List.length_append]; exact h4, fun q e => (World.ownsRow.lt h4 q e).2, fun j y ys q1 q2 => ?_, fun i j y y' hne q1 q2 q e1 e2 => ?_, fun j y q1 q e1 e2 => ?_⟩, h5, h6⟩
  · rcases key j y q1 with ⟨a1, a2⟩ | ⟨a1, rfl⟩
    · rw [List.getElem?_append_left (by omega)] at q2
      have h7 := hr j y ys a2 q2
      refine ⟨h7.1.far h5 ?_, fun q e => by have := h7.2 q e; omega⟩
      cases hy : y.ownBlock with
      | none => exact .inl rfl
      | some q => exact .inr (fun e => hv j y a2 q hy e.symm)
    · rw [a1, hl, List.getElem?_append_right (Nat.le_refl _), Nat.sub_self] at q2
      simp at q2
      subst q2
      refine ⟨(hu.low hlo).far h5 ?_, fun q e => by have := (hub q e).2; omega⟩
      cases hy : (Value.slice A xs.length c).ownBlock with
      | none => exact .inl rfl
      | some q => exact .inr (fun e => by have h8 := (hub q hy).1; have h9 := hq q e.symm; omega)
  · rcases key i y q1 with ⟨a1, a2⟩ | ⟨a1, rfl⟩
    · rcases key j y' q2 with ⟨b1, b2⟩ | ⟨b1, rfl⟩
      · exact hd i j y y' hne a2 b2 q e1 e2
      · have := (old i y a2 q e1).2; have := (hub q e2).1; omega
    · rcases key j y' q2 with ⟨b1, b2⟩ | ⟨b1, rfl⟩
      · have := (old j y' b2 q e2).2; have := (hub q e1).1; omega
      · omega
  · rcases key j y q1 with ⟨a1, a2⟩ | ⟨a1, rfl⟩
    · rcases h6 with h6 | h6
      · rw [h6] at e2; exact hv j y a2 q e1 e2
      · rw [h6] at e2; injection e2 with e2; have := (old j y a2 q e1).2; omega
    · rcases h6 with h6 | h6
      · rw [h6] at e2; have := hq q e2; have := (hub q e1).1; omega
      · rw [h6] at e2; injection e2 with e2; have := (hub q e1).2; omega
theorem wp_appO {o : Oper} {a : Act} {K : Act → World → Prop} {Q : Exit → Act → World → Prop} (w : World) (s x : Operand)
    (ho : o.op = .call { callee := .builtin .append, args := #[s, x], argTypes := #[34, 34] })
    (lo hi : Nat) (v u : Value) (ad : Addr) (xss : List (List Int)) (xs : List Int) (hs : a.eval s = v) (hx : a.eval x = .slice (some ad) 1 1) (h : OII w lo hi v xss) (hlo : lo ≤ hi) (hhi : hi ≤ w.heap.size) (hc : w.cell? ad = some u) (hsp : ad.spot = none) (hu : OI w hi u xs) (hbytes : xss.length + 1 ≤ 1099511627776)
    (hk : ∀ v' w', OM w' lo v' (xss ++ [xs]) → w.grownBy w' v.ownBlock → (v'.ownBlock = v.ownBlock ∨ v'.ownBlock = some w.heap.size) → K (a.put o.dst v') w') : o.wp Try.prog a w K Q := by
  obtain ⟨v', w', hrun, h2, h3, h4⟩ := run_appO w lo hi o.type v u ad xss xs h hlo hhi hc hsp hu hbytes
  unfold Oper.wp execOp
  simp only [ho, resolve, invoke, builtin, Sem.run_bind, Sem.run_pure, Result.andThen_ok, List.map_toArray, List.map_cons, List.map_nil, hs, hx, hrun]
  exact hk v' w' h2 h3 h4
theorem wpList_appO {ops : Array Oper} {rest : List Oper} {o : Oper} {a : Act} {Q : Exit → Act → World → Prop} (w : World) (hgd : o.guard = none) (s x : Operand)
    (ho : o.op = .call { callee := .builtin .append, args := #[s, x], argTypes := #[34, 34] })
    (lo hi : Nat) (v u : Value) (ad : Addr) (xss : List (List Int)) (xs : List Int) (hs : a.eval s = v) (hx : a.eval x = .slice (some ad) 1 1) (h : OII w lo hi v xss) (hlo : lo ≤ hi) (hhi : hi ≤ w.heap.size) (hc : w.cell? ad = some u) (hsp : ad.spot = none) (hu : OI w hi u xs) (hbytes : xss.length + 1 ≤ 1099511627776)
    (hk : ∀ v' w', OM w' lo v' (xss ++ [xs]) → w.grownBy w' v.ownBlock → (v'.ownBlock = v.ownBlock ∨ v'.ownBlock = some w.heap.size) → wpList Try.prog ops Q rest (a.put o.dst v') w') : wpList Try.prog ops Q (o :: rest) a w :=
  wpList_plain hgd fun _ hK => wp_appO w s x ho lo hi v u ad xss xs hs hx h hlo hhi hc hsp hu hbytes fun v' w' h2 h3 h4 => hK _ _ (hk v' w' h2 h3 h4)
theorem step_appO {ops : Array Oper} {o : Oper} {a : Act} {K : Act → World → Prop} {Q : Exit → Act → World → Prop} {E : Prop} (w : World) (hgd : o.guard = none) (s x : Operand)
    (ho : o.op = .call { callee := .builtin .append, args := #[s, x], argTypes := #[34, 34] })
    (lo hi : Nat) (v u : Value) (ad : Addr) (xss : List (List Int)) (xs : List Int) (hs : a.eval s = v) (hx : a.eval x = .slice (some ad) 1 1) (h : OII w lo hi v xss) (hlo : lo ≤ hi) (hhi : hi ≤ w.heap.size) (hc : w.cell? ad = some u) (hsp : ad.spot = none) (hu : OI w hi u xs) (hbytes : xss.length + 1 ≤ 1099511627776)
    (hk : ∀ v' w', OM w' lo v' (xss ++ [xs]) → w.grownBy w' v.ownBlock → (v'.ownBlock = v.ownBlock ∨ v'.ownBlock = some w.heap.size) → K (a.put o.dst v') w') :
    if Region.wanted o (yielded ops a.tmps) = true then Oper.wp Try.prog o a w K Q else E := by
  have hw : Region.wanted o (yielded ops a.tmps) = true := by simp [Region.wanted, hgd]
  rw [if_pos hw]
  exact wp_appO w s x ho lo hi v u ad xss xs hs hx h hlo hhi hc hsp hu hbytes hk
end Go.Proofs.Ytjaagabbbnokdaa

namespace Go.Proofs.Ytjaagabbbnokdaa
open Go.ChangeShapes Go.WideShapes Go.ChangeAt Go.RowKit Go.Lib
set_option linter.unusedVariables false
set_option maxRecDepth 100000

theorem Blk.shape {w : World} {g : Nat} {t : TypeId} {cs : Array Value} (h : Blk w g t cs) : w.shape? g = some (t, cs.size) := by
  unfold Blk at h
  simp [World.shape?, h]
theorem rowSz (w : World) : (Go.sizeOf 59).run Try.prog w = .ok 1 w := by
  obtain ⟨i0, hi0, h0, h1, h2⟩ := info_parts row_info
  simp [Go.sizeOf, typeInfo, hi0, h1]

set_option maxHeartbeats 4000000 in
theorem insShift (b off n c i vb voff m vc : Nat) (cs vs : List Value) (w : World) (hi : i < n) (hm : 0 < m) (hroom : n + m ≤ c) (hc63 : c ≤ 9223372036854775807) (hvb : vb ≠ b)
    (hcl : cs.length = n) (hvl : vs.length = m)
    (hcs : ∀ j v, cs[j]? = some v → w.cell? ⟨b, off + j, none⟩ = some v) (hsp : ∀ j, j < n + m → (w.cell? ⟨b, off + j, none⟩).isSome = true) (hfz : ∀ j, j < n + m → w.frozen? ⟨b, off + j, none⟩ = false)
    (hvs : ∀ j v, vs[j]? = some v → w.cell? ⟨vb, voff + j, none⟩ = some v) (h1c : ∀ v ∈ cs, v.oneCell' = true) (h1v : ∀ v ∈ vs, v.oneCell' = true)
    (tA tB : TypeId) (kA kB : Nat) (hsa : w.shape? vb = some (tA, kA)) (hsb : w.shape? b = some (tB, kB)) (hkB : kB ≠ 0) (hfa : w.frozen? ⟨vb, voff, none⟩ = false) (hfe : w.frozen? ⟨vb, kA, none⟩ = false) :
    Calls Try.prog 106 #[.slice (some ⟨b, off, none⟩) n c, .int .i64 i, .slice (some ⟨vb, voff, none⟩) m vc] w fun e w' =>
      e = .returned (.slice (some ⟨b, off, none⟩) (n + m) c) ∧ w' = (w.drew.setCells b (off + (i + m)) (cs.drop i)).setCells b (off + i) vs := by
  have hz1 : ¬ ((m : Int) = 0) := by omega
  have hz2 : ¬ ((i : Int) = (n : Int)) := by omega
  have hsz : (Try.prog.info? 59).map (·.size) = some 1 := by
    obtain ⟨i0, hi0, h0, h1, h2⟩ := info_parts row_info
    rw [hi0]; simp [h1]
  have hov : ∀ lb cb, (callFunc 144 #[.slice (some ⟨vb, voff, none⟩) m vc, .slice (some ⟨b, off + (i + m), none⟩) lb cb]).run Try.prog w = .ok (.value (.bool false)) w := fun lb cb => by
    rw [run_callFunc_extern Try.func144 (by kernel_rfl) (by kernel_rfl) (by kernel_rfl) (e := Extern.SlicesOverlaps.overlaps #[34, 34] #[4]) (by kernel_rfl),
      Lib.run_overlaps_apart w 34 4 59 Try.underlying34 1 rowSz ⟨vb, voff, none⟩ ⟨b, off + (i + m), none⟩ m vc lb cb hvb tA tB kA kB hsa hsb hkB hfa hfe]
    rfl
  have hdl : (cs.drop i).length = n - i := by rw [List.length_drop, hcl]
  have hw1 : IntKind.i64.wrap ((i : Int) + (m : Int)) = (i : Int) + (m : Int) := by rw [IntKind.wrap_i64]; omega
  have hb1 : (0 : Int) ≤ (i : Int) + (m : Int) := by omega
  have hin : i ≤ n := by omega
  have htn : ((i : Int) + (m : Int)).toNat = i + m := by omega
  have hb2 : ¬ (c = i + m) := by omega
  have hb3 : (i : Int) ≤ (n : Int) + (m : Int) := by omega
  have hb4 : ¬ (c = i) := by omega
  have hcp1 : ∀ ty dc sc, (Builtin.copy_ #[34, 34] ty #[.slice (some ⟨b, off + (i + m), none⟩) (n + m - (i + m)) dc, .slice (some ⟨b, off + i, none⟩) (n + m - i) sc]).run Try.prog w.drew = .ok (goInt (cs.drop i).length) (w.drew.setCells b (off + (i + m)) (cs.drop i)) := fun ty dc sc =>
    run_copy_cells w.drew _ _ ty 59 b (off + (i + m)) (n + m - (i + m)) dc ⟨b, off + i, none⟩ (n + m - i) sc (cs.drop i) Try.underlying34 hsz (by rw [hdl]; simp only [Nat.min_def]; split <;> omega)
      (fun j v hj => by rw [Addr.add_lit, Nat.add_assoc]; exact hcs (i + j) v (by rwa [List.getElem?_drop] at hj))
      (fun j hj => by rw [Nat.add_assoc]; exact hsp _ (by omega)) (fun j hj => by rw [Nat.add_assoc]; exact hfz _ (by omega)) (fun v hv => h1c v (List.mem_of_mem_drop hv))
  obtain ⟨W1, hW1⟩ : ∃ W1, W1 = w.drew.setCells b (off + (i + m)) (cs.drop i) := ⟨_, rfl⟩
  have hsp1 : ∀ k, k < n + m → (W1.cell? ⟨b, off + k, none⟩).isSome = true := fun k hk => by
    rw [hW1]
    exact isSome_setCells b _ _ _ (fun j hj => by rw [Nat.add_assoc]; exact hsp _ (by omega)) _ (hsp k hk)
  have hcp2 : ∀ (W : World), (∀ x, W.cell? x = W1.cell? x) → (∀ x, W.frozen? x = W1.frozen? x) → ∀ ty dc, (Builtin.copy_ #[34, 34] ty #[.slice (some ⟨b, off + i, none⟩) (n + m - i) dc, .slice (some ⟨vb, voff, none⟩) m vc]).run Try.prog W = .ok (goInt vs.length) (W.setCells b (off + i) vs) := fun W hWc hWf ty dc =>
    run_copy_cells W _ _ ty 59 b (off + i) (n + m - i) dc ⟨vb, voff, none⟩ m vc vs Try.underlying34 hsz (by rw [hvl]; simp only [Nat.min_def]; split <;> omega)
      (fun j v hj => by
        rw [Addr.add_lit, hWc, hW1, World.cell?_setCells_out b _ _ _ _ (fun h _ => absurd h hvb)]
        exact hvs j v hj)
      (fun j hj => by rw [hWc, Nat.add_assoc]; exact hsp1 _ (by omega)) (fun j hj => by rw [hWf, hW1, World.frozen?_setCells, Nat.add_assoc]; exact hfz _ (by omega)) h1v
  rw [← hW1] at hcp1
  clear hsp hfz hvs h1c h1v hsa hsb hfa hfe hcs
  go_enter Try.func106, Try.ntmps106
  go_wp2_with (simp only [hov])
  go_region_law (refine step_copy_runI rfl _ _ 34 34 rfl _ _ (by simp [Act.eval, Act.put]) (by simp [Act.eval, Act.put]) (hcp1 _ _ _) ?_)
  go_wp2_with (at_builtin; refine wpList_copy_runI _ rfl _ _ 34 34 rfl _ _ rfl rfl (hcp2 _ (fun _ => rfl) (fun _ => rfl) _ _) ?_)
  go_ret
  first | exact ⟨rfl, rfl⟩ | exact ⟨rfl, by rw [hW1]⟩


set_option maxHeartbeats 4000000 in
theorem insGrow (b off n c i vb voff m vc : Nat) (cs vs : List Value) (w : World) (hi : i < n) (hm : 0 < m) (hnc : n ≤ c) (hroom : c < n + m) (hbig : (n + m) * 24 ≤ 140737488355328)
    (hcl : cs.length = n) (hvl : vs.length = m)
    (hcs : ∀ j v, cs[j]? = some v → w.cell? ⟨b, off + j, none⟩ = some v)
    (hvs : ∀ j v, vs[j]? = some v → w.cell? ⟨vb, voff + j, none⟩ = some v) (h1c : ∀ v ∈ cs, v.oneCell' = true) (h1v : ∀ v ∈ vs, v.oneCell' = true) :
    Calls Try.prog 106 #[.slice (some ⟨b, off, none⟩) n c, .int .i64 i, .slice (some ⟨vb, voff, none⟩) m vc] w fun e w' =>
      e = .returned (.slice (some ⟨w.heap.size, 0, none⟩) (n + m) (grownCap w (n + m) c 59)) ∧
      w' = (((w.alloc (.cells ((cs.take i).toArray ++ Builtin.zeroCells (Value.slice none 0 0).cells (n + m - i) ++ Builtin.zeroCells (Value.slice none 0 0).cells (grownCap w (n + m) c 59 - (n + m))) 59)).drew.setCells w.heap.size i vs).drew).setCells w.heap.size (i + m) (cs.drop i) := by
  obtain ⟨i0, hi0, hz0, hzs, hzb⟩ := info_parts row_info
  have hz1 : ¬ ((m : Int) = 0) := by omega
  have hz2 : ¬ ((i : Int) = (n : Int)) := by omega
  have hz3 : (c : Int) < (n : Int) + (m : Int) := by omega
  have hsz : (Try.prog.info? 59).map (·.size) = some 1 := by rw [hi0]; simp [hzs]
  have hbw : b < w.heap.size := block_lt_of_cell (hcs 0 _ (List.getElem?_eq_getElem (by omega)))
  have hvw : vb < w.heap.size := block_lt_of_cell (hvs 0 _ (List.getElem?_eq_getElem (by omega)))
  have hkk : (n : Int) + (m : Int) - (i : Int) = ((n + m - i : Nat) : Int) := by omega
  have hik : i + (n + m - i) = n + m := by omega
  have hold : (Builtin.firstCells i0.size i (.slice (some ⟨b, off, none⟩) i c)).run Try.prog w.drew = .ok (cs.take i).toArray w.drew := by
    rw [hzs]
    exact run_firstCells_some w.drew 1 i ⟨b, off, none⟩ i c (cs.take i) (by rw [List.length_take]; omega) (fun j v hj => by
      rw [Addr.add_lit]
      rw [List.getElem?_take] at hj
      split at hj
      · exact hcs j v hj
      · cases hj)
  have hrz : ∀ ty, (Builtin.append_ #[34, 3] ty #[.slice (some ⟨b, off, none⟩) i c, .int .i64 ((n : Int) + (m : Int) - (i : Int))]).run Try.prog w =
      .ok (.slice (some ⟨w.heap.size, 0, none⟩) (n + m) (grownCap w (n + m) c 59)) (w.drew.alloc (.cells ((cs.take i).toArray ++ Builtin.zeroCells (Value.slice none 0 0).cells (n + m - i) ++ Builtin.zeroCells (Value.slice none 0 0).cells (grownCap w (n + m) c 59 - (n + m))) 59)) := fun ty => by
    have h := Lib.run_append_grow_zeros w 34 3 ty 59 i0 _ .i64 .i64 Try.underlying34 Try.underlying3 hi0 hz0 (some ⟨b, off, none⟩) i c (cs.take i) hold (n + m - i) (by omega) (by omega) (by omega) (by omega) (by rw [hzb]; omega) (by rw [hzb, hik]; exact growslice_fits hroom hbig)
    rw [hik] at h
    rw [hkk]
    exact h
  obtain ⟨G, hG⟩ : ∃ G, G = grownCap w (n + m) c 59 := ⟨_, rfl⟩
  obtain ⟨ROW, hROW⟩ : ∃ ROW : Array Value, ROW = (cs.take i).toArray ++ Builtin.zeroCells (Value.slice none 0 0).cells (n + m - i) ++ Builtin.zeroCells (Value.slice none 0 0).cells (G - (n + m)) := ⟨_, rfl⟩
  rw [← hG] at hrz ⊢
  rw [← hROW] at hrz ⊢
  have hRl : n + m ≤ ROW.size := by
    rw [hROW]
    simp [Builtin.zeroCells, Value.cells]
    omega
  obtain ⟨W1, hW1⟩ : ∃ W1, W1 = w.drew.alloc (.cells ROW 59) := ⟨_, rfl⟩
  rw [← hW1] at hrz
  have hN : ∀ j, j < n + m → (W1.cell? ⟨w.heap.size, j, none⟩).isSome = true := fun j hj => by
    rw [hW1, World.cell?_alloc_at (w := w.drew) ROW _ w.heap.size j rfl, Array.getElem?_eq_getElem (by omega)]; rfl
  have hNf : ∀ j, W1.frozen? ⟨w.heap.size, j, none⟩ = false := fun j => by rw [hW1]; exact World.frozen?_alloc_at (w := w.drew) ROW _ w.heap.size j rfl
  have hOb : ∀ j v, w.cell? ⟨b, j, none⟩ = some v → W1.cell? ⟨b, j, none⟩ = some v := fun j v h => by rw [hW1, World.cell?_alloc_past (w := w.drew) _ b j hbw]; exact h
  have hOv : ∀ j v, w.cell? ⟨vb, j, none⟩ = some v → W1.cell? ⟨vb, j, none⟩ = some v := fun j v h => by rw [hW1, World.cell?_alloc_past (w := w.drew) _ vb j hvw]; exact h
  have hcpA : ∀ (W : World), (∀ x, W.cell? x = W1.cell? x) → (∀ x, W.frozen? x = W1.frozen? x) → ∀ ty dc, (Builtin.copy_ #[34, 34] ty #[.slice (some ⟨w.heap.size, i, none⟩) (n + m - i) dc, .slice (some ⟨vb, voff, none⟩) m vc]).run Try.prog W = .ok (goInt vs.length) (W.setCells w.heap.size i vs) := fun W hWc hWf ty dc =>
    run_copy_cells W _ _ ty 59 w.heap.size i (n + m - i) dc ⟨vb, voff, none⟩ m vc vs Try.underlying34 hsz (by rw [hvl]; simp only [Nat.min_def]; split <;> omega)
      (fun j v hj => by rw [Addr.add_lit, hWc]; exact hOv _ v (hvs j v hj))
      (fun j hj => by rw [hWc]; exact hN _ (by omega)) (fun j hj => by rw [hWf]; exact hNf _) h1v
  have hGn : n + m ≤ G := by rw [hG]; exact grownCap_ge w _ _ _
  have hG63 : G ≤ 9223372036854775807 := by
    have := grownCap_le_maxLen w (n + m) c 59 (by unfold maxLen; omega)
    rw [← hG] at this
    unfold maxLen at this
    omega
  have hGi : ¬ (G = i) := by omega
  have hGim : ¬ (G = i + m) := by omega
  have hci : ¬ (c = i) := by omega
  have hbN : b ≠ w.heap.size := by omega
  have hdl : (cs.drop i).length = n - i := by rw [List.length_drop, hcl]
  have hcpB : ∀ (W : World), (∀ x, W.cell? x = (W1.setCells w.heap.size i vs).cell? x) → (∀ x, W.frozen? x = (W1.setCells w.heap.size i vs).frozen? x) → ∀ ty dc sc, (Builtin.copy_ #[34, 34] ty #[.slice (some ⟨w.heap.size, i + m, none⟩) (n + m - (i + m)) dc, .slice (some ⟨b, off + i, none⟩) (n - i) sc]).run Try.prog W = .ok (goInt (cs.drop i).length) (W.setCells w.heap.size (i + m) (cs.drop i)) := fun W hWc hWf ty dc sc =>
    run_copy_cells W _ _ ty 59 w.heap.size (i + m) (n + m - (i + m)) dc ⟨b, off + i, none⟩ (n - i) sc (cs.drop i) Try.underlying34 hsz (by rw [hdl]; simp only [Nat.min_def]; split <;> omega)
      (fun j v hj => by
        rw [Addr.add_lit, hWc, World.cell?_setCells_out _ _ _ _ _ (fun h _ => absurd h hbN), Nat.add_assoc]
        exact hOb _ v (hcs (i + j) v (by rwa [List.getElem?_drop] at hj)))
      (fun j hj => by rw [hWc]; exact isSome_setCells _ _ _ _ (fun t ht => hN _ (by omega)) _ (hN _ (by omega)))
      (fun j hj => by rw [hWf, World.frozen?_setCells]; exact hNf _) (fun v hv => h1c v (List.mem_of_mem_drop hv))
  subst hW1
  have hE1 : ∀ x, ((w.alloc (.cells ROW 59)).drew).cell? x = (w.drew.alloc (.cells ROW 59)).cell? x := fun x => rfl
  have hE2 : ∀ x, ((w.alloc (.cells ROW 59)).drew).frozen? x = (w.drew.alloc (.cells ROW 59)).frozen? x := fun x => rfl
  have hF1 : ∀ x, (((w.alloc (.cells ROW 59)).drew.setCells w.heap.size i vs).drew).cell? x = ((w.drew.alloc (.cells ROW 59)).setCells w.heap.size i vs).cell? x := fun x => rfl
  have hF2 : ∀ x, (((w.alloc (.cells ROW 59)).drew.setCells w.heap.size i vs).drew).frozen? x = ((w.drew.alloc (.cells ROW 59)).setCells w.heap.size i vs).frozen? x := fun x => rfl
  have hw1 : IntKind.i64.wrap ((i : Int) + (m : Int)) = (i : Int) + (m : Int) := by rw [IntKind.wrap_i64]; omega
  have hb1 : (0 : Int) ≤ (i : Int) + (m : Int) := by omega
  have hin : i ≤ n := by omega
  have htn : ((i : Int) + (m : Int)).toNat = i + m := by omega
  have hb3 : (i : Int) ≤ (n : Int) := by omega
  have hb5 : (i : Int) + (m : Int) ≤ (n : Int) + (m : Int) := by omega
  clear hkk hik hold hROW hG hRl hcs hvs h1c h1v hN hNf hOb hOv
  go_enter Try.func106, Try.ntmps106
  go_wp2_with (first
    | (at_builtin; refine Lib.wpList_append_run _ rfl _ _ _ _ rfl _ _ rfl rfl _ _ (hrz _) ?_)
    | (at_builtin; refine wpList_copy_runI _ rfl _ _ 34 34 rfl _ _ rfl rfl (hcpA _ hE1 hE2 _ _) ?_)
    | (at_builtin; refine wpList_copy_runI _ rfl _ _ 34 34 rfl _ _ rfl rfl (hcpB _ (fun _ => rfl) (fun _ => rfl) _ _ _) ?_))
  go_region_law (refine step_copy_runI rfl _ _ 34 34 rfl (.slice (some ⟨w.heap.size, i + m, none⟩) (n + m - (i + m)) (G - (i + m))) (.slice (some ⟨b, off + i, none⟩) (n - i) (c - i)) (by simp [Act.eval, Act.put]) (by simp [Act.eval, Act.put]) (hcpB _ hF1 hF2 59 (G - (i + m)) (c - i)) ?_)
  go_wp2
  go_ret
  exact ⟨rfl, rfl⟩

end Go.Proofs.Ytjaagabbbnokdaa

namespace Go.Proofs.Ytjaagabbbnokdaa
open Go.ChangeShapes Go.WideShapes Go.ChangeAt Go.RowKit Go.Lib
set_option linter.unusedVariables false
set_option maxRecDepth 100000

def setArr : Array Value → Nat → List Value → Array Value
  | cs, _, [] => cs
  | cs, o, v :: r => setArr (cs.setIfInBounds o v) (o + 1) r
theorem setArr_size : ∀ (vs : List Value) (cs : Array Value) (o : Nat), (setArr cs o vs).size = cs.size
  | [], _, _ => rfl
  | v :: r, cs, o => by unfold setArr; rw [setArr_size r]; simp
theorem setArr_at : ∀ (vs : List Value) (cs : Array Value) (o k : Nat), k < cs.size → (setArr cs o vs)[k]? = if o ≤ k ∧ k < o + vs.length then vs[k - o]? else cs[k]?
  | [], cs, o, k, hk => by
    unfold setArr
    rw [if_neg (by rintro ⟨h1, h2⟩; rw [List.length_nil] at h2; omega)]
  | v :: r, cs, o, k, hk => by
    unfold setArr
    rw [setArr_at r _ _ _ (by simpa using hk), Array.getElem?_setIfInBounds]
    by_cases h1 : o + 1 ≤ k ∧ k < o + 1 + r.length
    · rw [if_pos h1, if_pos (by simp; omega)]
      obtain ⟨d, rfl⟩ : ∃ d, k = o + 1 + d := ⟨k - o - 1, by omega⟩
      rw [show o + 1 + d - (o + 1) = d by omega, show o + 1 + d - o = d + 1 by omega, List.getElem?_cons_succ]
    · rw [if_neg h1]
      by_cases h2 : o = k
      · subst h2
        simp [hk]
      · rw [if_neg h2, if_neg (by simp; omega)]
theorem Blk.setCells : ∀ (vs : List Value) {w : World} {g : Nat} {t : TypeId} {cs : Array Value} (o : Nat), Blk w g t cs → Blk (w.setCells g o vs) g t (setArr cs o vs)
  | [], _, _, _, _, _, h => h
  | v :: r, _, _, _, _, o, h => Blk.setCells r (o + 1) (h.set o v)
theorem grown_cells : ∀ (vs : List Value) {w wr : World} {g : Nat} (o : Nat), w.grownBy wr (some g) → w.grownBy (wr.setCells g o vs) (some g)
  | [], _, _, _, _, h => h
  | v :: r, _, _, _, o, h => grown_cells r (o + 1) ⟨h.os, h.tape, h.output, by simpa [World.setCell] using h.size, fun j hj hne => (Below.heap_setCell _ _ _ _ (fun e => hne (by rw [e]))).trans (h.block j hj hne)⟩
theorem bel_cells : ∀ (vs : List Value) {w wr : World} {g : Nat} (o : Nat), Bel w wr → w.heap.size ≤ g → Bel w (wr.setCells g o vs)
  | [], _, _, _, _, h, _ => h
  | v :: r, _, _, _, o, h, hg => bel_cells r (o + 1) (h.setCell hg v) hg
theorem bel_grown {w w' : World} {row : Option Nat} (h : Bel w w') : w.grownBy w' row := ⟨Below.os h, Below.tape h, Below.output h, Below.size h, fun i hi _ => Below.block h i hi⟩
theorem ins_at {α : Type} (us : List α) (u : α) {i : Nat} (hi : i ≤ us.length) (j : Nat) : (us.take i ++ u :: us.drop i)[j]? = if j < i then us[j]? else if j = i then some u else us[j - 1]? := by
  have hl : (us.take i).length = i := by rw [List.length_take]; omega
  rcases Nat.lt_trichotomy j i with h1 | h1 | h1
  · rw [if_pos h1, List.getElem?_append_left (by omega), List.getElem?_take, if_pos h1]
  · subst h1
    rw [if_neg (by omega), if_pos rfl, List.getElem?_append_right (by omega), hl]; simp
  · rw [if_neg (by omega), if_neg (by omega), List.getElem?_append_right (by omega), hl]
    obtain ⟨d, rfl⟩ : ∃ d, j = i + 1 + d := ⟨j - i - 1, by omega⟩
    rw [show i + 1 + d - i = d + 1 by omega, List.getElem?_cons_succ, List.getElem?_drop, show i + 1 + d - 1 = i + d by omega]

theorem putM {w w' : World} {lo hi : Nat} {v u r : Value} {us : List Value} {xss : List (List Int)} {xs : List Int} {i : Nat}
    (hl : us.length = xss.length) (hq : ∀ q, v.ownBlock = some q → q < hi) (hr : ∀ (j : Nat) u xs, us[j]? = some u → xss[j]? = some xs → OIn w lo hi u xs)
    (hd : ∀ (i j : Nat) u u', i ≠ j → us[i]? = some u → us[j]? = some u' → ∀ q, u.ownBlock = some q → u'.ownBlock ≠ some q) (hv : ∀ (j : Nat) u, us[j]? = some u → ∀ q, u.ownBlock = some q → v.ownBlock ≠ some q)
    (hu : OI w hi u xs) (hlo : lo ≤ hi) (hhi : hi ≤ w.heap.size) (hg : w.grownBy w' v.ownBlock) (hi' : i ≤ xss.length)
    (hor : w'.ownsRow lo 59 1 r (xss.length + 1) (us.take i ++ u :: us.drop i)) (hro : r.ownBlock = v.ownBlock ∨ r.ownBlock = some w.heap.size) : OM w' lo r (putZ xss i xs) := by
  have hub := hu.block
  have hgs := hg.size
  have hiu : i ≤ us.length := by omega
  have key : ∀ (j : Nat) y, (us.take i ++ u :: us.drop i)[j]? = some y → (∃ j', us[j']? = some y ∧ (putZ xss i xs)[j]? = xss[j']? ∧ ((j < i ∧ j' = j) ∨ (i < j ∧ j' + 1 = j))) ∨ (j = i ∧ y = u ∧ (putZ xss i xs)[j]? = some xs) := fun j y h1 => by
    have e2 : (putZ xss i xs)[j]? = _ := ins_at xss xs hi' j
    rw [ins_at us u hiu j] at h1
    rcases Nat.lt_trichotomy j i with h | h | h
    · rw [if_pos h] at h1 e2; exact .inl ⟨j, h1, e2, .inl ⟨h, rfl⟩⟩
    · rw [if_neg (by omega), if_pos h] at h1 e2; injection h1 with h1; exact .inr ⟨h, h1.symm, e2⟩
    · rw [if_neg (by omega), if_neg (by omega)] at h1 e2; exact .inl ⟨j - 1, h1, e2, .inr ⟨h, by omega⟩⟩
  have old : ∀ (i : Nat) y, us[i]? = some y → ∀ q, y.ownBlock = some q → lo ≤ q ∧ q < hi := fun i y h1 q e => by
    have hlt := (List.getElem?_eq_some_iff.1 h1).1
    have h7 := hr i y _ h1 (rw_get (show i < xss.length by omega))
    exact ⟨(h7.1.block q e).1, h7.2 q e⟩
  have plen : (putZ xss i xs).length = xss.length + 1 := putZ_len hi'
  refine ⟨us.take i ++ u :: us.drop i, by rw [plen]; simp; omega, by rw [plen]; exact hor, fun q e => (World.ownsRow.lt hor q e).2, fun j y ys q1 q2 => ?_, fun a b y y' hne q1 q2 q e1 e2 => ?_, fun j y q1 q e1 e2 => ?_⟩
  · rcases key j y q1 with ⟨j', a1, a2, _⟩ | ⟨_, rfl, a2⟩
    · rw [a2] at q2
      have h7 := hr j' y ys a1 q2
      refine ⟨h7.1.far hg ?_, fun q e => by have := h7.2 q e; omega⟩
      cases hy : y.ownBlock with
      | none => exact .inl rfl
      | some q => exact .inr (fun e => hv j' y a1 q hy e.symm)
    · rw [a2] at q2
      injection q2 with q2
      subst q2
      refine ⟨(hu.low hlo).far hg ?_, fun q e => by have := (hub q e).2; omega⟩
      cases hy : y.ownBlock with
      | none => exact .inl rfl
      | some q => exact .inr (fun e => by have h8 := (hub q hy).1; have h9 := hq q e.symm; omega)
  · rcases key a y q1 with ⟨a', a1, _, a3⟩ | ⟨a3, rfl, _⟩
    · rcases key b y' q2 with ⟨b', b1, _, b3⟩ | ⟨b3, rfl, _⟩
      · exact hd a' b' y y' (by omega) a1 b1 q e1 e2
      · have := (old a' y a1 q e1).2; have := (hub q e2).1; omega
    · rcases key b y' q2 with ⟨b', b1, _, b3⟩ | ⟨b3, rfl, _⟩
      · have := (old b' y' b1 q e2).2; have := (hub q e1).1; omega
      · omega
  · rcases key j y q1 with ⟨j', a1, _, _⟩ | ⟨_, rfl, _⟩
    · rcases hro with h6 | h6
      · rw [h6] at e2; exact hv j' y a1 q e1 e2
      · rw [h6] at e2; injection e2 with e2; have := (old j' y a1 q e1).2; omega
    · rcases hro with h6 | h6
      · rw [h6] at e2; have := hq q e2; have := (hub q e1).1; omega
      · rw [h6] at e2; injection e2 with e2; have := (hub q e1).2; omega

set_option maxHeartbeats 2000000 in
theorem insEnd (v u : Value) (vb : Nat) (xss : List (List Int)) (xs : List Int) (lo hi : Nat) (w : World) (h : OII w lo hi v xss) (hlo : lo ≤ hi) (hhi : hi ≤ w.heap.size) (hn : xss.length ≤ 1048576) (hB : Blk w vb 59 #[u]) (hu : OI w hi u xs) :
    Calls Try.prog 106 #[v, .int .i64 (xss.length : Int), .slice (some ⟨vb, 0, none⟩) 1 1] w fun e w' => ∃ r, e = .returned r ∧ OM w' lo r (putZ xss xss.length xs) ∧ w.grownBy w' v.ownBlock := by
  have HP : Hid (putZ xss xss.length xs = xss ++ [xs]) := Lib.hid (by unfold putZ; rw [List.take_length, List.drop_length])
  have hc : w.cell? ⟨vb, 0, none⟩ = some u := hB.facts.1 0
  obtain ⟨A, cp, e, k1, k2, _⟩ := h.reads
  subst e
  have i0 : (0 : Int) ≤ (xss.length : Int) := by omega
  have i1 : (xss.length : Int) ≤ (xss.length : Int) := by omega
  have i3 : ((xss.length : Int) == (xss.length : Int)) = true := by simp
  rcases Nat.lt_or_eq_of_le k1 with k3 | k3
  · have i2 : ¬ cp = xss.length := by omega
    go_enter Try.func106, Try.ntmps106
    go_wp2_with (at_builtin; refine wpList_appO _ rfl _ _ rfl lo hi _ _ _ xss xs rfl rfl h hlo hhi hc rfl hu (by omega) ?_)
    intro v2 w2 O2 hG ho
    rw [← HP.out] at O2
    go_wp2
    go_ret
    exact ⟨_, rfl, O2, hG⟩
  · subst k3
    go_enter Try.func106, Try.ntmps106
    go_wp2_with (at_builtin; refine wpList_appO _ rfl _ _ rfl lo hi _ _ _ xss xs rfl rfl h hlo hhi hc rfl hu (by omega) ?_)
    intro v2 w2 O2 hG ho
    rw [← HP.out] at O2
    go_wp2
    go_ret
    exact ⟨_, rfl, O2, hG⟩
set_option maxHeartbeats 2000000 in
theorem insM (v u : Value) (i vb : Nat) (xss : List (List Int)) (xs : List Int) (lo hi : Nat) (w : World) (h : OII w lo hi v xss) (hlo : lo ≤ hi) (hhi : hi ≤ w.heap.size) (hn : xss.length ≤ 1048576) (hi' : i ≤ xss.length) (hB : Blk w vb 59 #[u]) (hvb : hi ≤ vb) (hu : OI w hi u xs) :
    Calls Try.prog 106 #[v, .int .i64 (i : Int), .slice (some ⟨vb, 0, none⟩) 1 1] w fun e w' => ∃ r, e = .returned r ∧ OM w' lo r (putZ xss i xs) ∧ w.grownBy w' v.ownBlock := by
  rcases Nat.lt_or_eq_of_le hi' with hlt | rfl
  · obtain ⟨us, hl, ⟨hl2, ⟨rfl, h9⟩ | ⟨g, cap, cur, rfl, hb, hh, h1, h2, h3, h4⟩⟩, hq, hr, hd, hv⟩ := h
    · omega
    · have hgB : Blk w g 59 cur := hh
      obtain ⟨cg, fg, zg⟩ := hgB.facts
      have hcap : cur.size = cap := by omega
      have hgv : vb ≠ g := by have := hq g rfl; omega
      have hcs : ∀ j v, us[j]? = some v → w.cell? ⟨g, 0 + j, none⟩ = some v := fun j y hj => by
        have hju := (List.getElem?_eq_some_iff.1 hj).1
        rw [Nat.zero_add, cg j, ← Array.getElem?_toList]
        have h5 : (cur.toList.take (xss.length * 1))[j]? = some y := by rw [h4]; exact hj
        rw [List.getElem?_take] at h5
        rwa [if_pos (by omega)] at h5
      have hcur : ∀ j, j < us.length → cur[j]? = us[j]? := fun j hj => by
        have := hcs j _ (List.getElem?_eq_getElem hj)
        rw [Nat.zero_add, cg j] at this
        rw [this, List.getElem?_eq_getElem hj]
      have hvs : ∀ j v, [u][j]? = some v → w.cell? ⟨vb, 0 + j, none⟩ = some v := fun j y hj => by
        have e : j = 0 := by
          rcases Nat.eq_zero_or_pos j with e | e
          · exact e
          · rw [List.getElem?_eq_none (by simp; omega)] at hj; cases hj
        subst e
        simp at hj
        subst hj
        exact hB.facts.1 0
      have one : ∀ v ∈ us, v.oneCell' = true := fun y hy => by
        obtain ⟨j, hj⟩ := List.mem_iff_getElem?.1 hy
        have hju := (List.getElem?_eq_some_iff.1 hj).1
        obtain ⟨A, c, e, _⟩ := (hr j y _ hj (rw_get (show j < xss.length by omega))).reads
        rw [e]; rfl
      have oneu : ∀ v ∈ [u], v.oneCell' = true := fun y hy => by
        rw [List.mem_singleton.1 hy]
        obtain ⟨A, c, e, _⟩ := hu.reads
        rw [e]; rfl
      have hlu : us.length = xss.length := hl
      by_cases hroom : xss.length + 1 ≤ cap
      · refine (insShift g 0 xss.length cap i vb 0 1 1 us [u] w hlt (by omega) hroom (by unfold maxLen at h2; omega) hgv hlu rfl hcs
          (fun j hj => by rw [Nat.zero_add, cg j, Array.getElem?_eq_getElem (by omega)]; rfl) (fun j _ => fg _) hvs one oneu _ _ _ _ hB.shape hgB.shape (by omega) (hB.facts.2.1 _) (hB.facts.2.1 _)).mono ?_
        rintro e w' ⟨rfl, rfl⟩
        refine ⟨_, rfl, ?_, ?_⟩
        · refine putM hl hq hr hd hv hu hlo hhi (grown_cells _ _ (grown_cells _ _ ⟨rfl, rfl, rfl, Nat.le_refl _, fun _ _ _ => rfl⟩)) hi' ?_ (.inl rfl)
          refine ⟨by simp; omega, .inr ⟨g, cap, _, rfl, hb, Blk.setCells [u] (0 + i) (Blk.setCells (us.drop i) (0 + (i + 1)) hgB.drew), hroom, h2, by rw [setArr_size, setArr_size]; omega, ?_⟩⟩
          apply List.ext_getElem?
          intro j
          rw [List.getElem?_take, Array.getElem?_toList, ins_at us u (by omega) j]
          by_cases hj : j < (xss.length + 1) * 1
          · rw [if_pos hj, setArr_at _ _ _ _ (by rw [setArr_size]; omega)]
            by_cases e1 : j = i
            · subst e1
              rw [if_pos (by simp), if_neg (by omega), if_pos rfl]; simp
            · rw [if_neg (by simp; omega), setArr_at _ _ _ _ (by omega)]
              rcases Nat.lt_or_ge j i with h5 | h5
              · rw [if_neg (by simp; omega), if_pos h5, hcur j (by omega)]
              · rw [if_pos (by simp; omega), if_neg (by omega), if_neg e1, List.getElem?_drop]
                congr 1
                omega
          · rw [if_neg hj, if_neg (by omega), if_neg (by omega), List.getElem?_eq_none (by omega)]
        · exact grown_cells _ _ (grown_cells _ _ ⟨rfl, rfl, rfl, Nat.le_refl _, fun _ _ _ => rfl⟩)
      · have hGn : xss.length + 1 ≤ grownCap w (xss.length + 1) cap 59 := grownCap_ge w _ _ _
        have hG63 := grownCap_le_maxLen w (xss.length + 1) cap 59 (by unfold maxLen; omega)
        refine (insGrow g 0 xss.length cap i vb 0 1 1 us [u] w hlt (by omega) h1 (by omega) (by omega) hlu rfl hcs hvs one oneu).mono ?_
        rintro e w' ⟨rfl, rfl⟩
        generalize grownCap w (xss.length + 1) cap 59 = G at *
        have hsz : ((us.take i).toArray ++ Builtin.zeroCells (Value.slice none 0 0).cells (xss.length + 1 - i) ++ Builtin.zeroCells (Value.slice none 0 0).cells (G - (xss.length + 1))).size = G := by
          simp [Builtin.zeroCells, Value.cells]
          omega
        have hRat : ∀ j, j < i → ((us.take i).toArray ++ Builtin.zeroCells (Value.slice none 0 0).cells (xss.length + 1 - i) ++ Builtin.zeroCells (Value.slice none 0 0).cells (G - (xss.length + 1)))[j]? = us[j]? := fun j hj => by
          rw [Array.append_assoc, Array.getElem?_append_left (by simp; omega)]
          simp [hj]
        generalize (us.take i).toArray ++ Builtin.zeroCells (Value.slice none 0 0).cells (xss.length + 1 - i) ++ Builtin.zeroCells (Value.slice none 0 0).cells (G - (xss.length + 1)) = ROW at *
        have hBel : Bel w ((((w.alloc (.cells ROW 59)).drew.setCells w.heap.size i [u]).drew).setCells w.heap.size (i + 1) (us.drop i)) := bel_cells _ _ ((bel_cells [u] i ((Bel.refl w).alloc (.cells ROW 59)).drew (Nat.le_refl _)).drew) (Nat.le_refl _)
        have hNB : Blk ((((w.alloc (.cells ROW 59)).drew.setCells w.heap.size i [u]).drew).setCells w.heap.size (i + 1) (us.drop i)) w.heap.size 59 (setArr (setArr ROW i [u]) (i + 1) (us.drop i)) := Blk.setCells (us.drop i) (i + 1) (Blk.drew (Blk.setCells [u] i (Blk.drew (Blk.new w 59 ROW))))
        refine ⟨_, rfl, ?_, bel_grown hBel⟩
        refine putM hl hq hr hd hv hu hlo hhi (bel_grown hBel) hi' ?_ (.inr rfl)
        refine ⟨by simp; omega, .inr ⟨w.heap.size, G, _, rfl, by omega, hNB, hGn, hG63, by rw [setArr_size, setArr_size]; omega, ?_⟩⟩
        apply List.ext_getElem?
        intro j
        rw [List.getElem?_take, Array.getElem?_toList, ins_at us u (by omega) j]
        by_cases hj : j < (xss.length + 1) * 1
        · rw [if_pos hj, setArr_at _ _ _ _ (by rw [setArr_size]; omega)]
          by_cases e1 : i < j
          · rw [if_pos (by simp; omega), if_neg (by omega), if_neg (by omega), List.getElem?_drop]
            congr 1
            omega
          · rw [if_neg (by simp; omega), setArr_at _ _ _ _ (by omega)]
            by_cases e2 : j = i
            · subst e2
              rw [if_pos (by simp), if_neg (by omega), if_pos rfl]; simp
            · rw [if_neg (by simp; omega), if_pos (by omega), hRat j (by omega)]
        · rw [if_neg hj, if_neg (by omega), if_neg (by omega), List.getElem?_eq_none (by omega)]
  · exact insEnd v u vb xss xs lo hi w h hlo hhi hn hB hu
end Go.Proofs.Ytjaagabbbnokdaa

namespace Go.Proofs.Ytjaagabbbnokdaa
open Go.ChangeShapes Go.WideShapes Go.ChangeAt Go.RowKit
set_option linter.unusedVariables false
set_option maxRecDepth 100000

theorem clrAll_lead {c : Nat} {b : List (List Int)} {P : Nat → Nat} (h : Red c b P) {xs : List Int} (hv : Row c xs) (hi : innB b xs = true) : ∀ i, i < b.length → lead (rw_ (clrAll b (unitZ (reduceZ b xs)) (lead (reduceZ b xs))) i) = P i := by
  unfold innB at hi
  rw [decide_eq_true_eq] at hi
  have hw := reduce_row h hv
  have hz := reduce_piv h hv
  generalize reduceZ b xs = w at *
  have ru : Row c (unitZ w) := row_scale _ hw
  have u0 : ∀ l, ent w l = 0 → ent (unitZ w) l = 0 := by intro l hl; unfold unitZ; rw [ent_scaleZ, hl]; simp
  have lb := fun l => lead_before (r := w) (k := l)
  intro i hi2
  rw [clrAll_row hi2]
  refine lead_eq ?_ fun l hl => ?_
  · rw [clr1_j (mtx_row h.mtx hi2) ru (u0 _ (hz i hi2)), h.one i hi2]; decide
  · rcases Nat.lt_or_ge l (lead w) with h1 | h1
    · rw [clr1_j (mtx_row h.mtx hi2) ru (u0 _ (lb l h1))]; exact h.lead i hi2 l hl
    · rw [clr1_0 (h.lead i hi2 (lead w) (by omega))]; exact h.lead i hi2 l hl
/-- The first k rows are cleared. -/
def clrK (m : List (List Int)) (u : List Int) (p k : Nat) : List (List Int) := m.mapIdx fun i r => if i < k then clr1 r u p else r
theorem clrK_len (m : List (List Int)) (u : List Int) (p k : Nat) : (clrK m u p k).length = m.length := by simp [clrK]
theorem clrK_row {m : List (List Int)} {u : List Int} {p k i : Nat} (h : i < m.length) : rw_ (clrK m u p k) i = if i < k then clr1 (rw_ m i) u p else rw_ m i := by
  apply rw_in; simp [clrK, List.getElem?_mapIdx, rw_get h]
theorem clrK_zero (m : List (List Int)) (u : List Int) (p : Nat) : clrK m u p 0 = m := by
  apply mat_ext (clrK_len _ _ _ _)
  intro i hi
  rw [clrK_len] at hi
  rw [clrK_row hi, if_neg (by omega)]
theorem clrK_all (m : List (List Int)) (u : List Int) (p : Nat) : clrK m u p m.length = clrAll m u p := by
  apply mat_ext (by rw [clrK_len, clrAll_len])
  intro i hi
  rw [clrK_len] at hi
  rw [clrK_row hi, if_pos hi, clrAll_row hi]
theorem clrK_step {m : List (List Int)} {u : List Int} {p k : Nat} (hk : k < m.length) : clrK m u p (k + 1) = (clrK m u p k).set k (clr1 (rw_ m k) u p) := by
  apply mat_ext (by rw [List.length_set, clrK_len, clrK_len])
  intro i hi
  rw [clrK_len] at hi
  rw [clrK_row hi]
  by_cases e : i = k
  · subst e
    rw [if_pos (by omega)]
    symm
    apply rw_in; rw [List.getElem?_set_self (by rw [clrK_len]; exact hi)]
  · have : rw_ ((clrK m u p k).set k (clr1 (rw_ m k) u p)) i = rw_ (clrK m u p k) i := by
      unfold rw_ List.getD; rw [List.getElem?_set_ne (Ne.symm e)]
    rw [this, clrK_row hi]
    rcases Nat.lt_trichotomy i k with h1 | h1 | h1
    · rw [if_pos (by omega), if_pos h1]
    · omega
    · rw [if_neg (by omega), if_neg (by omega)]
theorem clrK_same {m : List (List Int)} {u : List Int} {p k : Nat} (h : ent (rw_ m k) p = 0) : clrK m u p (k + 1) = clrK m u p k := by
  apply mat_ext (by rw [clrK_len, clrK_len])
  intro i hi
  rw [clrK_len] at hi
  rw [clrK_row hi, clrK_row hi]
  rcases Nat.lt_trichotomy i k with h1 | h1 | h1
  · rw [if_pos (by omega), if_pos h1]
  · subst h1
    rw [if_pos (show i < i + 1 by omega), if_neg (show ¬ i < i by omega)]
    exact clr1_0 h
  · rw [if_neg (by omega), if_neg (by omega)]
theorem insB_no {b : List (List Int)} {v : List Int} (h : innB b v = false) : insB b v = b := by unfold insB; rw [h]; rfl
theorem insB_yes {b : List (List Int)} {v : List Int} (h : innB b v = true) : insB b v = insZ b v := by unfold insB; rw [h]; rfl
theorem Mid.store {lo hi g i : Nat} {w : World} (z : Value) (hg : lo ≤ g ∧ g < hi) : Mid lo hi w (w.setCell ⟨g, i, none⟩ z) :=
  ⟨rfl, rfl, rfl, by simp [World.setCell], fun k hk ho => Below.heap_setCell w ⟨g, i, none⟩ z k (by dsimp only; omega)⟩

set_option maxHeartbeats 1600000 in
theorem insertI (d : Int) (v u : Value) (m : List (List Int)) (xs : List Int) (c pb lo hi : Nat) (P : Nat → Nat) (w : World) (hB : Blk w pb 39 #[.int .i64 d, v]) (hv : OII w lo hi v m) (hlo : lo ≤ hi) (hhi : hi ≤ w.heap.size) (hpb : pb < lo) (hu : RI w u xs) (hR : Red c m P) (hx : Row c xs) (hc : c ≤ 40) (hm : m.length ≤ 1048575) :
    Calls Try.prog 55 #[.pointer (some ⟨pb, 0, none⟩), u] w fun e w' => ∃ v', e = .returned (.bool (innB m xs)) ∧ Blk w' pb 39 #[.int .i64 d, v'] ∧ OM w' lo v' (insB m xs) ∧ Mid pb hi w w' := by
  have HR := Lib.hid hR
  have HX := Lib.hid hx
  have HZR := Lib.hid (reduce_row hR hx)
  have HIN : Hid (innB m xs = decide (lead (reduceZ m xs) < (reduceZ m xs).length)) := rfl
  have HNO : Hid (innB m xs = false → insB m xs = m) := Lib.hid insB_no
  have HYES : Hid (innB m xs = true → insB m xs = insZ m xs) := Lib.hid insB_yes
  have HCL : Hid (innB m xs = true → ∀ i, i < m.length → lead (rw_ (clrAll m (unitZ (reduceZ m xs)) (lead (reduceZ m xs))) i) = P i) := Lib.hid (clrAll_lead hR hx)
  have HIZ : Hid (insZ m xs = putZ (clrAll m (unitZ (reduceZ m xs)) (lead (reduceZ m xs))) (atS (clrAll m (unitZ (reduceZ m xs)) (lead (reduceZ m xs))) (lead (reduceZ m xs)) m.length) (unitZ (reduceZ m xs))) := rfl
  have HRD := Lib.hid (fun (W : World) (h : Bel w W) => reduceI d v u m xs c P W (hv.reads.keep h) (hu.keep h) hR hx hc)
  clear hR hx
  obtain ⟨A, cp, ev, k1, k2, _⟩ := hv.reads
  subst ev
  obtain ⟨cb, fb, zb⟩ := hB.facts
  go_enter Try.func55, Try.ntmps55
  go_wp2_with fail
  refine (HRD.out _ (Bel.refl _)).mono ?_
  rintro e w1 ⟨r, rfl, O1, hb1⟩
  have B1 := hb1.keep hB
  have V1 := hv.keep hhi hb1
  have s1 := hb1.size
  obtain ⟨z, hz⟩ : ∃ z, z = reduceZ m xs := ⟨_, rfl⟩
  rw [← hz] at O1 HZR HIN HCL HIZ
  clear hz HRD cb fb zb
  obtain ⟨Ar, cr, er, r1, r2, hr1⟩ := O1.reads
  subst er
  go_wp2_with fail
  refine (leadI _ z _ O1.reads).mono ?_
  rintro e w1' ⟨rfl, rfl⟩
  by_cases hin : lead z < z.length
  · have HI : Hid (innB m xs = true) := Lib.hid (by rw [HIN.out]; exact decide_eq_true hin)
    rw [leadV_yes hin]
    have hld : decide ((lead z : Int) < 0) = false := decide_eq_false (by omega)
    obtain ⟨bz, oz, rfl, _, hcz⟩ := hr1 (by omega)
    have gz := hcz _ _ (ent_get hin)
    have HBZ := Lib.hid (ent_bd HZR.out (lead z))
    have HNZ := Lib.hid (lead_hit hin)
    have zl : z.length = c := HZR.out.1
    have p0 : (0 : Int) ≤ (lead z : Int) := by omega
    have p1 : (lead z : Int) < (z.length : Int) := by omega
    have hpc : lead z < c := by omega
    have HUZ : Hid (unitZ z = scaleZ z (invZ (ent z (lead z)))) := rfl
    have RZ := Lib.hid O1.reads
    have HVZ := Lib.hid (row_vecB HZR.out hc)
    have HUR : Hid (Row c (unitZ z)) := Lib.hid (row_scale _ HZR.out)
    obtain ⟨p, hp⟩ : ∃ p, p = lead z := ⟨_, rfl⟩
    obtain ⟨x, hxx⟩ : ∃ x, x = ent z (lead z) := ⟨_, rfl⟩
    rw [← hp] at gz p0 p1 hpc HCL HIZ hld ⊢
    rw [hp, ← hxx] at gz
    rw [← hp] at gz
    rw [← hxx] at HBZ HUZ HNZ
    clear hcz hr1 hin hxx zl hp
    go_wp2_with fail
    refine (invI x _ (elB_yes HBZ.out)).mono ?_
    rintro e w1' ⟨rfl, rfl⟩
    go_wp2_with fail
    refine (scaleI _ (invZ x) z _ RZ.out HVZ.out (elB_yes (invZ_bd x))).mono ?_
    rintro e w2 ⟨r5, rfl, O2, hb2⟩
    rw [← HUZ.out] at O2
    have B2 := hb2.keep B1
    have V2 := OII.keep V1 (Nat.le_trans hhi s1) hb2
    have s2 := hb2.size
    have Y2 := hb1.trans hb2
    obtain ⟨uz, huz⟩ : ∃ uz, uz = unitZ z := ⟨_, rfl⟩
    rw [← huz] at O2 HCL HIZ HUR
    clear huz HUZ RZ HVZ gz V1 O1
    obtain ⟨A5, c5, e5, _, _, _⟩ := O2.reads
    subst e5
    have O2' : OI w2 hi (.slice A5 uz.length c5) uz := O2.low (by omega)
    have V2' : OII w2 lo hi (.slice A m.length cp) (clrK m uz p 0) := by rw [clrK_zero]; exact V2
    have M2 : Mid pb hi w w2 := Mid.ofBel Y2
    obtain ⟨cb, fb, zb⟩ := B2.facts
    clear O2 V2
    go_wp2
    clear cb fb
    go_loopg [7, 32] m.length (fun f a i wr => ∃ k : Nat, k + f = m.length ∧ i = .int .i64 k ∧ a = .int .i64 (atS (clrAll m uz p) p k : Int) ∧ Blk wr pb 39 #[.int .i64 d, .slice A m.length cp] ∧ OII wr lo hi (.slice A m.length cp) (clrK m uz p k) ∧ OI wr hi (.slice A5 uz.length c5) uz ∧ Mid pb hi w wr ∧ hi ≤ wr.heap.size)
    case atStart => exact ⟨0, by omega, rfl, rfl, B2, V2', O2', M2, by omega⟩
    case round =>
      clear B2 V2' O2' M2 B1 Y2 zb hB hv s1 s2
      obtain ⟨k, hk, rfl, rfl, B, V, O, M, hs⟩ := hrel
      have hk2 : k ≤ m.length := by omega
      have HK := Lib.hid hk
      clear hk
      have hat := atS_le (clrAll m uz p) p k
      by_cases hlt : k < m.length
      · obtain ⟨ur, g, cap, ev, q1, q2, zg, cu, Ou, hne, hup⟩ := V.upd (j := k) (by rw [clrK_len]; exact hlt)
        injection ev with e1 e2 e3
        subst e1 e3
        clear e2 q1
        rw [clrK_row hlt, if_neg (by omega)] at Ou
        have HUP := Lib.hid hup
        have rowk := mtx_row HR.out.mtx hlt
        have HRK := Lib.hid rowk
        have hrl : (rw_ m k).length = c := rowk.1
        have HST := Lib.hid (clrK_step (u := uz) (p := p) hlt)
        obtain ⟨gr, capr, er, t1, t2, t3, t4, t6, t5⟩ := Ou.1.cells (by omega)
        subst er
        have cx := t5 _ _ (ent_get (show p < (rw_ m k).length by omega))
        have HBX := Lib.hid (ent_bd rowk p)
        have HOU := Lib.hid Ou
        have HLD := Lib.hid (HCL.out HI.out k hlt)
        have hlow : P k < c := HR.out.low k hlt
        have RX : Hid (RIx wr 0 (some gr) (.slice A5 uz.length c5) uz) := Lib.hid ((O.low (Nat.zero_le _)).rx (fun q hq e => by injection e with e; have h8 := (O.block q hq).1; have h9 := Ou.2 gr rfl; omega))
        have HRW : Hid (rw_ (clrAll m uz p) k = clr1 (rw_ m k) uz p) := Lib.hid (clrAll_row hlt)
        have HAS : Hid (atS (clrAll m uz p) p (k + 1) = if lead (rw_ (clrAll m uz p) k) < p then k + 1 else atS (clrAll m uz p) p k) := rfl
        rw [HLD.out] at HAS
        rw [HRW.out] at HLD
        have i0 : (0 : Int) ≤ (k : Int) := by omega
        have i1 : (k : Int) < (m.length : Int) := by omega
        have p2 : (p : Int) < ((rw_ m k).length : Int) := by omega
        obtain ⟨y, hy⟩ : ∃ y, y = ent (rw_ m k) p := ⟨_, rfl⟩
        rw [← hy] at cx HBX
        have HYY := Lib.hid hy
        have HC1 : Hid (Row c (clr1 (rw_ m k) uz p)) := Lib.hid (clr1_row rowk HUR.out)
        clear t5 t6 hup rowk hy Ou t3 hrl
        cases hq : (y != 0)
        · have HN : Hid (clrK m uz p (k + 1) = clrK m uz p k) := Lib.hid (clrK_same (by rw [← HYY.out]; simpa using hq))
          have HC : Hid (clr1 (rw_ m k) uz p = rw_ m k) := Lib.hid (clr1_0 (by rw [← HYY.out]; simpa using hq))
          rw [HC.out] at HLD
          have HLV : Hid (leadV (rw_ m k) = (P k : Int)) := Lib.hid (by rw [leadV_yes (by rw [HLD.out, HRK.out.1]; exact hlow), HLD.out])
          rw [← HN.out] at V
          go_wp2_with fail
          refine (leadI _ _ _ HOU.out.reads).mono ?_
          rintro e w3 ⟨rfl, rfl⟩
          rw [HLV.out]
          by_cases hlp : P k < p
          · have hd : decide ((P k : Int) < (p : Int)) = true := decide_eq_true (by omega)
            rw [if_pos hlp] at HAS
            go_wp2
            go_roundg (m.length - (k + 1))
            case measure => have := HK.out; omega
            case rel => exact ⟨k + 1, by omega, by go_num, by rw [HAS.out]; go_num, B, V, O, M, hs⟩
          · have hd : decide ((P k : Int) < (p : Int)) = false := decide_eq_false (by omega)
            rw [if_neg hlp] at HAS
            go_wp2
            go_roundg (m.length - (k + 1))
            case measure => have := HK.out; omega
            case rel => exact ⟨k + 1, by omega, by go_num, by rw [HAS.out], B, V, O, M, hs⟩
        · obtain ⟨y0, y1⟩ := HBX.out
          have y2 : y ≠ 0 := by simpa using hq
          have HQB : Hid (0 ≤ 1019 - y ∧ 1019 - y ≤ 1018) := Lib.hid (by omega)
          have HC : Hid (clr1 (rw_ m k) uz p = addsZ (rw_ m k) uz (1019 - y)) := Lib.hid (by unfold clr1; rw [← HYY.out, hq]; rfl)
          have HLL : Hid (uz.length = (rw_ m k).length) := Lib.hid (by rw [HUR.out.1, HRK.out.1])
          clear y2
          go_wp2_with fail
          refine (addsI _ _ (1019 - y) (rw_ m k) uz lo _ HOU.out.1 RX.out HLL.out HRK.out.2 HUR.out.2 HQB.out).mono ?_
          rintro e w3 ⟨rfl, O3, G3⟩
          have V3 := HUP.out w3 _ G3 O3
          rw [← HC.out, ← HST.out] at V3
          rw [← HC.out] at O3
          have M3 := M.trans (Mid.ofGrown (lo := pb) (hi := hi) G3 (fun q hq => by have := (HOU.out.1.block q hq).1; have := HOU.out.2 q hq; omega))
          have B3 := B.mid (Mid.ofGrown (lo := lo) (hi := hi) G3 (fun q hq => ⟨(HOU.out.1.block q hq).1, HOU.out.2 q hq⟩)) (.inl hpb)
          have O3' := O.far G3 (by
            cases hy : (Value.slice A5 uz.length c5).ownBlock with
            | none => exact .inl rfl
            | some q => exact .inr (fun e => by have h8 := (O.block q hy).1; have h9 := HOU.out.2 q e.symm; omega))
          have hs3 := Nat.le_trans hs G3.size
          have HLV : Hid (leadV (clr1 (rw_ m k) uz p) = (P k : Int)) := Lib.hid (by rw [leadV_yes (by rw [HLD.out, HC1.out.1]; exact hlow), HLD.out])
          clear G3 cu cx V O M B
          go_wp2_with fail
          refine (leadI _ _ _ O3.reads).mono ?_
          rintro e w4 ⟨rfl, rfl⟩
          rw [HLV.out]
          by_cases hlp : P k < p
          · have hd : decide ((P k : Int) < (p : Int)) = true := decide_eq_true (by omega)
            rw [if_pos hlp] at HAS
            go_wp2
            go_roundg (m.length - (k + 1))
            case measure => have := HK.out; omega
            case rel => exact ⟨k + 1, by omega, by go_num, by rw [HAS.out]; go_num, B3, V3, O3', M3, hs3⟩
          · have hd : decide ((P k : Int) < (p : Int)) = false := decide_eq_false (by omega)
            rw [if_neg hlp] at HAS
            go_wp2
            go_roundg (m.length - (k + 1))
            case measure => have := HK.out; omega
            case rel => exact ⟨k + 1, by omega, by go_num, by rw [HAS.out], B3, V3, O3', M3, hs3⟩
      · obtain rfl : k = m.length := by omega
        have i1 : ¬ (m.length : Int) < (m.length : Int) := by omega
        have HCA : Hid (clrK m uz p m.length = clrAll m uz p) := Lib.hid (clrK_all m uz p)
        rw [HCA.out] at V
        have HLA : Hid ((clrAll m uz p).length = m.length) := Lib.hid (clrAll_len m uz p)
        have Ba := B.alloc (.cells #[.slice A5 uz.length c5] 59)
        have Va := V.keep hs ((Bel.refl wr).alloc (.cells #[.slice A5 uz.length c5] 59))
        have Oa := O.keep ((Bel.refl wr).alloc (.cells #[.slice A5 uz.length c5] 59))
        have Na := Blk.new wr 59 #[.slice A5 uz.length c5]
        have Ma := M.trans (Mid.ofBel (lo := pb) (hi := hi) ((Bel.refl wr).alloc (.cells #[.slice A5 uz.length c5] 59)))
        obtain ⟨cb, fb, zb⟩ := B.facts
        obtain ⟨a, ha⟩ : ∃ a, a = atS (clrAll m uz p) p m.length := ⟨_, rfl⟩
        rw [← ha] at HIZ hat ⊢
        clear ha
        go_wp2_with fail
        refine (insM _ (.slice A5 uz.length c5) a wr.heap.size (clrAll m uz p) uz lo hi _ Va hlo (by simp only [World.size_alloc]; omega) (by rw [HLA.out]; omega) (by rw [HLA.out]; exact hat) Na hs Oa).mono ?_
        rintro e w6 ⟨r6, rfl, O6, G6⟩
        rw [← HIZ.out, ← HYES.out HI.out] at O6
        have M6 := Ma.trans (Mid.ofGrown (lo := pb) (hi := hi) G6 (fun q hq => by have := V.block q hq; omega))
        have B6 := Ba.mid (Mid.ofGrown (lo := lo) (hi := hi) G6 (fun q hq => V.block q hq)) (.inl hpb)
        obtain ⟨A6, c6, e6, _, _, _⟩ := O6.reads
        subst e6
        clear cb fb zb
        obtain ⟨cb, fb, zb⟩ := B6.facts
        have O7 := OM.setFar O6 (p := ⟨pb, 1, none⟩) hpb (.slice A6 (insB m xs).length c6)
        have B7 : Blk (w6.setCell ⟨pb, 1, none⟩ (.slice A6 (insB m xs).length c6)) pb 39 #[.int .i64 d, .slice A6 (insB m xs).length c6] := B6.set 1 (.slice A6 (insB m xs).length c6)
        have M7 := M6.trans (Mid.store (lo := pb) (hi := hi) (i := 1) (.slice A6 (insB m xs).length c6) ⟨Nat.le_refl pb, by omega⟩)
        clear G6 Va Oa Na Ma
        go_wp2
        go_ret
        exact ⟨_, by rw [HI.out]; rfl, B7, O7, M7⟩
  · have HI : Hid (innB m xs = false) := Lib.hid (by rw [HIN.out]; exact decide_eq_false hin)
    rw [leadV_no hin]
    have V1' : OM w1 lo (.slice A m.length cp) m := V1.wide (Nat.le_refl _) (Nat.le_trans hhi s1)
    go_wp2
    go_ret
    exact ⟨_, by rw [HI.out]; rfl, B1, by rw [HNO.out HI.out]; exact V1', Mid.ofBel hb1⟩
end Go.Proofs.Ytjaagabbbnokdaa

namespace Go.Proofs.Ytjaagabbbnokdaa
set_option linter.unusedVariables false
set_option maxRecDepth 100000

theorem Red.at_le {c : Nat} {m : List (List Int)} {P : Nat → Nat} (h : Red c m P) : ∀ i, i < m.length → i ≤ P i := by
  intro i
  induction i with
  | zero => intro _; exact Nat.zero_le _
  | succ i ih =>
    intro hi
    have h1 := ih (by omega)
    have h2 := h.mono i (i + 1) (by omega) hi
    omega
theorem Red.len_le {c : Nat} {m : List (List Int)} {P : Nat → Nat} (h : Red c m P) : m.length ≤ c := by
  rcases Nat.eq_zero_or_pos m.length with h0 | h0
  · omega
  · have h1 := h.at_le (m.length - 1) (by omega)
    have h2 := h.low (m.length - 1) (by omega)
    omega
theorem mrowB_row {c : Nat} {r : List Int} (h : mrowB c r = true) : Row c r ∧ r.length ≤ 40 := by
  unfold mrowB at h
  rw [Bool.and_eq_true] at h
  obtain ⟨h1, h2⟩ := h
  obtain ⟨h3, h4⟩ := vecB_facts h1
  exact ⟨⟨by simp at h2; omega, h3⟩, h4⟩
theorem mrowB_yes {c : Nat} {r : List Int} (h : Row c r) (hc : c ≤ 40) : mrowB c r = true := by
  unfold mrowB
  rw [row_vecB h hc, h.1]
  simp
/-- The reduced span of those of the vectors that have the width c. -/
def spanZ (c : Nat) (vs : List (List Int)) : List (List Int) := insAll (vs.filter (mrowB c))
theorem filter_mtx (c : Nat) (vs : List (List Int)) : Mtx c (vs.filter (mrowB c)) := fun r hr => (mrowB_row (List.mem_filter.1 hr).2).1
theorem span_nil (c : Nat) (vs : List (List Int)) : spanZ c (vs.take 0) = [] := rfl
theorem span_yes {c : Nat} {vs : List (List Int)} {k : Nat} {v : List Int} (hx : vs[k]? = some v) (h : mrowB c v = true) : spanZ c (vs.take (k + 1)) = insB (spanZ c (vs.take k)) v := by
  unfold spanZ
  rw [take_snoc hx, List.filter_append, List.filter_cons_of_pos h, List.filter_nil, insAll_snoc]
theorem span_no {c : Nat} {vs : List (List Int)} {k : Nat} {v : List Int} (hx : vs[k]? = some v) (h : mrowB c v = false) : spanZ c (vs.take (k + 1)) = spanZ c (vs.take k) := by
  unfold spanZ
  rw [take_snoc hx, List.filter_append, List.filter_cons_of_neg (by simp [h]), List.filter_nil, List.append_nil]
theorem span_red (c : Nat) (vs : List (List Int)) : ∃ P, Red c (spanZ c vs) P := by
  have h := (insAll_facts (filter_mtx c vs) _ (Nat.le_refl _)).1
  rw [List.take_length] at h
  exact h
theorem span_same (c : Nat) (vs : List (List Int)) : Same (vs.filter (mrowB c)) (spanZ c vs) := by
  have h := (insAll_facts (filter_mtx c vs) _ (Nat.le_refl _)).2
  rw [List.take_length] at h
  exact h
theorem span_len (c : Nat) (vs : List (List Int)) : (spanZ c vs).length ≤ c := (span_red c vs).elim fun _ h => h.len_le
theorem span_all (c : Nat) (vs : List (List Int)) : spanZ c (vs.take vs.length) = spanZ c vs := by rw [List.take_length]
/-- A reduced matrix is its own span. -/
theorem span_id {c : Nat} {m : List (List Int)} {P : Nat → Nat} (h : Red c m P) (hc : c ≤ 40) : spanZ c m = m := by
  unfold spanZ
  rw [List.filter_eq_self.2 (fun r hr => mrowB_yes (h.mtx r hr) hc), ← insAll_red h.mtx, redZ_id h]

/-- Whether k is the pivot of a row. -/
def pivB (m : List (List Int)) (k : Nat) : Bool := m.any (fun r => leadV r == (k : Int))
def freeZ (c : Nat) (m : List (List Int)) : List Nat := (List.range c).filter (fun k => !pivB m k)
def negF (x : Int) : Int := (1019 - x) % 1019
theorem negF_bd {x : Int} (h : 0 ≤ x ∧ x ≤ 1018) : 0 ≤ negF x ∧ negF x ≤ 1018 := by unfold negF; omega
theorem leadV_row {c : Nat} {m : List (List Int)} {P : Nat → Nat} (h : Red c m P) {i : Nat} (hi : i < m.length) : leadV (rw_ m i) = (P i : Int) := by
  have h1 := h.lead_eq hi
  have h2 := h.low i hi
  have h3 := (mtx_row h.mtx hi).1
  rw [leadV_yes (by rw [h1, h3]; exact h2), h1]
theorem pivB_iff {c : Nat} {m : List (List Int)} {P : Nat → Nat} (h : Red c m P) (k : Nat) : pivB m k = true ↔ ∃ i, i < m.length ∧ P i = k := by
  unfold pivB
  rw [List.any_eq_true]
  constructor
  · rintro ⟨r, hr, he⟩
    obtain ⟨i, hi⟩ := List.mem_iff_getElem?.1 hr
    have hl : i < m.length := (List.getElem?_eq_some_iff.1 hi).1
    refine ⟨i, hl, ?_⟩
    rw [← rw_in hi, leadV_row h hl] at he
    simp at he
    omega
  · rintro ⟨i, hi, e⟩
    exact ⟨rw_ m i, rw_mem hi, by rw [leadV_row h hi, e]; simp⟩
/-- The vector of the free column f after k rows. -/
def nvK (c : Nat) (m : List (List Int)) (f : Nat) : Nat → List Int
  | 0 => (List.replicate c 0).set f 1
  | k + 1 => (nvK c m f k).set (lead (rw_ m k)) (negF (ent (rw_ m k) f))
def nvec (c : Nat) (m : List (List Int)) (f : Nat) : List Int := nvK c m f m.length
def nullZ (c : Nat) (m : List (List Int)) : List (List Int) := (freeZ c m).map (nvec c m)
theorem nvK_len (c : Nat) (m : List (List Int)) (f : Nat) : ∀ k, (nvK c m f k).length = c
  | 0 => by unfold nvK; rw [List.length_set, List.length_replicate]
  | k + 1 => by unfold nvK; rw [List.length_set]; exact nvK_len c m f k
theorem nvK_bd (c : Nat) (m : List (List Int)) (f : Nat) (hm : Mtx c m) : ∀ k, k ≤ m.length → ∀ x ∈ nvK c m f k, 0 ≤ x ∧ x ≤ 1018
  | 0, _ => by
    intro x hx
    unfold nvK at hx
    rcases List.mem_or_eq_of_mem_set hx with h | h
    · rw [(List.mem_replicate.1 h).2]; omega
    · omega
  | k + 1, hk => by
    intro x hx
    unfold nvK at hx
    rcases List.mem_or_eq_of_mem_set hx with h | h
    · exact nvK_bd c m f hm k (by omega) x h
    · rw [h]; exact negF_bd (ent_bd (mtx_row hm (by omega)) f)
theorem nvec_row {c : Nat} {m : List (List Int)} (hm : Mtx c m) (f : Nat) : Row c (nvec c m f) := ⟨nvK_len _ _ _ _, nvK_bd _ _ _ hm _ (Nat.le_refl _)⟩
theorem ent_set (r : List Int) (i k : Nat) (x : Int) (hi : i < r.length) : ent (r.set i x) k = if k = i then x else ent r k := by
  unfold ent
  rw [List.getD_eq_getElem?_getD, List.getD_eq_getElem?_getD]
  by_cases e : k = i
  · subst e; rw [if_pos rfl, List.getElem?_set_self hi]; rfl
  · rw [if_neg e, List.getElem?_set_ne (fun h => e h.symm)]
theorem ent_unit (c f k : Nat) (hf : f < c) : ent ((List.replicate c 0).set f 1) k = if k = f then 1 else 0 := by
  rw [ent_set _ _ _ _ (by rw [List.length_replicate]; exact hf)]
  by_cases e : k = f
  · rw [if_pos e, if_pos e]
  · rw [if_neg e, if_neg e]
    unfold ent
    rw [List.getD_eq_getElem?_getD, List.getElem?_replicate]
    split <;> rfl
/-- At a pivot of one of the first k rows. -/
theorem nvK_piv {c : Nat} {m : List (List Int)} {P : Nat → Nat} (h : Red c m P) (f : Nat) : ∀ k, k ≤ m.length → ∀ i, i < k → ent (nvK c m f k) (P i) = negF (ent (rw_ m i) f)
  | 0, _ => fun i hi => by omega
  | k + 1, hk => fun i hi => by
    have hl := h.lead_eq (i := k) (by omega)
    have hlow := h.low k (by omega)
    unfold nvK
    rw [hl, ent_set _ _ _ _ (by rw [nvK_len]; exact hlow)]
    by_cases e : i = k
    · subst e; rw [if_pos rfl]
    · rw [if_neg (by have := h.mono i k (by omega) (by omega); omega)]
      exact nvK_piv h f k (by omega) i (by omega)
/-- Anywhere else. -/
theorem nvK_rest {c : Nat} {m : List (List Int)} {P : Nat → Nat} (h : Red c m P) {f : Nat} (hf : f < c) {l : Nat} : ∀ k, k ≤ m.length → (∀ i, i < k → P i ≠ l) → ent (nvK c m f k) l = if l = f then 1 else 0
  | 0, _, _ => ent_unit c f l hf
  | k + 1, hk, hn => by
    have hl := h.lead_eq (i := k) (by omega)
    have hlow := h.low k (by omega)
    unfold nvK
    rw [hl, ent_set _ _ _ _ (by rw [nvK_len]; exact hlow), if_neg (fun e => hn k (by omega) e.symm)]
    exact nvK_rest h hf k (by omega) (fun i hi => hn i (by omega))
theorem nullZ_row {c : Nat} {m : List (List Int)} (hm : Mtx c m) : Mtx c (nullZ c m) := by
  intro r hr
  obtain ⟨f, _, rfl⟩ := List.mem_map.1 hr
  exact nvec_row hm f
theorem freeZ_mem {c : Nat} {m : List (List Int)} {f : Nat} : f ∈ freeZ c m ↔ f < c ∧ pivB m f = false := by
  unfold freeZ
  rw [List.mem_filter, List.mem_range]
  simp
theorem free_step_yes {m : List (List Int)} {k : Nat} (h : pivB m k = true) : freeZ (k + 1) m = freeZ k m := by
  unfold freeZ
  rw [List.range_succ, List.filter_append, List.filter_cons_of_neg (by simp [h]), List.filter_nil, List.append_nil]
theorem free_step_no {m : List (List Int)} {k : Nat} (h : pivB m k = false) : freeZ (k + 1) m = freeZ k m ++ [k] := by
  unfold freeZ
  rw [List.range_succ, List.filter_append, List.filter_cons_of_pos (by simp [h]), List.filter_nil]
theorem freeZ_len (c : Nat) (m : List (List Int)) : (freeZ c m).length ≤ c := by
  unfold freeZ
  have := List.length_filter_le (fun k => !pivB m k) (List.range c)
  rw [List.length_range] at this
  exact this
end Go.Proofs.Ytjaagabbbnokdaa

namespace Go.Proofs.Ytjaagabbbnokdaa
open Go.ChangeShapes Go.WideShapes Go.ChangeAt Go.RowKit
set_option linter.unusedVariables false
set_option maxRecDepth 100000

set_option maxHeartbeats 400000 in
theorem newBI (c : Nat) (w : World) (hc : c ≤ 40) : Calls Try.prog 53 #[.int .i64 (c : Int)] w fun e w' => e = .returned (.agg #[.int .i64 (c : Int), .slice none 0 0]) ∧ Bel w w' := by
  go_enter Try.func53, Try.ntmps53
  go_wp2_with fail
  refine (inR_yes (c : Int) 0 40 _ (by omega) (by omega)).mono ?_
  rintro e w1 ⟨rfl, rfl⟩
  go_wp2
  refine bodyPost_ret (v := .agg #[.int .i64 (c : Int), .slice none 0 0]) (by simp [results, Try.results53, go_sem]) rfl ⟨rfl, ?_⟩
  repeat (first | exact Bel.refl _ | apply Bel.alloc)
set_option maxHeartbeats 400000 in
theorem newBS (c : Nat) (w : World) (hc : c ≤ 40) : Calls Try.prog 59 #[.int .i64 (c : Int)] w fun e w' => e = .returned (.agg #[.int .i64 (c : Int), .slice none 0 0]) ∧ Bel w w' := by
  go_enter Try.func59, Try.ntmps59
  go_wp2_with fail
  refine (l1In_yes (c : Int) 0 40 _ (by omega) (by omega)).mono ?_
  rintro e w1 ⟨rfl, rfl⟩
  go_wp2
  refine bodyPost_ret (v := .agg #[.int .i64 (c : Int), .slice none 0 0]) (by simp [results, Try.results59, go_sem]) rfl ⟨rfl, ?_⟩
  repeat (first | exact Bel.refl _ | apply Bel.alloc)
set_option maxHeartbeats 2000000 in
theorem spanI (v : Value) (vs : List (List Int)) (c : Nat) (w : World) (hv : RII w v vs) (hc : c ≤ 40) :
    Calls Try.prog 76 #[v, .int .i64 (c : Int)] w fun e w' => ∃ r, e = .returned (.agg #[.int .i64 (c : Int), r]) ∧ OM w' w.heap.size r (spanZ c vs) ∧ Bel w w' := by
  obtain ⟨A, cp, rfl, h2, h3, hA⟩ := id hv
  have R0 := Blk.new w 39 #[.int .i64 0, .slice none 0 0]
  have Y0 : Bel w (w.alloc (.cells #[.int .i64 0, .slice none 0 0] 39)) := (Bel.refl _).alloc _
  go_enter Try.func76, Try.ntmps76
  go_wp2_with fail
  refine (inR_yes (c : Int) 0 40 _ (by omega) (by omega)).mono ?_
  rintro e w1 ⟨rfl, rfl⟩
  go_wp2_with fail
  refine (newBI c _ hc).mono ?_
  rintro e w1 ⟨rfl, hb1⟩
  have R1 := (hb1.keep R0).alloc (.cells #[.int .i64 (c : Int), .slice none 0 0] 39)
  have B1 := Blk.new w1 39 #[.int .i64 (c : Int), .slice none 0 0]
  have Y1 := (Y0.trans hb1).alloc (.cells #[.int .i64 (c : Int), .slice none 0 0] 39)
  have sz1 := (hb1.keep R0).lt
  obtain ⟨pb, hpb⟩ : ∃ pb, pb = w1.heap.size := ⟨_, rfl⟩
  rw [← hpb] at B1 sz1
  have HPB := Lib.hid hpb
  go_wp2
  rw [← hpb]
  clear hpb
  go_loopg [16] vs.length (fun f i wr => ∃ (k : Nat) (o : Value), k + f = vs.length ∧ i = .int .i64 k ∧ Blk wr w.heap.size 39 #[.int .i64 0, .slice none 0 0] ∧ Blk wr pb 39 #[.int .i64 (c : Int), o] ∧ OM wr (pb + 1) o (spanZ c (vs.take k)) ∧ Bel w wr)
  case atStart => exact ⟨0, _, by omega, rfl, R1, B1, OM.nil _ _, Y1⟩
  case round =>
    clear R0 R1 B1 Y0 Y1
    obtain ⟨k, o, hk, rfl, R, B, O, Y⟩ := hrel
    have hk2 : k ≤ vs.length := by omega
    have HK := Lib.hid hk
    clear hk
    by_cases hlt : k < vs.length
    · obtain ⟨b1, o1, rfl, z1, hc1⟩ := hA (by omega)
      have hx : Hid (vs[k]? = some (vs[k]'hlt)) := List.getElem?_eq_getElem hlt
      obtain ⟨u, g1, ru⟩ := hc1 k _ hx.out
      replace g1 := Y.cell1 z1 g1
      replace ru := ru.keep Y
      generalize vs[k]'hlt = xs at *
      clear hc1 hA
      obtain ⟨Au, cu, rfl, _, _, _⟩ := id ru
      have i0 : (0 : Int) ≤ (k : Int) := by omega
      have i1 : (k : Int) < (vs.length : Int) := by omega
      have HM : Hid (mrowB c xs = (vecB xs && ((xs.length : Int) == (c : Int)))) := rfl
      go_wp2_with fail
      refine (vecI _ xs _ ru).mono ?_
      rintro e w2 ⟨rfl, rfl⟩
      cases q1 : vecB xs
      · have HN := Lib.hid (span_no hx.out (by rw [HM.out, q1]; rfl))
        rw [← HN.out] at O
        clear q1
        go_wp2
        go_roundg (vs.length - (k + 1))
        case measure => have := HK.out; omega
        case rel => exact ⟨k + 1, _, by omega, by go_num, R, B, O, Y⟩
      cases q2 : ((xs.length : Int) == (c : Int))
      · have HN := Lib.hid (span_no hx.out (by rw [HM.out, q1, q2]; rfl))
        rw [← HN.out] at O
        clear q1
        go_wp2
        go_roundg (vs.length - (k + 1))
        case measure => have := HK.out; omega
        case rel => exact ⟨k + 1, _, by omega, by go_num, R, B, O, Y⟩
      · have HY : Hid (mrowB c xs = true) := Lib.hid (by rw [HM.out, q1, q2]; rfl)
        have HN := Lib.hid (span_yes hx.out HY.out)
        obtain ⟨P, hP⟩ := span_red c (vs.take k)
        have HP := Lib.hid hP
        have hlen := hP.len_le
        clear q1 hP
        generalize spanZ c (vs.take k) = m at *
        have zb := B.lt
        go_wp2_with fail
        refine (insertI (c : Int) o _ m xs c pb (pb + 1) _ P _ B O (by omega) (Nat.le_refl _) (by omega) ru HP.out (mrowB_row HY.out).1 hc (by omega)).mono ?_
        rintro e w3 ⟨o2, rfl, B2, O2, M2⟩
        have R2 := R.mid M2 (.inl (by omega))
        have Y2 := Y.mid M2 (by omega)
        rw [← HN.out] at O2
        clear R B O Y M2
        go_wp2
        go_roundg (vs.length - (k + 1))
        case measure => have := HK.out; omega
        case rel => exact ⟨k + 1, _, by omega, by go_num, R2, B2, O2, Y2⟩
    · obtain rfl : k = vs.length := by omega
      have i1 : ¬ (vs.length : Int) < (vs.length : Int) := by omega
      rw [span_all] at O
      obtain ⟨Ao, co, eo, _, _, _⟩ := O.reads
      subst eo
      obtain ⟨cb, fb, zb⟩ := B.facts
      obtain ⟨cr, fr, zr⟩ := R.facts
      have Y3 : Bel w ((wr.setCell ⟨w.heap.size, 0, none⟩ (.int .i64 (c : Int))).setCell ⟨w.heap.size, 1, none⟩ (.slice Ao (spanZ c vs).length co)) := (Y.setCell (p := ⟨w.heap.size, 0, none⟩) (Nat.le_refl _) _).setCell (p := ⟨w.heap.size, 1, none⟩) (Nat.le_refl _) _
      have O3 := OM.setFar (OM.setFar O (p := ⟨w.heap.size, 0, none⟩) (by dsimp only; omega) (.int .i64 (c : Int))) (p := ⟨w.heap.size, 1, none⟩) (by dsimp only; omega) (.slice Ao (spanZ c vs).length co)
      go_wp2
      refine bodyPost_ret (v := .agg #[.int .i64 (c : Int), .slice Ao (spanZ c vs).length co]) (by simp [results, Try.results76, go_sem, cr]) rfl ⟨_, rfl, OM.low O3 (by omega), Y3⟩
end Go.Proofs.Ytjaagabbbnokdaa
