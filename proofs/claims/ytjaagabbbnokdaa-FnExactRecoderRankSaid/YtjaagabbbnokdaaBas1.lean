/-
  The program's addScaled (in place), ScaleVector, InverseField, and reduce of a basis: contracts. Conditions: valid vectors; a reduced matrix.
-/
import Derived.Test.YtjaagabbbnokdaaMx6
import Derived.Test.YtjaagabbbnokdaaVx
namespace Go.Proofs.Ytjaagabbbnokdaa
open Go.ChangeShapes Go.WideShapes Go.ChangeAt Go.RowKit
set_option linter.unusedVariables false
set_option maxRecDepth 100000

/-- The first k numbers out of zs, the others out of xs. -/
def mixK (xs zs : List Int) (k : Nat) : List Int := zs.take k ++ xs.drop k
theorem mixK_len {xs zs : List Int} (hl : zs.length = xs.length) (k : Nat) : (mixK xs zs k).length = xs.length := by
  unfold mixK
  rw [List.length_append, List.length_take, List.length_drop]
  omega
theorem mixK_at {xs zs : List Int} (hl : zs.length = xs.length) {k : Nat} (hk : k < xs.length) : (mixK xs zs k)[k]? = xs[k]? := by
  unfold mixK
  rw [List.getElem?_append_right (by rw [List.length_take]; omega), List.length_take, List.getElem?_drop, show k + (k - min k zs.length) = k by omega]
theorem mixK_step {xs zs : List Int} (hl : zs.length = xs.length) {k : Nat} {z : Int} (hz : zs[k]? = some z) : (mixK xs zs k).set k z = mixK xs zs (k + 1) := by
  have hk : k < zs.length := (List.getElem?_eq_some_iff.1 hz).1
  apply List.ext_getElem?
  intro i
  by_cases e : i = k
  · subst e
    rw [List.getElem?_set_self (by rw [mixK_len hl]; omega)]
    unfold mixK
    rw [List.getElem?_append_left (by rw [List.length_take]; omega), List.getElem?_take, if_pos (by omega), hz]
  · rw [List.getElem?_set_ne (Ne.symm e)]
    unfold mixK
    rcases Nat.lt_or_ge i k with h | h
    · rw [List.getElem?_append_left (by rw [List.length_take]; omega), List.getElem?_append_left (by rw [List.length_take]; omega), List.getElem?_take, List.getElem?_take, if_pos h, if_pos (by omega)]
    · rw [List.getElem?_append_right (by rw [List.length_take]; omega), List.getElem?_append_right (by rw [List.length_take]; omega), List.length_take, List.length_take, List.getElem?_drop, List.getElem?_drop]
      congr 1
      omega
theorem mixK_zero (xs zs : List Int) : mixK xs zs 0 = xs := by simp [mixK]
theorem mixK_all {xs zs : List Int} (hl : zs.length = xs.length) : mixK xs zs xs.length = zs := by
  unfold mixK
  rw [← hl, List.take_length, hl, List.drop_length, List.append_nil]
theorem grown_set {w wr : World} {g i : Nat} {z : Value} (hG : w.grownBy wr (some g)) : w.grownBy (wr.setCell ⟨g, i, none⟩ z) (some g) :=
  ⟨hG.os, hG.tape, hG.output, by simpa [World.setCell] using hG.size, fun j hj hne => (Below.heap_setCell _ _ _ _ (fun e => hne (by rw [e]))).trans (hG.block j hj hne)⟩
theorem RIx.grownS {w w' : World} {lo : Nat} {ob : Option Nat} {v : Value} {xs : List Int} (h : RIx w lo ob v xs) (hg : w.grownBy w' ob) : RIx w' lo ob v xs := h.grown hg (.inl rfl)

set_option maxHeartbeats 1000000 in
theorem addsI (v u : Value) (q : Int) (xs ys : List Int) (base : Nat) (w : World) (hv : OI w base v xs) (hu : RIx w 0 v.ownBlock u ys) (hl : ys.length = xs.length) (hx : ∀ x ∈ xs, 0 ≤ x ∧ x ≤ 1018) (hy : ∀ x ∈ ys, 0 ≤ x ∧ x ≤ 1018) (hq : 0 ≤ q ∧ q ≤ 1018) :
    Calls Try.prog 105 #[v, u, .int .i64 q] w fun e w' => e = .returned v ∧ OI w' base v (addsZ xs ys q) ∧ w.grownBy w' v.ownBlock := by
  have HX := Lib.hid hx
  have HYY := Lib.hid hy
  have HL := Lib.hid hl
  have HZL : Hid ((addsZ xs ys q).length = xs.length) := Lib.hid (addsZ_len _ _ _ hl.symm)
  obtain ⟨B, d, rfl, h4, h5, hB⟩ := id hu
  clear hx hy
  rcases Nat.eq_zero_or_pos xs.length with h0 | h0
  · have e1 : xs = [] := List.eq_nil_of_length_eq_zero h0
    have e2 : ys = [] := List.eq_nil_of_length_eq_zero (by omega)
    subst e1 e2
    obtain ⟨Av, cv, ev, _, _, _⟩ := hv.reads
    subst ev
    have O1 : OI w base (.slice Av 0 cv) (addsZ [] [] q) := hv
    go_enter Try.func105, Try.ntmps105
    go_wp2
    refine wp_loop_rounds 1 ?_
    rw [rounds_succ]
    go_wp2
    go_ret
    exact ⟨rfl, O1, World.grownBy.refl w _⟩
  · obtain ⟨g, cap, rfl, g1, g2, g3, g4, g6, g5⟩ := hv.cells h0
    have O0 : OI w base (.slice (some ⟨g, 0, none⟩) xs.length cap) (mixK xs (addsZ xs ys q) 0) := by rw [mixK_zero]; exact hv
    clear g5 g6 hv
    have hu' : RIx w 0 (some g) (.slice B ys.length d) ys := hu
    clear hu
    have yl : (ys.length : Int) = (xs.length : Int) := by omega
    rw [hl] at hu' ⊢
    go_enter Try.func105, Try.ntmps105
    go_wp2
    clear yl
    go_loopg [11] xs.length (fun f i wr => ∃ k : Nat, k + f = xs.length ∧ i = .int .i64 k ∧ OI wr base (.slice (some ⟨g, 0, none⟩) xs.length cap) (mixK xs (addsZ xs ys q) k) ∧ w.grownBy wr (some g))
    case atStart => exact ⟨0, by omega, rfl, O0, World.grownBy.refl w _⟩
    case round =>
      clear O0
      obtain ⟨k, hk, rfl, O, GG⟩ := hrel
      have hk2 : k ≤ xs.length := by omega
      have HK := Lib.hid hk
      clear hk
      by_cases hlt : k < xs.length
      · obtain ⟨g', cap', e', _, zg, _, _, fz, cs⟩ := O.cells (by rw [mixK_len HZL.out]; omega)
        injection e' with e1 e2 e3
        injection e1 with e1
        injection e1 with e1
        subst e1
        clear e2 e3
        have hxk : xs[k]? = some (xs[k]'hlt) := List.getElem?_eq_getElem hlt
        have hyk : ys[k]? = some (ys[k]'(by omega)) := List.getElem?_eq_getElem (by omega)
        have c1 := cs k _ ((mixK_at HZL.out hlt).trans hxk)
        have f1 := fz k
        obtain ⟨B2, d2, eB, _, _, hB2⟩ := (hu'.grownS GG)
        injection eB with eB1 eB2 eB3
        subst eB1
        obtain ⟨b2, o2, rfl, _, zb, _, hc2⟩ := hB2 (by rw [HL.out]; omega)
        have g9 := hc2 k _ hyk
        have b1 := HX.out _ (List.mem_of_getElem? hxk)
        have b2' := HYY.out _ (List.mem_of_getElem? hyk)
        have HST := Lib.hid (mixK_step HZL.out (addsZ_at (q := q) hxk hyk))
        obtain ⟨u3, u4⟩ := mul_bd hq b2'
        have HO := Lib.hid (O.store (i := k) hlt ((xs[k]'hlt + ys[k]'(by omega) * q) % 1019))
        clear hc2 hB2 cs fz hxk hyk eB2 eB3
        generalize xs[k]'hlt = x at *
        generalize ys[k]'(by omega) = y at *
        have HE : Hid ((x + y * q) % 1019 = (x + q * y) % 1019) := Lib.hid (by rw [Int.mul_comm])
        have i0 : (0 : Int) ≤ (k : Int) := by omega
        have i1 : (k : Int) < (xs.length : Int) := by omega
        have O2 := HO.out
        rw [HST.out, HE.out] at O2
        go_wp2
        go_roundg (xs.length - (k + 1))
        case measure => have := HK.out; omega
        case rel => exact ⟨k + 1, by omega, by go_num, O2, grown_set GG⟩
      · obtain rfl : k = xs.length := by omega
        have i1 : ¬ (xs.length : Int) < (xs.length : Int) := by omega
        rw [mixK_all HZL.out] at O
        go_wp2
        go_ret
        exact ⟨rfl, O, GG⟩
theorem adds_zero (n : Nat) (xs : List Int) (q : Int) (hn : xs.length = n) : addsZ (List.replicate n 0) xs q = scaleZ xs q := by
  apply row_ext (by rw [addsZ_len _ _ _ (by simp [hn]), scaleZ_len]; simp [hn])
  intro k _
  rw [ent_addsZ _ _ _ _ (by simp [hn]), ent_scaleZ]
  have : ent (List.replicate n 0) k = 0 := by
    rcases Nat.lt_or_ge k n with h | h
    · exact ent_in (by simp [h])
    · exact ent_out (by simp [h])
  rw [this, Int.zero_add]
set_option maxHeartbeats 1000000 in
theorem scaleI (v : Value) (q : Int) (xs : List Int) (w : World) (hv : RI w v xs) (hx : vecB xs = true) (hq : elB q = true) :
    Calls Try.prog 103 #[v, .int .i64 q] w fun e w' => ∃ r, e = .returned r ∧ OI w' w.heap.size r (scaleZ xs q) ∧ Bel w w' := by
  obtain ⟨A, c, rfl, h2, h3, hA⟩ := id hv
  have HG := Lib.hid (vecB_facts hx).1
  have hn := (vecB_facts hx).2
  have HX := Lib.hid hx
  have HQ := Lib.hid hq
  have hmk := mkInts xs.length (by omega)
  have O := OI.made w xs.length (by omega)
  have Y : Bel w (w.alloc (.cells (madeCells #[.int .i64 0] xs.length) 3)) := (Bel.refl w).alloc _
  have HE := Lib.hid (adds_zero xs.length xs q rfl)
  clear hx hq
  generalize madeCells #[.int .i64 0] xs.length = C at *
  go_enter Try.func103, Try.ntmps103
  go_wp2_with fail
  refine (vecI _ xs _ hv).mono ?_
  rintro e w1 ⟨rfl, rfl⟩
  rw [HX.out]
  go_wp2_with fail
  refine (elI q _).mono ?_
  rintro e w1 ⟨rfl, rfl⟩
  rw [HQ.out]
  go_wp2_with fail
  refine (addsI _ _ q (List.replicate xs.length 0) xs w.heap.size _ O ?_ (by simp) ?_ HG.out (elB_facts HQ.out)).mono ?_
  · obtain ⟨A', c', e', k1, k2, k3⟩ := hv.keep Y
    refine ⟨A', c', e', k1, k2, fun h0 => ?_⟩
    obtain ⟨A2, c2, e2, _, _, k4⟩ := id hv
    injection e2 with e2a e2b e2c
    injection e' with ea eb ec
    obtain ⟨b, off, hb, hlt, hc⟩ := k3 h0
    obtain ⟨b', off', hb', hlt', _⟩ := k4 h0
    have : b = b' := by rw [← ea, e2a, hb'] at hb; injection hb with hb; injection hb with hb; exact hb.symm
    exact ⟨b, off, hb, Nat.zero_le _, hlt, fun e => by have h7 : w.heap.size = b := Option.some.inj e; omega, hc⟩
  · intro x hx
    rw [(List.mem_replicate.1 hx).2]; omega
  · rintro e w2 ⟨rfl, O2, G2⟩
    rw [HE.out] at O2
    have Y2 : Bel w w2 := Y.grown G2 (fun p hp => (O.block p hp).1)
    go_wp2
    go_ret
    exact ⟨_, rfl, O2, Y2⟩
theorem powFI (a n : Int) (w : World) (h : elB a = true) (hn : 0 ≤ n ∧ n ≤ 1000000000000) : Calls Try.prog 143 #[.int .i64 a, .int .i64 n] w fun e w' => e = .returned (.int .i64 (a ^ n.toNat % 1019)) ∧ w = w' := by
  obtain ⟨b1, b2⟩ := elB_facts h
  have HH := Lib.hid h
  have q2 : inB n 0 1000000000000 = true := decide_eq_true hn
  clear h
  go_enter Try.func143, Try.ntmps143
  go_wp2_with fail
  refine (elI a _).mono ?_
  rintro e w1 ⟨rfl, rfl⟩
  rw [HH.out]
  go_wp2_with fail
  refine (inRB _ _ _ _).mono ?_
  rintro e w1 ⟨rfl, rfl⟩
  rw [q2]
  go_wp2_with fail
  refine (powI a n 1019 _ b1 (by omega) hn.1 (by omega) (by omega)).mono ?_
  rintro e w1 ⟨rfl, rfl⟩
  obtain ⟨z, hz⟩ : ∃ z, z = a ^ n.toNat % 1019 := ⟨_, rfl⟩
  rw [← hz]
  have HZ := Lib.hid hz
  clear hz
  go_wp2
  go_ret
  exact ⟨by rw [← HZ.out]; rfl, rfl⟩
theorem invI (a : Int) (w : World) (h : elB a = true) : Calls Try.prog 104 #[.int .i64 a] w fun e w' => e = .returned (.int .i64 (invZ a)) ∧ w = w' := by
  have HE : Hid (invZ a = a ^ (1017 : Int).toNat % 1019) := Lib.hid rfl
  generalize invZ a = z at *
  go_enter Try.func104, Try.ntmps104
  go_wp2_with fail
  refine (powFI a 1017 _ h (by omega)).mono ?_
  rintro e w1 ⟨rfl, rfl⟩
  rw [← HE.out]
  go_wp2
  go_ret
  exact ⟨rfl, rfl⟩
set_option maxHeartbeats 2000000 in
theorem reduceI (d : Int) (v u : Value) (m : List (List Int)) (xs : List Int) (c : Nat) (P : Nat → Nat) (w : World) (hv : RII w v m) (hu : RI w u xs) (hR : Red c m P) (hx : Row c xs) (hc : c ≤ 40) :
    Calls Try.prog 101 #[.agg #[.int .i64 d, v], u] w fun e w' => ∃ r, e = .returned r ∧ OI w' w.heap.size r (reduceZ m xs) ∧ Bel w w' := by
  have HR := Lib.hid hR
  have HX := Lib.hid hx
  have HL := Lib.hid hx.1
  have hlx : xs.length ≤ 40 := by rw [hx.1]; exact hc
  clear hR hx
  obtain ⟨A, cp, rfl, h2, h3, hA⟩ := id hv
  have X := Blk.new w 39 #[.int .i64 d, .slice A m.length cp]
  have Y : Bel w (w.alloc (.cells #[.int .i64 d, .slice A m.length cp] 39)) := (Bel.refl _).alloc _
  go_enter Try.func101, Try.ntmps101
  go_wp2_with fail
  refine (cloneI u xs _ (hu.keep Y) (by omega)).mono ?_
  rintro e w1 ⟨r, rfl, O1, hb1⟩
  have X1 := hb1.keep X
  have Y1 := Y.trans hb1
  have sz := hb1.size
  have szw : w.heap.size < (w.alloc (.cells #[.int .i64 d, .slice A m.length cp] 39)).heap.size := by simp
  obtain ⟨lo1, hlo1⟩ : ∃ lo1, lo1 = (w.alloc (.cells #[.int .i64 d, .slice A m.length cp] 39)).heap.size := ⟨_, rfl⟩
  rw [← hlo1] at O1 szw sz
  clear hlo1
  obtain ⟨Ar, cr, er, k1, k2, _⟩ := O1.reads
  subst er
  obtain ⟨cc, _, zx⟩ := X1.facts
  go_wp2
  clear cc
  go_loopg [14] m.length (fun f i wr => ∃ k : Nat, k + f = m.length ∧ i = .int .i64 k ∧ OI wr lo1 (.slice Ar xs.length cr) (reduceZ (m.take k) xs) ∧ Bel w wr)
  case atStart => exact ⟨0, by omega, rfl, O1, Y1⟩
  case round =>
    clear O1 Y1 X1
    obtain ⟨k, hk, rfl, O, Yr⟩ := hrel
    have hk2 : k ≤ m.length := by omega
    have HK := Lib.hid hk
    clear hk
    by_cases hlt : k < m.length
    · obtain ⟨b1, o1, rfl, z1, hc1⟩ := hA (by omega)
      obtain ⟨ur, g1, ru⟩ := hc1 k _ (rw_get hlt)
      replace g1 := Yr.cell1 z1 g1
      clear hc1 hA
      have rowk := mtx_row HR.out.mtx hlt
      have HRK := Lib.hid rowk
      have inv := reduce_inv HR.out HX.out k (by omega)
      have HIN := Lib.hid inv.1
      have hleP : lead (rw_ m k) = P k := HR.out.lead_eq hlt
      have hlow := HR.out.low k hlt
      have hlk : lead (rw_ m k) < (rw_ m k).length := by rw [rowk.1, hleP]; exact hlow
      have HT := Lib.hid (reduce_take xs hlt)
      have hlz : (reduceZ (m.take k) xs).length = xs.length := by rw [inv.1.1, HL.out]
      have hlc : lead (rw_ m k) < xs.length := by rw [HL.out, ← rowk.1]; exact hlk
      have HLV := Lib.hid (leadV_yes hlk)
      have HLR : Hid ((rw_ m k).length = xs.length) := Lib.hid (by rw [rowk.1, HL.out])
      clear hleP hlow rowk inv
      obtain ⟨g, cap, eg, q1, q2, q3, q4, q6, q5⟩ := O.cells (by omega)
      injection eg with e1 e2 e3
      subst e1 e3
      have cx := q5 _ _ (ent_get (show lead (rw_ m k) < (reduceZ (m.take k) xs).length by omega))
      have HBX := Lib.hid (ent_bd HIN.out (lead (rw_ m k)))
      have HZL := Lib.hid hlz
      -- the row lies apart from what is being reduced
      have RX : Hid (RIx wr 0 (some g) ur (rw_ m k)) := Lib.hid (by
        obtain ⟨A', c', e', j1, j2, j3⟩ := id ru
        refine ⟨A', c', e', j1, j2, fun h0 => ?_⟩
        obtain ⟨b, off, hb, hlt2, hc⟩ := j3 h0
        exact ⟨b, off, hb, Nat.zero_le _, Nat.lt_of_lt_of_le hlt2 Yr.size, fun e => by injection e with e; omega, fun j x hx => Yr.cell1 hlt2 (hc j x hx)⟩)
      have HRU := Lib.hid (ru.keep Yr)
      obtain ⟨p, hp⟩ : ∃ p, p = lead (rw_ m k) := ⟨_, rfl⟩
      obtain ⟨x, hxx⟩ : ∃ x, x = ent (reduceZ (m.take k) xs) (lead (rw_ m k)) := ⟨_, rfl⟩
      rw [← hxx] at cx HBX
      rw [← hp] at cx hlc HLV HT
      have HXX := Lib.hid hxx
      have HP := Lib.hid hp
      clear q5 q6 e2 hlk hlz hxx hp q3
      have i0 : (0 : Int) ≤ (k : Int) := by omega
      have i1 : (k : Int) < (m.length : Int) := by omega
      have p0 : (0 : Int) ≤ (p : Int) := by omega
      have p1 : (p : Int) < (xs.length : Int) := by omega
      go_wp2_with fail
      refine (leadI _ _ _ HRU.out).mono ?_
      rintro e w2 ⟨rfl, rfl⟩
      rw [HLV.out]
      cases hz : (x != 0)
      · have HN : Hid (reduceZ (m.take (k + 1)) xs = reduceZ (m.take k) xs) := Lib.hid (by rw [HT.out]; apply clr1_0; rw [HP.out, ← HXX.out]; simpa using hz)
        rw [← HN.out] at O
        go_wp2
        go_roundg (m.length - (k + 1))
        case measure => have := HK.out; omega
        case rel => exact ⟨k + 1, by omega, by go_num, O, Yr⟩
      · obtain ⟨x0, x1⟩ := HBX.out
        have x2 : x ≠ 0 := by simpa using hz
        have HN : Hid (reduceZ (m.take (k + 1)) xs = addsZ (reduceZ (m.take k) xs) (rw_ m k) (1019 - x)) := Lib.hid (by
          rw [HT.out]
          unfold clr1
          rw [HP.out, ← HXX.out, hz]
          rfl)
        have HQB : Hid (0 ≤ 1019 - x ∧ 1019 - x ≤ 1018) := Lib.hid (by omega)
        clear x2
        go_wp2_with fail
        refine (addsI _ _ (1019 - x) (reduceZ (m.take k) xs) (rw_ m k) lo1 _ O RX.out (by rw [HLR.out, HZL.out]) HIN.out.2 HRK.out.2 HQB.out).mono ?_
        rintro e w3 ⟨rfl, O3, G3⟩
        rw [← HN.out] at O3
        have Y3 : Bel w w3 := Yr.grown G3 (fun q hq => by have := (O.block q hq).1; omega)
        go_wp2
        go_roundg (m.length - (k + 1))
        case measure => have := HK.out; omega
        case rel => exact ⟨k + 1, by omega, by go_num, O3, Y3⟩
    · obtain rfl : k = m.length := by omega
      have i1 : ¬ (m.length : Int) < (m.length : Int) := by omega
      rw [List.take_length] at O
      go_wp2
      go_ret
      exact ⟨_, rfl, O.low (by omega), Yr⟩
end Go.Proofs.Ytjaagabbbnokdaa
