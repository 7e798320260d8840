/-
  FnTopologicalOrder: for every drawn graph an order exists if and only if there is no circle, and every edge leads to a later node. No condition.
-/
import Derived.Test.YtjlcnbicehjjjaaDrgu
import Derived.Test.YtjlcnbicehjjjaaTopo6
import Derived.Test.YtjlcnbicehjjjaaBq
namespace Go.Proofs.Ytjlcnbicehjjjaa.fnTopologicalOrder
open Go.ChangeShapes Go.WideShapes Go.ChangeAt Go.RowKit
set_option linter.unusedVariables false
set_option maxRecDepth 100000

set_option maxHeartbeats 4000000 in
theorem walk (w : World) (v0 : Value) (x0 : Nat) (f0 : IsBytes w v0 x0) :
    Calls Try.prog 9 #[v0] w fun e w' => e = .returned (.bool true) ∧ Below w.heap.size w w' := by
  have hv : RB w v0 x0 := f0
  by_cases hbig : (1048576 : Int) < (x0 : Int)
  · have HD : Hid (decide ((1048576 : Int) < (x0 : Int)) = true) := Lib.hid (decide_eq_true hbig)
    go_enter Try.func9, Try.ntmps9
    go_wp2_with fail
    refine (bigL _ x0 _ hv).mono ?_
    rintro e w1 ⟨rfl, rfl⟩
    rw [HD.out]
    go_wp2
    go_ret
    exact ⟨rfl, Bel.refl _⟩
  have hn : x0 ≤ 1048576 := by omega
  have HD : Hid (decide ((1048576 : Int) < (x0 : Int)) = false) := Lib.hid (decide_eq_false hbig)
  clear hbig
  go_enter Try.func9, Try.ntmps9
  go_wp2_with fail
  refine (bigL _ x0 _ hv).mono ?_
  rintro e w1 ⟨rfl, rfl⟩
  rw [HD.out]
  go_wp2_with fail
  refine (drawTopS _ x0 _ hv hn).mono ?_
  rintro e w1 ⟨s, u, fs, rfl, O1, hfl, Y1⟩
  obtain ⟨A, c, eg, _, _, hA⟩ := O1.reads
  subst eg
  have K2 : Blk (w1.alloc (.cells #[.int .i64 s, .slice A fs.length c] 73)) w1.heap.size 73 #[.int .i64 s, .slice A fs.length c] := Blk.new w1 _ _
  have Yb : Bel w1 (w1.alloc (.cells #[.int .i64 s, .slice A fs.length c] 73)) := (Bel.refl _).alloc _
  have rG := O1.reads
  have HACY := Lib.hid (rfl : acyB s fs = acyB s fs)
  obtain ⟨ck, fk, zk⟩ := K2.facts
  go_wp2_with fail
  refine (topI s _ fs _ (rG.keep Yb)).mono ?_
  rintro e w3 ⟨r, rfl, O3, hb3⟩
  have K3 := hb3.keep K2
  have Y3 := Yb.trans hb3
  clear ck fk zk
  obtain ⟨ck, fk, zk⟩ := K3.facts
  go_wp2_with fail
  refine (acyI s _ fs _ (rG.keep Y3)).mono ?_
  rintro e w4 ⟨rfl, hb4⟩
  have K4 := hb4.keep K3
  have Y4 := Y3.trans hb4
  clear ck fk zk
  obtain ⟨ck, fk, zk⟩ := K4.facts
  have O4 := O3.keep hb4
  cases hq : acyB s fs
  · have hne : (false != false) = false := rfl
    have HT := Lib.hid (top_no hq)
    have HQ := Lib.hid hq
    clear hq
    go_wp2_with fail
    refine (acyS s _ fs _ (rG.keep Y4)).mono ?_
    rintro e w5 ⟨rfl, hb5⟩
    rw [HQ.out]
    rw [HT.out] at O4
    obtain ⟨B, d, er, _, _, _⟩ := O4.reads
    subst er
    go_wp2
    go_ret
    exact ⟨rfl, Y1.trans (Y4.trans hb5)⟩
  · have hne : (true != true) = false := rfl
    obtain ⟨ht1, ht2⟩ := top_yes hq
    have HQ := Lib.hid hq
    have HT2 := Lib.hid ht2
    have HT1 := Lib.hid ht1
    clear hq ht1 ht2
    go_wp2_with fail
    refine (acyS s _ fs _ (rG.keep Y4)).mono ?_
    rintro e w5 ⟨rfl, hb5⟩
    rw [HQ.out]
    have K5 := hb5.keep K4
    have Y5 := Y4.trans hb5
    have O5 := O4.keep hb5
    clear ck fk zk K4 Y4 O4 hb5 hb4 K3 Y3 O3
    generalize topL s fs = L at *
    obtain ⟨B, d, er, _, _, _⟩ := O5.reads
    subst er
    generalize hgB : w1.heap.size = gB at *
    have HGB := Lib.hid hgB
    clear hgB
    go_wp2
    go_loopg [6] fs.length (fun f i wr => ∃ k : Nat, k + f = fs.length ∧ i = .int .i64 k ∧ Bel w5 wr)
    case atStart => exact ⟨0, by omega, rfl, Bel.refl _⟩
    case round =>
      obtain ⟨i, hi, rfl, Yr⟩ := hrel
      have hi2 : i ≤ fs.length := by omega
      have HI := Lib.hid hi
      clear hi
      have K := Yr.keep K5
      obtain ⟨ck, fk, zk⟩ := K.facts
      by_cases hlt : i < fs.length
      · have i0 : (0 : Int) ≤ (i : Int) := by omega
        have i1 : (i : Int) < (fs.length : Int) := by omega
        obtain ⟨wi, hwi⟩ : ∃ x, x = wr := ⟨_, rfl⟩
        subst hwi
        obtain ⟨b1, o1, rfl, z1, hc1⟩ := hA (by omega)
        have hx : fs[i]? = some (fs[i]'hlt) := List.getElem?_eq_getElem hlt
        obtain ⟨e1, e2, _⟩ := hc1 i _ hx
        have HO := Lib.hid (HT2.out _ (List.getElem_mem hlt))
        generalize fs[i]'hlt = f at *
        obtain ⟨x, y, z⟩ := f
        dsimp only at *
        clear hx hc1
        go_wp2
        clear ck fk zk
        go_loopg [7, 8] L.length (fun f q j wr => ∃ k : Nat, k + f = L.length ∧ j = .int .i64 k ∧ q = .bool (hasB (L.take k) x) ∧ Bel wi wr)
        case atStart => exact ⟨0, by omega, rfl, rfl, Bel.refl _⟩
        case round =>
          obtain ⟨k, hk, rfl, rfl, Yq⟩ := hrel
          have hk2 : k ≤ L.length := by omega
          have HK := Lib.hid hk
          clear hk
          by_cases hlk : k < L.length
          · have k0 : (0 : Int) ≤ (k : Int) := by omega
            have k1 : (k : Int) < (L.length : Int) := by omega
            have Y9 := Yr.trans Yq
            have K9 := Y9.keep K5
            have rL := O5.reads.keep Y9
            obtain ⟨B', d', eL, _, _, hB⟩ := rL
            injection eL with eL1 eL2 eL3
            subst eL1
            subst eL3
            obtain ⟨b2, o2, rfl, z2, hc2⟩ := hB (by omega)
            have hy : L[k]? = some (L[k]'hlk) := List.getElem?_eq_getElem hlk
            have g2 := hc2 k _ hy
            have HS := Lib.hid (has_take (y := x) hy)
            have HOK := Lib.hid (fun h : L[k]'hlk = y => HO.out k (by rw [hy, h]))
            generalize L[k]'hlk = l at *
            have z1w : b1 < w1.heap.size := by rw [HGB.out]; exact z1
            have e1r := (Y5.trans Y9).cell1 z1w e1
            have e2r := (Y5.trans Y9).cell1 z1w e2
            have rg : wr.cell? ⟨gB, 1, none⟩ = some (.slice (some ⟨b1, o1, none⟩) fs.length c) := K9.facts.1 1
            have zb1 : b1 < wr.heap.size := Nat.lt_of_lt_of_le z1w (Y5.trans Y9).size
            have qq0 := Bw.cell g2 z2
            have qq1 := Bw.cell e1r zb1
            have qq2 := Bw.cell e2r zb1
            have qq3 := Bw.cell rg K9.lt
            clear hB hc2 hy eL2 e1 e2
            cases hly : (l == y)
            · cases hq : hasB (L.take k) x
              · cases hlx : (l == x)
                · have HS2 : Hid (hasB (L.take (k + 1)) x = false) := Lib.hid (by rw [HS.out, hq, hlx]; rfl)
                  clear hq
                  go_wp2
                  refine wp_region_bel (by kernel_rfl) (by kernel_rfl) ?_
                  repeat (first | go_big_quiet_step (fail) | quiet_step (fail))
                  refine wpQuiet_nil ?_
                  rintro w8 ⟨⟨_, hb8⟩, rfl⟩
                  have qr0 := Bw.cell (hb8.cell1 z2 g2) (Nat.lt_of_lt_of_le z2 hb8.size)
                  have qr1 := Bw.cell (hb8.cell1 zb1 e1r) (Nat.lt_of_lt_of_le zb1 hb8.size)
                  have qr2 := Bw.cell (hb8.cell1 zb1 e2r) (Nat.lt_of_lt_of_le zb1 hb8.size)
                  have qr3 := Bw.cell (hb8.cell1 K9.lt rg) (Nat.lt_of_lt_of_le K9.lt hb8.size)
                  go_wp2
                  refine wp_region_bel (by kernel_rfl) (by kernel_rfl) ?_
                  repeat (first | go_big_quiet_step (fail) | quiet_step (fail))
                  refine wpQuiet_nil ?_
                  rintro w9 ⟨⟨_, hb9⟩, rfl⟩
                  clear qq0 qq1 qq2 qq3 qr0 qr1 qr2 qr3
                  go_wp2
                  go_roundg (L.length - (k + 1))
                  case measure => have := HK.out; omega
                  case rel => exact ⟨k + 1, by omega, by go_num, by rw [HS2.out], (Yq.trans hb8).trans hb9⟩
                · have HS2 : Hid (hasB (L.take (k + 1)) x = true) := Lib.hid (by rw [HS.out, hq, hlx]; rfl)
                  clear hq
                  go_wp2
                  refine wp_region_bel (by kernel_rfl) (by kernel_rfl) ?_
                  repeat (first | go_big_quiet_step (fail) | quiet_step (fail))
                  refine wpQuiet_nil ?_
                  rintro w8 ⟨⟨_, hb8⟩, rfl⟩
                  have qr0 := Bw.cell (hb8.cell1 z2 g2) (Nat.lt_of_lt_of_le z2 hb8.size)
                  have qr1 := Bw.cell (hb8.cell1 zb1 e1r) (Nat.lt_of_lt_of_le zb1 hb8.size)
                  have qr2 := Bw.cell (hb8.cell1 zb1 e2r) (Nat.lt_of_lt_of_le zb1 hb8.size)
                  have qr3 := Bw.cell (hb8.cell1 K9.lt rg) (Nat.lt_of_lt_of_le K9.lt hb8.size)
                  go_wp2
                  refine wp_region_bel (by kernel_rfl) (by kernel_rfl) ?_
                  repeat (first | go_big_quiet_step (fail) | quiet_step (fail))
                  refine wpQuiet_nil ?_
                  rintro w9 ⟨⟨_, hb9⟩, rfl⟩
                  clear qq0 qq1 qq2 qq3 qr0 qr1 qr2 qr3
                  go_wp2
                  go_roundg (L.length - (k + 1))
                  case measure => have := HK.out; omega
                  case rel => exact ⟨k + 1, by omega, by go_num, by rw [HS2.out], (Yq.trans hb8).trans hb9⟩
              · have HS2 : Hid (hasB (L.take (k + 1)) x = true) := Lib.hid (by rw [HS.out, hq]; rfl)
                clear hq
                go_wp2
                refine wp_region_bel (by kernel_rfl) (by kernel_rfl) ?_
                repeat (first | go_big_quiet_step (fail) | quiet_step (fail))
                refine wpQuiet_nil ?_
                rintro w8 ⟨⟨_, hb8⟩, rfl⟩
                have qr0 := Bw.cell (hb8.cell1 z2 g2) (Nat.lt_of_lt_of_le z2 hb8.size)
                have qr1 := Bw.cell (hb8.cell1 zb1 e1r) (Nat.lt_of_lt_of_le zb1 hb8.size)
                have qr2 := Bw.cell (hb8.cell1 zb1 e2r) (Nat.lt_of_lt_of_le zb1 hb8.size)
                have qr3 := Bw.cell (hb8.cell1 K9.lt rg) (Nat.lt_of_lt_of_le K9.lt hb8.size)
                go_wp2
                refine wp_region_bel (by kernel_rfl) (by kernel_rfl) ?_
                repeat (first | go_big_quiet_step (fail) | quiet_step (fail))
                refine wpQuiet_nil ?_
                rintro w9 ⟨⟨_, hb9⟩, rfl⟩
                clear qq0 qq1 qq2 qq3 qr0 qr1 qr2 qr3
                go_wp2
                go_roundg (L.length - (k + 1))
                case measure => have := HK.out; omega
                case rel => exact ⟨k + 1, by omega, by go_num, by rw [HS2.out], (Yq.trans hb8).trans hb9⟩
            · have hq : hasB (L.take k) x = true := HOK.out (by simpa using hly)
              have HS2 : Hid (hasB (L.take (k + 1)) x = true) := Lib.hid (by rw [HS.out, hq]; rfl)
              rw [hq]
              clear hq
              go_wp2
              refine wp_region_bel (by kernel_rfl) (by kernel_rfl) ?_
              repeat (first | go_big_quiet_step (fail) | quiet_step (fail))
              refine wpQuiet_nil ?_
              rintro w8 ⟨⟨_, hb8⟩, rfl⟩
              have qr0 := Bw.cell (hb8.cell1 z2 g2) (Nat.lt_of_lt_of_le z2 hb8.size)
              have qr1 := Bw.cell (hb8.cell1 zb1 e1r) (Nat.lt_of_lt_of_le zb1 hb8.size)
              have qr2 := Bw.cell (hb8.cell1 zb1 e2r) (Nat.lt_of_lt_of_le zb1 hb8.size)
              have qr3 := Bw.cell (hb8.cell1 K9.lt rg) (Nat.lt_of_lt_of_le K9.lt hb8.size)
              go_wp2
              refine wp_region_bel (by kernel_rfl) (by kernel_rfl) ?_
              repeat (first | go_big_quiet_step (fail) | quiet_step (fail))
              refine wpQuiet_nil ?_
              rintro w9 ⟨⟨_, hb9⟩, rfl⟩
              clear qq0 qq1 qq2 qq3 qr0 qr1 qr2 qr3
              go_wp2
              go_roundg (L.length - (k + 1))
              case measure => have := HK.out; omega
              case rel => exact ⟨k + 1, by omega, by go_num, by rw [HS2.out], (Yq.trans hb8).trans hb9⟩
          · have hke : k = L.length := by omega
            subst hke
            have k1 : ¬ (L.length : Int) < (L.length : Int) := by omega
            go_wp2
            go_roundg (fs.length - (i + 1))
            case measure => have := HI.out; omega
            case rel => exact ⟨i + 1, by omega, by go_num, Yr.trans Yq⟩
      · have hie : i = fs.length := by omega
        subst hie
        have i1 : ¬ (fs.length : Int) < (fs.length : Int) := by omega
        have hls : ((L.length : Int) == s) = true := by rw [HT1.out]; simp
        go_wp2
        go_ret
        exact ⟨rfl, Y1.trans (Y5.trans Yr)⟩

set_option maxRecDepth 100000 in
theorem lifted (os : Os) (started : os.Started) (H : Type) (enc : TypeId × Value → H) :
    ReturnsInHanded {} Try.checked os 9 .any (Rows.fnTopologicalOrderSpec.pre6 enc Try.prog Try.f9 Rows.fnTopologicalOrderRow.domain false) (Rows.fnTopologicalOrderSpec.post enc Try.prog Try.f9 false true false false) := by
  refine returnsInHanded_of_change (C := Try.checked) own started (by kernel_rfl) Try.func9
    (ChangeSpec.witness6 (enc := enc) (C := Try.checked) false ⟨#[], #[.slice none 0 0], []⟩ 8 (by kernel_rfl) (by kernel_rfl) (by kernel_rfl) (by kernel_rfl)) ?_
  intro W base args ds gs before hval0 hW hcnd _
  have hval : ∀ (j : Nat) t v, Try.f9.params[j]? = some t → args[j]? = some v → Value.okWide Try.prog W .any base t v := hval0
  have hW' := hW
  obtain ⟨p, q, hA0, hV, rfl, hfz, hnd⟩ := hW
  have hA : DataW.TrodAll enc Try.prog W 0 (fun _ => true) true Try.f9.params.toList args.toList ds p := hA0
  rw [Try.params9] at hA hval
  obtain ⟨v0, vs0, d0, ds0, p0, q0, hargs, rfl, rfl, h0, r0⟩ := trodAll_cons hA
  obtain ⟨rfl, rfl, rfl⟩ := trodAll_nil r0
  obtain rfl : args = #[v0] := by cases args; simp_all
  obtain ⟨rfl, rfl⟩ := trodVars_none hV
  have k0 := h0
  have lt0 : ∀ x ∈ p0, x.block < W.heap.size := by obtain ⟨m, hm⟩ := k0; exact DataW.trod_lt m _ _ _ hm
  obtain ⟨x0, f0⟩ := openBytes (hval 0 38 v0 rfl rfl) h0
  clear hA0 hval0
  refine (walk W v0 x0 f0).mono fun e W' ⟨he, bel⟩ => ?_
  subst he
  exact ⟨_, rfl, _, _, _, [], _, [], hW', trodAll_mk1 (shut_bool Try.underlying4 _), (trodAll_cons_mk (Below.trod laidOut (by kernel_rfl) (of_decide_eq_true (by kernel_rfl)) k0 bel lt0) trodAll_mk0), rfl, bel.frame _, fun h => by cases h⟩

theorem over : Rows.fnTopologicalOrderRow.holds Try.pinned (OpenSpec.ofChange Rows.fnTopologicalOrderSpec) :=
  OpenClaim.holds_of_wide 9 Try.f9 rfl rfl rfl rfl rfl rfl rfl ⟨rfl, rfl, rfl, rfl, rfl⟩ rfl rfl rfl rfl rfl (by kernel_rfl) Try.func9 (by kernel_rfl)
    (of_decide_eq_true (by kernel_rfl)) (by unfold Func.isWrapper; first | (rw [if_pos (by decide +kernel)]; kernel_rfl) | (rw [if_neg (by decide +kernel)]; exact ⟨rfl, rfl⟩))
    (fun os started H enc _ => lifted os started H enc)

theorem proved : Rows.FnTopologicalOrderSaid := over
#print axioms proved
end Go.Proofs.Ytjlcnbicehjjjaa.fnTopologicalOrder
