/-
  spec.RecordFeedback: a contract. Condition: at most 2^20 reports.
-/
import Derived.Test.YtchodlfkoafeaaaRcg
import Derived.Test.YtchodlfkoafeaaaCutl
import Derived.Deep.RegionLaw
import Derived.Deep.RegionHeld3
import Derived.Deep.DeepCutAuto
import Derived.Deep.CutRange
namespace Go.Proofs.Ytchodlfkoafeaaa
open Go.ChangeShapes Go.WideShapes Go.ChangeAt Go.RowKit Go.Lib Go.Joins Go.Deep
set_option linter.unusedVariables false
set_option linter.unusedSimpArgs false
set_option maxRecDepth 100000

theorem RT.take {w : World} {A : Option Addr} {n c : Nat} {fs : List Tr} {t : Nat} (h : RT w (.slice A n c) fs) (ht : t ≤ n) : RT w (.slice A t c) (fs.take t) := by
  obtain ⟨B, d, e, h1, h2, h3⟩ := h
  injection e with e1 e2 e3
  subst e1 e3
  have hl : (fs.take t).length = t := by rw [List.length_take]; omega
  refine ⟨A, c, by rw [hl], by omega, h2, fun h0 => ?_⟩
  obtain ⟨b, off, hA, hb, hc⟩ := h3 (by omega)
  refine ⟨b, off, hA, hb, fun j x hx => hc j x ?_⟩
  rw [List.getElem?_take] at hx
  split at hx
  · exact hx
  · cases hx
theorem RT.drop {w : World} {b off n c : Nat} {fs : List Tr} {t : Nat} (h : RT w (.slice (some ⟨b, off, none⟩) n c) fs) (ht : t < n) : RT w (.slice (some ⟨b, off + t * 3, none⟩) (n - t) (c - t)) (fs.drop t) := by
  obtain ⟨B, d, e, h1, h2, h3⟩ := h
  injection e with e1 e2 e3
  subst e3
  have hl : (fs.drop t).length = n - t := by rw [List.length_drop, e2]
  refine ⟨_, c - t, by rw [hl], by omega, by omega, fun h0 => ?_⟩
  obtain ⟨b', off', hA, hb, hc⟩ := h3 (by omega)
  rw [hA] at e1
  injection e1 with e1
  injection e1 with e1 e4
  subst e1 e4
  refine ⟨b, off + t * 3, rfl, hb, fun j f hf => ?_⟩
  rw [List.getElem?_drop] at hf
  obtain ⟨q1, q2, q3⟩ := hc (t + j) f hf
  rw [show off + t * 3 + j * 3 = off + (t + j) * 3 by omega]
  exact ⟨q1, q2, q3⟩
theorem RT.void (w : World) (A : Option Addr) (c : Nat) (h : c ≤ 9223372036854775807) : RT w (.slice A 0 c) [] := ⟨A, c, rfl, Nat.zero_le _, h, fun h0 => absurd h0 (by simp)⟩

theorem eq_of_less {a b m x y z : Int} (h1 : lessFb (a, b, m) (x, y, z) = false) (h2 : lessFb (x, y, z) (a, b, m) = false) : a = x ∧ b = y := by
  unfold lessFb at h1 h2
  have q1 := of_decide_eq_false h1
  have q2 := of_decide_eq_false h2
  dsimp only at q1 q2
  omega
theorem OT.putEq {T : TypeId} {w : World} {base g cap n i : Nat} {fs : List Tr} {v : Value} (h : OT T w base (.slice (some ⟨g, 0, none⟩) n cap) fs) (hi : (flat3 fs)[i]? = some v) : OT T (w.setCell ⟨g, i, none⟩ v) base (.slice (some ⟨g, 0, none⟩) n cap) fs := by
  obtain ⟨hl, ⟨e, h9⟩ | ⟨g', cap', cur, e, hb, hh, h1, h2, h3, h4⟩⟩ := h
  · cases e
  · injection e with e1 e2 e3
    injection e1 with e1
    injection e1 with e1 _
    subst e1 e2 e3
    have hB : Blk w g T cur := hh
    refine ⟨hl, .inr ⟨g, cap, _, rfl, hb, hB.set i v, h1, h2, by rw [Array.size_setIfInBounds]; exact h3, ?_⟩⟩
    rw [Array.toList_setIfInBounds, List.take_set, h4]
    apply List.ext_getElem?
    intro j
    rw [List.getElem?_set]
    split
    · rename_i e
      subst e
      rw [hi]
      simp [(List.getElem?_eq_some_iff.1 hi).1]
    · rfl
theorem set_same {α : Type} {l : List α} {i : Nat} {v : α} (h : l[i]? = some v) : l.set i v = l := by
  apply List.ext_getElem?
  intro j
  rw [List.getElem?_set]
  split
  · rename_i e
    subst e
    rw [h]
    simp [(List.getElem?_eq_some_iff.1 h).1]
  · rfl
theorem OT.facts0 {T : TypeId} {w : World} {base g cap n : Nat} {fs : List Tr} {lo hi : Nat} (h : OT T w base (.slice (some ⟨g, 0, none⟩) n cap) fs) (_ : lo ≤ g ∧ g < hi) : ∀ j, w.frozen? ⟨g, j, none⟩ = false := by
  obtain ⟨hl, ⟨e, h9⟩ | ⟨g', cap', cur, e, hb, hh, h1, h2, h3, h4⟩⟩ := h
  · cases e
  · injection e with e1 e2 e3
    injection e1 with e1
    injection e1 with e1 _
    subst e1
    have hB : Blk w g T cur := hh
    exact hB.facts.2.1
def lk (fs : List Tr) (f : Tr) (k : Nat) : Bool := match fs[k]? with
  | some g => lessFb g f
  | none => false
theorem lk_some {fs : List Tr} {f g : Tr} {k : Nat} (h : fs[k]? = some g) : lk fs f k = lessFb g f := by unfold lk; rw [h]
theorem lk_none {fs : List Tr} {f : Tr} {k : Nat} (h : ¬ k < fs.length) : lk fs f k = false := by unfold lk; rw [List.getElem?_eq_none (by omega)]
theorem lk_false {fs : List Tr} {f : Tr} {k : Nat} (h : lk fs f k = false) : ∀ g, fs[k]? = some g → lessFb g f = false := by
  intro g hg
  rwa [lk_some hg] at h
theorem lk_true {fs : List Tr} {f : Tr} {k : Nat} (h : lk fs f k = true) : k < fs.length ∧ ∀ g, fs[k]? = some g → lessFb g f = true := by
  unfold lk at h
  split at h
  · rename_i g hg
    exact ⟨(List.getElem?_eq_some_iff.1 hg).1, fun g' hg' => by rw [hg] at hg'; injection hg' with e; rw [← e]; exact h⟩
  · cases h
theorem bsB_some {fs : List Tr} {f g : Tr} {k : Nat} (ht : tw fs f = k) (h : fs[k]? = some g) : bsB fs f = !(lessFb f g) := by unfold bsB; rw [ht, h]
theorem bsB_none {fs : List Tr} {f : Tr} {k : Nat} (ht : tw fs f = k) (h : ¬ k < fs.length) : bsB fs f = false := by unfold bsB; rw [ht, List.getElem?_eq_none (by omega)]

theorem Blk.c0 {w : World} {g : Nat} {T : TypeId} {u : Value} (h : Blk w g T #[u]) : w.cell? ⟨g, 0, none⟩ = some u := h.facts.1 0
set_option maxHeartbeats 100000000 in
theorem recfS (v : Value) (fs : List Tr) (x y z : Int) (w : World) (hv : RT w v fs) (hn : fs.length ≤ 1048576) :
    Calls Try.prog 13 #[.agg #[v], .agg #[.int .i64 x, .int .i64 y, .int .i64 z]] w fun e w' => ∃ r, e = .returned (.agg #[r]) ∧ OT 43 w' w.heap.size r (recZ fs (x, y, z)) ∧ Bel w w' := by
  obtain ⟨A, c, rfl, h1, h2, _⟩ := id hv
  have X0 := ((Blk.new w 40 #[.slice A fs.length c]).alloc (.cells #[.int .i64 x, .int .i64 y, .int .i64 z] 43)).alloc (.cells #[.slice none 0 0] 40)
  have F0 := (Blk.new2 w (.cells #[.slice A fs.length c] 40) 43 #[.int .i64 x, .int .i64 y, .int .i64 z]).alloc (.cells #[.slice none 0 0] 40)
  have R0 := Blk.new3 w (.cells #[.slice A fs.length c] 40) (.cells #[.int .i64 x, .int .i64 y, .int .i64 z] 43) 40 #[.slice none 0 0]
  have Y0 : Bel w (((w.alloc (.cells #[.slice A fs.length c] 40)).alloc (.cells #[.int .i64 x, .int .i64 y, .int .i64 z] 43)).alloc (.cells #[.slice none 0 0] 40)) := (((Bel.refl _).alloc _).alloc _).alloc _
  have hr1 := hv.keep Y0
  go_enter Try.func13, Try.ntmps13
  go_wp2_with fail
  refine (copyTS _ fs _ hr1 hn).mono ?_
  rintro e w1 ⟨r1, rfl, O1, b1⟩
  have X1 := b1.keep X0
  have F1 := b1.keep F0
  have R1 := b1.keep R0
  have Y1 := Y0.trans b1
  have hz1 := b1.size
  simp only [World.size_alloc] at O1 hz1
  clear X0 F0 R0 Y0 b1 hr1
  obtain ⟨A1, c1, e1, k1, k2, _⟩ := id O1.reads
  subst e1
  have X2 := X1.alloc (.cells #[.slice A1 fs.length c1] 40)
  have F2 := F1.alloc (.cells #[.slice A1 fs.length c1] 40)
  have R2 := R1.alloc (.cells #[.slice A1 fs.length c1] 40)
  have Y2 := Y1.alloc (.cells #[.slice A1 fs.length c1] 40)
  have O2 := O1.keep ((Bel.refl w1).alloc (.cells #[.slice A1 fs.length c1] 40))
  have K2 := Blk.new w1 40 #[.slice A1 fs.length c1]
  clear X1 F1 R1 Y1 O1
  obtain ⟨cx, _, zx⟩ := X2.facts
  obtain ⟨cf, _, zf⟩ := F2.facts
  have x0 := cx 0
  have f0 := cf 0
  have f1 := cf 1
  have f2 := cf 2
  clear cx cf
  simp at x0 f0 f1 f2
  go_wp2_with fail
  generalize w1.alloc (.cells #[.slice A1 fs.length c1] 40) = w2 at *
  refine (tabS _ fs _ (hv.keep Y2)).mono ?_
  rintro e w3 ⟨rfl, b3⟩
  have F3 := b3.keep F2
  have R3 := b3.keep R2
  have K3 := b3.keep K2
  have O3 := O2.keep b3
  have Y3 := Y2.trans b3
  have hk3 := K3.lt
  clear X2 F2 R2 K2 O2 Y2 b3 x0 f0 f1 f2 zx zf
  have hne3 := O3.ne K3 (by decide)
  cases hT : tabB fs
  · have HZ : Hid (recZ fs (x, y, z) = fs) := Lib.hid (by unfold recZ; rw [hT]; rfl)
    clear hT
    obtain ⟨ck, _, zk⟩ := K3.facts
    obtain ⟨cr, fr, zr⟩ := R3.facts
    go_wp2
    have R5 := R3.set 0 (.slice A1 fs.length c1)
    have r5 := R5.facts.1
    clear ck cr fr
    refine bodyPost_ret (v := .agg #[.slice A1 fs.length c1]) (by simp [results, Try.results13, go_sem, r5]) rfl ⟨_, rfl, ?_, ?_⟩
    · rw [HZ.out]
      exact (O3.setFar (p := ⟨w.heap.size + 2, 0, none⟩) (by dsimp only; omega) _).low (by omega)
    · exact Y3.setCell (p := ⟨w.heap.size + 2, 0, none⟩) (by dsimp only; omega) _
  have HS := Lib.hid (tab_srt hT)
  obtain ⟨cf, _, zf⟩ := F3.facts
  have f0 := cf 0
  have f1 := cf 1
  have f2 := cf 2
  simp at f0 f1 f2
  clear cf
  have HT := Lib.hid hT
  clear hT
  go_wp2_with fail
  refine (fbS_lit x y z _ _ rfl).mono ?_
  rintro e w4 ⟨rfl, b4⟩
  have F4 := b4.keep F3
  have R4 := b4.keep R3
  have K4 := b4.keep K3
  have O4 := O3.keep b4
  have Y4 := Y3.trans b4
  clear F3 R3 K3 O3 Y3 b4 f0 f1 f2 zf hk3
  cases hV : fbB x y z
  · have HZ : Hid (recZ fs (x, y, z) = fs) := Lib.hid (by unfold recZ; rw [HT.out]; simp only [hV]; rfl)
    clear hV
    obtain ⟨ck, _, zk⟩ := K4.facts
    obtain ⟨cr, fr, zr⟩ := R4.facts
    go_wp2
    have R5 := R4.set 0 (.slice A1 fs.length c1)
    have r5 := R5.facts.1
    clear ck cr fr
    refine bodyPost_ret (v := .agg #[.slice A1 fs.length c1]) (by simp [results, Try.results13, go_sem, r5]) rfl ⟨_, rfl, ?_, ?_⟩
    · rw [HZ.out]
      exact (O4.setFar (p := ⟨w.heap.size + 2, 0, none⟩) (by dsimp only; omega) _).low (by omega)
    · exact Y4.setCell (p := ⟨w.heap.size + 2, 0, none⟩) (by dsimp only; omega) _
  have HZ : Hid (recZ fs (x, y, z) = recL fs (x, y, z)) := Lib.hid (by unfold recZ; rw [HT.out]; simp only [hV]; rfl)
  clear hV HT
  go_wp2
  go_loopg [6] fs.length (fun f kv wr => ∃ k : Nat, k + f = fs.length ∧ kv = .int .i64 k ∧ Blk wr (w.heap.size + 1) 43 #[.int .i64 x, .int .i64 y, .int .i64 z] ∧ Blk wr (w.heap.size + 2) 40 #[.slice none 0 0] ∧ Blk wr w1.heap.size 40 #[.slice A1 fs.length c1] ∧ OT 43 wr (w.heap.size + 1 + 1 + 1) (.slice A1 fs.length c1) fs ∧ Bel w wr ∧ Hid (∀ (j : Nat) (g : Tr), j < k → fs[j]? = some g → lessFb g (x, y, z) = true))
  case atStart => exact ⟨0, by omega, rfl, F4, R4, K4, O4, Y4, Lib.hid (fun j g hj => absurd hj (by omega))⟩
  case round =>
    clear F4 R4 K4 O4 Y4
    obtain ⟨k, hk, rfl, F, R, K, O, Y, HL⟩ := hrel
    have hk2 : k ≤ fs.length := by omega
    have HK := Lib.hid hk
    clear hk
    obtain ⟨cf, _, zf⟩ := F.facts
    obtain ⟨ck, _, zk⟩ := K.facts
    have f0 : wr.cell? ⟨w.heap.size + 1, 0, none⟩ = some (.int .i64 x) := cf 0
    have f1 : wr.cell? ⟨w.heap.size + 1, 1, none⟩ = some (.int .i64 y) := cf 1
    have f2 : wr.cell? ⟨w.heap.size + 1, 2, none⟩ = some (.int .i64 z) := cf 2
    have r0 : wr.cell? ⟨w1.heap.size, 0, none⟩ = some (.slice A1 fs.length c1) := ck 0
    clear cf ck
    go_upto_region 5 with fail
    go_cut [31] from 18 to 33 (fun s31 wx => s31 = .bool (lk fs (x, y, z) k) ∧ Bel wr wx)
    case first =>
      by_cases hlt : k < fs.length
      · obtain ⟨A0, c0, e0, _, _, hA⟩ := O.reads
        injection e0 with e1 _ e2
        subst e1 e2
        obtain ⟨b1, o1, rfl, z1, hc1⟩ := hA (by omega)
        have hx : Hid (fs[k]? = some (fs[k]'hlt)) := List.getElem?_eq_getElem hlt
        obtain ⟨g1, g2, g3⟩ := hc1 k _ hx.out
        have HLK := Lib.hid (lk_some (f := (x, y, z)) hx.out)
        generalize fs[k]'hlt = g at *
        obtain ⟨a, b, t⟩ := g
        dsimp only at *
        clear hc1 hA
        have i0 : (0 : Int) ≤ (k : Int) := by omega
        have i1 : (k : Int) < (fs.length : Int) := by omega
        cases hq : lessFb (a, b, t) (x, y, z)
        all_goals (
          have HQ := Lib.hid hq
          clear hq
          have qq0 := Bw.cell r0 zk
          have qq1 := Bw.cell f0 zf
          have qq2 := Bw.cell f1 zf
          have qq3 := Bw.cell f2 zf
          have qq4 := Bw.cell g1 z1
          have qq5 := Bw.cell g2 z1
          have qq6 := Bw.cell g3 z1
          refine wp_region_bel (by kernel_rfl) (by kernel_rfl) ?_
          repeat (first | go_big_quiet_step (first | (go_at_call 48; exact belQ (lessFbS a b t x y z _ _ HQ.out))) | quiet_step (first | (go_at_call 48; exact belQ (lessFbS a b t x y z _ _ HQ.out))))
          refine wpQuiet_nil ?_
          rintro w5 ⟨⟨w5', hb5⟩, e5⟩
          have e6 : w5 = w5' := e5
          subst e6
          go_wp2_with fail
          go_meet
          exact ⟨by rw [HLK.out, HQ.out], hb5⟩)
      · have i1 : ¬ (k : Int) < (fs.length : Int) := by omega
        have HLK := Lib.hid (lk_none (f := (x, y, z)) hlt)
        have qq0 := Bw.cell r0 zk
        refine wp_region_bel (by kernel_rfl) (by kernel_rfl) ?_
        repeat (first | go_big_quiet_step (fail) | quiet_step (fail))
        refine wpQuiet_nil ?_
        rintro w5 ⟨⟨w5', hb5⟩, e5⟩
        have e6 : w5 = w5' := e5
        subst e6
        go_wp2_with fail
        go_meet
        exact ⟨by rw [HLK.out], hb5⟩
    case rest =>
      obtain ⟨rfl, hbx⟩ := hcut
      have F5 := hbx.keep F
      have R5 := hbx.keep R
      have K5 := hbx.keep K
      have O5 := O.keep hbx
      have Y5 := Y.trans hbx
      clear F R K O Y r0 f0 f1 f2 zf zk hbx
      cases hq : lk fs (x, y, z) k
      rotate_left 1
      · obtain ⟨hlt, hl⟩ := lk_true hq
        have HL2 : Hid (∀ (j : Nat) (g : Tr), j < k + 1 → fs[j]? = some g → lessFb g (x, y, z) = true) := fun j g hj hg => by
          rcases Nat.lt_or_ge j k with h | h
          · exact HL.out j g h hg
          · have : j = k := by omega
            subst this
            exact hl g hg
        clear hq hl HL
        go_wp2
        go_roundg (fs.length - (k + 1))
        case measure => have := HK.out; omega
        case rel => exact ⟨k + 1, by omega, by go_num, F5, R5, K5, O5, Y5, HL2⟩
      have HT := Lib.hid (tw_eq fs (x, y, z) k hk2 HL.out (lk_false hq))
      have HLF := Lib.hid (lk_false hq)
      clear hq HL HK
      obtain ⟨w5, hw5⟩ : ∃ w5, w5 = wc := ⟨_, rfl⟩
      subst hw5
      have rr0 : w5.cell? ⟨w1.heap.size, 0, none⟩ = some (.slice A1 fs.length c1) := K5.facts.1 0
      have zk5 := K5.lt
      have f0 : w5.cell? ⟨w.heap.size + 1, 0, none⟩ = some (.int .i64 x) := F5.facts.1 0
      have f1 : w5.cell? ⟨w.heap.size + 1, 1, none⟩ = some (.int .i64 y) := F5.facts.1 1
      have f2 : w5.cell? ⟨w.heap.size + 1, 2, none⟩ = some (.int .i64 z) := F5.facts.1 2
      have zf5 := F5.lt
      go_upto_region 7 with fail
      go_cut [48] from 34 to 48 (fun s48 wx => s48 = .bool (bsB fs (x, y, z)) ∧ Bel w5 wx)
      case first =>
        by_cases hlt : k < fs.length
        · obtain ⟨A0, c0, e0, _, _, hA⟩ := O5.reads
          injection e0 with e1 _ e2
          subst e1 e2
          obtain ⟨b1, o1, rfl, z1, hc1⟩ := hA (by omega)
          have hx : Hid (fs[k]? = some (fs[k]'hlt)) := List.getElem?_eq_getElem hlt
          obtain ⟨g1, g2, g3⟩ := hc1 k _ hx.out
          have HLK := Lib.hid (bsB_some HT.out hx.out)
          generalize fs[k]'hlt = g at *
          obtain ⟨a, b, t⟩ := g
          dsimp only at *
          clear hc1 hA
          have i0 : (0 : Int) ≤ (k : Int) := by omega
          have i1 : (k : Int) < (fs.length : Int) := by omega
          cases hq : lessFb (x, y, z) (a, b, t)
          all_goals (
            have HQ := Lib.hid hq
            clear hq
            have qq0 := Bw.cell rr0 zk5
            have qq1 := Bw.cell f0 zf5
            have qq2 := Bw.cell f1 zf5
            have qq3 := Bw.cell f2 zf5
            have qq4 := Bw.cell g1 z1
            have qq5 := Bw.cell g2 z1
            have qq6 := Bw.cell g3 z1
            refine wp_region_bel (by kernel_rfl) (by kernel_rfl) ?_
            repeat (first | go_big_quiet_step (first | (go_at_call 48; exact belQ (lessFbS x y z a b t _ _ HQ.out))) | quiet_step (first | (go_at_call 48; exact belQ (lessFbS x y z a b t _ _ HQ.out))))
            refine wpQuiet_nil ?_
            rintro w6 ⟨⟨w6', hb6⟩, e5⟩
            have e6 : w6 = w6' := e5
            subst e6
            go_wp2_with fail
            go_meet
            exact ⟨by rw [HLK.out, HQ.out]; rfl, hb6⟩)
        · have i1 : ¬ (k : Int) < (fs.length : Int) := by omega
          have HLK := Lib.hid (bsB_none HT.out hlt)
          have qq0 := Bw.cell rr0 zk5
          refine wp_region_bel (by kernel_rfl) (by kernel_rfl) ?_
          repeat (first | go_big_quiet_step (fail) | quiet_step (fail))
          refine wpQuiet_nil ?_
          rintro w6 ⟨⟨w6', hb6⟩, e5⟩
          have e6 : w6 = w6' := e5
          subst e6
          go_wp2_with fail
          go_meet
          exact ⟨by rw [HLK.out], hb6⟩
      case rest =>
        obtain ⟨rfl, hbx⟩ := hcut
        obtain ⟨w6, hw6⟩ : ∃ w6, w6 = wc := ⟨_, rfl⟩
        subst hw6
        have F6 := hbx.keep F5
        have R6 := hbx.keep R5
        have K6 := hbx.keep K5
        have O6 := O5.keep hbx
        have Y6 := Y5.trans hbx
        clear F5 R5 K5 O5 Y5 rr0 f0 f1 f2 zf5 zk5 hbx
        cases hq : bsB fs (x, y, z)
        · have HR := Lib.hid (recL_ins hq)
          rw [HT.out] at HR
          clear hq
          go_upto_region 11 with fail
          go_cut [] from 64 to 78 (fun wx => ∃ r, Blk wx w1.heap.size 40 #[r] ∧ OT 43 wx (w.heap.size + 1 + 1 + 1) r (insF fs k (x, y, z)) ∧ Blk wx (w.heap.size + 2) 40 #[.slice none 0 0] ∧ Bel w wx)
          case first =>
            clear HT HLF HS HR HZ
            have hL6 : w.heap.size + 1 + 1 + 1 ≤ w6.heap.size := by have := K6.lt; omega
            have HOB := Lib.hid (fun q e => (show w.heap.size + 1 + 1 + 1 ≤ q ∧ q < w6.heap.size ∧ q ≠ w1.heap.size from ⟨(O6.block q e).1, (O6.block q e).2, O6.ne K6 (by decide) q e⟩))
            have zt : w1.heap.size < w6.heap.size := K6.lt
            have zg : w.heap.size + 1 < w6.heap.size := F6.lt
            have t6 : w6.cell? ⟨w1.heap.size, 0, none⟩ = some (.slice A1 fs.length c1) := K6.facts.1 0
            have g06 : w6.cell? ⟨w.heap.size + 1, 0, none⟩ = some (.int .i64 x) := F6.facts.1 0
            have g16 : w6.cell? ⟨w.heap.size + 1, 1, none⟩ = some (.int .i64 y) := F6.facts.1 1
            have g26 : w6.cell? ⟨w.heap.size + 1, 2, none⟩ = some (.int .i64 z) := F6.facts.1 2
            have BE : Bel w6 (w6.alloc (.cells #[] 43)) := (Bel.refl _).alloc _
            have BF : Bel w6 (w6.alloc (.cells #[.int .i64 x, .int .i64 y, .int .i64 z] 43)) := (Bel.refl _).alloc _
            have BEF : Bel w6 ((w6.alloc (.cells #[] 43)).alloc (.cells #[.int .i64 x, .int .i64 y, .int .i64 z] 43)) := BE.alloc _
            have BFE : Bel w6 ((w6.alloc (.cells #[.int .i64 x, .int .i64 y, .int .i64 z] 43)).alloc (.cells #[] 43)) := BF.alloc _
            have et := (BE).cell1 zt t6
            have ft := (BF).cell1 zt t6
            have eft := (BEF).cell1 zt t6
            have fet := (BFE).cell1 zt t6
            have BF' := BF
            have j0 : (0 : Int) ≤ (k : Int) := by omega
            have j1 : (k : Int) ≤ (fs.length : Int) := by omega
            have j2 : (k : Int) ≤ (c1 : Int) := by omega
            have RV1 : ∀ W, OT 43 W (w.heap.size + 1 + 1 + 1) (.slice A1 fs.length c1) fs → RT W (.slice A1 k c1) (fs.take k) := fun W h => h.reads.take hk2
            have OE := O6.keep BE
            have OEF := O6.keep BEF
            have OFE := O6.keep BFE
            have NE := OT.empty 43 w6
            have NEF := NE.keep ((Bel.refl (w6.alloc (.cells #[] 43))).alloc (.cells #[.int .i64 x, .int .i64 y, .int .i64 z] 43))
            have NFE := (OT.empty 43 (w6.alloc (.cells #[.int .i64 x, .int .i64 y, .int .i64 z] 43))).low (base' := w6.heap.size) (by rw [World.size_alloc]; omega)
            rw [World.size_alloc] at NFE
            have KFEF : Blk ((w6.alloc (.cells #[] 43)).alloc (.cells #[.int .i64 x, .int .i64 y, .int .i64 z] 43)).drew (w6.heap.size + 1) 43 #[.int .i64 x, .int .i64 y, .int .i64 z] := (by have q := Blk.new (w6.alloc (.cells #[] 43)) 43 #[.int .i64 x, .int .i64 y, .int .i64 z]; rw [World.size_alloc] at q; exact q.drew)
            have KFFE : Blk ((w6.alloc (.cells #[.int .i64 x, .int .i64 y, .int .i64 z] 43)).alloc (.cells #[] 43)).drew w6.heap.size 43 #[.int .i64 x, .int .i64 y, .int .i64 z] := ((Blk.new w6 43 #[.int .i64 x, .int .i64 y, .int .i64 z]).alloc _).drew
            have DE := BE.drew
            have DEF := BEF.drew
            have DFE := BFE.drew
            have ODE := OE.keep (Bel.refl (w6.alloc (.cells #[] 43))).drew
            have ODEF := OEF.keep (Bel.refl ((w6.alloc (.cells #[] 43)).alloc (.cells #[.int .i64 x, .int .i64 y, .int .i64 z] 43))).drew
            have ODFE := OFE.keep (Bel.refl ((w6.alloc (.cells #[.int .i64 x, .int .i64 y, .int .i64 z] 43)).alloc (.cells #[] 43))).drew
            have NDE := NE.keep (Bel.refl (w6.alloc (.cells #[] 43))).drew
            have NDEF := NEF.keep (Bel.refl ((w6.alloc (.cells #[] 43)).alloc (.cells #[.int .i64 x, .int .i64 y, .int .i64 z] 43))).drew
            have NDFE := NFE.keep (Bel.refl ((w6.alloc (.cells #[.int .i64 x, .int .i64 y, .int .i64 z] 43)).alloc (.cells #[] 43))).drew
            clear OE OEF OFE NE NEF NFE BE BF BEF BFE
            have hbk : (fs.take k).length ≤ 1048576 := by rw [List.length_take]; omega
            have hbd : (fs.drop k).length ≤ 1048576 := by rw [List.length_drop]; omega
            have HSW : ∀ W, Bel w6 W → W.cell? ⟨w.heap.size + 1, 0, none⟩ = some (.int .i64 x) ∧ W.cell? ⟨w.heap.size + 1, 1, none⟩ = some (.int .i64 y) ∧ W.cell? ⟨w.heap.size + 1, 2, none⟩ = some (.int .i64 z) ∧ W.cell? ⟨w1.heap.size, 0, none⟩ = some (.slice A1 fs.length c1) := fun W b => ⟨b.cell1 zg g06, b.cell1 zg g16, b.cell1 zg g26, b.cell1 zt t6⟩
            have DF := BF'.drew
            clear BF'
            have HI : Hid (insF fs k (x, y, z) = fs.take k ++ [(x, y, z)] ++ fs.drop k) := Lib.hid (by unfold insF; simp)
            have HLN : Hid ((fs.take k ++ [(x, y, z)] ++ fs.drop k).length = fs.length + 1) := Lib.hid (by simp only [List.length_append, List.length_take, List.length_drop, List.length_cons, List.length_nil]; omega)
            rcases Nat.lt_or_ge k c1 with hkc | hkc
            · have j3 : ¬ c1 = k := by omega
              obtain ⟨g, rfl⟩ : ∃ g, A1 = some ⟨g, 0, none⟩ := by
                obtain ⟨hl, ⟨e, h9⟩ | ⟨g, cap, cur, e, _⟩⟩ := id O6
                · injection e with e1 e2 e3
                  omega
                · injection e with e1 e2 e3
                  exact ⟨g, e1⟩
              have RV2 : ∀ W, OT 43 W (w.heap.size + 1 + 1 + 1) (.slice (some ⟨g, 0, none⟩) fs.length c1) fs → RT W (.slice (some ⟨g, k * 3, none⟩) (fs.length - k) (c1 - k)) (fs.drop k) := fun W h => by
                rcases Nat.lt_or_ge k fs.length with q | q
                · have := h.reads.drop q
                  rwa [Nat.zero_add] at this
                · rw [List.drop_of_length_le q, show fs.length - k = 0 by omega]
                  exact RT.void W _ _ (by omega)
              refine wp_region_noPanic ?_
              refine wp_region_last 15 (fun w' => w'.cell? ⟨w.heap.size + 1, 0, none⟩ = some (.int .i64 x) ∧ w'.cell? ⟨w.heap.size + 1, 1, none⟩ = some (.int .i64 y) ∧ w'.cell? ⟨w.heap.size + 1, 2, none⟩ = some (.int .i64 z) ∧ w'.cell? ⟨w1.heap.size, 0, none⟩ = some (.slice (some ⟨g, 0, none⟩) fs.length c1)) (by kernel_rfl) (by kernel_rfl) (HSW _ (Bel.refl _).drew) (fun hHeld => ?_)
              refine' wpAnyH_take (i := 1) (oi := _) (v := _) ?hi1 (by kernel_rfl) (by kernel_rfl) (by kernel_rfl) (fun _ _ _ h => h) (Or.inl ⟨?hw1, ?hy1⟩) (by assumption) ?rest1
              case hi1 => simp only [List.getElem?_toArray, List.getElem?_cons_succ, List.getElem?_cons_zero]; rfl
              case hw1 => rfl
              case hy1 =>
                intro W hSW
                try dsimp only at hSW
                go_simp
                try with_reducible rfl
              simp only [Act.put, List.setIfInBounds_toArray, List.set_cons_zero, List.set_cons_succ]
              refine' wpAnyH_take (i := 3) (oi := _) (v := _) ?hi2 (by kernel_rfl) (by kernel_rfl) (by kernel_rfl) (fun _ _ _ h => h) (Or.inl ⟨?hw2, ?hy2⟩) (by assumption) ?rest2
              case hi2 => simp only [List.getElem?_toArray, List.getElem?_cons_succ, List.getElem?_cons_zero]; rfl
              case hw2 => rfl
              case hy2 =>
                intro W hSW
                try dsimp only at hSW
                go_simp
                try with_reducible rfl
              simp only [Act.put, List.setIfInBounds_toArray, List.set_cons_zero, List.set_cons_succ]
              refine' wpAnyH_take (i := 6) (oi := _) (v := _) ?hi3 (by kernel_rfl) (by kernel_rfl) (by kernel_rfl) (fun _ _ _ h => h) (Or.inl ⟨?hw3, ?hy3⟩) (by assumption) ?rest3
              case hi3 => simp only [List.getElem?_toArray, List.getElem?_cons_succ, List.getElem?_cons_zero]; rfl
              case hw3 => rfl
              case hy3 =>
                intro W hSW
                try dsimp only at hSW
                go_simp
                try with_reducible rfl
              simp only [Act.put, List.setIfInBounds_toArray, List.set_cons_zero, List.set_cons_succ]
              refine' wpAnyH_take (i := 9) (oi := _) (v := _) ?hi4 (by kernel_rfl) (by kernel_rfl) (by kernel_rfl) (fun _ _ _ h => h) (Or.inl ⟨?hw4, ?hy4⟩) (by assumption) ?rest4
              case hi4 => simp only [List.getElem?_toArray, List.getElem?_cons_succ, List.getElem?_cons_zero]; rfl
              case hw4 => rfl
              case hy4 =>
                intro W hSW
                try dsimp only at hSW
                go_simp
                try with_reducible rfl
              simp only [Act.put, List.setIfInBounds_toArray, List.set_cons_zero, List.set_cons_succ]
              refine' wpAnyH_take (i := 11) (oi := _) (v := _) ?hi5 (by kernel_rfl) (by kernel_rfl) (by kernel_rfl) (fun _ _ _ h => h) (Or.inl ⟨?hw5, ?hy5⟩) (by assumption) ?rest5
              case hi5 => simp only [List.getElem?_toArray, List.getElem?_cons_succ, List.getElem?_cons_zero]; rfl
              case hw5 => rfl
              case hy5 =>
                intro W hSW
                try dsimp only at hSW
                go_simp
                try with_reducible rfl
              simp only [Act.put, List.setIfInBounds_toArray, List.set_cons_zero, List.set_cons_succ]
              refine' wpAnyH_take (i := 2) (oi := _) (v := _) ?hi6 (by kernel_rfl) (by kernel_rfl) (by kernel_rfl) (fun _ _ _ h => h) (Or.inl ⟨?hw6, ?hy6⟩) (by assumption) ?rest6
              case hi6 => simp only [List.getElem?_toArray, List.getElem?_cons_succ, List.getElem?_cons_zero]; rfl
              case hw6 => rfl
              case hy6 =>
                intro W hSW
                try dsimp only at hSW
                go_simp
                try with_reducible rfl
              simp only [Act.put, List.setIfInBounds_toArray, List.set_cons_zero, List.set_cons_succ]
              refine' wpAnyH_take (i := 10) (oi := _) (v := _) ?hi7 (by kernel_rfl) (by kernel_rfl) (by kernel_rfl) (fun _ _ _ h => h) (Or.inl ⟨?hw7, ?hy7⟩) (by assumption) ?rest7
              case hi7 => simp only [List.getElem?_toArray, List.getElem?_cons_succ, List.getElem?_cons_zero]; rfl
              case hw7 => rfl
              case hy7 =>
                intro W hSW
                try dsimp only at hSW
                go_simp
                try with_reducible rfl
              simp only [Act.put, List.setIfInBounds_toArray, List.set_cons_zero, List.set_cons_succ]
              refine' wpAnyH_take (i := 4) (oi := _) (v := _) ?hi8 (by kernel_rfl) (by kernel_rfl) (by kernel_rfl) (fun _ _ _ h => h) (Or.inl ⟨?hw8, ?hy8⟩) (by assumption) ?rest8
              case hi8 => simp only [List.getElem?_toArray, List.getElem?_cons_succ, List.getElem?_cons_zero]; rfl
              case hw8 => rfl
              case hy8 =>
                intro W hSW
                try dsimp only at hSW
                go_simp
                try with_reducible rfl
              simp only [Act.put, List.setIfInBounds_toArray, List.set_cons_zero, List.set_cons_succ]
              refine' wpAnyH_take (i := 12) (oi := _) (v := _) ?hi9 (by kernel_rfl) (by kernel_rfl) (by kernel_rfl) (fun _ _ _ h => h) (Or.inl ⟨?hw9, ?hy9⟩) (by assumption) ?rest9
              case hi9 => simp only [List.getElem?_toArray, List.getElem?_cons_succ, List.getElem?_cons_zero]; rfl
              case hw9 => rfl
              case hy9 =>
                intro W hSW
                try dsimp only at hSW
                go_simp
                try with_reducible rfl
              simp only [Act.put, List.setIfInBounds_toArray, List.set_cons_zero, List.set_cons_succ]
              refine wpAnyH_ready (rs := [0, 7]) (by kernel_rfl) (by simp) ?_
              refine' AllReadyH.cons (o := _) ?ho10 (fun K hK => ?step10) ?more10
              case ho10 => simp only [List.getElem?_toArray, List.getElem?_cons_succ, List.getElem?_cons_zero]; rfl
              case step10 =>
                go_simp
                refine hK.out _ _ ?hS10 (fun hHeld => ?_)
                case hS10 => exact HSW _ DE
                clear hK K
                try simp only [Act.put, List.setIfInBounds_toArray, List.set_cons_zero, List.set_cons_succ]
                refine wpAnyH_ready (rs := [5, 7]) (by kernel_rfl) (by simp) ?_
                refine' AllReadyH.cons (o := _) ?ho11 (fun K hK => ?step11) ?more11
                case ho11 => simp only [List.getElem?_toArray, List.getElem?_cons_succ, List.getElem?_cons_zero]; rfl
                case step11 =>
                  (refine step_appFb _ (by rfl) _ _ (by rfl) w6.heap.size _ _ [] (fs.take k) (by rfl) (by rfl) (by exact NDE) (by exact RV1 _ ODE) (by simp only [List.length_nil]; omega) (by exact DE.size) ?_; intro va wa Oa hGa; have Ya : Bel w6 wa := DE.grown hGa (fun q hq => (NDE.block q hq).1); have mkE := Ya; have aqt := Ya.cell1 zt t6; have Yaf := Ya.alloc (.cells #[.int .i64 x, .int .i64 y, .int .i64 z] 43); have Oaf := Oa.keep ((Bel.refl wa).alloc (.cells #[.int .i64 x, .int .i64 y, .int .i64 z] 43)); have Kfa := Blk.new wa 43 #[.int .i64 x, .int .i64 y, .int .i64 z]; have aft := Yaf.cell1 zt t6; clear et ft eft fet ODE ODEF ODFE NDE NDEF NDFE DE DEF DFE KFEF KFFE RV1 t6 hGa)
                  refine hK.out _ _ ?hS11 (fun hHeld => ?_)
                  case hS11 => exact HSW _ Ya
                  clear hK K
                  try simp only [Act.put, List.setIfInBounds_toArray, List.set_cons_zero, List.set_cons_succ]
                  refine wpAnyH_ready (rs := [7]) (by kernel_rfl) (by simp) ?_
                  refine' AllReadyH.cons (o := _) ?ho12 (fun K hK => ?step12) ?more12
                  case ho12 => simp only [List.getElem?_toArray, List.getElem?_cons_succ, List.getElem?_cons_zero]; rfl
                  case step12 =>
                    go_simp
                    refine hK.out _ _ ?hS12 (fun hHeld => ?_)
                    case hS12 => exact HSW _ Yaf
                    clear hK K
                    try simp only [Act.put, List.setIfInBounds_toArray, List.set_cons_zero, List.set_cons_succ]
                    refine wpAnyH_ready (rs := [8]) (by kernel_rfl) (by simp) ?_
                    refine' AllReadyH.cons (o := _) ?ho13 (fun K hK => ?step13) ?more13
                    case ho13 => simp only [List.getElem?_toArray, List.getElem?_cons_succ, List.getElem?_cons_zero]; rfl
                    case step13 =>
                      (have _ := mkE; refine step_appFb _ (by rfl) _ _ (by rfl) w6.heap.size _ _ (fs.take k) [(x, y, z)] (by rfl) (by rfl) (by first | exact Oaf | exact Oaf.keep (Bel.refl _).drew) (by exact RT.blk (Kfa)) (by simp only [List.length_cons, List.length_nil]; omega) (by exact Yaf.size) ?_; intro vb wb Ob hGb; have Yb : Bel w6 wb := Yaf.grown hGb (fun q hq => (Oaf.block q hq).1); have Oob := O6.keep Yb; have hsb := Yb.size; have bt := Yb.cell1 zt K6.c0; clear aqt aft mkE)
                      refine hK.out _ _ ?hS13 (fun hHeld => ?_)
                      case hS13 => exact HSW _ Yb
                      clear hK K
                      try simp only [Act.put, List.setIfInBounds_toArray, List.set_cons_zero, List.set_cons_succ]
                      refine wpAnyH_ready (rs := [13]) (by kernel_rfl) (by simp) ?_
                      refine' AllReadyH.cons (o := _) ?ho14 (fun K hK => ?step14) ?more14
                      case ho14 => simp only [List.getElem?_toArray, List.getElem?_cons_succ, List.getElem?_cons_zero]; rfl
                      case step14 =>
                        (have _ := Ob; refine step_appFb _ (by rfl) _ _ (by rfl) w6.heap.size _ _ (fs.take k ++ [(x, y, z)]) (fs.drop k) (by rfl) (by rfl) (by exact Ob) (by exact RV2 _ Oob) (by have q1 := hbk; have q2 := hbd; have q3 : (fs.take k ++ [(x, y, z)]).length = (fs.take k).length + 1 := (by simp only [List.length_append, List.length_cons, List.length_nil]); rw [q3]; exact Nat.le_trans (Nat.add_le_add (Nat.add_le_add_right q1 1) q2) (by decide)) (by exact hsb) ?_; intro vc wc Oc hGc; have Yc : Bel w6 wc := Yb.grown hGc (fun q hq => (Ob.block q hq).1); have ct := Yc.cell1 zt K6.c0; clear bt; have cz : wc.frozen? ⟨w1.heap.size, 0, none⟩ = false := (Yc.keep K6).facts.2.1 0; obtain ⟨Ac, cc, ec, _, _, _⟩ := Oc.reads; rw [HLN.out] at ec; subst ec)
                        refine hK.out _ _ ?hS14 (fun hHeld => ?_)
                        case hS14 => exact HSW _ Yc
                        clear hK K
                        try simp only [Act.put, List.setIfInBounds_toArray, List.set_cons_zero, List.set_cons_succ]
                        refine' wpAnyH_take (i := 14) (oi := _) (v := _) ?hi15 (by kernel_rfl) (by kernel_rfl) (by kernel_rfl) (fun _ _ _ h => h) (Or.inl ⟨?hw15, ?hy15⟩) (by assumption) ?rest15
                        case hi15 => simp only [List.getElem?_toArray, List.getElem?_cons_succ, List.getElem?_cons_zero]; rfl
                        case hw15 => rfl
                        case hy15 =>
                          intro W hSW
                          try dsimp only at hSW
                          go_simp
                          try with_reducible rfl
                        simp only [Act.put, List.setIfInBounds_toArray, List.set_cons_zero, List.set_cons_succ]
                        refine wpAnyH_done (by kernel_rfl) ?_ _
                        simp only [headPost, List.drop_succ_cons, List.drop_zero]
                        have hkr : Blk wc (w.heap.size + 2) 40 #[.slice none 0 0] := Yc.keep R6
                        have K9 := (Yc.keep K6).set 0 (.slice Ac (fs.length + 1) cc)
                        have O9 := (Oc.setNe (p := ⟨w1.heap.size, 0, none⟩) (Oc.ne (Yc.keep K6) (by decide)) (.slice Ac (fs.length + 1) cc)).low (base' := w.heap.size + 1 + 1 + 1) (by omega)
                        have R9 := hkr.far (p := ⟨w1.heap.size, 0, none⟩) (by dsimp only; omega) (.slice Ac (fs.length + 1) cc)
                        have Y9 := (Y6.trans Yc).setCell (p := ⟨w1.heap.size, 0, none⟩) (by dsimp only; omega) (.slice Ac (fs.length + 1) cc)
                        go_wp2_with fail
                        refine NoPanic.normal ?_
                        try go_wp2_with fail
                        go_meet
                        exact ⟨_, K9, by rw [HI.out]; exact O9, R9, Y9⟩
                      exact AllReadyH.nil
                    exact AllReadyH.nil
                  exact AllReadyH.nil
                refine' AllReadyH.cons (o := _) ?ho16 (fun K hK => ?step16) ?more16
                case ho16 => simp only [List.getElem?_toArray, List.getElem?_cons_succ, List.getElem?_cons_zero]; rfl
                case step16 =>
                  go_simp
                  refine hK.out _ _ ?hS16 (fun hHeld => ?_)
                  case hS16 => exact HSW _ DEF
                  clear hK K
                  try simp only [Act.put, List.setIfInBounds_toArray, List.set_cons_zero, List.set_cons_succ]
                  refine wpAnyH_ready (rs := [5]) (by kernel_rfl) (by simp) ?_
                  refine' AllReadyH.cons (o := _) ?ho17 (fun K hK => ?step17) ?more17
                  case ho17 => simp only [List.getElem?_toArray, List.getElem?_cons_succ, List.getElem?_cons_zero]; rfl
                  case step17 =>
                    (refine step_appFb _ (by rfl) _ _ (by rfl) w6.heap.size _ _ [] (fs.take k) (by rfl) (by rfl) (by exact NDEF) (by exact RV1 _ ODEF) (by simp only [List.length_nil]; omega) (by exact DEF.size) ?_; intro va wa Oa hGa; have Ya : Bel w6 wa := DEF.grown hGa (fun q hq => (NDEF.block q hq).1); have mkEF := Ya; have aqt := Ya.cell1 zt t6; have Kfa := KFEF.grown (row := some w6.heap.size) hGa (fun e => by injection e with e; omega); clear et ft eft fet ODE ODEF ODFE NDE NDEF NDFE DE DEF DFE KFEF KFFE RV1 t6 hGa)
                    refine hK.out _ _ ?hS17 (fun hHeld => ?_)
                    case hS17 => exact HSW _ Ya
                    clear hK K
                    try simp only [Act.put, List.setIfInBounds_toArray, List.set_cons_zero, List.set_cons_succ]
                    refine wpAnyH_ready (rs := [8]) (by kernel_rfl) (by simp) ?_
                    refine' AllReadyH.cons (o := _) ?ho18 (fun K hK => ?step18) ?more18
                    case ho18 => simp only [List.getElem?_toArray, List.getElem?_cons_succ, List.getElem?_cons_zero]; rfl
                    case step18 =>
                      (have _ := mkEF; refine step_appFb _ (by rfl) _ _ (by rfl) w6.heap.size _ _ (fs.take k) [(x, y, z)] (by rfl) (by rfl) (by exact Oa) (by exact RT.blk Kfa) (by simp only [List.length_cons, List.length_nil]; omega) (by exact Ya.size) ?_; intro vb wb Ob hGb; have Yb : Bel w6 wb := Ya.grown hGb (fun q hq => (Oa.block q hq).1); have Oob := O6.keep Yb; have hsb := Yb.size; have bt := Yb.cell1 zt K6.c0; clear aqt mkEF)
                      refine hK.out _ _ ?hS18 (fun hHeld => ?_)
                      case hS18 => exact HSW _ Yb
                      clear hK K
                      try simp only [Act.put, List.setIfInBounds_toArray, List.set_cons_zero, List.set_cons_succ]
                      refine wpAnyH_ready (rs := [13]) (by kernel_rfl) (by simp) ?_
                      refine' AllReadyH.cons (o := _) ?ho19 (fun K hK => ?step19) ?more19
                      case ho19 => simp only [List.getElem?_toArray, List.getElem?_cons_succ, List.getElem?_cons_zero]; rfl
                      case step19 =>
                        (have _ := Ob; refine step_appFb _ (by rfl) _ _ (by rfl) w6.heap.size _ _ (fs.take k ++ [(x, y, z)]) (fs.drop k) (by rfl) (by rfl) (by exact Ob) (by exact RV2 _ Oob) (by have q1 := hbk; have q2 := hbd; have q3 : (fs.take k ++ [(x, y, z)]).length = (fs.take k).length + 1 := (by simp only [List.length_append, List.length_cons, List.length_nil]); rw [q3]; exact Nat.le_trans (Nat.add_le_add (Nat.add_le_add_right q1 1) q2) (by decide)) (by exact hsb) ?_; intro vc wc Oc hGc; have Yc : Bel w6 wc := Yb.grown hGc (fun q hq => (Ob.block q hq).1); have ct := Yc.cell1 zt K6.c0; clear bt; have cz : wc.frozen? ⟨w1.heap.size, 0, none⟩ = false := (Yc.keep K6).facts.2.1 0; obtain ⟨Ac, cc, ec, _, _, _⟩ := Oc.reads; rw [HLN.out] at ec; subst ec)
                        refine hK.out _ _ ?hS19 (fun hHeld => ?_)
                        case hS19 => exact HSW _ Yc
                        clear hK K
                        try simp only [Act.put, List.setIfInBounds_toArray, List.set_cons_zero, List.set_cons_succ]
                        refine' wpAnyH_take (i := 14) (oi := _) (v := _) ?hi20 (by kernel_rfl) (by kernel_rfl) (by kernel_rfl) (fun _ _ _ h => h) (Or.inl ⟨?hw20, ?hy20⟩) (by assumption) ?rest20
                        case hi20 => simp only [List.getElem?_toArray, List.getElem?_cons_succ, List.getElem?_cons_zero]; rfl
                        case hw20 => rfl
                        case hy20 =>
                          intro W hSW
                          try dsimp only at hSW
                          go_simp
                          try with_reducible rfl
                        simp only [Act.put, List.setIfInBounds_toArray, List.set_cons_zero, List.set_cons_succ]
                        refine wpAnyH_done (by kernel_rfl) ?_ _
                        simp only [headPost, List.drop_succ_cons, List.drop_zero]
                        have hkr : Blk wc (w.heap.size + 2) 40 #[.slice none 0 0] := Yc.keep R6
                        have K9 := (Yc.keep K6).set 0 (.slice Ac (fs.length + 1) cc)
                        have O9 := (Oc.setNe (p := ⟨w1.heap.size, 0, none⟩) (Oc.ne (Yc.keep K6) (by decide)) (.slice Ac (fs.length + 1) cc)).low (base' := w.heap.size + 1 + 1 + 1) (by omega)
                        have R9 := hkr.far (p := ⟨w1.heap.size, 0, none⟩) (by dsimp only; omega) (.slice Ac (fs.length + 1) cc)
                        have Y9 := (Y6.trans Yc).setCell (p := ⟨w1.heap.size, 0, none⟩) (by dsimp only; omega) (.slice Ac (fs.length + 1) cc)
                        go_wp2_with fail
                        refine NoPanic.normal ?_
                        try go_wp2_with fail
                        go_meet
                        exact ⟨_, K9, by rw [HI.out]; exact O9, R9, Y9⟩
                      exact AllReadyH.nil
                    exact AllReadyH.nil
                  exact AllReadyH.nil
                exact AllReadyH.nil
              refine' AllReadyH.cons (o := _) ?ho21 (fun K hK => ?step21) ?more21
              case ho21 => simp only [List.getElem?_toArray, List.getElem?_cons_succ, List.getElem?_cons_zero]; rfl
              case step21 =>
                go_simp
                refine hK.out _ _ ?hS21 (fun hHeld => ?_)
                case hS21 => exact HSW _ DF
                clear hK K
                try simp only [Act.put, List.setIfInBounds_toArray, List.set_cons_zero, List.set_cons_succ]
                refine wpAnyH_ready (rs := [0]) (by kernel_rfl) (by simp) ?_
                refine' AllReadyH.cons (o := _) ?ho22 (fun K hK => ?step22) ?more22
                case ho22 => simp only [List.getElem?_toArray, List.getElem?_cons_succ, List.getElem?_cons_zero]; rfl
                case step22 =>
                  go_simp
                  refine hK.out _ _ ?hS22 (fun hHeld => ?_)
                  case hS22 => exact HSW _ DFE
                  clear hK K
                  try simp only [Act.put, List.setIfInBounds_toArray, List.set_cons_zero, List.set_cons_succ]
                  refine wpAnyH_ready (rs := [5]) (by kernel_rfl) (by simp) ?_
                  refine' AllReadyH.cons (o := _) ?ho23 (fun K hK => ?step23) ?more23
                  case ho23 => simp only [List.getElem?_toArray, List.getElem?_cons_succ, List.getElem?_cons_zero]; rfl
                  case step23 =>
                    (refine step_appFb _ (by rfl) _ _ (by rfl) w6.heap.size _ _ [] (fs.take k) (by rfl) (by rfl) (by exact NDFE) (by exact RV1 _ ODFE) (by simp only [List.length_nil]; omega) (by exact DFE.size) ?_; intro va wa Oa hGa; have Ya : Bel w6 wa := DFE.grown hGa (fun q hq => (NDFE.block q hq).1); have mkFE := Ya; have aqt := Ya.cell1 zt t6; have Kfa := KFFE.grown (row := some (w6.heap.size + 1)) hGa (fun e => by injection e with e; omega); clear et ft eft fet ODE ODEF ODFE NDE NDEF NDFE DE DEF DFE KFEF KFFE RV1 t6 hGa)
                    refine hK.out _ _ ?hS23 (fun hHeld => ?_)
                    case hS23 => exact HSW _ Ya
                    clear hK K
                    try simp only [Act.put, List.setIfInBounds_toArray, List.set_cons_zero, List.set_cons_succ]
                    refine wpAnyH_ready (rs := [8]) (by kernel_rfl) (by simp) ?_
                    refine' AllReadyH.cons (o := _) ?ho24 (fun K hK => ?step24) ?more24
                    case ho24 => simp only [List.getElem?_toArray, List.getElem?_cons_succ, List.getElem?_cons_zero]; rfl
                    case step24 =>
                      (have _ := mkFE; refine step_appFb _ (by rfl) _ _ (by rfl) w6.heap.size _ _ (fs.take k) [(x, y, z)] (by rfl) (by rfl) (by exact Oa) (by exact RT.blk Kfa) (by simp only [List.length_cons, List.length_nil]; omega) (by exact Ya.size) ?_; intro vb wb Ob hGb; have Yb : Bel w6 wb := Ya.grown hGb (fun q hq => (Oa.block q hq).1); have Oob := O6.keep Yb; have hsb := Yb.size; have bt := Yb.cell1 zt K6.c0; clear aqt mkFE)
                      refine hK.out _ _ ?hS24 (fun hHeld => ?_)
                      case hS24 => exact HSW _ Yb
                      clear hK K
                      try simp only [Act.put, List.setIfInBounds_toArray, List.set_cons_zero, List.set_cons_succ]
                      refine wpAnyH_ready (rs := [13]) (by kernel_rfl) (by simp) ?_
                      refine' AllReadyH.cons (o := _) ?ho25 (fun K hK => ?step25) ?more25
                      case ho25 => simp only [List.getElem?_toArray, List.getElem?_cons_succ, List.getElem?_cons_zero]; rfl
                      case step25 =>
                        (have _ := Ob; refine step_appFb _ (by rfl) _ _ (by rfl) w6.heap.size _ _ (fs.take k ++ [(x, y, z)]) (fs.drop k) (by rfl) (by rfl) (by exact Ob) (by exact RV2 _ Oob) (by have q1 := hbk; have q2 := hbd; have q3 : (fs.take k ++ [(x, y, z)]).length = (fs.take k).length + 1 := (by simp only [List.length_append, List.length_cons, List.length_nil]); rw [q3]; exact Nat.le_trans (Nat.add_le_add (Nat.add_le_add_right q1 1) q2) (by decide)) (by exact hsb) ?_; intro vc wc Oc hGc; have Yc : Bel w6 wc := Yb.grown hGc (fun q hq => (Ob.block q hq).1); have ct := Yc.cell1 zt K6.c0; clear bt; have cz : wc.frozen? ⟨w1.heap.size, 0, none⟩ = false := (Yc.keep K6).facts.2.1 0; obtain ⟨Ac, cc, ec, _, _, _⟩ := Oc.reads; rw [HLN.out] at ec; subst ec)
                        refine hK.out _ _ ?hS25 (fun hHeld => ?_)
                        case hS25 => exact HSW _ Yc
                        clear hK K
                        try simp only [Act.put, List.setIfInBounds_toArray, List.set_cons_zero, List.set_cons_succ]
                        refine' wpAnyH_take (i := 14) (oi := _) (v := _) ?hi26 (by kernel_rfl) (by kernel_rfl) (by kernel_rfl) (fun _ _ _ h => h) (Or.inl ⟨?hw26, ?hy26⟩) (by assumption) ?rest26
                        case hi26 => simp only [List.getElem?_toArray, List.getElem?_cons_succ, List.getElem?_cons_zero]; rfl
                        case hw26 => rfl
                        case hy26 =>
                          intro W hSW
                          try dsimp only at hSW
                          go_simp
                          try with_reducible rfl
                        simp only [Act.put, List.setIfInBounds_toArray, List.set_cons_zero, List.set_cons_succ]
                        refine wpAnyH_done (by kernel_rfl) ?_ _
                        simp only [headPost, List.drop_succ_cons, List.drop_zero]
                        have hkr : Blk wc (w.heap.size + 2) 40 #[.slice none 0 0] := Yc.keep R6
                        have K9 := (Yc.keep K6).set 0 (.slice Ac (fs.length + 1) cc)
                        have O9 := (Oc.setNe (p := ⟨w1.heap.size, 0, none⟩) (Oc.ne (Yc.keep K6) (by decide)) (.slice Ac (fs.length + 1) cc)).low (base' := w.heap.size + 1 + 1 + 1) (by omega)
                        have R9 := hkr.far (p := ⟨w1.heap.size, 0, none⟩) (by dsimp only; omega) (.slice Ac (fs.length + 1) cc)
                        have Y9 := (Y6.trans Yc).setCell (p := ⟨w1.heap.size, 0, none⟩) (by dsimp only; omega) (.slice Ac (fs.length + 1) cc)
                        go_wp2_with fail
                        refine NoPanic.normal ?_
                        try go_wp2_with fail
                        go_meet
                        exact ⟨_, K9, by rw [HI.out]; exact O9, R9, Y9⟩
                      exact AllReadyH.nil
                    exact AllReadyH.nil
                  exact AllReadyH.nil
                exact AllReadyH.nil
              exact AllReadyH.nil
            · obtain rfl : c1 = k := by omega
              have RV2 : ∀ W, OT 43 W (w.heap.size + 1 + 1 + 1) (.slice A1 fs.length c1) fs → RT W (.slice A1 0 0) (fs.drop c1) := fun W h => by
                rw [List.drop_of_length_le (by omega)]
                exact RT.void W _ _ (by omega)
              refine wp_region_noPanic ?_
              refine wp_region_last 15 (fun w' => w'.cell? ⟨w.heap.size + 1, 0, none⟩ = some (.int .i64 x) ∧ w'.cell? ⟨w.heap.size + 1, 1, none⟩ = some (.int .i64 y) ∧ w'.cell? ⟨w.heap.size + 1, 2, none⟩ = some (.int .i64 z) ∧ w'.cell? ⟨w1.heap.size, 0, none⟩ = some (.slice A1 fs.length c1)) (by kernel_rfl) (by kernel_rfl) (HSW _ (Bel.refl _).drew) (fun hHeld => ?_)
              refine' wpAnyH_take (i := 1) (oi := _) (v := _) ?hi27 (by kernel_rfl) (by kernel_rfl) (by kernel_rfl) (fun _ _ _ h => h) (Or.inl ⟨?hw27, ?hy27⟩) (by assumption) ?rest27
              case hi27 => simp only [List.getElem?_toArray, List.getElem?_cons_succ, List.getElem?_cons_zero]; rfl
              case hw27 => rfl
              case hy27 =>
                intro W hSW
                try dsimp only at hSW
                go_simp
                try with_reducible rfl
              simp only [Act.put, List.setIfInBounds_toArray, List.set_cons_zero, List.set_cons_succ]
              refine' wpAnyH_take (i := 3) (oi := _) (v := _) ?hi28 (by kernel_rfl) (by kernel_rfl) (by kernel_rfl) (fun _ _ _ h => h) (Or.inl ⟨?hw28, ?hy28⟩) (by assumption) ?rest28
              case hi28 => simp only [List.getElem?_toArray, List.getElem?_cons_succ, List.getElem?_cons_zero]; rfl
              case hw28 => rfl
              case hy28 =>
                intro W hSW
                try dsimp only at hSW
                go_simp
                try with_reducible rfl
              simp only [Act.put, List.setIfInBounds_toArray, List.set_cons_zero, List.set_cons_succ]
              refine' wpAnyH_take (i := 6) (oi := _) (v := _) ?hi29 (by kernel_rfl) (by kernel_rfl) (by kernel_rfl) (fun _ _ _ h => h) (Or.inl ⟨?hw29, ?hy29⟩) (by assumption) ?rest29
              case hi29 => simp only [List.getElem?_toArray, List.getElem?_cons_succ, List.getElem?_cons_zero]; rfl
              case hw29 => rfl
              case hy29 =>
                intro W hSW
                try dsimp only at hSW
                go_simp
                try with_reducible rfl
              simp only [Act.put, List.setIfInBounds_toArray, List.set_cons_zero, List.set_cons_succ]
              refine' wpAnyH_take (i := 9) (oi := _) (v := _) ?hi30 (by kernel_rfl) (by kernel_rfl) (by kernel_rfl) (fun _ _ _ h => h) (Or.inl ⟨?hw30, ?hy30⟩) (by assumption) ?rest30
              case hi30 => simp only [List.getElem?_toArray, List.getElem?_cons_succ, List.getElem?_cons_zero]; rfl
              case hw30 => rfl
              case hy30 =>
                intro W hSW
                try dsimp only at hSW
                go_simp
                try with_reducible rfl
              simp only [Act.put, List.setIfInBounds_toArray, List.set_cons_zero, List.set_cons_succ]
              refine' wpAnyH_take (i := 11) (oi := _) (v := _) ?hi31 (by kernel_rfl) (by kernel_rfl) (by kernel_rfl) (fun _ _ _ h => h) (Or.inl ⟨?hw31, ?hy31⟩) (by assumption) ?rest31
              case hi31 => simp only [List.getElem?_toArray, List.getElem?_cons_succ, List.getElem?_cons_zero]; rfl
              case hw31 => rfl
              case hy31 =>
                intro W hSW
                try dsimp only at hSW
                go_simp
                try with_reducible rfl
              simp only [Act.put, List.setIfInBounds_toArray, List.set_cons_zero, List.set_cons_succ]
              refine' wpAnyH_take (i := 2) (oi := _) (v := _) ?hi32 (by kernel_rfl) (by kernel_rfl) (by kernel_rfl) (fun _ _ _ h => h) (Or.inl ⟨?hw32, ?hy32⟩) (by assumption) ?rest32
              case hi32 => simp only [List.getElem?_toArray, List.getElem?_cons_succ, List.getElem?_cons_zero]; rfl
              case hw32 => rfl
              case hy32 =>
                intro W hSW
                try dsimp only at hSW
                go_simp
                try with_reducible rfl
              simp only [Act.put, List.setIfInBounds_toArray, List.set_cons_zero, List.set_cons_succ]
              refine' wpAnyH_take (i := 10) (oi := _) (v := _) ?hi33 (by kernel_rfl) (by kernel_rfl) (by kernel_rfl) (fun _ _ _ h => h) (Or.inl ⟨?hw33, ?hy33⟩) (by assumption) ?rest33
              case hi33 => simp only [List.getElem?_toArray, List.getElem?_cons_succ, List.getElem?_cons_zero]; rfl
              case hw33 => rfl
              case hy33 =>
                intro W hSW
                try dsimp only at hSW
                go_simp
                try with_reducible rfl
              simp only [Act.put, List.setIfInBounds_toArray, List.set_cons_zero, List.set_cons_succ]
              refine' wpAnyH_take (i := 4) (oi := _) (v := _) ?hi34 (by kernel_rfl) (by kernel_rfl) (by kernel_rfl) (fun _ _ _ h => h) (Or.inl ⟨?hw34, ?hy34⟩) (by assumption) ?rest34
              case hi34 => simp only [List.getElem?_toArray, List.getElem?_cons_succ, List.getElem?_cons_zero]; rfl
              case hw34 => rfl
              case hy34 =>
                intro W hSW
                try dsimp only at hSW
                go_simp
                try with_reducible rfl
              simp only [Act.put, List.setIfInBounds_toArray, List.set_cons_zero, List.set_cons_succ]
              refine' wpAnyH_take (i := 12) (oi := _) (v := _) ?hi35 (by kernel_rfl) (by kernel_rfl) (by kernel_rfl) (fun _ _ _ h => h) (Or.inl ⟨?hw35, ?hy35⟩) (by assumption) ?rest35
              case hi35 => simp only [List.getElem?_toArray, List.getElem?_cons_succ, List.getElem?_cons_zero]; rfl
              case hw35 => rfl
              case hy35 =>
                intro W hSW
                try dsimp only at hSW
                go_simp
                try with_reducible rfl
              simp only [Act.put, List.setIfInBounds_toArray, List.set_cons_zero, List.set_cons_succ]
              refine wpAnyH_ready (rs := [0, 7]) (by kernel_rfl) (by simp) ?_
              refine' AllReadyH.cons (o := _) ?ho36 (fun K hK => ?step36) ?more36
              case ho36 => simp only [List.getElem?_toArray, List.getElem?_cons_succ, List.getElem?_cons_zero]; rfl
              case step36 =>
                go_simp
                refine hK.out _ _ ?hS36 (fun hHeld => ?_)
                case hS36 => exact HSW _ DE
                clear hK K
                try simp only [Act.put, List.setIfInBounds_toArray, List.set_cons_zero, List.set_cons_succ]
                refine wpAnyH_ready (rs := [5, 7]) (by kernel_rfl) (by simp) ?_
                refine' AllReadyH.cons (o := _) ?ho37 (fun K hK => ?step37) ?more37
                case ho37 => simp only [List.getElem?_toArray, List.getElem?_cons_succ, List.getElem?_cons_zero]; rfl
                case step37 =>
                  (refine step_appFb _ (by rfl) _ _ (by rfl) w6.heap.size _ _ [] (fs.take c1) (by rfl) (by rfl) (by exact NDE) (by exact RV1 _ ODE) (by simp only [List.length_nil]; omega) (by exact DE.size) ?_; intro va wa Oa hGa; have Ya : Bel w6 wa := DE.grown hGa (fun q hq => (NDE.block q hq).1); have mkE := Ya; have aqt := Ya.cell1 zt t6; have Yaf := Ya.alloc (.cells #[.int .i64 x, .int .i64 y, .int .i64 z] 43); have Oaf := Oa.keep ((Bel.refl wa).alloc (.cells #[.int .i64 x, .int .i64 y, .int .i64 z] 43)); have Kfa := Blk.new wa 43 #[.int .i64 x, .int .i64 y, .int .i64 z]; have aft := Yaf.cell1 zt t6; clear et ft eft fet ODE ODEF ODFE NDE NDEF NDFE DE DEF DFE KFEF KFFE RV1 t6 hGa)
                  refine hK.out _ _ ?hS37 (fun hHeld => ?_)
                  case hS37 => exact HSW _ Ya
                  clear hK K
                  try simp only [Act.put, List.setIfInBounds_toArray, List.set_cons_zero, List.set_cons_succ]
                  refine wpAnyH_ready (rs := [7]) (by kernel_rfl) (by simp) ?_
                  refine' AllReadyH.cons (o := _) ?ho38 (fun K hK => ?step38) ?more38
                  case ho38 => simp only [List.getElem?_toArray, List.getElem?_cons_succ, List.getElem?_cons_zero]; rfl
                  case step38 =>
                    go_simp
                    refine hK.out _ _ ?hS38 (fun hHeld => ?_)
                    case hS38 => exact HSW _ Yaf
                    clear hK K
                    try simp only [Act.put, List.setIfInBounds_toArray, List.set_cons_zero, List.set_cons_succ]
                    refine wpAnyH_ready (rs := [8]) (by kernel_rfl) (by simp) ?_
                    refine' AllReadyH.cons (o := _) ?ho39 (fun K hK => ?step39) ?more39
                    case ho39 => simp only [List.getElem?_toArray, List.getElem?_cons_succ, List.getElem?_cons_zero]; rfl
                    case step39 =>
                      (have _ := mkE; refine step_appFb _ (by rfl) _ _ (by rfl) w6.heap.size _ _ (fs.take c1) [(x, y, z)] (by rfl) (by rfl) (by first | exact Oaf | exact Oaf.keep (Bel.refl _).drew) (by exact RT.blk (Kfa)) (by simp only [List.length_cons, List.length_nil]; omega) (by exact Yaf.size) ?_; intro vb wb Ob hGb; have Yb : Bel w6 wb := Yaf.grown hGb (fun q hq => (Oaf.block q hq).1); have Oob := O6.keep Yb; have hsb := Yb.size; have bt := Yb.cell1 zt K6.c0; clear aqt aft mkE)
                      refine hK.out _ _ ?hS39 (fun hHeld => ?_)
                      case hS39 => exact HSW _ Yb
                      clear hK K
                      try simp only [Act.put, List.setIfInBounds_toArray, List.set_cons_zero, List.set_cons_succ]
                      refine wpAnyH_ready (rs := [13]) (by kernel_rfl) (by simp) ?_
                      refine' AllReadyH.cons (o := _) ?ho40 (fun K hK => ?step40) ?more40
                      case ho40 => simp only [List.getElem?_toArray, List.getElem?_cons_succ, List.getElem?_cons_zero]; rfl
                      case step40 =>
                        (have _ := Ob; refine step_appFb _ (by rfl) _ _ (by rfl) w6.heap.size _ _ (fs.take c1 ++ [(x, y, z)]) (fs.drop c1) (by rfl) (by rfl) (by exact Ob) (by exact RV2 _ Oob) (by have q1 := hbk; have q2 := hbd; have q3 : (fs.take c1 ++ [(x, y, z)]).length = (fs.take c1).length + 1 := (by simp only [List.length_append, List.length_cons, List.length_nil]); rw [q3]; exact Nat.le_trans (Nat.add_le_add (Nat.add_le_add_right q1 1) q2) (by decide)) (by exact hsb) ?_; intro vc wc Oc hGc; have Yc : Bel w6 wc := Yb.grown hGc (fun q hq => (Ob.block q hq).1); have ct := Yc.cell1 zt K6.c0; clear bt; have cz : wc.frozen? ⟨w1.heap.size, 0, none⟩ = false := (Yc.keep K6).facts.2.1 0; obtain ⟨Ac, cc, ec, _, _, _⟩ := Oc.reads; rw [HLN.out] at ec; subst ec)
                        refine hK.out _ _ ?hS40 (fun hHeld => ?_)
                        case hS40 => exact HSW _ Yc
                        clear hK K
                        try simp only [Act.put, List.setIfInBounds_toArray, List.set_cons_zero, List.set_cons_succ]
                        refine' wpAnyH_take (i := 14) (oi := _) (v := _) ?hi41 (by kernel_rfl) (by kernel_rfl) (by kernel_rfl) (fun _ _ _ h => h) (Or.inl ⟨?hw41, ?hy41⟩) (by assumption) ?rest41
                        case hi41 => simp only [List.getElem?_toArray, List.getElem?_cons_succ, List.getElem?_cons_zero]; rfl
                        case hw41 => rfl
                        case hy41 =>
                          intro W hSW
                          try dsimp only at hSW
                          go_simp
                          try with_reducible rfl
                        simp only [Act.put, List.setIfInBounds_toArray, List.set_cons_zero, List.set_cons_succ]
                        refine wpAnyH_done (by kernel_rfl) ?_ _
                        simp only [headPost, List.drop_succ_cons, List.drop_zero]
                        have hkr : Blk wc (w.heap.size + 2) 40 #[.slice none 0 0] := Yc.keep R6
                        have K9 := (Yc.keep K6).set 0 (.slice Ac (fs.length + 1) cc)
                        have O9 := (Oc.setNe (p := ⟨w1.heap.size, 0, none⟩) (Oc.ne (Yc.keep K6) (by decide)) (.slice Ac (fs.length + 1) cc)).low (base' := w.heap.size + 1 + 1 + 1) (by omega)
                        have R9 := hkr.far (p := ⟨w1.heap.size, 0, none⟩) (by dsimp only; omega) (.slice Ac (fs.length + 1) cc)
                        have Y9 := (Y6.trans Yc).setCell (p := ⟨w1.heap.size, 0, none⟩) (by dsimp only; omega) (.slice Ac (fs.length + 1) cc)
                        go_wp2_with fail
                        refine NoPanic.normal ?_
                        try go_wp2_with fail
                        go_meet
                        exact ⟨_, K9, by rw [HI.out]; exact O9, R9, Y9⟩
                      exact AllReadyH.nil
                    exact AllReadyH.nil
                  exact AllReadyH.nil
                refine' AllReadyH.cons (o := _) ?ho42 (fun K hK => ?step42) ?more42
                case ho42 => simp only [List.getElem?_toArray, List.getElem?_cons_succ, List.getElem?_cons_zero]; rfl
                case step42 =>
                  go_simp
                  refine hK.out _ _ ?hS42 (fun hHeld => ?_)
                  case hS42 => exact HSW _ DEF
                  clear hK K
                  try simp only [Act.put, List.setIfInBounds_toArray, List.set_cons_zero, List.set_cons_succ]
                  refine wpAnyH_ready (rs := [5]) (by kernel_rfl) (by simp) ?_
                  refine' AllReadyH.cons (o := _) ?ho43 (fun K hK => ?step43) ?more43
                  case ho43 => simp only [List.getElem?_toArray, List.getElem?_cons_succ, List.getElem?_cons_zero]; rfl
                  case step43 =>
                    (refine step_appFb _ (by rfl) _ _ (by rfl) w6.heap.size _ _ [] (fs.take c1) (by rfl) (by rfl) (by exact NDEF) (by exact RV1 _ ODEF) (by simp only [List.length_nil]; omega) (by exact DEF.size) ?_; intro va wa Oa hGa; have Ya : Bel w6 wa := DEF.grown hGa (fun q hq => (NDEF.block q hq).1); have mkEF := Ya; have aqt := Ya.cell1 zt t6; have Kfa := KFEF.grown (row := some w6.heap.size) hGa (fun e => by injection e with e; omega); clear et ft eft fet ODE ODEF ODFE NDE NDEF NDFE DE DEF DFE KFEF KFFE RV1 t6 hGa)
                    refine hK.out _ _ ?hS43 (fun hHeld => ?_)
                    case hS43 => exact HSW _ Ya
                    clear hK K
                    try simp only [Act.put, List.setIfInBounds_toArray, List.set_cons_zero, List.set_cons_succ]
                    refine wpAnyH_ready (rs := [8]) (by kernel_rfl) (by simp) ?_
                    refine' AllReadyH.cons (o := _) ?ho44 (fun K hK => ?step44) ?more44
                    case ho44 => simp only [List.getElem?_toArray, List.getElem?_cons_succ, List.getElem?_cons_zero]; rfl
                    case step44 =>
                      (have _ := mkEF; refine step_appFb _ (by rfl) _ _ (by rfl) w6.heap.size _ _ (fs.take c1) [(x, y, z)] (by rfl) (by rfl) (by exact Oa) (by exact RT.blk Kfa) (by simp only [List.length_cons, List.length_nil]; omega) (by exact Ya.size) ?_; intro vb wb Ob hGb; have Yb : Bel w6 wb := Ya.grown hGb (fun q hq => (Oa.block q hq).1); have Oob := O6.keep Yb; have hsb := Yb.size; have bt := Yb.cell1 zt K6.c0; clear aqt mkEF)
                      refine hK.out _ _ ?hS44 (fun hHeld => ?_)
                      case hS44 => exact HSW _ Yb
                      clear hK K
                      try simp only [Act.put, List.setIfInBounds_toArray, List.set_cons_zero, List.set_cons_succ]
                      refine wpAnyH_ready (rs := [13]) (by kernel_rfl) (by simp) ?_
                      refine' AllReadyH.cons (o := _) ?ho45 (fun K hK => ?step45) ?more45
                      case ho45 => simp only [List.getElem?_toArray, List.getElem?_cons_succ, List.getElem?_cons_zero]; rfl
                      case step45 =>
                        (have _ := Ob; refine step_appFb _ (by rfl) _ _ (by rfl) w6.heap.size _ _ (fs.take c1 ++ [(x, y, z)]) (fs.drop c1) (by rfl) (by rfl) (by exact Ob) (by exact RV2 _ Oob) (by have q1 := hbk; have q2 := hbd; have q3 : (fs.take c1 ++ [(x, y, z)]).length = (fs.take c1).length + 1 := (by simp only [List.length_append, List.length_cons, List.length_nil]); rw [q3]; exact Nat.le_trans (Nat.add_le_add (Nat.add_le_add_right q1 1) q2) (by decide)) (by exact hsb) ?_; intro vc wc Oc hGc; have Yc : Bel w6 wc := Yb.grown hGc (fun q hq => (Ob.block q hq).1); have ct := Yc.cell1 zt K6.c0; clear bt; have cz : wc.frozen? ⟨w1.heap.size, 0, none⟩ = false := (Yc.keep K6).facts.2.1 0; obtain ⟨Ac, cc, ec, _, _, _⟩ := Oc.reads; rw [HLN.out] at ec; subst ec)
                        refine hK.out _ _ ?hS45 (fun hHeld => ?_)
                        case hS45 => exact HSW _ Yc
                        clear hK K
                        try simp only [Act.put, List.setIfInBounds_toArray, List.set_cons_zero, List.set_cons_succ]
                        refine' wpAnyH_take (i := 14) (oi := _) (v := _) ?hi46 (by kernel_rfl) (by kernel_rfl) (by kernel_rfl) (fun _ _ _ h => h) (Or.inl ⟨?hw46, ?hy46⟩) (by assumption) ?rest46
                        case hi46 => simp only [List.getElem?_toArray, List.getElem?_cons_succ, List.getElem?_cons_zero]; rfl
                        case hw46 => rfl
                        case hy46 =>
                          intro W hSW
                          try dsimp only at hSW
                          go_simp
                          try with_reducible rfl
                        simp only [Act.put, List.setIfInBounds_toArray, List.set_cons_zero, List.set_cons_succ]
                        refine wpAnyH_done (by kernel_rfl) ?_ _
                        simp only [headPost, List.drop_succ_cons, List.drop_zero]
                        have hkr : Blk wc (w.heap.size + 2) 40 #[.slice none 0 0] := Yc.keep R6
                        have K9 := (Yc.keep K6).set 0 (.slice Ac (fs.length + 1) cc)
                        have O9 := (Oc.setNe (p := ⟨w1.heap.size, 0, none⟩) (Oc.ne (Yc.keep K6) (by decide)) (.slice Ac (fs.length + 1) cc)).low (base' := w.heap.size + 1 + 1 + 1) (by omega)
                        have R9 := hkr.far (p := ⟨w1.heap.size, 0, none⟩) (by dsimp only; omega) (.slice Ac (fs.length + 1) cc)
                        have Y9 := (Y6.trans Yc).setCell (p := ⟨w1.heap.size, 0, none⟩) (by dsimp only; omega) (.slice Ac (fs.length + 1) cc)
                        go_wp2_with fail
                        refine NoPanic.normal ?_
                        try go_wp2_with fail
                        go_meet
                        exact ⟨_, K9, by rw [HI.out]; exact O9, R9, Y9⟩
                      exact AllReadyH.nil
                    exact AllReadyH.nil
                  exact AllReadyH.nil
                exact AllReadyH.nil
              refine' AllReadyH.cons (o := _) ?ho47 (fun K hK => ?step47) ?more47
              case ho47 => simp only [List.getElem?_toArray, List.getElem?_cons_succ, List.getElem?_cons_zero]; rfl
              case step47 =>
                go_simp
                refine hK.out _ _ ?hS47 (fun hHeld => ?_)
                case hS47 => exact HSW _ DF
                clear hK K
                try simp only [Act.put, List.setIfInBounds_toArray, List.set_cons_zero, List.set_cons_succ]
                refine wpAnyH_ready (rs := [0]) (by kernel_rfl) (by simp) ?_
                refine' AllReadyH.cons (o := _) ?ho48 (fun K hK => ?step48) ?more48
                case ho48 => simp only [List.getElem?_toArray, List.getElem?_cons_succ, List.getElem?_cons_zero]; rfl
                case step48 =>
                  go_simp
                  refine hK.out _ _ ?hS48 (fun hHeld => ?_)
                  case hS48 => exact HSW _ DFE
                  clear hK K
                  try simp only [Act.put, List.setIfInBounds_toArray, List.set_cons_zero, List.set_cons_succ]
                  refine wpAnyH_ready (rs := [5]) (by kernel_rfl) (by simp) ?_
                  refine' AllReadyH.cons (o := _) ?ho49 (fun K hK => ?step49) ?more49
                  case ho49 => simp only [List.getElem?_toArray, List.getElem?_cons_succ, List.getElem?_cons_zero]; rfl
                  case step49 =>
                    (refine step_appFb _ (by rfl) _ _ (by rfl) w6.heap.size _ _ [] (fs.take c1) (by rfl) (by rfl) (by exact NDFE) (by exact RV1 _ ODFE) (by simp only [List.length_nil]; omega) (by exact DFE.size) ?_; intro va wa Oa hGa; have Ya : Bel w6 wa := DFE.grown hGa (fun q hq => (NDFE.block q hq).1); have mkFE := Ya; have aqt := Ya.cell1 zt t6; have Kfa := KFFE.grown (row := some (w6.heap.size + 1)) hGa (fun e => by injection e with e; omega); clear et ft eft fet ODE ODEF ODFE NDE NDEF NDFE DE DEF DFE KFEF KFFE RV1 t6 hGa)
                    refine hK.out _ _ ?hS49 (fun hHeld => ?_)
                    case hS49 => exact HSW _ Ya
                    clear hK K
                    try simp only [Act.put, List.setIfInBounds_toArray, List.set_cons_zero, List.set_cons_succ]
                    refine wpAnyH_ready (rs := [8]) (by kernel_rfl) (by simp) ?_
                    refine' AllReadyH.cons (o := _) ?ho50 (fun K hK => ?step50) ?more50
                    case ho50 => simp only [List.getElem?_toArray, List.getElem?_cons_succ, List.getElem?_cons_zero]; rfl
                    case step50 =>
                      (have _ := mkFE; refine step_appFb _ (by rfl) _ _ (by rfl) w6.heap.size _ _ (fs.take c1) [(x, y, z)] (by rfl) (by rfl) (by exact Oa) (by exact RT.blk Kfa) (by simp only [List.length_cons, List.length_nil]; omega) (by exact Ya.size) ?_; intro vb wb Ob hGb; have Yb : Bel w6 wb := Ya.grown hGb (fun q hq => (Oa.block q hq).1); have Oob := O6.keep Yb; have hsb := Yb.size; have bt := Yb.cell1 zt K6.c0; clear aqt mkFE)
                      refine hK.out _ _ ?hS50 (fun hHeld => ?_)
                      case hS50 => exact HSW _ Yb
                      clear hK K
                      try simp only [Act.put, List.setIfInBounds_toArray, List.set_cons_zero, List.set_cons_succ]
                      refine wpAnyH_ready (rs := [13]) (by kernel_rfl) (by simp) ?_
                      refine' AllReadyH.cons (o := _) ?ho51 (fun K hK => ?step51) ?more51
                      case ho51 => simp only [List.getElem?_toArray, List.getElem?_cons_succ, List.getElem?_cons_zero]; rfl
                      case step51 =>
                        (have _ := Ob; refine step_appFb _ (by rfl) _ _ (by rfl) w6.heap.size _ _ (fs.take c1 ++ [(x, y, z)]) (fs.drop c1) (by rfl) (by rfl) (by exact Ob) (by exact RV2 _ Oob) (by have q1 := hbk; have q2 := hbd; have q3 : (fs.take c1 ++ [(x, y, z)]).length = (fs.take c1).length + 1 := (by simp only [List.length_append, List.length_cons, List.length_nil]); rw [q3]; exact Nat.le_trans (Nat.add_le_add (Nat.add_le_add_right q1 1) q2) (by decide)) (by exact hsb) ?_; intro vc wc Oc hGc; have Yc : Bel w6 wc := Yb.grown hGc (fun q hq => (Ob.block q hq).1); have ct := Yc.cell1 zt K6.c0; clear bt; have cz : wc.frozen? ⟨w1.heap.size, 0, none⟩ = false := (Yc.keep K6).facts.2.1 0; obtain ⟨Ac, cc, ec, _, _, _⟩ := Oc.reads; rw [HLN.out] at ec; subst ec)
                        refine hK.out _ _ ?hS51 (fun hHeld => ?_)
                        case hS51 => exact HSW _ Yc
                        clear hK K
                        try simp only [Act.put, List.setIfInBounds_toArray, List.set_cons_zero, List.set_cons_succ]
                        refine' wpAnyH_take (i := 14) (oi := _) (v := _) ?hi52 (by kernel_rfl) (by kernel_rfl) (by kernel_rfl) (fun _ _ _ h => h) (Or.inl ⟨?hw52, ?hy52⟩) (by assumption) ?rest52
                        case hi52 => simp only [List.getElem?_toArray, List.getElem?_cons_succ, List.getElem?_cons_zero]; rfl
                        case hw52 => rfl
                        case hy52 =>
                          intro W hSW
                          try dsimp only at hSW
                          go_simp
                          try with_reducible rfl
                        simp only [Act.put, List.setIfInBounds_toArray, List.set_cons_zero, List.set_cons_succ]
                        refine wpAnyH_done (by kernel_rfl) ?_ _
                        simp only [headPost, List.drop_succ_cons, List.drop_zero]
                        have hkr : Blk wc (w.heap.size + 2) 40 #[.slice none 0 0] := Yc.keep R6
                        have K9 := (Yc.keep K6).set 0 (.slice Ac (fs.length + 1) cc)
                        have O9 := (Oc.setNe (p := ⟨w1.heap.size, 0, none⟩) (Oc.ne (Yc.keep K6) (by decide)) (.slice Ac (fs.length + 1) cc)).low (base' := w.heap.size + 1 + 1 + 1) (by omega)
                        have R9 := hkr.far (p := ⟨w1.heap.size, 0, none⟩) (by dsimp only; omega) (.slice Ac (fs.length + 1) cc)
                        have Y9 := (Y6.trans Yc).setCell (p := ⟨w1.heap.size, 0, none⟩) (by dsimp only; omega) (.slice Ac (fs.length + 1) cc)
                        go_wp2_with fail
                        refine NoPanic.normal ?_
                        try go_wp2_with fail
                        go_meet
                        exact ⟨_, K9, by rw [HI.out]; exact O9, R9, Y9⟩
                      exact AllReadyH.nil
                    exact AllReadyH.nil
                  exact AllReadyH.nil
                exact AllReadyH.nil
              exact AllReadyH.nil
          case rest =>
            obtain ⟨r, K7, O7, R7, Y7⟩ := hcut
            rw [← HR.out, ← HZ.out] at O7
            obtain ⟨Ar, cr, er, _, _, _⟩ := O7.reads
            subst er
            obtain ⟨ck, _, zk⟩ := K7.facts
            obtain ⟨cr5, fr5, zr5⟩ := R7.facts
            go_wp2
            have R8 := R7.set 0 (.slice Ar (recZ fs (x, y, z)).length cr)
            have r8 := R8.facts.1
            clear ck cr5 fr5
            refine bodyPost_ret (v := .agg #[.slice Ar (recZ fs (x, y, z)).length cr]) (by simp [results, Try.results13, go_sem, r8]) rfl ⟨_, rfl, ?_, ?_⟩
            · exact (O7.setFar (p := ⟨w.heap.size + 2, 0, none⟩) (by dsimp only; omega) _).low (by omega)
            · exact Y7.setCell (p := ⟨w.heap.size + 2, 0, none⟩) (by dsimp only; omega) _
        · obtain ⟨⟨a, b, m⟩, hg, HL0⟩ := recL_set hq
          have hl2 := bsB_some HT.out (by rw [HT.out] at hg; exact hg)
          rw [hq] at hl2
          rw [HT.out] at hg HL0
          obtain ⟨rfl, rfl⟩ := eq_of_less (HLF.out _ hg) (by simpa using hl2.symm)
          dsimp only at HL0
          clear hl2 hq
          have htl : k < fs.length := (List.getElem?_eq_some_iff.1 hg).1
          obtain ⟨g, rfl⟩ : ∃ g, A1 = some ⟨g, 0, none⟩ := by
            obtain ⟨hl, ⟨e, h9⟩ | ⟨g, cap, cur, e, _⟩⟩ := id O6
            · omega
            · injection e with e1 e2 e3
              exact ⟨g, e1⟩
          have hgt : g ≠ w1.heap.size := O6.ne K6 (by decide) g rfl
          have hgs := O6.block g rfl
          obtain ⟨A0, c0, e0, _, _, hA⟩ := O6.reads
          injection e0 with e1 _ e2
          subst e1 e2
          obtain ⟨b1, o1, e3, z1, hc1⟩ := hA (by omega)
          injection e3 with e3
          injection e3 with e3 e4
          subst e3 e4
          obtain ⟨g1, g2, g3⟩ := hc1 k _ hg
          dsimp only at g1 g2 g3
          rw [Nat.zero_add] at g1 g2 g3
          have HG := Lib.hid hg
          have HR : Hid (recZ fs (a, b, z) = fs.set k (a, b, min m z)) := Lib.hid (HZ.out.trans HL0)
          clear hc1 hA hg HL0
          have i0 : (0 : Int) ≤ (k : Int) := by omega
          have i1 : (k : Int) < (fs.length : Int) := by omega
          have t6 : w6.cell? ⟨w1.heap.size, 0, none⟩ = some (.slice (some ⟨g, 0, none⟩) fs.length c1) := K6.facts.1 0
          have y0 : w6.cell? ⟨w.heap.size + 1, 0, none⟩ = some (.int .i64 a) := F6.facts.1 0
          have y1 : w6.cell? ⟨w.heap.size + 1, 1, none⟩ = some (.int .i64 b) := F6.facts.1 1
          have y2 : w6.cell? ⟨w.heap.size + 1, 2, none⟩ = some (.int .i64 z) := F6.facts.1 2
          obtain ⟨cr6, fr6, zr6⟩ := R6.facts
          have hz6 : w.heap.size + 2 < w6.heap.size := zr6
          go_upto_region 8 with fail
          go_cut [57] from 49 to 57 (fun s57 wx => s57 = .bool (decide (z < m)) ∧ Bel w6 wx)
          case first =>
            have qq0 := Bw.cell t6 K6.lt
            have qq1 := Bw.cell y2 F6.lt
            have qq2 := Bw.cell g3 z1
            refine wp_region_bel (by kernel_rfl) (by kernel_rfl) ?_
            repeat (first | go_big_quiet_step (fail) | quiet_step (fail))
            refine wpQuiet_nil ?_
            rintro w7 ⟨⟨w7', hb7⟩, e5⟩
            have e6 : w7 = w7' := e5
            subst e6
            go_wp2_with fail
            go_meet
            exact ⟨by first | rfl | (congr 1), hb7⟩
          case rest =>
            obtain ⟨rfl, hbx⟩ := hcut
            obtain ⟨w7, hw7⟩ : ∃ w7, w7 = wc := ⟨_, rfl⟩
            subst hw7
            have K7 := hbx.keep K6
            have R7 := hbx.keep R6
            have F7 := hbx.keep F6
            have O7 := O6.keep hbx
            have Y7 := Y6.trans hbx
            replace g1 := hbx.cell1 z1 g1
            replace g2 := hbx.cell1 z1 g2
            replace g3 := hbx.cell1 z1 g3
            have G7 := (O7.facts0 hgs)
            clear K6 R6 F6 O6 Y6 t6 y0 y1 y2 cr6 fr6 zr6 hbx
            have t7 : w7.cell? ⟨w1.heap.size, 0, none⟩ = some (.slice (some ⟨g, 0, none⟩) fs.length c1) := K7.facts.1 0
            have y0 : w7.cell? ⟨w.heap.size + 1, 0, none⟩ = some (.int .i64 a) := F7.facts.1 0
            have y1 : w7.cell? ⟨w.heap.size + 1, 1, none⟩ = some (.int .i64 b) := F7.facts.1 1
            have y2 : w7.cell? ⟨w.heap.size + 1, 2, none⟩ = some (.int .i64 z) := F7.facts.1 2
            have q0 := G7 (k * 3)
            have q1 := G7 (k * 3 + 1)
            have q2 := G7 (k * 3 + 2)
            clear G7
            by_cases hzm : z < m
            · go_upto_region 10 with fail
              have e0 : (flat3 fs)[k * 3]? = some (.int .i64 a) := by
                have := flat3_at fs k 0 _ HG.out (by omega)
                simpa [cells3] using this
              have e1 : (flat3 fs)[k * 3 + 1]? = some (.int .i64 b) := by
                have := flat3_at fs k 1 _ HG.out (by omega)
                simpa [cells3] using this
              have O8 := ((O7.putEq e0).putEq e1).put3 (u := z) HG.out
              have K8 := ((K7.far (p := ⟨g, k * 3, none⟩) (Ne.symm hgt) (.int .i64 a)).far (p := ⟨g, k * 3 + 1, none⟩) (Ne.symm hgt) (.int .i64 b)).far (p := ⟨g, k * 3 + 2, none⟩) (Ne.symm hgt) (.int .i64 z)
              have R8 := ((R7.far (p := ⟨g, k * 3, none⟩) (by dsimp only; omega) (.int .i64 a)).far (p := ⟨g, k * 3 + 1, none⟩) (by dsimp only; omega) (.int .i64 b)).far (p := ⟨g, k * 3 + 2, none⟩) (by dsimp only; omega) (.int .i64 z)
              have Y8 := ((Y7.setCell (p := ⟨g, k * 3, none⟩) (by dsimp only; omega) (.int .i64 a)).setCell (p := ⟨g, k * 3 + 1, none⟩) (by dsimp only; omega) (.int .i64 b)).setCell (p := ⟨g, k * 3 + 2, none⟩) (by dsimp only; omega) (.int .i64 z)
              clear K7 R7 F7 O7 Y7 t7 y0 y1 y2 q0 q1 q2 g1 g2 g3 e0 e1
              generalize ((w7.setCell ⟨g, k * 3, none⟩ (.int .i64 a)).setCell ⟨g, k * 3 + 1, none⟩ (.int .i64 b)).setCell ⟨g, k * 3 + 2, none⟩ (.int .i64 z) = w8 at *
              have HE : Hid (fs.set k (a, b, min m z) = fs.set k (a, b, z)) := by
                have e : min m z = z := by omega
                show _ = _
                rw [e]
              have HLN : Hid ((fs.set k (a, b, z)).length = fs.length) := List.length_set
              obtain ⟨ck8, fk8, zk8⟩ := K8.facts
              obtain ⟨cr8, fr8, zr8⟩ := R8.facts
              go_wp2
              have R9 := R8.set 0 (.slice (some ⟨g, 0, none⟩) fs.length c1)
              have r9 := R9.facts.1
              clear ck8 fk8 cr8 fr8
              refine bodyPost_ret (v := .agg #[.slice (some ⟨g, 0, none⟩) fs.length c1]) (by simp [results, Try.results13, go_sem, r9]) rfl ⟨_, rfl, ?_, ?_⟩
              · rw [HR.out, HE.out]
                exact (O8.setFar (p := ⟨w.heap.size + 2, 0, none⟩) (by dsimp only; omega) _).low (by omega)
              · exact Y8.setCell (p := ⟨w.heap.size + 2, 0, none⟩) (by dsimp only; omega) _
            · obtain ⟨cr7, fr7, zr7⟩ := R7.facts
              have HE : Hid (fs.set k (a, b, min m z) = fs) := by
                have e : min m z = m := by omega
                show fs.set k (a, b, min m z) = fs
                rw [e]
                exact set_same HG.out
              go_wp2
              have R8 := R7.set 0 (.slice (some ⟨g, 0, none⟩) fs.length c1)
              have r8 := R8.facts.1
              clear cr7 fr7
              refine bodyPost_ret (v := .agg #[.slice (some ⟨g, 0, none⟩) fs.length c1]) (by simp [results, Try.results13, go_sem, r8]) rfl ⟨_, rfl, ?_, ?_⟩
              · rw [HR.out, HE.out]
                exact (O7.setFar (p := ⟨w.heap.size + 2, 0, none⟩) (by dsimp only; omega) _).low (by omega)
              · exact Y7.setCell (p := ⟨w.heap.size + 2, 0, none⟩) (by dsimp only; omega) _
end Go.Proofs.Ytchodlfkoafeaaa
