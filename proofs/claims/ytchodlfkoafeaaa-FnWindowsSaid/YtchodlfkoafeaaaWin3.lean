/-
  Contracts of FinishGeneration, of the program and of the reference. No condition.
-/
import Derived.Test.YtchodlfkoafeaaaWin2
import Derived.Test.YtchodlfkoafeaaaBits
import Derived.LoopTactic
import Derived.Deep.LoopGhost
import Derived.StillTailTactics
namespace Go.Proofs.Ytchodlfkoafeaaa
open Go.ChangeShapes Go.WideShapes Go.ChangeAt Go.RowKit
set_option linter.unusedVariables false
set_option maxRecDepth 100000

/-- What FinishGeneration returns. -/
def endV (b n d t g : Int) : Value :=
  if winB b n d t = true ∧ b ≤ g ∧ g ≤ n - 1 then win (slide 4 b (orB d (g - b).toNat)).1 n (slide 4 b (orB d (g - b).toNat)).2 t else win b n d t

set_option maxHeartbeats 1000000 in
theorem endI_yes (b n d t g : Int) (w : World) (hv : winB b n d t = true) (hg1 : b ≤ g) (hg2 : g ≤ n - 1) :
    Calls Try.prog 37 #[win b n d t, .int .i64 g] w fun e w' => e = .returned (win (slide 4 b (orB d (g - b).toNat)).1 n (slide 4 b (orB d (g - b).toNat)).2 t) ∧ Bel w w' := by
  obtain ⟨⟨h1, h2, h3, h4, h5, h6⟩, ⟨h7, h8⟩, _⟩ := winB_facts hv
  have h9 : d ≤ 15 := pow_le15 (by omega) h8
  have e3 : IntKind.i64.wrap (g - b) = g - b := IntWalk.i64_in _ (by omega)
  have e4 : IntKind.i64.wrap (2 ^ (g - b).toNat) = 2 ^ (g - b).toNat := wrap_pow (by omega)
  have e5 := orB_bd h7 h9 (show (g - b).toNat ≤ 3 by omega)
  have e6 : bits .or .i64 d (2 ^ (g - b).toNat) = orB d (g - b).toNat := rfl
  have e7 : 0 ≤ g - b := by omega
  have e8 : g - b ≤ 64 := by omega
  generalize orB d (g - b).toNat = d1 at *
  clear h8
  go_enter Try.func37, Try.ntmps37
  go_wp2_with fail
  refine (winI_any b n d t _).mono ?_
  rintro e w1 ⟨rfl, hb1⟩
  have B1 := hb1.keep ((Blk.new w _ _).alloc _)
  have B2 := hb1.keep (Blk.new2 w _ _ _)
  have hb : Bel w w1 := (((Bel.refl _).alloc _).alloc _).trans hb1
  obtain ⟨c1, g1, z1⟩ := B1.facts
  obtain ⟨c2, g2, z2⟩ := B2.facts
  rw [hv]
  go_wp2_with fail
  refine (inR_yes _ _ _ _ (by omega) (by omega)).mono ?_
  rintro e w' ⟨rfl, rfl⟩
  go_wp2
  go_still_tail 9, (by kernel_rfl)
  go_wp2
  have B3 := (B1.drew).set 2 (.int .i64 d1)
  have B4 := (B2.drew).far (p := ⟨w.heap.size, 2, none⟩) (by simp) (.int .i64 d1)
  have hb3 : Bel w ((w1.drew).setCell ⟨w.heap.size, 2, none⟩ (.int .i64 d1)) := hb.drew.setCell (Nat.le_refl _) _
  clear hv hb1 B1 B2 c1 g1 z1 c2 g2 z2 hb e3 e4 e6 e7 e8
  go_loopg [] 4 (fun f wr => ∃ b' d' : Int, b ≤ b' ∧ b' + f ≤ 64 ∧ 0 ≤ d' ∧ d' ≤ 2 ^ f - 1 ∧ Blk wr w.heap.size 61 #[.int .i64 b', .int .i64 n, .int .i64 d', .int .i64 t] ∧ Blk wr (w.heap.size + 1) 61 #[.int .i64 0, .int .i64 0, .int .i64 0, .int .i64 0] ∧ Bel w wr ∧ Hid (slide f b' d' = slide 4 b d1))
  case atStart =>
    exact ⟨b, d1, by omega, by omega, e5.1, e5.2, B3, B4, hb3, Lib.hid rfl⟩
  case round =>
    obtain ⟨b', d', k1, k2, k3, k4, B1, B2, hb, HS⟩ := hrel
    obtain ⟨c1, g1, z1⟩ := B1.facts
    obtain ⟨c2, g2, z2⟩ := B2.facts
    have ha := and1 d'
    by_cases hodd : d' % 2 = 1
    · rw [hodd] at ha
      obtain ⟨f, rfl⟩ : ∃ f, gk = f + 1 := by
        cases gk with
        | zero => simp at k4; omega
        | succ f => exact ⟨f, rfl⟩
      have k5 : d' / 2 ≤ 2 ^ f - 1 := by
        rw [Int.pow_succ] at k4; omega
      have HS2 : Hid (slide f (b' + 1) (d' / 2) = slide 4 b d1) := by
        have h := HS.out; rw [slide_odd _ _ _ hodd] at h; exact h
      have k2' : b' + f + 1 ≤ 64 := by omega
      clear HS hodd k4
      go_wp2
      go_roundg f
      case measure => omega
      case rel =>
        exact ⟨b' + 1, d' / 2, by omega, by omega, by omega, k5, (B1.set 0 (.int .i64 (b' + 1))).set 2 (.int .i64 (d' / 2)), (B2.far (p := ⟨w.heap.size, 0, none⟩) (by simp) _).far (p := ⟨w.heap.size, 2, none⟩) (by simp) _, (hb.setCell (p := ⟨w.heap.size, 0, none⟩) (Nat.le_refl _) _).setCell (p := ⟨w.heap.size, 2, none⟩) (Nat.le_refl _) _, HS2⟩
    · have ha2 : (bits .and .i64 d' 1 == 1) = false := by rw [ha]; simpa using hodd
      have hs : slide 4 b d1 = (b', d') := by rw [← HS.out, slide_even _ _ _ hodd]
      have HS2 := Lib.hid hs
      clear HS hodd hs ha
      go_wp2
      refine bodyPost_ret (v := win b' n d' t) (by simp [results, Try.results37, go_sem, c2]) rfl ⟨by rw [HS2.out], ?_⟩
      repeat (first | exact hb | (refine Bel.setCell ?_ (by simp) _))
set_option maxHeartbeats 1000000 in
theorem endS_yes (b n d t g : Int) (w : World) (hv : winB b n d t = true) (hg1 : b ≤ g) (hg2 : g ≤ n - 1) :
    Calls Try.prog 92 #[win b n d t, .int .i64 g] w fun e w' => e = .returned (win (slide 4 b (orB d (g - b).toNat)).1 n (slide 4 b (orB d (g - b).toNat)).2 t) ∧ Bel w w' := by
  obtain ⟨⟨h1, h2, h3, h4, h5, h6⟩, ⟨h7, h8⟩, _⟩ := winB_facts hv
  have h9 : d ≤ 15 := pow_le15 (by omega) h8
  have e3 : IntKind.i64.wrap (g - b) = g - b := IntWalk.i64_in _ (by omega)
  have e4 : IntKind.i64.wrap (2 ^ (g - b).toNat) = 2 ^ (g - b).toNat := wrap_pow (by omega)
  have e5 := orB_bd h7 h9 (show (g - b).toNat ≤ 3 by omega)
  have e6 : bits .or .i64 d (2 ^ (g - b).toNat) = orB d (g - b).toNat := rfl
  have e7 : 0 ≤ g - b := by omega
  have e8 : g - b ≤ 64 := by omega
  generalize orB d (g - b).toNat = d1 at *
  clear h8
  go_enter Try.func92, Try.ntmps92
  go_wp2_with fail
  refine (winS_any b n d t _).mono ?_
  rintro e w1 ⟨rfl, hb1⟩
  have B1 := hb1.keep ((Blk.new w _ _).alloc _)
  have B2 := hb1.keep (Blk.new2 w _ _ _)
  have hb : Bel w w1 := (((Bel.refl _).alloc _).alloc _).trans hb1
  obtain ⟨c1, g1, z1⟩ := B1.facts
  obtain ⟨c2, g2, z2⟩ := B2.facts
  rw [hv]
  go_wp2_with fail
  refine (l1In_yes _ _ _ _ (by omega) (by omega)).mono ?_
  rintro e w' ⟨rfl, rfl⟩
  go_wp2
  have B5 := Blk.new w1 61 #[.int .i64 b, .int .i64 n, .int .i64 d, .int .i64 t]
  replace B1 := B1.alloc (.cells #[.int .i64 b, .int .i64 n, .int .i64 d, .int .i64 t] 61)
  replace B2 := B2.alloc (.cells #[.int .i64 b, .int .i64 n, .int .i64 d, .int .i64 t] 61)
  replace hb : Bel w (w1.alloc (.cells #[.int .i64 b, .int .i64 n, .int .i64 d, .int .i64 t] 61)) := hb.alloc _
  clear c1 g1 c2 g2 hb1
  generalize w1.alloc (.cells #[.int .i64 b, .int .i64 n, .int .i64 d, .int .i64 t] 61) = w2 at *
  generalize w1.heap.size = G at *
  obtain ⟨c1, g1, z3⟩ := B1.facts
  obtain ⟨c2, g2, z4⟩ := B2.facts
  obtain ⟨c3, g3, z5⟩ := B5.facts
  have ne1 : G ≠ w.heap.size + 1 := by omega
  have ne2 : w.heap.size + 1 ≠ G := by omega
  have ge : w.heap.size ≤ G := by omega
  go_still_tail 9, (by kernel_rfl)
  go_wp2
  have B3 := (B5.drew).set 2 (.int .i64 d1)
  have B4 := (B2.drew).far (p := ⟨G, 2, none⟩) ne2 (.int .i64 d1)
  have hb3 : Bel w ((w2.drew).setCell ⟨G, 2, none⟩ (.int .i64 d1)) := hb.drew.setCell ge _
  clear hv B1 B2 B5 c1 g1 z1 c2 g2 c3 g3 hb e3 e4 e6 e7 e8
  go_loopg [] 4 (fun f wr => ∃ b' d' : Int, b ≤ b' ∧ b' + f ≤ 64 ∧ 0 ≤ d' ∧ d' ≤ 2 ^ f - 1 ∧ Blk wr G 61 #[.int .i64 b', .int .i64 n, .int .i64 d', .int .i64 t] ∧ Blk wr (w.heap.size + 1) 61 #[.int .i64 0, .int .i64 0, .int .i64 0, .int .i64 0] ∧ Bel w wr ∧ Hid (slide f b' d' = slide 4 b d1))
  case atStart =>
    exact ⟨b, d1, by omega, by omega, e5.1, e5.2, B3, B4, hb3, Lib.hid rfl⟩
  case round =>
    obtain ⟨b', d', k1, k2, k3, k4, B1, B2, hb, HS⟩ := hrel
    obtain ⟨c1, g1, z1⟩ := B1.facts
    obtain ⟨c2, g2, z2⟩ := B2.facts
    have ha := and1 d'
    by_cases hodd : d' % 2 = 1
    · rw [hodd] at ha
      obtain ⟨f, rfl⟩ : ∃ f, gk = f + 1 := by
        cases gk with
        | zero => simp at k4; omega
        | succ f => exact ⟨f, rfl⟩
      have k5 : d' / 2 ≤ 2 ^ f - 1 := by
        rw [Int.pow_succ] at k4; omega
      have HS2 : Hid (slide f (b' + 1) (d' / 2) = slide 4 b d1) := by
        have h := HS.out; rw [slide_odd _ _ _ hodd] at h; exact h
      have k2' : b' + f + 1 ≤ 64 := by omega
      clear HS hodd k4
      go_wp2
      go_roundg f
      case measure => omega
      case rel =>
        exact ⟨b' + 1, d' / 2, by omega, by omega, by omega, k5, (B1.set 0 (.int .i64 (b' + 1))).set 2 (.int .i64 (d' / 2)), (B2.far (p := ⟨G, 0, none⟩) ne2 _).far (p := ⟨G, 2, none⟩) ne2 _, (hb.setCell (p := ⟨G, 0, none⟩) ge _).setCell (p := ⟨G, 2, none⟩) ge _, HS2⟩
    · have ha2 : (bits .and .i64 d' 1 == 1) = false := by rw [ha]; simpa using hodd
      have hs : slide 4 b d1 = (b', d') := by rw [← HS.out, slide_even _ _ _ hodd]
      have HS2 := Lib.hid hs
      clear HS hodd hs ha
      go_wp2
      refine bodyPost_ret (v := win b' n d' t) (by simp [results, Try.results92, go_sem, c2]) rfl ⟨by rw [HS2.out], ?_⟩
      repeat (first | exact hb | (refine Bel.setCell ?_ (by simp) _))
set_option maxHeartbeats 400000 in
theorem endI_inv (b n d t g : Int) (w : World) (hv : winB b n d t = false) : Calls Try.prog 37 #[win b n d t, .int .i64 g] w fun e w' => e = .returned (win b n d t) ∧ Bel w w' := by
  go_enter Try.func37, Try.ntmps37
  go_wp2_with fail
  refine (winI_any b n d t _).mono ?_
  rintro e w1 ⟨rfl, hb1⟩
  obtain ⟨c1, g1, z1⟩ := (hb1.keep ((Blk.new w _ _).alloc _)).facts
  obtain ⟨c2, g2, z2⟩ := (hb1.keep (Blk.new2 w _ _ _)).facts
  have hb : Bel w w1 := (((Bel.refl _).alloc _).alloc _).trans hb1
  rw [hv]
  go_wp2
  refine bodyPost_ret (v := win b n d t) (by simp [results, Try.results37, go_sem, c2]) rfl ⟨rfl, ?_⟩
  repeat (first | exact hb | (refine Bel.setCell ?_ (by simp) _))
set_option maxHeartbeats 400000 in
theorem endI_out (b n d t g : Int) (w : World) (hv : winB b n d t = true) (hg : g < b ∨ n - 1 < g) : Calls Try.prog 37 #[win b n d t, .int .i64 g] w fun e w' => e = .returned (win b n d t) ∧ Bel w w' := by
  obtain ⟨⟨h1, h2, h3, h4, h5, h6⟩, _, _⟩ := winB_facts hv
  go_enter Try.func37, Try.ntmps37
  go_wp2_with fail
  refine (winI_any b n d t _).mono ?_
  rintro e w1 ⟨rfl, hb1⟩
  obtain ⟨c1, g1, z1⟩ := (hb1.keep ((Blk.new w _ _).alloc _)).facts
  obtain ⟨c2, g2, z2⟩ := (hb1.keep (Blk.new2 w _ _ _)).facts
  have hb : Bel w w1 := (((Bel.refl _).alloc _).alloc _).trans hb1
  rw [hv]
  go_wp2_with fail
  refine (inR_no _ _ _ _ (by omega)).mono ?_
  rintro e w' ⟨rfl, rfl⟩
  go_wp2
  refine bodyPost_ret (v := win b n d t) (by simp [results, Try.results37, go_sem, c2]) rfl ⟨rfl, ?_⟩
  repeat (first | exact hb | (refine Bel.setCell ?_ (by simp) _))
theorem endI_any (b n d t g : Int) (w : World) : Calls Try.prog 37 #[win b n d t, .int .i64 g] w fun e w' => e = .returned (endV b n d t g) ∧ Bel w w' := by
  cases hv : winB b n d t
  · rw [show endV b n d t g = win b n d t from if_neg (by simp [hv])]; exact endI_inv b n d t g w hv
  by_cases hg : b ≤ g ∧ g ≤ n - 1
  · rw [show endV b n d t g = _ from if_pos ⟨hv, hg.1, hg.2⟩]; exact endI_yes b n d t g w hv hg.1 hg.2
  · rw [show endV b n d t g = win b n d t from if_neg (fun h => hg h.2)]; exact endI_out b n d t g w hv (by omega)
set_option maxHeartbeats 400000 in
theorem endS_inv (b n d t g : Int) (w : World) (hv : winB b n d t = false) : Calls Try.prog 92 #[win b n d t, .int .i64 g] w fun e w' => e = .returned (win b n d t) ∧ Bel w w' := by
  go_enter Try.func92, Try.ntmps92
  go_wp2_with fail
  refine (winS_any b n d t _).mono ?_
  rintro e w1 ⟨rfl, hb1⟩
  obtain ⟨c1, g1, z1⟩ := (hb1.keep ((Blk.new w _ _).alloc _)).facts
  obtain ⟨c2, g2, z2⟩ := (hb1.keep (Blk.new2 w _ _ _)).facts
  have hb : Bel w w1 := (((Bel.refl _).alloc _).alloc _).trans hb1
  rw [hv]
  go_wp2
  refine bodyPost_ret (v := win b n d t) (by simp [results, Try.results92, go_sem, c2]) rfl ⟨rfl, ?_⟩
  repeat (first | exact hb | (refine Bel.setCell ?_ (by simp) _))
set_option maxHeartbeats 400000 in
theorem endS_out (b n d t g : Int) (w : World) (hv : winB b n d t = true) (hg : g < b ∨ n - 1 < g) : Calls Try.prog 92 #[win b n d t, .int .i64 g] w fun e w' => e = .returned (win b n d t) ∧ Bel w w' := by
  obtain ⟨⟨h1, h2, h3, h4, h5, h6⟩, _, _⟩ := winB_facts hv
  go_enter Try.func92, Try.ntmps92
  go_wp2_with fail
  refine (winS_any b n d t _).mono ?_
  rintro e w1 ⟨rfl, hb1⟩
  obtain ⟨c1, g1, z1⟩ := (hb1.keep ((Blk.new w _ _).alloc _)).facts
  obtain ⟨c2, g2, z2⟩ := (hb1.keep (Blk.new2 w _ _ _)).facts
  have hb : Bel w w1 := (((Bel.refl _).alloc _).alloc _).trans hb1
  rw [hv]
  go_wp2_with fail
  refine (l1In_no _ _ _ _ (by omega)).mono ?_
  rintro e w' ⟨rfl, rfl⟩
  go_wp2
  refine bodyPost_ret (v := win b n d t) (by simp [results, Try.results92, go_sem, c2]) rfl ⟨rfl, ?_⟩
  repeat (first | exact hb | (refine Bel.setCell ?_ (by simp) _))
theorem endS_any (b n d t g : Int) (w : World) : Calls Try.prog 92 #[win b n d t, .int .i64 g] w fun e w' => e = .returned (endV b n d t g) ∧ Bel w w' := by
  cases hv : winB b n d t
  · rw [show endV b n d t g = win b n d t from if_neg (by simp [hv])]; exact endS_inv b n d t g w hv
  by_cases hg : b ≤ g ∧ g ≤ n - 1
  · rw [show endV b n d t g = _ from if_pos ⟨hv, hg.1, hg.2⟩]; exact endS_yes b n d t g w hv hg.1 hg.2
  · rw [show endV b n d t g = win b n d t from if_neg (fun h => hg h.2)]; exact endS_out b n d t g w hv (by omega)
end Go.Proofs.Ytchodlfkoafeaaa
