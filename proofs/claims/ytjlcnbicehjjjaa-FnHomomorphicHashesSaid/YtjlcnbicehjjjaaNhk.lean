/-
  NewHashKey: contracts of the program's function and of the reference's. No condition.
-/
import Derived.Test.YtjlcnbicehjjjaaRnd
import Derived.Test.YtjlcnbicehjjjaaHash
import Derived.Test.YtjlcnbicehjjjaaMani2
import Derived.Test.YtjlcnbicehjjjaaApp
import Derived.Test.YtjlcnbicehjjjaaMl
import Derived.Deep.RegionLaw
namespace Go.Proofs.Ytjlcnbicehjjjaa
open Go.ChangeShapes Go.WideShapes Go.ChangeAt Go.RowKit
set_option linter.unusedVariables false
set_option maxRecDepth 100000

theorem grB_four : grB 4 = true := by decide +kernel
def nhE (s : Int) (i : Nat) : Int := 1 + rndZ s (300 + (i : Int)) 1018
def nhX (s : Int) (i : Nat) : Int := 4 ^ (nhE s i).toNat % 2039
def nhL (s : Int) (n : Nat) : List Int := (List.range n).map (nhX s)
def nhZ (s x : Int) : List Int := if inB x 1 16 = true then nhL s x.toNat else []
theorem nhL_len (s : Int) (n : Nat) : (nhL s n).length = n := by simp [nhL]
theorem nhL_step (s : Int) (k : Nat) : nhL s (k + 1) = nhL s k ++ [nhX s k] := by unfold nhL; rw [List.range_succ, List.map_append]; rfl
theorem nhE_bd (s : Int) (i : Nat) : 1 ≤ nhE s i ∧ nhE s i ≤ 1018 := by have := rndZ_bd s (300 + (i : Int)) 1018 (by omega); unfold nhE; omega
theorem nhZ_no {s x : Int} (h : inB x 1 16 = false) : nhZ s x = [] := by unfold nhZ; rw [h]; rfl
theorem nhZ_yes {s : Int} {n : Nat} (h : inB (n : Int) 1 16 = true) : nhZ s (n : Int) = nhL s n := by unfold nhZ; rw [h]; rfl
theorem nhZ_len (s x : Int) : (nhZ s x).length ≤ 16 := by
  cases q : inB x 1 16
  · rw [nhZ_no q]; simp
  · have h := inB_facts q
    obtain ⟨n, rfl⟩ : ∃ n : Nat, x = (n : Int) := Int.eq_ofNat_of_zero_le (by omega)
    rw [nhZ_yes q, nhL_len]
    omega
theorem pgI (g n : Int) (w : World) (hg : grB g = true) (hn : elB n = true) :
    Calls Try.prog 54 #[.int .i64 g, .int .i64 n] w fun e w' => e = .returned (.int .i64 (g ^ n.toNat % 2039)) ∧ w = w' := by
  have f1 := (grB_facts hg).1
  have f2 := elB_facts hn
  obtain ⟨f1a, f1b⟩ := f1
  obtain ⟨f2a, f2b⟩ := f2
  have HP := Lib.hid (fun w => powI g n 2039 w (by omega) (by omega) (by omega) (by omega) (by omega))
  generalize g ^ n.toNat % 2039 = q at *
  go_enter Try.func54, Try.ntmps54
  go_wp2_with fail
  refine (grI g _).mono ?_
  rintro e w1 ⟨rfl, rfl⟩
  rw [hg]
  go_wp2_with fail
  refine (elI n _).mono ?_
  rintro e w1 ⟨rfl, rfl⟩
  rw [hn]
  go_wp2_with fail
  refine (HP.out _).mono ?_
  rintro e w1 ⟨rfl, rfl⟩
  go_wp2
  go_ret
  exact ⟨rfl, rfl⟩
set_option maxHeartbeats 4000000 in
theorem nhI (s x : Int) (w : World) (hs : -9223372036854775808 ≤ s ∧ s ≤ 9223372036854775807) (hx : -9223372036854775808 ≤ x ∧ x ≤ 9223372036854775807) :
    Calls Try.prog 11 #[.int .i64 s, .int .i64 x] w fun e w' => ∃ r, e = .returned (.agg #[r]) ∧ OI w' w.heap.size r (nhZ s x) ∧ Bel w w' := by
  have HS := Lib.hid hs
  have R := Blk.new w 24 #[.slice none 0 0]
  have Y : Bel w (w.alloc (.cells #[.slice none 0 0] 24)) := (Bel.refl _).alloc _
  have R2 := R.alloc (.cells #[.slice none 0 0] 24)
  have G2 := Blk.new2 w (.cells #[.slice none 0 0] 24) 24 #[.slice none 0 0]
  have Y2 := Y.alloc (.cells #[.slice none 0 0] 24)
  obtain ⟨cr, fr, zr⟩ := R.facts
  cases q : inB x 1 16
  · have HN := Lib.hid (nhZ_no (s := s) q)
    have Y3 := Y.setCell (p := ⟨w.heap.size, 0, none⟩) (Nat.le_refl _) (.slice none 0 0)
    go_enter Try.func11, Try.ntmps11
    go_wp2_with fail
    refine (inRB x 1 16 _).mono ?_
    rintro e w1 ⟨rfl, rfl⟩
    rw [q]
    go_wp2
    refine bodyPost_ret (v := .agg #[.slice none 0 0]) (by simp [results, Try.results11, go_sem, cr]) rfl ⟨_, rfl, by rw [HN.out]; exact OI.nil _ _, by first | exact Y3 | exact Y⟩
  have hb := inB_facts q
  obtain ⟨n, rfl⟩ : ∃ n : Nat, x = (n : Int) := Int.eq_ofNat_of_zero_le (by omega)
  have HN := Lib.hid (nhZ_yes (s := s) q)
  have hn16 : n ≤ 16 := by omega
  have hn1 : 1 ≤ n := by omega
  have L0 : OI ((w.alloc (.cells #[.slice none 0 0] 24)).alloc (.cells #[.slice none 0 0] 24)) (w.heap.size + 2) (.slice none 0 0) (nhL s 0) := OI.nil _ _
  clear cr fr zr hb
  go_enter Try.func11, Try.ntmps11
  go_wp2_with fail
  refine (inR_yes (n : Int) 1 16 _ (by omega) (by omega)).mono ?_
  rintro e w1 ⟨rfl, rfl⟩
  clear q
  go_wp2
  go_loopg [12] n (fun f i wr => ∃ (k : Nat) (o : Value), k + f = n ∧ i = .int .i64 k ∧ Blk wr w.heap.size 24 #[.slice none 0 0] ∧ Blk wr (w.heap.size + 1) 24 #[o] ∧ OI wr (w.heap.size + 2) o (nhL s k) ∧ Bel w wr)
  case atStart => exact ⟨0, _, by omega, rfl, R2, G2, L0, Y2⟩
  case round =>
    clear R Y R2 G2 Y2 L0
    obtain ⟨k, o, hk, rfl, R, G, O, Y⟩ := hrel
    have hk2 : k ≤ n := by omega
    have HK := Lib.hid hk
    clear hk
    by_cases hlt : k < n
    · have i0 : (0 : Int) ≤ (k : Int) := by omega
      have i1 : (k : Int) < (n : Int) := by omega
      have m1 : IntKind.i64.wrap (300 + (k : Int)) = 300 + (k : Int) := IntWalk.i64_in _ (by omega)
      have hzb := rndZ_bd s (300 + (k : Int)) 1018 (by omega)
      obtain ⟨z, hz⟩ : ∃ z, z = rndZ s (300 + (k : Int)) 1018 := ⟨_, rfl⟩
      have HZ := Lib.hid hz.symm
      rw [← hz] at hzb
      have m2 : IntKind.i64.wrap (1 + z) = 1 + z := IntWalk.i64_in _ (by omega)
      have HEL : Hid (elB (1 + z) = true) := Lib.hid (elB_yes (by omega))
      obtain ⟨y, hy⟩ : ∃ y, y = (4 : Int) ^ (1 + z).toNat % 2039 := ⟨_, rfl⟩
      have HY := Lib.hid hy.symm
      have HST : Hid (nhL s k ++ [y] = nhL s (k + 1)) := Lib.hid (by rw [nhL_step, hy, hz]; rfl)
      have hlen : (nhL s k).length ≤ 16 := by rw [nhL_len]; omega
      obtain ⟨cg, fg, zg⟩ := G.facts
      have rg : wr.cell? ⟨w.heap.size + 1, 0, none⟩ = some o := cg 0
      have Yd := (Bel.refl wr).drew
      have HON := Lib.hid (fun q hq => (O.block q hq))
      obtain ⟨Ao, co, eo, _, _, _⟩ := O.reads
      subst eo
      generalize hLT : nhL s k = LT at *
      have eLT : (LT ++ [y]).length = LT.length + 1 := by simp
      clear hz hy cg fg hLT
      go_wp2
      go_region_law (first
        | (go_simp; go_at_call 55; refine (rndI s (300 + (k : Int)) 1018 _ HS.out (by omega) (by omega)).mono ?_; rintro e wT ⟨rfl, hbT⟩; rw [HZ.out]; have rgT := hbT.cell1 zg rg; have zgT := Nat.lt_of_lt_of_le zg hbT.size)
        | (go_simp; go_at_call 54; refine (pgI 4 (1 + z) _ grB_four HEL.out).mono ?_; rintro e wU ⟨rfl, rfl⟩; rw [HY.out]; have rgUA := (hbT.alloc (.cells #[.int .i64 y] 3)).cell1 zg rg)
        | (refine step_appI _ (by rfl) _ _ (by rfl) (w.heap.size + 2) _ _ LT [y] (by rfl) (by rfl) (by exact O.keep ((Yd.trans hbT).alloc _)) (by exact RI.lit1 _ _ _) (by simp only [List.length_cons, List.length_nil]; omega) (by simp only [World.size_alloc]; have := hbT.size; have h6 : wr.drew.heap.size = wr.heap.size := rfl; omega) ?_; intro v2 w2 O2 hG; have G2 := ((hbT.keep G.drew).alloc (.cells #[.int .i64 y] 3)).grown hG (fun e => by have := (HON.out _ e).1; omega); obtain ⟨Av2, cv2, ev2, _, _, _⟩ := O2.reads; rw [eLT] at ev2; subst ev2; have rg2 := G2.facts.1 0; have fg2 := G2.facts.2.1 0))
      all_goals (
        have Y2 : Bel w w2 := ((Y.drew.trans hbT).alloc _).grown hG (fun q hq => by have := (HON.out q hq).1; omega)
        have R2 := ((hbT.keep R.drew).alloc (.cells #[.int .i64 y] 3)).grown hG (fun e => by have := (HON.out _ e).1; omega)
        have R3 := R2.far (p := ⟨w.heap.size + 1, 0, none⟩) (by dsimp only; omega) (.slice Av2 (LT.length + 1) cv2)
        have G3 : Blk (w2.setCell ⟨w.heap.size + 1, 0, none⟩ (.slice Av2 (LT.length + 1) cv2)) (w.heap.size + 1) 24 #[.slice Av2 (LT.length + 1) cv2] := G2.set 0 (.slice Av2 (LT.length + 1) cv2)
        have O3 := O2.setFar (p := ⟨w.heap.size + 1, 0, none⟩) (by dsimp only; omega) (.slice Av2 (LT.length + 1) cv2)
        have Y3 := Y2.setCell (p := ⟨w.heap.size + 1, 0, none⟩) (by dsimp only; omega) (.slice Av2 (LT.length + 1) cv2)
        rw [HST.out] at O3
        clear hbT hG O2 Y2 G2 R2 rg2 fg2 rg
        go_wp2
        go_roundg (n - (k + 1))
        case measure => have := HK.out; omega
        case rel => exact ⟨k + 1, _, by omega, by go_num, R3, G3, O3, Y3⟩)
    · obtain rfl : n = k := by omega
      have i1 : ¬ (n : Int) < (n : Int) := by omega
      obtain ⟨Ao, co, eo, _, _, _⟩ := O.reads
      subst eo
      obtain ⟨cg, fg, zg⟩ := G.facts
      obtain ⟨cr, fr, zr⟩ := R.facts
      have Y3 := Y.setCell (p := ⟨w.heap.size, 0, none⟩) (Nat.le_refl _) (.slice Ao (nhL s n).length co)
      have O3 := O.setFar (p := ⟨w.heap.size, 0, none⟩) (by dsimp only; omega) (.slice Ao (nhL s n).length co)
      go_wp2
      refine bodyPost_ret (v := .agg #[.slice Ao (nhL s n).length co]) (by simp [results, Try.results11, go_sem, cr]) rfl ⟨_, rfl, by rw [HN.out]; exact O3.low (by omega), Y3⟩
set_option maxHeartbeats 4000000 in
theorem nhS (s x : Int) (w : World) (hs : -9223372036854775808 ≤ s ∧ s ≤ 9223372036854775807) (hx : -9223372036854775808 ≤ x ∧ x ≤ 9223372036854775807) :
    Calls Try.prog 10 #[.int .i64 s, .int .i64 x] w fun e w' => ∃ r, e = .returned (.agg #[r]) ∧ OI w' w.heap.size r (nhZ s x) ∧ Bel w w' := by
  have HS := Lib.hid hs
  have R := Blk.new w 24 #[.slice none 0 0]
  have Y : Bel w (w.alloc (.cells #[.slice none 0 0] 24)) := (Bel.refl _).alloc _
  have R2 := R.alloc (.cells #[.slice none 0 0] 24)
  have G2 := Blk.new2 w (.cells #[.slice none 0 0] 24) 24 #[.slice none 0 0]
  have Y2 := Y.alloc (.cells #[.slice none 0 0] 24)
  obtain ⟨cr, fr, zr⟩ := R.facts
  cases q : inB x 1 16
  · have HN := Lib.hid (nhZ_no (s := s) q)
    obtain ⟨cg, fg, zg⟩ := G2.facts
    obtain ⟨cr2, fr2, zr2⟩ := R2.facts
    have Y3 := Y2.setCell (p := ⟨w.heap.size, 0, none⟩) (Nat.le_refl _) (.slice none 0 0)
    clear cr fr zr
    go_enter Try.func10, Try.ntmps10
    go_wp2
    refine wp_loop_rounds 1 ?_
    rw [rounds_succ]
    by_cases hx0 : 0 < x
    · go_wp2_with fail
      refine (l1InB x 1 16 _).mono ?_
      rintro e w1 ⟨rfl, rfl⟩
      rw [q]
      go_wp2
      refine bodyPost_ret (v := .agg #[.slice none 0 0]) (by simp [results, Try.results10, go_sem, cr2]) rfl ⟨_, rfl, by rw [HN.out]; exact OI.nil _ _, by first | exact Y3 | exact Y2⟩
    · go_wp2
      refine bodyPost_ret (v := .agg #[.slice none 0 0]) (by simp [results, Try.results10, go_sem, cr2]) rfl ⟨_, rfl, by rw [HN.out]; exact OI.nil _ _, by first | exact Y3 | exact Y2⟩
  have hb := inB_facts q
  obtain ⟨n, rfl⟩ : ∃ n : Nat, x = (n : Int) := Int.eq_ofNat_of_zero_le (by omega)
  have HN := Lib.hid (nhZ_yes (s := s) q)
  have hn16 : n ≤ 16 := by omega
  have hn1 : 1 ≤ n := by omega
  have L0 : OI ((w.alloc (.cells #[.slice none 0 0] 24)).alloc (.cells #[.slice none 0 0] 24)) (w.heap.size + 2) (.slice none 0 0) (nhL s 0) := OI.nil _ _
  clear cr fr zr hb q
  go_enter Try.func10, Try.ntmps10
  go_wp2
  go_loopg [6] n (fun f i wr => ∃ (k : Nat) (o : Value), k + f = n ∧ i = .int .i64 k ∧ Blk wr w.heap.size 24 #[.slice none 0 0] ∧ Blk wr (w.heap.size + 1) 24 #[o] ∧ OI wr (w.heap.size + 2) o (nhL s k) ∧ Bel w wr)
  case atStart => exact ⟨0, _, by omega, rfl, R2, G2, L0, Y2⟩
  case round =>
    clear R Y R2 G2 Y2 L0
    obtain ⟨k, o, hk, rfl, R, G, O, Y⟩ := hrel
    have hk2 : k ≤ n := by omega
    have HK := Lib.hid hk
    clear hk
    by_cases hlt : k < n
    · have i0 : (0 : Int) ≤ (k : Int) := by omega
      have i1 : (k : Int) < (n : Int) := by omega
      have m1 : IntKind.i64.wrap (300 + (k : Int)) = 300 + (k : Int) := IntWalk.i64_in _ (by omega)
      have hzb := rndZ_bd s (300 + (k : Int)) 1018 (by omega)
      obtain ⟨z, hz⟩ : ∃ z, z = rndZ s (300 + (k : Int)) 1018 := ⟨_, rfl⟩
      have HZ := Lib.hid hz.symm
      rw [← hz] at hzb
      have m2 : IntKind.i64.wrap (1 + z) = 1 + z := IntWalk.i64_in _ (by omega)
      have HEL : Hid (elB (1 + z) = true) := Lib.hid (elB_yes (by omega))
      obtain ⟨y, hy⟩ : ∃ y, y = (4 : Int) ^ (1 + z).toNat % 2039 := ⟨_, rfl⟩
      have HY := Lib.hid hy.symm
      have HST : Hid (nhL s k ++ [y] = nhL s (k + 1)) := Lib.hid (by rw [nhL_step, hy, hz]; rfl)
      have hlen : (nhL s k).length ≤ 16 := by rw [nhL_len]; omega
      obtain ⟨cg, fg, zg⟩ := G.facts
      have rg : wr.cell? ⟨w.heap.size + 1, 0, none⟩ = some o := cg 0
      have Yd := (Bel.refl wr).drew
      have HON := Lib.hid (fun q hq => (O.block q hq))
      obtain ⟨Ao, co, eo, _, _, _⟩ := O.reads
      subst eo
      generalize hLT : nhL s k = LT at *
      have eLT : (LT ++ [y]).length = LT.length + 1 := by simp
      clear hz hy cg fg hLT
      go_wp2_with fail
      refine (l1In_yes (n : Int) 1 16 _ (by omega) (by omega)).mono ?_
      rintro e w1 ⟨rfl, rfl⟩
      go_wp2
      go_region_law (first
        | (go_simp; go_at_call 52; refine (rndS s (300 + (k : Int)) 1018 _ HS.out (by omega) (by omega)).mono ?_; rintro e wT ⟨rfl, hbT⟩; rw [HZ.out]; have rgT := hbT.cell1 zg rg; have zgT := Nat.lt_of_lt_of_le zg hbT.size)
        | (go_simp; go_at_call 51; refine (powGS 4 (1 + z) _ grB_four HEL.out).mono ?_; rintro e wU ⟨rfl, rfl⟩; rw [HY.out]; have rgUA := (hbT.alloc (.cells #[.int .i64 y] 3)).cell1 zg rg)
        | (refine step_appI _ (by rfl) _ _ (by rfl) (w.heap.size + 2) _ _ LT [y] (by rfl) (by rfl) (by exact O.keep ((Yd.trans hbT).alloc _)) (by exact RI.lit1 _ _ _) (by simp only [List.length_cons, List.length_nil]; omega) (by simp only [World.size_alloc]; have := hbT.size; have h6 : wr.drew.heap.size = wr.heap.size := rfl; omega) ?_; intro v2 w2 O2 hG; have G2 := ((hbT.keep G.drew).alloc (.cells #[.int .i64 y] 3)).grown hG (fun e => by have := (HON.out _ e).1; omega); obtain ⟨Av2, cv2, ev2, _, _, _⟩ := O2.reads; rw [eLT] at ev2; subst ev2; have rg2 := G2.facts.1 0; have fg2 := G2.facts.2.1 0))
      all_goals (
        have Y2 : Bel w w2 := ((Y.drew.trans hbT).alloc _).grown hG (fun q hq => by have := (HON.out q hq).1; omega)
        have R2 := ((hbT.keep R.drew).alloc (.cells #[.int .i64 y] 3)).grown hG (fun e => by have := (HON.out _ e).1; omega)
        have R3 := R2.far (p := ⟨w.heap.size + 1, 0, none⟩) (by dsimp only; omega) (.slice Av2 (LT.length + 1) cv2)
        have G3 : Blk (w2.setCell ⟨w.heap.size + 1, 0, none⟩ (.slice Av2 (LT.length + 1) cv2)) (w.heap.size + 1) 24 #[.slice Av2 (LT.length + 1) cv2] := G2.set 0 (.slice Av2 (LT.length + 1) cv2)
        have O3 := O2.setFar (p := ⟨w.heap.size + 1, 0, none⟩) (by dsimp only; omega) (.slice Av2 (LT.length + 1) cv2)
        have Y3 := Y2.setCell (p := ⟨w.heap.size + 1, 0, none⟩) (by dsimp only; omega) (.slice Av2 (LT.length + 1) cv2)
        rw [HST.out] at O3
        clear hbT hG O2 Y2 G2 R2 rg2 fg2 rg
        go_wp2
        go_roundg (n - (k + 1))
        case measure => have := HK.out; omega
        case rel => exact ⟨k + 1, _, by omega, by go_num, R3, G3, O3, Y3⟩)
    · obtain rfl : n = k := by omega
      have i1 : ¬ (n : Int) < (n : Int) := by omega
      obtain ⟨Ao, co, eo, _, _, _⟩ := O.reads
      subst eo
      obtain ⟨cg, fg, zg⟩ := G.facts
      obtain ⟨cr, fr, zr⟩ := R.facts
      have Y3 := Y.setCell (p := ⟨w.heap.size, 0, none⟩) (Nat.le_refl _) (.slice Ao (nhL s n).length co)
      have O3 := O.setFar (p := ⟨w.heap.size, 0, none⟩) (by dsimp only; omega) (.slice Ao (nhL s n).length co)
      go_wp2
      refine bodyPost_ret (v := .agg #[.slice Ao (nhL s n).length co]) (by simp [results, Try.results10, go_sem, cr]) rfl ⟨_, rfl, by rw [HN.out]; exact O3.low (by omega), Y3⟩
end Go.Proofs.Ytjlcnbicehjjjaa
