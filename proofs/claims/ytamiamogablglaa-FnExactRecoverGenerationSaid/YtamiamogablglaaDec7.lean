/-
  DecodedSymbol, CountDecoded: contracts of the program's functions and of the reference's. No condition.
-/
import Derived.Test.YtamiamogablglaaMx6
import Derived.Test.YtamiamogablglaaVx
import Derived.Deep.RegionHeld3
import Derived.Deep.RegionLaw
namespace Go.Proofs.Ytamiamogablglaa
open Go.ChangeShapes Go.WideShapes Go.ChangeAt Go.RowKit
set_option linter.unusedVariables false
set_option maxRecDepth 100000

def symF (s i : Nat) (r : List Int) : Bool := decide (r.take s = unitV s i)
/-- The symbol with number i, if the decoder holds it. -/
def dsymZ (a b c d : Int) (m : List (List Int)) (i : Int) : Option (List Int) := if decB a b c d m = true ∧ inB i 0 (b - 1) = true then (m.find? (symF b.toNat i.toNat)).map (fun r => r.drop b.toNat) else none
theorem dsymZ_no {a b c d : Int} {m : List (List Int)} {i : Int} (h : ¬ (decB a b c d m = true ∧ inB i 0 (b - 1) = true)) : dsymZ a b c d m i = none := if_neg h
theorem dsymZ_yes {a c d : Int} {s j : Nat} {m : List (List Int)} (h1 : decB a (s : Int) c d m = true) (h2 : inB (j : Int) 0 ((s : Int) - 1) = true) : dsymZ a (s : Int) c d m (j : Int) = (m.find? (symF s j)).map (fun r => r.drop s) := by
  unfold dsymZ; rw [if_pos ⟨h1, h2⟩]; rfl
theorem find_hit {α : Type} {p : α → Bool} {m : List α} {k : Nat} {r : α} (hx : m[k]? = some r) (hn : (m.take k).all (fun x => !(p x)) = true) (hp : p r = true) : m.find? p = some r := by
  obtain ⟨hk, rfl⟩ := List.getElem?_eq_some_iff.1 hx
  conv => lhs; rw [← List.take_append_drop k m]
  rw [List.find?_append]
  have h1 : (m.take k).find? p = none := by
    rw [List.find?_eq_none]
    intro x hx2
    have := List.all_eq_true.1 hn x hx2
    simpa using this
  rw [h1, List.drop_eq_getElem_cons hk, List.find?_cons, hp]
  rfl
theorem find_miss {α : Type} {p : α → Bool} {m : List α} (hn : m.all (fun x => !(p x)) = true) : m.find? p = none := by
  rw [List.find?_eq_none]
  intro x hx
  have := List.all_eq_true.1 hn x hx
  simpa using this
theorem dec_row {a b c d : Int} {m : List (List Int)} (h : decB a b c d m = true) {k : Nat} {r : List Int} (hx : m[k]? = some r) : (r.length : Int) = b + c ∧ Row r.length r ∧ r.length ≤ 40 := by
  obtain ⟨f1, f2, f3, f4⟩ := decB_facts h
  obtain ⟨n, e, hn, _, hR⟩ := basB_facts f2
  have := hR.mtx r (List.mem_of_getElem? hx)
  refine ⟨by rw [this.1, ← f3, e], by rw [this.1]; exact this, by rw [this.1]; exact hn⟩

set_option maxHeartbeats 2000000 in
theorem dsymI (a b c d i : Int) (v : Value) (m : List (List Int)) (w : World) (hv : RII w v m) :
    Calls Try.prog 30 #[.agg #[.int .i64 a, .int .i64 b, .int .i64 c, .int .i64 d, v], .int .i64 i] w fun e w' => ∃ r, e = .returned (.tuple #[r, .bool (dsymZ a b c d m i).isSome]) ∧ OI w' w.heap.size r ((dsymZ a b c d m i).getD []) ∧ Bel w w' := by
  have HZ : Hid (¬ (decB a b c d m = true ∧ inB i 0 (b - 1) = true) → dsymZ a b c d m i = none) := Lib.hid dsymZ_no
  obtain ⟨A, cp, rfl, h2, h3, hA⟩ := id hv
  have X := Blk.new w 31 #[.int .i64 a, .int .i64 b, .int .i64 c, .int .i64 d, .slice A m.length cp]
  have Y : Bel w (w.alloc (.cells #[.int .i64 a, .int .i64 b, .int .i64 c, .int .i64 d, .slice A m.length cp] 31)) := (Bel.refl _).alloc _
  go_enter Try.func30, Try.ntmps30
  go_wp2_with fail
  refine (decI a b c d _ m _ (hv.keep Y)).mono ?_
  rintro e w2 ⟨rfl, hb2⟩
  have X2 := hb2.keep X
  have Y2 := Y.trans hb2
  obtain ⟨cc, _, zx⟩ := X2.facts
  cases q1 : decB a b c d m
  · have HN := Lib.hid (HZ.out (by rw [q1]; simp))
    go_wp2
    refine bodyPost_ret (v := .tuple #[.slice none 0 0, .bool false]) (by simp [results, Try.results30, go_sem]) rfl ⟨_, by rw [HN.out]; rfl, by rw [HN.out]; exact OI.nil _ _, Y2⟩
  have f1 := (decB_facts q1).1
  obtain ⟨_, f2, f3⟩ := fmtB_facts f1
  clear f1
  go_wp2_with fail
  refine (inRB _ _ _ _).mono ?_
  rintro e w3 ⟨rfl, rfl⟩
  cases q2 : inB i 0 (b - 1)
  · have HN := Lib.hid (HZ.out (by rw [q2]; simp))
    go_wp2
    refine bodyPost_ret (v := .tuple #[.slice none 0 0, .bool false]) (by simp [results, Try.results30, go_sem]) rfl ⟨_, by rw [HN.out]; rfl, by rw [HN.out]; exact OI.nil _ _, Y2⟩
  have f4 := inB_facts q2
  obtain ⟨s, rfl⟩ : ∃ s : Nat, b = (s : Int) := Int.eq_ofNat_of_zero_le (by omega)
  obtain ⟨j, rfl⟩ : ∃ j : Nat, i = (j : Int) := Int.eq_ofNat_of_zero_le (by omega)
  have HY := Lib.hid (dsymZ_yes q1 q2)
  have HD := Lib.hid q1
  clear HZ q1 q2

  go_wp2_with fail
  refine (unitI s j _ (by omega) (by omega)).mono ?_
  rintro e w4 ⟨uv, rfl, Ou, hb4⟩
  have X4 := hb4.keep X2
  have Y4 := Y2.trans hb4
  obtain ⟨Auv, cuv, euv, _, _, _⟩ := Ou.reads
  subst euv
  have HU := Lib.hid Ou.reads
  have s0 := Y2.size
  clear cc Ou
  obtain ⟨cc, _, zx4⟩ := X4.facts
  go_wp2
  clear cc
  go_loopg [28] m.length (fun f i wr => ∃ k : Nat, k + f = m.length ∧ i = .int .i64 k ∧ Bel w4 wr ∧ Hid ((m.take k).all (fun x => !(symF s j x)) = true))
  case atStart => exact ⟨0, by omega, rfl, Bel.refl _, by show _ = _; simp⟩
  case round =>
    obtain ⟨k, hk, rfl, Z, HB⟩ := hrel
    have hk2 : k ≤ m.length := by omega
    have HK := Lib.hid hk
    clear hk
    have X5 := Z.keep X4
    have Y5 := Y4.trans Z
    have s5 := Y5.size
    obtain ⟨cc, _, zx⟩ := X5.facts
    have r1 : wr.cell? ⟨w.heap.size, 1, none⟩ = some (.int .i64 (s : Int)) := cc 1
    clear cc
    by_cases hlt : k < m.length
    · obtain ⟨b1, o1, rfl, z1, hc1⟩ := hA (by omega)
      have hx : Hid (m[k]? = some (m[k]'hlt)) := List.getElem?_eq_getElem hlt
      obtain ⟨u, g1, ru⟩ := hc1 k _ hx.out
      replace g1 := Y5.cell1 z1 g1
      replace ru := ru.keep Y5
      have hrow := dec_row HD.out hx.out
      generalize m[k]'hlt = xs at *
      clear hc1 hA
      obtain ⟨l1, l2, l3⟩ := hrow
      obtain ⟨Au, cu, rfl, k1, k2, hu⟩ := id ru
      obtain ⟨bu, ou, rfl, _, _⟩ := hu (by omega)
      have rt := ru.take (t := s) (by omega)
      have rd := ru.drop (t := s) (by omega)
      have HRD := Lib.hid rd
      have i0 : (0 : Int) ≤ (k : Int) := by omega
      have i1 : (k : Int) < (m.length : Int) := by omega
      have i2 : (s : Int) ≤ (cu : Int) := by omega
      have i3 : (s : Int) ≤ (xs.length : Int) := by omega
      have i4 : (0 : Int) ≤ (s : Int) := by omega
      have i5 : (xs.length : Int) ≤ (cu : Int) := by omega
      have i6 : ¬ cu = s := by omega
      have i7 : s ≤ xs.length := by omega
      have i8 : s ≤ cu := by omega
      have HSF : Hid (symF s j xs = decide (xs.take s = unitV s j)) := rfl
      clear hu l2 rd l1
      go_wp2_with fail
      refine (sEqI _ _ (xs.take s) (unitV s j) _ rt (HU.out.keep Z)).mono ?_
      rintro e w6 ⟨rfl, hb6⟩
      have X6 := hb6.keep X5
      have Y6 := Y5.trans hb6
      obtain ⟨cc, _, zx6⟩ := X6.facts
      have r16 : w6.cell? ⟨w.heap.size, 1, none⟩ = some (.int .i64 (s : Int)) := cc 1
      clear cc r1 g1
      cases q : decide (xs.take s = unitV s j)
      · have HF := Lib.hid (all_step (p := fun x => !(symF s j x)) hx.out HB.out (by rw [HSF.out, q]; rfl))
        go_wp2
        go_roundg (m.length - (k + 1))
        case measure => have := HK.out; omega
        case rel => exact ⟨k + 1, by omega, by go_num, Z.trans hb6, HF⟩
      · have HF := Lib.hid (find_hit hx.out HB.out (by rw [HSF.out, q]))
        go_wp2_with fail
        refine (cloneI _ (xs.drop s) _ (HRD.out.keep hb6) (by rw [List.length_drop]; omega)).mono ?_
        rintro e w7 ⟨r, rfl, Or, hb7⟩
        have s6 := Y6.size
        go_wp2
        refine bodyPost_ret (v := .tuple #[r, .bool true]) (by simp [results, Try.results30, go_sem]) rfl ⟨_, by rw [HY.out, HF.out]; rfl, by rw [HY.out, HF.out]; exact Or.low s6, Y6.trans hb7⟩
    · obtain rfl : k = m.length := by omega
      have i1 : ¬ (m.length : Int) < (m.length : Int) := by omega
      have HF := Lib.hid (find_miss (all_end HB.out))
      go_wp2
      refine bodyPost_ret (v := .tuple #[.slice none 0 0, .bool false]) (by simp [results, Try.results30, go_sem]) rfl ⟨_, by rw [HY.out, HF.out]; rfl, by rw [HY.out, HF.out]; exact OI.nil _ _, Y5⟩
set_option maxHeartbeats 4000000 in
theorem dsymS (a b c d i : Int) (v : Value) (m : List (List Int)) (w : World) (hv : RII w v m) :
    Calls Try.prog 29 #[.agg #[.int .i64 a, .int .i64 b, .int .i64 c, .int .i64 d, v], .int .i64 i] w fun e w' => ∃ r, e = .returned (.tuple #[r, .bool (dsymZ a b c d m i).isSome]) ∧ OI w' w.heap.size r ((dsymZ a b c d m i).getD []) ∧ Bel w w' := by
  have HZ : Hid (¬ (decB a b c d m = true ∧ inB i 0 (b - 1) = true) → dsymZ a b c d m i = none) := Lib.hid dsymZ_no
  obtain ⟨A, cp, rfl, h2, h3, hA⟩ := id hv
  have X := Blk.new w 31 #[.int .i64 a, .int .i64 b, .int .i64 c, .int .i64 d, .slice A m.length cp]
  have Y : Bel w (w.alloc (.cells #[.int .i64 a, .int .i64 b, .int .i64 c, .int .i64 d, .slice A m.length cp] 31)) := (Bel.refl _).alloc _
  go_enter Try.func29, Try.ntmps29
  go_wp2_with fail
  refine (decS a b c d _ m _ (hv.keep Y)).mono ?_
  rintro e w2 ⟨rfl, hb2⟩
  have X2 := hb2.keep X
  have Y2 := Y.trans hb2
  obtain ⟨cc, _, zx⟩ := X2.facts
  cases q1 : decB a b c d m
  · have HN := Lib.hid (HZ.out (by rw [q1]; simp))
    go_wp2
    refine bodyPost_ret (v := .tuple #[.slice (some ⟨w2.heap.size, 0, none⟩) 0 0, .bool false]) (by simp [results, Try.results29, go_sem]) rfl ⟨_, by rw [HN.out]; rfl, by rw [HN.out]; exact (OI.empty w2).low Y2.size, Y2.alloc _⟩
  have f1 := (decB_facts q1).1
  obtain ⟨_, f2, f3⟩ := fmtB_facts f1
  clear f1
  go_wp2_with fail
  refine (l1InB _ _ _ _).mono ?_
  rintro e w3 ⟨rfl, rfl⟩
  cases q2 : inB i 0 (b - 1)
  · have HN := Lib.hid (HZ.out (by rw [q2]; simp))
    go_wp2
    refine bodyPost_ret (v := .tuple #[.slice (some ⟨w2.heap.size, 0, none⟩) 0 0, .bool false]) (by simp [results, Try.results29, go_sem]) rfl ⟨_, by rw [HN.out]; rfl, by rw [HN.out]; exact (OI.empty w2).low Y2.size, Y2.alloc _⟩
  have f4 := inB_facts q2
  obtain ⟨s, rfl⟩ : ∃ s : Nat, b = (s : Int) := Int.eq_ofNat_of_zero_le (by omega)
  obtain ⟨j, rfl⟩ : ∃ j : Nat, i = (j : Int) := Int.eq_ofNat_of_zero_le (by omega)
  have HY := Lib.hid (dsymZ_yes q1 q2)
  have HD := Lib.hid q1
  clear HZ q1 q2

  go_wp2
  clear cc
  go_loopg [6] m.length (fun f i wr => ∃ k : Nat, k + f = m.length ∧ i = .int .i64 k ∧ Bel w2 wr ∧ Hid ((m.take k).all (fun x => !(symF s j x)) = true))
  case atStart => exact ⟨0, by omega, rfl, Bel.refl _, by show _ = _; simp⟩
  case round =>
    obtain ⟨k, hk, rfl, Z, HB⟩ := hrel
    have hk2 : k ≤ m.length := by omega
    have HK := Lib.hid hk
    clear hk
    have X5 := Z.keep X2
    have Y5 := Y2.trans Z
    have s5 := Y5.size
    obtain ⟨cc, _, zx5⟩ := X5.facts
    have r1 : wr.cell? ⟨w.heap.size, 1, none⟩ = some (.int .i64 (s : Int)) := cc 1
    have r4 : wr.cell? ⟨w.heap.size, 4, none⟩ = some (.slice A m.length cp) := cc 4
    clear cc
    by_cases hlt : k < m.length
    · obtain ⟨b1, o1, rfl, z1, hc1⟩ := hA (by omega)
      have hx : Hid (m[k]? = some (m[k]'hlt)) := List.getElem?_eq_getElem hlt
      obtain ⟨u, g1, ru⟩ := hc1 k _ hx.out
      replace g1 := Y5.cell1 z1 g1
      have z1' := Nat.lt_of_lt_of_le z1 s5
      replace ru := ru.keep Y5
      have hrow := dec_row HD.out hx.out
      generalize m[k]'hlt = xs at *
      clear hc1 hA
      obtain ⟨l1, l2, l3⟩ := hrow
      obtain ⟨Au, cu, rfl, k1, k2, hu⟩ := id ru
      obtain ⟨bu, ou, rfl, _, _⟩ := hu (by omega)
      have rt := ru.take (t := s) (by omega)
      have rd := ru.drop (t := s) (by omega)
      have HRD := Lib.hid rd
      have HRT := Lib.hid rt
      have i0 : (0 : Int) ≤ (k : Int) := by omega
      have i1 : (k : Int) < (m.length : Int) := by omega
      have i2 : (s : Int) ≤ (cu : Int) := by omega
      have i3 : (s : Int) ≤ (xs.length : Int) := by omega
      have i4 : (0 : Int) ≤ (s : Int) := by omega
      have i5 : (xs.length : Int) ≤ (cu : Int) := by omega
      have i6 : ¬ cu = s := by omega
      have i7 : s ≤ xs.length := by omega
      have i8 : s ≤ cu := by omega
      have HSF : Hid (symF s j xs = decide (xs.take s = unitV s j)) := rfl
      have h40 : s ≤ 40 := by omega
      have hjs : j < s := by omega
      have Yd := (Bel.refl wr).drew
      clear hu l2 rd rt l1
      go_wp2_with fail
      go_region_held3 (fun w' => w'.cell? ⟨w.heap.size, 1, none⟩ = some (.int .i64 (s : Int)) ∧ w'.cell? ⟨w.heap.size, 4, none⟩ = some (.slice (some ⟨b1, o1, none⟩) m.length cp) ∧ w'.cell? ⟨b1, o1 + k, none⟩ = some (.slice (some ⟨bu, ou, none⟩) xs.length cu)) (first | exact ⟨hbT.cell1 zx5 r1, hbT.cell1 zx5 r4, hbT.cell1 z1' g1⟩ | exact ⟨hbE.cell1 (Nat.lt_of_lt_of_le zx5 hbT.size) (hbT.cell1 zx5 r1), hbE.cell1 (Nat.lt_of_lt_of_le zx5 hbT.size) (hbT.cell1 zx5 r4), hbE.cell1 (Nat.lt_of_lt_of_le z1' hbT.size) (hbT.cell1 z1' g1)⟩ | go_keep) (first | (go_at_call 78; ((with_reducible refine (unitS s j _ h40 hjs).mono ?_); rintro e wT ⟨r, rfl, Ov, hbT⟩)) | (go_at_call 77; ((with_reducible refine (sEqS _ _ (xs.take s) (unitV s j) _ (by exact (HRT.out.keep Yd).keep hbT) (by exact Ov.reads)).mono ?_); rintro e wE ⟨rfl, hbE⟩)))
      have hbR := (Yd.trans hbT).trans hbE
      have r1E := hbR.cell1 zx5 r1
      have r4E := hbR.cell1 zx5 r4
      have g1E := hbR.cell1 z1' g1
      have zxE := Nat.lt_of_lt_of_le zx5 hbR.size
      have z1E := Nat.lt_of_lt_of_le z1' hbR.size
      have YE := Y5.trans hbR
      have RDE := Lib.hid (HRD.out.keep hbR)
      have ZE := Z.trans hbR
      clear hbT hbE hbR r1 r4 g1 Yd
      cases q : decide (xs.take s = unitV s j)
      · have HF := Lib.hid (all_step (p := fun x => !(symF s j x)) hx.out HB.out (by rw [HSF.out, q]; rfl))
        go_wp2
        go_roundg (m.length - (k + 1))
        case measure => have := HK.out; omega
        case rel => exact ⟨k + 1, by omega, by go_num, ZE, HF⟩
      · have HF := Lib.hid (find_hit hx.out HB.out (by rw [HSF.out, q]))
        have sE := YE.size
        have ldr : (xs.drop s).length ≤ 40 := by rw [List.length_drop]; omega
        obtain ⟨wx, hwx⟩ : ∃ wx, wx = wE := ⟨_, rfl⟩
        subst hwx
        have Yd := (Bel.refl wx).drew
        have Ya := Yd.alloc (.cells #[] 3)
        have O0 : OI (wx.drew.alloc (.cells #[] 3)) wx.heap.size (.slice (some ⟨wx.heap.size, 0, none⟩) 0 0) [] := OI.empty wx.drew
        have R0 := RDE.out.keep Ya
        have ra1 : (wx.drew.alloc (.cells #[] 3)).cell? ⟨w.heap.size, 1, none⟩ = some (.int .i64 (s : Int)) := Ya.cell1 zxE r1E
        have ra4 : (wx.drew.alloc (.cells #[] 3)).cell? ⟨w.heap.size, 4, none⟩ = some (.slice (some ⟨b1, o1, none⟩) m.length cp) := Ya.cell1 zxE r4E
        have ra5 : (wx.drew.alloc (.cells #[] 3)).cell? ⟨b1, o1 + k, none⟩ = some (.slice (some ⟨bu, ou, none⟩) xs.length cu) := Ya.cell1 z1E g1E
        go_wp2_with fail
        go_region_law (refine step_appI _ (by rfl) _ _ (by rfl) wx.heap.size _ _ [] (xs.drop s) (by rfl) (by rfl) (by exact O0) (by exact R0) (by simp only [List.length_nil]; omega) (by simp) ?_; intro v1 w1 O1 hG1)
        all_goals (
          have Y9 : Bel wx w1 := Ya.grown hG1 (fun q hq => (O0.block q hq).1)
          go_wp2
          refine bodyPost_ret (v := .tuple #[v1, .bool true]) (by simp [results, Try.results29, go_sem]) rfl ⟨_, by rw [HY.out, HF.out]; rfl, by rw [HY.out, HF.out]; exact OI.low O1 sE, YE.trans Y9⟩)
    · obtain rfl : k = m.length := by omega
      have i1 : ¬ (m.length : Int) < (m.length : Int) := by omega
      have HF := Lib.hid (find_miss (all_end HB.out))
      go_wp2
      refine bodyPost_ret (v := .tuple #[.slice (some ⟨wr.heap.size, 0, none⟩) 0 0, .bool false]) (by simp [results, Try.results29, go_sem]) rfl ⟨_, by rw [HY.out, HF.out]; rfl, by rw [HY.out, HF.out]; exact (OI.empty wr).low s5, Y5.alloc _⟩
end Go.Proofs.Ytamiamogablglaa
