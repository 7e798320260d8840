/-
  l8Copy, InsertVector of the reference: contracts. Conditions: a valid basis.
  InsertVector of the reference: contract. Conditions: a valid basis.
  SpanOf of the reference: contract. Conditions: a width of at most 40.
-/
import Derived.Test.YtjaagabbbnokdaaGreatGC
import Derived.Test.YtjaagabbbnokdaaGreatGD
import Derived.Deep.RegionHeld3
namespace Go.Proofs.YtjaagabbbnokdaaGreat
open Go.ChangeShapes Go.WideShapes Go.ChangeAt Go.RowKit
set_option linter.unusedVariables false
set_option maxRecDepth 100000

theorem drew_size (w : World) : w.drew.heap.size = w.heap.size := rfl
theorem ML.far {w w' : World} {lo g : Nat} {v : Value} {xss : List (List Int)} (h : ML w lo v xss) (hg : w.grownBy w' (some g)) (hlt : g < lo) : ML w' lo v xss := by
  obtain ⟨us, hl, ho, hr⟩ := h
  have hb : ∀ b, lo ≤ b → b < w.heap.size → w'.heap[b]? = w.heap[b]? := fun b h1 h2 => hg.block b h2 (fun e => by injection e with e; omega)
  refine ⟨us, hl, ?_, fun j u xs q1 q2 => ?_⟩
  · obtain ⟨hl2, h0 | ⟨g2, cap, cur, rfl, hb2, hh, h1, h2, h3, h4⟩⟩ := ho
    · exact ⟨hl2, .inl h0⟩
    · exact ⟨hl2, .inr ⟨g2, cap, cur, rfl, hb2, (hb g2 hb2 (Blk.lt hh)).trans hh, h1, h2, h3, h4⟩⟩
  · obtain ⟨A, c, hv, h1, h2, h3⟩ := hr j u xs q1 q2
    refine ⟨A, c, hv, h1, h2, fun h0 => ?_⟩
    obtain ⟨b, off, hA, hl3, hb3, hne, hc⟩ := h3 h0
    refine ⟨b, off, hA, hl3, Nat.lt_of_lt_of_le hb3 hg.size, hne, fun j x hx => ?_⟩
    rw [← hc j x hx]
    exact World.cell?_of_block (hb b hl3 hb3)
set_option maxHeartbeats 1000000 in
theorem l8cS (d : Int) (v : Value) (m : List (List Int)) (w : World) (hv : RII w v m) (hn : m.length ≤ 1048576) (hr : ∀ xs ∈ m, xs.length ≤ 1048576) :
    Calls Tryz.prog 124 #[.agg #[.int .i64 d, v]] w fun e w' => ∃ r, e = .returned (.agg #[.int .i64 d, r]) ∧ ML w' w.heap.size r m ∧ Bel w w' := by
  have HRW := Lib.hid hr
  clear hr
  obtain ⟨A, cp, rfl, h2, h3, hA⟩ := id hv
  have X := (Blk.new w 40 #[.int .i64 d, .slice A m.length cp]).alloc (.cells #[.int .i64 0, .slice none 0 0] 40)
  have R := Blk.new2 w (.cells #[.int .i64 d, .slice A m.length cp] 40) 40 #[.int .i64 0, .slice none 0 0]
  have Y : Bel w ((w.alloc (.cells #[.int .i64 d, .slice A m.length cp] 40)).alloc (.cells #[.int .i64 0, .slice none 0 0] 40)) := ((Bel.refl _).alloc _).alloc _
  obtain ⟨cx, _, zx⟩ := X.facts
  have r0 : ((w.alloc (.cells #[.int .i64 d, .slice A m.length cp] 40)).alloc (.cells #[.int .i64 0, .slice none 0 0] 40)).cell? ⟨w.heap.size, 0, none⟩ = some (.int .i64 d) := cx 0
  have r1 : ((w.alloc (.cells #[.int .i64 d, .slice A m.length cp] 40)).alloc (.cells #[.int .i64 0, .slice none 0 0] 40)).cell? ⟨w.heap.size, 1, none⟩ = some (.slice A m.length cp) := cx 1
  clear cx
  go_enter Tryz.func124, Tryz.ntmps124
  go_wp2_with fail
  go_region_held3 (fun w' => w'.cell? ⟨w.heap.size, 0, none⟩ = some (.int .i64 d) ∧ w'.cell? ⟨w.heap.size, 1, none⟩ = some (.slice A m.length cp)) (first | exact ⟨hbT.cell1 zx r0, hbT.cell1 zx r1⟩ | go_keep) (first | (go_at_call 126; ((with_reducible refine (copyS _ m _ (by exact (hv.keep Y).keep ((Bel.refl _).drew)) hn HRW.out).mono ?_); rintro e wT ⟨rv, rfl, Ov, hbT⟩; obtain ⟨Ar, ca, er, _, _⟩ := Ov.shape; subst er; have RT := hbT.keep (R.drew); have cq0 := RT.facts.1 0; have cq1 := RT.facts.1 1; have fq0 := RT.facts.2.1 0; have fq1 := RT.facts.2.1 1)))
  all_goals (
    have cr := RT.facts.1
    have zr := RT.lt
    have YT : Bel w wT := Y.drew.trans hbT
    have Y3 := (YT.setCell (p := ⟨w.heap.size + 1, 0, none⟩) (by dsimp only; omega) (.int .i64 d)).setCell (p := ⟨w.heap.size + 1, 1, none⟩) (by dsimp only; omega) (.slice Ar m.length ca)
    have O3 := ((Ov.low (show w.heap.size + 2 ≤ _ by simp)).setFar (p := ⟨w.heap.size + 1, 0, none⟩) (by dsimp only; omega) (.int .i64 d)).setFar (p := ⟨w.heap.size + 1, 1, none⟩) (by dsimp only; omega) (.slice Ar m.length ca)
    go_wp2
    refine bodyPost_ret (v := .agg #[.int .i64 d, .slice Ar m.length ca]) (by simp [results, Tryz.results124, go_sem, cr]) rfl ⟨_, rfl, ML.low O3 (by omega), Y3⟩)
def insF (c : Nat) (m : List (List Int)) (xs : List Int) : List (List Int) := if mrowB c xs = true then insB m xs else m
def putB (c : Nat) (m : List (List Int)) (xs : List Int) : Bool := mrowB c xs && innB m xs
theorem insF_no {c : Nat} {m : List (List Int)} {xs : List Int} (h : putB c m xs = false) : insF c m xs = m := by
  unfold insF
  unfold putB at h
  cases h1 : mrowB c xs
  · rfl
  · rw [h1] at h
    rw [if_pos rfl, insB_no (by simpa using h)]
theorem insF_yes {c : Nat} {m : List (List Int)} {P : Nat → Nat} {xs : List Int} (hR : Red c m P) (h : putB c m xs = true) : redZ (m ++ [xs]) c = insF c m xs := by
  unfold putB at h
  rw [Bool.and_eq_true] at h
  unfold insF
  rw [if_pos h.1, insB_yes h.2]
  exact ins_red hR (mrowB_row h.1).1 h.2
end Go.Proofs.YtjaagabbbnokdaaGreat

namespace Go.Proofs.YtjaagabbbnokdaaGreat
open Go.ChangeShapes Go.WideShapes Go.ChangeAt Go.RowKit
set_option linter.unusedVariables false
set_option maxRecDepth 100000

set_option maxHeartbeats 4000000 in
theorem insVS (c : Nat) (v u : Value) (m : List (List Int)) (xs : List Int) (P : Nat → Nat) (w : World) (hv : RII w v m) (hu : RI w u xs) (hR : Red c m P) (hc : c ≤ 40) :
    Calls Tryz.prog 101 #[.agg #[.int .i64 (c : Int), v], u] w fun e w' => ∃ r, e = .returned (.tuple #[.agg #[.int .i64 (c : Int), r], .bool (putB c m xs)]) ∧ ML w' w.heap.size r (insF c m xs) ∧ Bel w w' := by
  have HRR := Lib.hid hR
  have hlen := hR.len_le
  have HFB := Lib.hid (fitB_red hR hc xs)
  have HRW : Hid (∀ r ∈ m, r.length ≤ 1048576) := Lib.hid (fun r hr => by have := (hR.mtx r hr).1; omega)
  have HPB : Hid (putB c m xs = (mrowB c xs && innB m xs)) := rfl
  clear hR
  obtain ⟨A, cp, rfl, h2, h3, hA⟩ := id hv
  obtain ⟨Bu, cu, rfl, _, _, _⟩ := id hu
  have X := (Blk.new w 40 #[.int .i64 (c : Int), .slice A m.length cp]).alloc (.cells #[.int .i64 0, .slice none 0 0] 40)
  have R := Blk.new2 w (.cells #[.int .i64 (c : Int), .slice A m.length cp] 40) 40 #[.int .i64 0, .slice none 0 0]
  have Y : Bel w ((w.alloc (.cells #[.int .i64 (c : Int), .slice A m.length cp] 40)).alloc (.cells #[.int .i64 0, .slice none 0 0] 40)) := ((Bel.refl _).alloc _).alloc _
  obtain ⟨cx, _, _⟩ := X.facts
  have hcopy : ∀ (w2 : World), Blk w2 w.heap.size 40 #[.int .i64 (c : Int), .slice A m.length cp] → Bel w w2 → Calls Tryz.prog 124 #[.agg #[.int .i64 (c : Int), .slice A m.length cp]] w2 fun e w' => ∃ r, e = .returned (.agg #[.int .i64 (c : Int), r]) ∧ ML w' w2.heap.size r m ∧ Bel w2 w' := fun w2 _ hb => l8cS (c : Int) _ m w2 (hv.keep hb) (by omega) HRW.out
  have HCOPY := Lib.hid hcopy
  clear hcopy
  go_enter Tryz.func101, Tryz.ntmps101
  go_wp2_with fail
  refine (fitS (c : Int) _ _ m xs _ (hv.keep Y) (hu.keep Y)).mono ?_
  rintro e w1 ⟨rfl, hb1⟩
  have X1 := hb1.keep X
  have R1 := hb1.keep R
  have Y1 := Y.trans hb1
  clear cx
  obtain ⟨cx, _, zx⟩ := X1.facts
  cases q1 : mrowB c xs
  · rw [HFB.out, q1]
    have HQ : Hid (putB c m xs = false) := Lib.hid (by rw [HPB.out, q1]; rfl)
    clear q1
    go_wp2_with fail
    refine (HCOPY.out _ X1 Y1).mono ?_
    rintro e w2 ⟨r, rfl, O, hb2⟩
    obtain ⟨Ar, ca, er, _, _⟩ := O.shape
    subst er
    have R2 := hb2.keep R1
    obtain ⟨cr, fr, zr⟩ := R2.facts
    have sz1 := R1.lt
    have Y2 := Y1.trans hb2
    have Y3 := (Y2.setCell (p := ⟨w.heap.size + 1, 0, none⟩) (by dsimp only; omega) (.int .i64 (c : Int))).setCell (p := ⟨w.heap.size + 1, 1, none⟩) (by dsimp only; omega) (.slice Ar m.length ca)
    have O3 := ((O.low (show w.heap.size + 2 ≤ _ by omega)).setFar (p := ⟨w.heap.size + 1, 0, none⟩) (by dsimp only; omega) (.int .i64 (c : Int))).setFar (p := ⟨w.heap.size + 1, 1, none⟩) (by dsimp only; omega) (.slice Ar m.length ca)
    go_wp2
    refine bodyPost_ret (v := .tuple #[.agg #[.int .i64 (c : Int), .slice Ar m.length ca], .bool false]) (by simp [results, Tryz.results101, go_sem, cr]) rfl ⟨_, by rw [HQ.out], by rw [insF_no HQ.out]; exact ML.low O3 (by omega), Y3⟩
  have HQ1 := Lib.hid q1
  have HFT : Hid (fitB (c : Int) m xs = true) := Lib.hid (by rw [HFB.out, q1])
  rw [HFT.out]
  clear q1
  go_wp2_with fail
  refine (conS c _ _ m xs _ (hv.keep Y1) (hu.keep Y1) HFT.out).mono ?_
  rintro e w2 ⟨rfl, hb2⟩
  have X2 := hb2.keep X1
  have R2 := hb2.keep R1
  have Y2 := Y1.trans hb2
  clear cx
  obtain ⟨cx, _, zx⟩ := X2.facts
  cases q2 : innB m xs
  · have HQ : Hid (putB c m xs = false) := Lib.hid (by rw [HPB.out, q2]; simp)
    clear q2
    go_wp2_with fail
    refine (HCOPY.out _ X2 Y2).mono ?_
    rintro e w3 ⟨r, rfl, O, hb3⟩
    obtain ⟨Ar, ca, er, _, _⟩ := O.shape
    subst er
    have R3 := hb3.keep R2
    obtain ⟨cr, fr, zr⟩ := R3.facts
    have sz1 := R2.lt
    have Y3 := Y2.trans hb3
    have Y4 := (Y3.setCell (p := ⟨w.heap.size + 1, 0, none⟩) (by dsimp only; omega) (.int .i64 (c : Int))).setCell (p := ⟨w.heap.size + 1, 1, none⟩) (by dsimp only; omega) (.slice Ar m.length ca)
    have O3 := ((O.low (show w.heap.size + 2 ≤ _ by omega)).setFar (p := ⟨w.heap.size + 1, 0, none⟩) (by dsimp only; omega) (.int .i64 (c : Int))).setFar (p := ⟨w.heap.size + 1, 1, none⟩) (by dsimp only; omega) (.slice Ar m.length ca)
    go_wp2
    refine bodyPost_ret (v := .tuple #[.agg #[.int .i64 (c : Int), .slice Ar m.length ca], .bool false]) (by simp [results, Tryz.results101, go_sem, cr]) rfl ⟨_, by rw [HQ.out], by rw [insF_no HQ.out]; exact ML.low O3 (by omega), Y4⟩
  have HQ : Hid (putB c m xs = true) := Lib.hid (by rw [HPB.out, HQ1.out, q2]; rfl)
  have HYES := Lib.hid (insF_yes HRR.out HQ.out)
  have HRX : Hid (Row c xs) := Lib.hid (mrowB_row HQ1.out).1
  have HMX : Hid (Mtx c (m ++ [xs])) := Lib.hid (mtx_app HRR.out.mtx HRX.out)
  have hx40 : xs.length ≤ 40 := (mrowB_row HQ1.out).2
  have HML : Hid ((m ++ [xs]).length ≤ 1048576) := Lib.hid (by rw [List.length_append, List.length_singleton]; omega)
  have r0 : w2.cell? ⟨w.heap.size, 0, none⟩ = some (.int .i64 (c : Int)) := cx 0
  have r1 : w2.cell? ⟨w.heap.size, 1, none⟩ = some (.slice A m.length cp) := cx 1
  have RU := Lib.hid (hu.keep Y2)
  have HV := Lib.hid (hv.keep Y2)
  have Yd := (Bel.refl w2).drew
  have sz2 := R2.lt
  clear q2 cx hb1 hb2 X X1 R R1 Y Y1 HFB HPB HFT HCOPY
  go_wp2_with fail
  go_region_held3 (fun w' => w'.cell? ⟨w.heap.size, 0, none⟩ = some (.int .i64 (c : Int)) ∧ w'.cell? ⟨w.heap.size, 1, none⟩ = some (.slice A m.length cp)) (first | exact ⟨YE.cell1 zx r0, YE.cell1 zx r1⟩ | exact ⟨YB.cell1 zx r0, YB.cell1 zx r1⟩ | exact ⟨YA.cell1 zx r0, YA.cell1 zx r1⟩ | exact ⟨YC.cell1 zx r0, YC.cell1 zx r1⟩ | go_keep) (first
    | (go_at_call 126; refine (copyS _ m _ (HV.out.keep Yd) (by omega) HRW.out).mono ?_; rintro e wC ⟨cv, rfl, Oc, hbC⟩; obtain ⟨Ac, ca, ec, _, _⟩ := Oc.shape; subst ec; have YC : Bel w2 wC := Yd.trans hbC; have OcL : ML wC w2.heap.size (.slice Ac m.length ca) m := Oc.low Yd.size; have HCO := Oc.block)
    | (refine step_appE _ (by rfl) _ _ (by rfl) _ _ xs (by rfl) (by rfl) (by first | exact Blk.new _ _ _ | exact hbC.keep (Blk.new _ _ _)) (by first | exact RU.out.keep (Yd.alloc _) | exact RU.out.keep YC | exact RU.out.keep (YC.alloc _)) (by omega) ?_; intro vA w1 O1 hG1 ho1; obtain ⟨A1, c1, e1, _, _, _⟩ := O1.reads; subst e1; have YA : Bel w2 w1 := (by first | exact (Yd.alloc _).grown hG1 (fun q hq => by cases hq; exact Nat.le_refl _) | exact (YC.alloc _).grown hG1 (fun q hq => by cases hq; exact YC.size) | exact YC.grown hG1 (fun q hq => by cases hq; exact Nat.le_refl _)); have O1L : OI w1 w2.heap.size (.slice A1 xs.length c1) xs := OI.low O1 (by first | exact Nat.le_refl _ | exact YC.size); have HO1 := O1.block; (try have OcA : ML w1 w2.heap.size (.slice Ac m.length ca) m := (by first | exact OcL.keep (((Bel.refl _).alloc _).grown hG1 (fun q hq => by cases hq; exact Nat.le_refl _)) | exact (Oc.far hG1 (by simp)).low (by first | exact (Yd.alloc _).size | exact Yd.size))))
    | (refine step_appR _ (by rfl) _ _ (by rfl) w2.heap.size _ _ _ m xs (by rfl) (by rfl) (by first | exact OcA.keep ((Bel.refl _).alloc _) | exact OcL.keep ((Bel.refl _).alloc _) | exact OcL) (by first | exact (Blk.new _ _ _).facts.1 0 | exact (hbC.keep (Blk.new _ _ _)).facts.1 0) (by rfl) (by first | exact (O1L.keep ((Bel.refl _).alloc _)).rx (fun q hq e => by have t1 := HCO q e; have t2 := HO1 q hq; have t3 := ho1.imp (fun h => Option.some.inj (hq.symm.trans h)) (fun h => Option.some.inj (hq.symm.trans h)); clear hq e ho1; (try simp only [World.size_alloc] at t1 t2 t3); (try simp only [drew_size] at t1 t2 t3); omega) | exact ((O1L.keep hbC).keep ((Bel.refl _).alloc _)).rx (fun q hq e => by have t1 := HCO q e; have t2 := HO1 q hq; omega) | exact ((O1L.keep ((Bel.refl _).alloc _)).keep hbC).rx (fun q hq e => by have t1 := HCO q e; have t2 := HO1 q hq; simp only [World.size_alloc] at t1; omega)) (by omega) (by first | exact (YA.alloc _).size | exact (YC.alloc _).size | exact YC.size) ?_; intro v4 w4 O4 hG4 ho4; have YB : Bel w2 w4 := (by first | exact (YA.alloc _).grown hG4 (fun q hq => (OcL.block q hq).1) | exact (YC.alloc _).grown hG4 (fun q hq => (OcL.block q hq).1) | exact YC.grown hG4 (fun q hq => (OcL.block q hq).1)))
    | (go_at_call 126; refine (copyS _ m _ (HV.out.keep (Yd.alloc _)) (by omega) HRW.out).mono ?_; rintro e wC ⟨cv, rfl, Oc, hbC⟩; obtain ⟨Ac, ca, ec, _, _⟩ := Oc.shape; subst ec; have YC : Bel w2 wC := (Yd.alloc _).trans hbC; have OcL : ML wC w2.heap.size (.slice Ac m.length ca) m := Oc.low (Yd.alloc _).size; have HCO := Oc.block)
    | (go_at_call 125; ((with_reducible refine (elimS _ (m ++ [xs]) c _ (by exact O4.reads) HMX.out hc HML.out).mono ?_); rintro e wE ⟨rv, rfl, Oe, hbE⟩; obtain ⟨Ae, ce, ee, _, _⟩ := Oe.shape; subst ee; have YE : Bel w2 wE := YB.trans hbE; have RE := YE.keep R2; have cq0 := RE.facts.1 0; have cq1 := RE.facts.1 1; have fq0 := RE.facts.2.1 0; have fq1 := RE.facts.2.1 1)))
  all_goals (
    have cr := RE.facts.1
    have zr := RE.lt
    have YF := Y2.trans YE
    have hlo : w2.heap.size ≤ w4.heap.size := YB.size
    have Y3 := (YF.setCell (p := ⟨w.heap.size + 1, 0, none⟩) (by dsimp only; omega) (.int .i64 (c : Int))).setCell (p := ⟨w.heap.size + 1, 1, none⟩) (by dsimp only; omega) (.slice Ae (redZ (m ++ [xs]) c).length ce)
    have O3 := ((Oe.low (show w.heap.size + 2 ≤ _ by omega)).setFar (p := ⟨w.heap.size + 1, 0, none⟩) (by dsimp only; omega) (.int .i64 (c : Int))).setFar (p := ⟨w.heap.size + 1, 1, none⟩) (by dsimp only; omega) (.slice Ae (redZ (m ++ [xs]) c).length ce)
    go_wp2
    refine bodyPost_ret (v := .tuple #[.agg #[.int .i64 (c : Int), .slice Ae (redZ (m ++ [xs]) c).length ce], .bool true]) (by simp [results, Tryz.results101, go_sem, cr]) rfl ⟨_, by rw [HQ.out], by rw [← HYES.out]; exact ML.low O3 (by omega), Y3⟩)
end Go.Proofs.YtjaagabbbnokdaaGreat

namespace Go.Proofs.YtjaagabbbnokdaaGreat
open Go.ChangeShapes Go.WideShapes Go.ChangeAt Go.RowKit
set_option linter.unusedVariables false
set_option maxRecDepth 100000

theorem span_stepF {c : Nat} {vs : List (List Int)} {k : Nat} {v : List Int} (hx : vs[k]? = some v) : spanZ c (vs.take (k + 1)) = insF c (spanZ c (vs.take k)) v := by
  unfold insF
  cases h : mrowB c v
  · rw [span_no hx h]; rfl
  · rw [span_yes hx h, if_pos rfl]
set_option maxHeartbeats 4000000 in
theorem spanS (v : Value) (vs : List (List Int)) (c : Nat) (w : World) (hv : RII w v vs) (hc : c ≤ 40) :
    Calls Tryz.prog 69 #[v, .int .i64 (c : Int)] w fun e w' => ∃ r, e = .returned (.agg #[.int .i64 (c : Int), r]) ∧ ML w' w.heap.size r (spanZ c vs) ∧ Bel w w' := by
  obtain ⟨A, cp, rfl, h2, h3, hA⟩ := id hv
  have R0 := Blk.new w 40 #[.int .i64 0, .slice none 0 0]
  have Y0 : Bel w (w.alloc (.cells #[.int .i64 0, .slice none 0 0] 40)) := (Bel.refl _).alloc _
  go_enter Tryz.func69, Tryz.ntmps69
  go_wp2_with fail
  refine (newBS c _ hc).mono ?_
  rintro e w1 ⟨rfl, hb1⟩
  have R1 := (hb1.keep R0).alloc (.cells #[.int .i64 (c : Int), .slice none 0 0] 40)
  have B1 := Blk.new w1 40 #[.int .i64 (c : Int), .slice none 0 0]
  have Y1 := (Y0.trans hb1).alloc (.cells #[.int .i64 (c : Int), .slice none 0 0] 40)
  have sz1 := (hb1.keep R0).lt
  obtain ⟨pb, hpb⟩ : ∃ pb, pb = w1.heap.size := ⟨_, rfl⟩
  rw [← hpb] at B1 sz1
  go_wp2
  rw [← hpb]
  clear hpb
  go_loopg [6] vs.length (fun f i wr => ∃ (k : Nat) (o : Value), k + f = vs.length ∧ i = .int .i64 k ∧ Blk wr w.heap.size 40 #[.int .i64 0, .slice none 0 0] ∧ Blk wr pb 40 #[.int .i64 (c : Int), o] ∧ ML wr (pb + 1) o (spanZ c (vs.take k)) ∧ Bel w wr)
  case atStart => exact ⟨0, _, by omega, rfl, R1, B1, ML.nil _ _, Y1⟩
  case round =>
    clear R0 R1 B1 Y0 Y1
    obtain ⟨k, o, hk, rfl, R, B, O, Y⟩ := hrel
    have hk2 : k ≤ vs.length := by omega
    have HK := Lib.hid hk
    clear hk
    by_cases hlt : k < vs.length
    · obtain ⟨b1, o1, rfl, z1, hc1⟩ := hA (by omega)
      have hx : Hid (vs[k]? = some (vs[k]'hlt)) := List.getElem?_eq_getElem hlt
      obtain ⟨u, g1, ru⟩ := hc1 k _ hx.out
      replace g1 := Y.cell1 z1 g1
      have z1' := Nat.lt_of_lt_of_le z1 Y.size
      have RU := Lib.hid (ru.keep Y)
      generalize vs[k]'hlt = xs at *
      have HST := Lib.hid (span_stepF (c := c) hx.out)
      obtain ⟨P, hP⟩ := span_red c (vs.take k)
      have HP := Lib.hid hP
      clear hP hc1 hA ru
      have i0 : (0 : Int) ≤ (k : Int) := by omega
      have i1 : (k : Int) < (vs.length : Int) := by omega
      have qb := B.lt
      obtain ⟨cb, fb, zb⟩ := B.facts
      have r0 : wr.cell? ⟨pb, 0, none⟩ = some (.int .i64 (c : Int)) := cb 0
      have r1 : wr.cell? ⟨pb, 1, none⟩ = some o := cb 1
      clear cb fb
      generalize spanZ c (vs.take k) = m at *
      obtain ⟨Ao, co, eo, _, _⟩ := O.shape
      subst eo
      have Yd := (Bel.refl wr).drew
      have RM := Lib.hid O.reads
      go_wp2_with fail
      refine (l1In_yes (c : Int) 0 40 _ (by omega) (by omega)).mono ?_
      rintro e w2 ⟨rfl, rfl⟩
      go_wp2_with fail
      go_region_held3 (fun w' => w'.cell? ⟨pb, 0, none⟩ = some (.int .i64 (c : Int)) ∧ w'.cell? ⟨pb, 1, none⟩ = some (.slice Ao m.length co) ∧ w'.cell? ⟨b1, o1 + k, none⟩ = some u) (first | exact ⟨YE.cell1 zb r0, YE.cell1 zb r1, YE.cell1 z1' g1⟩ | exact ⟨(YE.alloc _).cell1 zb r0, (YE.alloc _).cell1 zb r1, (YE.alloc _).cell1 z1' g1⟩ | exact ⟨YS.cell1 zb r0, YS.cell1 zb r1, YS.cell1 z1' g1⟩ | go_keep) (first
        | (go_at_call 101; refine (insVS c _ _ m xs P _ (RM.out.keep Yd) (RU.out.keep Yd) HP.out hc).mono ?_; rintro e wE ⟨r, rfl, Oe, hbE⟩; obtain ⟨Ae, ce, ee, _, _⟩ := Oe.shape; subst ee; have YE : Bel wr wE := Yd.trans hbE)
        | (go_at_call 101; refine (insVS c _ _ m xs P _ (RM.out.keep ((Bel.refl wr).alloc _).drew) (RU.out.keep ((Bel.refl wr).alloc _).drew) HP.out hc).mono ?_; rintro e wE ⟨r, rfl, Oe, hbE⟩; obtain ⟨Ae, ce, ee, _, _⟩ := Oe.shape; subst ee; have YE : Bel wr wE := (((Bel.refl wr).alloc _).drew).trans hbE; have XZ : Blk wE wr.heap.size 40 #[.int .i64 0, .slice none 0 0] := hbE.keep (Blk.new wr _ _).drew; have cq0 := XZ.facts.1 0; have cq1 := XZ.facts.1 1; have fq0 := XZ.facts.2.1 0; have fq1 := XZ.facts.2.1 1; have YS := (YE.setCell (p := ⟨wr.heap.size, 0, none⟩) (Nat.le_refl _) (.int .i64 (c : Int))).setCell (p := ⟨wr.heap.size, 1, none⟩) (Nat.le_refl _) (.slice Ae (insF c m xs).length ce)))
      all_goals (
        first
        | (have XE : Blk ((wE.setCell ⟨wr.heap.size, 0, none⟩ (.int .i64 (c : Int))).setCell ⟨wr.heap.size, 1, none⟩ (.slice Ae (insF c m xs).length ce)) wr.heap.size 40 #[.int .i64 (c : Int), .slice Ae (insF c m xs).length ce] := (XZ.set 0 (.int .i64 (c : Int))).set 1 (.slice Ae (insF c m xs).length ce)
           have RE := ((YE.keep R).far (p := ⟨wr.heap.size, 0, none⟩) (by have := R.lt; dsimp only; omega) (.int .i64 (c : Int))).far (p := ⟨wr.heap.size, 1, none⟩) (by have := R.lt; dsimp only; omega) (.slice Ae (insF c m xs).length ce)
           have BE := ((YE.keep B).far (p := ⟨wr.heap.size, 0, none⟩) (by dsimp only; omega) (.int .i64 (c : Int))).far (p := ⟨wr.heap.size, 1, none⟩) (by dsimp only; omega) (.slice Ae (insF c m xs).length ce)
           have YF := Y.trans YS
           have OE := ((((Oe.low (show wr.heap.size + 1 ≤ _ by simp)).setFar (p := ⟨wr.heap.size, 0, none⟩) (by dsimp only; omega) (.int .i64 (c : Int))).setFar (p := ⟨wr.heap.size, 1, none⟩) (by dsimp only; omega) (.slice Ae (insF c m xs).length ce)).low (show pb + 1 ≤ _ by omega))
           clear cq0 cq1 fq0 fq1 XZ YS YE hbE Oe
           generalize ((wE.setCell ⟨wr.heap.size, 0, none⟩ (.int .i64 (c : Int))).setCell ⟨wr.heap.size, 1, none⟩ (.slice Ae (insF c m xs).length ce)) = wF at *
           generalize wr.heap.size = xb at *)
        | (have XE := Blk.new wE 40 #[.int .i64 (c : Int), .slice Ae (insF c m xs).length ce]
           have RE := (YE.keep R).alloc (.cells #[.int .i64 (c : Int), .slice Ae (insF c m xs).length ce] 40)
           have BE := (YE.keep B).alloc (.cells #[.int .i64 (c : Int), .slice Ae (insF c m xs).length ce] 40)
           have YF := (Y.trans YE).alloc (.cells #[.int .i64 (c : Int), .slice Ae (insF c m xs).length ce] 40)
           have OE := (Oe.low (show pb + 1 ≤ _ from qb)).keep ((Bel.refl wE).alloc (.cells #[.int .i64 (c : Int), .slice Ae (insF c m xs).length ce] 40))
           clear YE hbE Oe
           generalize wE.alloc (.cells #[.int .i64 (c : Int), .slice Ae (insF c m xs).length ce] 40) = wF at *
           generalize wE.heap.size = xb at *)
        rw [← HST.out] at XE OE
        (try rw [← HST.out])
        obtain ⟨cx, fx, zx⟩ := XE.facts
        obtain ⟨cb, fb, zbE⟩ := BE.facts
        have q0 := cx 0
        have q1 := cx 1
        clear r0 r1 g1 cx
        have R3 := (RE.far (p := ⟨pb, 0, none⟩) (by dsimp only; omega) (.int .i64 (c : Int))).far (p := ⟨pb, 1, none⟩) (by dsimp only; omega) (.slice Ae (spanZ c (vs.take (k + 1))).length ce)
        have B3 := (BE.set 0 (.int .i64 (c : Int))).set 1 (.slice Ae (spanZ c (vs.take (k + 1))).length ce)
        have O3 := (OE.setFar (p := ⟨pb, 0, none⟩) (by dsimp only; omega) (.int .i64 (c : Int))).setFar (p := ⟨pb, 1, none⟩) (by dsimp only; omega) (.slice Ae (spanZ c (vs.take (k + 1))).length ce)
        have Y3 := (YF.setCell (p := ⟨pb, 0, none⟩) (by dsimp only; omega) (.int .i64 (c : Int))).setCell (p := ⟨pb, 1, none⟩) (by dsimp only; omega) (.slice Ae (spanZ c (vs.take (k + 1))).length ce)
        go_wp2
        go_roundg (vs.length - (k + 1))
        case measure => have := HK.out; omega
        case rel => exact ⟨k + 1, _, by omega, by go_num, R3, B3, O3, Y3⟩)
    · obtain rfl : k = vs.length := by omega
      have i1 : ¬ (vs.length : Int) < (vs.length : Int) := by omega
      rw [span_all] at O
      obtain ⟨Ao, co, eo, _, _⟩ := O.shape
      subst eo
      obtain ⟨cb, fb, zb⟩ := B.facts
      obtain ⟨cr, fr, zr⟩ := R.facts
      have Y3 : Bel w ((wr.setCell ⟨w.heap.size, 0, none⟩ (.int .i64 (c : Int))).setCell ⟨w.heap.size, 1, none⟩ (.slice Ao (spanZ c vs).length co)) := (Y.setCell (p := ⟨w.heap.size, 0, none⟩) (Nat.le_refl _) _).setCell (p := ⟨w.heap.size, 1, none⟩) (Nat.le_refl _) _
      have O3 := (O.setFar (p := ⟨w.heap.size, 0, none⟩) (by dsimp only; omega) (.int .i64 (c : Int))).setFar (p := ⟨w.heap.size, 1, none⟩) (by dsimp only; omega) (.slice Ao (spanZ c vs).length co)
      go_wp2
      refine bodyPost_ret (v := .agg #[.int .i64 (c : Int), .slice Ao (spanZ c vs).length co]) (by simp [results, Tryz.results69, go_sem, cr]) rfl ⟨_, rfl, ML.low O3 (by omega), Y3⟩
end Go.Proofs.YtjaagabbbnokdaaGreat
