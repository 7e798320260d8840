/-
  Plain words for null spaces: pivots, the vectors of free columns as the program and the reference lay them. No condition.
  freeColumns, nullSpace, OrthogonalSpace of the program: contracts. Conditions: a reduced matrix of at most 40 columns.
  nullSpace, OrthogonalSpace of the program: contracts. Conditions: a reduced matrix of at most 40 columns.
  Identity, NullSpace, OrthogonalSpace of the reference: contracts. Conditions: a reduced matrix of at most 40 columns.
-/
import Derived.Test.YtjaagabbbnokdaaGreatGB
import Derived.Test.YtjaagabbbnokdaaGreatGE
import Derived.StillTailTactics
import Derived.Deep.RegionHeld3
namespace Go.Proofs.YtjaagabbbnokdaaGreat
set_option linter.unusedVariables false
set_option maxRecDepth 100000

def npB (k : Nat) (r : List Int) : Bool := !(leadV r == (k : Int))
theorem pivB_all (m : List (List Int)) (k : Nat) : pivB m k = !(m.all (npB k)) := by
  unfold pivB
  induction m with
  | nil => rfl
  | cons a l ih =>
    rw [List.any_cons, List.all_cons, ih]
    unfold npB
    cases (leadV a == (k : Int)) <;> simp
/-- The free columns as numbers of the program. -/
def fiZ (c : Nat) (m : List (List Int)) : List Int := (freeZ c m).map fun (k : Nat) => (k : Int)
theorem fiZ_len (c : Nat) (m : List (List Int)) : (fiZ c m).length = (freeZ c m).length := by simp [fiZ]
theorem fiZ_yes {m : List (List Int)} {k : Nat} (h : pivB m k = true) : fiZ (k + 1) m = fiZ k m := by unfold fiZ; rw [free_step_yes h]
theorem fiZ_no {m : List (List Int)} {k : Nat} (h : pivB m k = false) : fiZ (k + 1) m = fiZ k m ++ [(k : Int)] := by unfold fiZ; rw [free_step_no h]; simp
theorem fiZ_at {c : Nat} {m : List (List Int)} {j f : Nat} (h : (freeZ c m)[j]? = some f) : (fiZ c m)[j]? = some (f : Int) := by simp [fiZ, h]
theorem nullZ_at {c : Nat} {m : List (List Int)} {j f : Nat} (h : (freeZ c m)[j]? = some f) : (nullZ c m)[j]? = some (nvec c m f) := by simp [nullZ, h]
theorem nullZ_len (c : Nat) (m : List (List Int)) : (nullZ c m).length = (freeZ c m).length := by simp [nullZ]
theorem nvK_zero (c : Nat) (m : List (List Int)) (f : Nat) : nvK c m f 0 = (List.replicate c 0).set f 1 := rfl
theorem nvK_step {c : Nat} {m : List (List Int)} {P : Nat → Nat} (h : Red c m P) {k : Nat} (hk : k < m.length) (f : Nat) : (nvK c m f k).set (P k) (negF (ent (rw_ m k) f)) = nvK c m f (k + 1) := by
  show _ = (nvK c m f k).set (lead (rw_ m k)) (negF (ent (rw_ m k) f))
  rw [h.lead_eq hk]
theorem nvec_eq (c : Nat) (m : List (List Int)) (f : Nat) : nvec c m f = nvK c m f m.length := rfl
/-- Which row has its pivot in a column; -1: none. -/
def pvK (c : Nat) (m : List (List Int)) : Nat → List Int
  | 0 => List.replicate c (-1)
  | k + 1 => (pvK c m k).set (lead (rw_ m k)) (k : Int)
theorem pvK_len (c : Nat) (m : List (List Int)) : ∀ k, (pvK c m k).length = c
  | 0 => by simp [pvK]
  | k + 1 => by unfold pvK; rw [List.length_set]; exact pvK_len c m k
theorem pvK_step {c : Nat} {m : List (List Int)} {P : Nat → Nat} (h : Red c m P) {k : Nat} (hk : k < m.length) : (pvK c m k).set (P k) (k : Int) = pvK c m (k + 1) := by
  show _ = (pvK c m k).set (lead (rw_ m k)) (k : Int)
  rw [h.lead_eq hk]
theorem pvK_at {c : Nat} {m : List (List Int)} {P : Nat → Nat} (h : Red c m P) : ∀ k, k ≤ m.length → ∀ i, i < k → ent (pvK c m k) (P i) = (i : Int)
  | 0, _, i, hi => by omega
  | k + 1, hk, i, hi => by
    rw [← pvK_step h (show k < m.length by omega), ent_set _ _ _ _ (by rw [pvK_len]; exact h.low k (by omega))]
    by_cases e : i = k
    · subst e; rw [if_pos rfl]
    · rw [if_neg (fun e2 => by have := h.mono i k (by omega) (by omega); omega)]
      exact pvK_at h k (by omega) i (by omega)
theorem pvK_rest {c : Nat} {m : List (List Int)} {P : Nat → Nat} (h : Red c m P) {l : Nat} (hl : l < c) : ∀ k, k ≤ m.length → (∀ i, i < k → P i ≠ l) → ent (pvK c m k) l = -1
  | 0, _, _ => by
    have : (List.replicate c (-1 : Int))[l]? = some (-1) := by simp [hl]
    exact ent_in this
  | k + 1, hk, hn => by
    rw [← pvK_step h (show k < m.length by omega), ent_set _ _ _ _ (by rw [pvK_len]; exact h.low k (by omega)), if_neg (fun e => hn k (by omega) e.symm)]
    exact pvK_rest h hl k (by omega) (fun i hi => hn i (by omega))
/-- The row whose pivot is in column l, or -1. -/
theorem pv_cases {c : Nat} {m : List (List Int)} {P : Nat → Nat} (h : Red c m P) {l : Nat} (hl : l < c) :
    (pivB m l = true ∧ ∃ i, i < m.length ∧ P i = l ∧ ent (pvK c m m.length) l = (i : Int)) ∨ (pivB m l = false ∧ ent (pvK c m m.length) l = -1 ∧ ∀ i, i < m.length → P i ≠ l) := by
  cases hp : pivB m l
  · exact .inr ⟨rfl, pvK_rest h hl _ (Nat.le_refl _) (pivB_no h hp), pivB_no h hp⟩
  · obtain ⟨i, hi, e⟩ := (pivB_iff h l).1 hp
    refine .inl ⟨rfl, i, hi, e, ?_⟩
    rw [← e]
    exact pvK_at h _ (Nat.le_refl _) i hi
/-- The vector of a free column, its first j numbers laid. -/
def vJ (c : Nat) (m : List (List Int)) (f j : Nat) : List Int := mixK' (unitV c f) (nvec c m f) j
where mixK' (xs zs : List Int) (k : Nat) : List Int := zs.take k ++ xs.drop k
theorem vJ_len (c : Nat) (m : List (List Int)) (f j : Nat) : (vJ c m f j).length = c := by
  unfold vJ vJ.mixK'
  rw [List.length_append, List.length_take, List.length_drop, unitV_len, nvec_eq, nvK_len]
  omega
theorem vJ_zero (c : Nat) (m : List (List Int)) (f : Nat) : vJ c m f 0 = unitV c f := by simp [vJ, vJ.mixK']
theorem vJ_all (c : Nat) (m : List (List Int)) (f : Nat) : vJ c m f c = nvec c m f := by
  unfold vJ vJ.mixK'
  have h : (nvec c m f).length = c := by rw [nvec_eq, nvK_len]
  rw [List.take_of_length_le (by omega), List.drop_eq_nil_of_le (by rw [unitV_len]; exact Nat.le_refl _), List.append_nil]
theorem vJ_step (c : Nat) (m : List (List Int)) (f : Nat) {j : Nat} (hj : j < c) : (vJ c m f j).set j (ent (nvec c m f) j) = vJ c m f (j + 1) := by
  have hl : (nvec c m f).length = c := by rw [nvec_eq, nvK_len]
  apply List.ext_getElem?
  intro i
  by_cases e : i = j
  · subst e
    rw [List.getElem?_set_self (by rw [vJ_len]; omega)]
    unfold vJ vJ.mixK'
    rw [List.getElem?_append_left (by rw [List.length_take]; omega), List.getElem?_take, if_pos (by omega), ent_get (by omega)]
  · rw [List.getElem?_set_ne (Ne.symm e)]
    unfold vJ vJ.mixK'
    rcases Nat.lt_or_ge i j with h | h
    · rw [List.getElem?_append_left (by rw [List.length_take]; omega), List.getElem?_append_left (by rw [List.length_take]; omega), List.getElem?_take, List.getElem?_take, if_pos h, if_pos (by omega)]
    · rw [List.getElem?_append_right (by rw [List.length_take]; omega), List.getElem?_append_right (by rw [List.length_take]; omega), List.length_take, List.length_take, List.getElem?_drop, List.getElem?_drop]
      congr 1
      omega
theorem vJ_at (c : Nat) (m : List (List Int)) (f : Nat) {j : Nat} (hj : j < c) : (vJ c m f j)[j]? = some (ent (unitV c f) j) := by
  have hl : (nvec c m f).length = c := by rw [nvec_eq, nvK_len]
  unfold vJ vJ.mixK'
  rw [List.getElem?_append_right (by rw [List.length_take]; omega), List.length_take, List.getElem?_drop, show j + (j - min j (nvec c m f).length) = j by omega]
  exact ent_get (by rw [unitV_len]; exact hj)
theorem vJ_piv {c : Nat} {m : List (List Int)} {P : Nat → Nat} (h : Red c m P) (f : Nat) {j i : Nat} (hj : j < c) (hi : i < m.length) (e : P i = j) : (vJ c m f j).set j (negF (ent (rw_ m i) f)) = vJ c m f (j + 1) := by
  rw [← vJ_step c m f hj]
  congr 1
  rw [← e]
  exact (nvec_piv h f hi).symm
theorem vJ_free {c : Nat} {m : List (List Int)} {P : Nat → Nat} (h : Red c m P) {f j : Nat} (hf : f < c) (hj : j < c) (hn : ∀ i, i < m.length → P i ≠ j) : vJ c m f (j + 1) = vJ c m f j := by
  rw [← vJ_step c m f hj, nvec_rest h hf hn]
  apply List.ext_getElem?
  intro i
  by_cases e : i = j
  · subst e
    rw [List.getElem?_set_self (by rw [vJ_len]; omega), vJ_at c m f hj, ent_in (unitV_at (i := f) hj)]
  · rw [List.getElem?_set_ne (Ne.symm e)]
/-- The rows of the identity. -/
def idZ (c : Nat) : List (List Int) := (List.range c).map fun f => unitV c f
theorem idZ_at {c f : Nat} (h : f < c) : (idZ c)[f]? = some (unitV c f) := by simp [idZ, h]
theorem idZ_len (c : Nat) : (idZ c).length = c := by simp [idZ]
theorem null_nil (c : Nat) : nullZ c [] = idZ c := by
  have e : freeZ c [] = List.range c := by
    unfold freeZ
    rw [List.filter_eq_self]
    intro k _
    rfl
  unfold nullZ idZ
  rw [e]
  rfl
end Go.Proofs.YtjaagabbbnokdaaGreat

namespace Go.Proofs.YtjaagabbbnokdaaGreat
open Go.ChangeShapes Go.WideShapes Go.ChangeAt Go.RowKit
set_option linter.unusedVariables false
set_option maxRecDepth 100000

set_option maxHeartbeats 1000000 in
theorem fcC (k : Nat) (v : Value) (q : Addr) (xs : List Int) (w : World) (hq : q.spot = none) (hv : RI w v xs) (hc : w.cell? ⟨q.block, q.off, none⟩ = some (.int .i64 (k : Int))) (hb : q.block < w.heap.size) :
    Calls Tryz.prog 129 #[v, .pointer (some q)] w fun e w' => e = .returned (.bool (leadV xs == (k : Int))) ∧ Bel w w' := by
  obtain ⟨qb, qo, qs⟩ := q
  dsimp only at *
  subst hq
  go_enter Tryz.func129, Tryz.ntmps129
  go_wp2
  have qq := Bw.cell hc hb
  refine wp_region_bel (by kernel_rfl) (by kernel_rfl) ?_
  repeat (first | go_big_quiet_step (first | (go_at_call 61; exact belQ_same (leadI v xs _ (hv.keep (Bw.bel _))))) | quiet_step (first | (go_at_call 61; exact belQ_same (leadI v xs _ (hv.keep (Bw.bel _))))))
  refine wpQuiet_nil ?_
  rintro w3 ⟨⟨_, hb3⟩, rfl⟩
  clear qq
  go_wp2
  go_ret
  exact ⟨rfl, hb3⟩
set_option maxHeartbeats 1000000 in
theorem fcIdx (k : Nat) (v : Value) (q : Addr) (xss : List (List Int)) (w : World) (hv : RII w v xss) (hq : q.spot = none) (hc : w.cell? ⟨q.block, q.off, none⟩ = some (.int .i64 (k : Int))) (hb : q.block < w.heap.size) :
    Calls Tryz.prog 89 #[v, .func (.func 129) #[] #[.pointer (some q)]] w fun e w' => (∃ j : Int, e = .returned (.int .i64 j) ∧ decide (0 ≤ j) = pivB xss k) ∧ Bel w w' := by
  obtain ⟨A, cp, rfl, h1, h2, hA⟩ := hv
  have HQ := Lib.hid hc
  clear hc
  go_enter Tryz.func89, Tryz.ntmps89
  go_wp2
  go_loopg [8] xss.length (fun f i wr => ∃ j : Nat, j + f = xss.length ∧ i = .int .i64 j ∧ Bel w wr ∧ Hid ((xss.take j).all (npB k) = true))
  case atStart => exact ⟨0, by omega, rfl, Bel.refl _, by show _ = _; simp⟩
  case round =>
    obtain ⟨j, hk, rfl, Y, HB⟩ := hrel
    have hk2 : j ≤ xss.length := by omega
    have HK := Lib.hid hk
    clear hk
    by_cases hlt : j < xss.length
    · obtain ⟨b1, o1, rfl, z1, hc1⟩ := hA (by omega)
      have hx : Hid (xss[j]? = some (xss[j]'hlt)) := List.getElem?_eq_getElem hlt
      obtain ⟨u, g1, ru⟩ := hc1 j _ hx.out
      generalize xss[j]'hlt = xs at *
      replace g1 := Y.cell1 z1 g1
      clear hc1 hA
      have i0 : (0 : Int) ≤ (j : Int) := by omega
      have i1 : (j : Int) < (xss.length : Int) := by omega
      have HN : Hid (npB k xs = !(leadV xs == (k : Int))) := rfl
      go_wp2_with fail
      refine (fcC k u q xs _ hq (ru.keep Y) (Y.cell1 hb HQ.out) (Nat.lt_of_lt_of_le hb Y.size)).mono ?_
      rintro e w1 ⟨rfl, hb1⟩
      cases hp : (leadV xs == (k : Int))
      · have HF := Lib.hid (all_step (p := npB k) hx.out HB.out (by rw [HN.out, hp]; rfl))
        clear hp
        go_wp2
        go_roundg (xss.length - (j + 1))
        case measure => have := HK.out; omega
        case rel => exact ⟨j + 1, by omega, by go_num, Y.trans hb1, HF⟩
      · have HF := Lib.hid (all_fail (p := npB k) hx.out (by rw [HN.out, hp]; rfl))
        clear hp
        go_wp2
        go_ret
        exact ⟨⟨(j : Int), rfl, by rw [pivB_all, HF.out]; simp⟩, Y.trans hb1⟩
    · obtain rfl : j = xss.length := by omega
      have i1 : ¬ (xss.length : Int) < (xss.length : Int) := by omega
      have HF := Lib.hid (all_end HB.out)
      go_wp2
      go_ret
      exact ⟨⟨-1, rfl, by rw [pivB_all, HF.out]; rfl⟩, Y⟩
set_option maxHeartbeats 400000 in
theorem fcCont (k : Nat) (v : Value) (q : Addr) (xss : List (List Int)) (w : World) (hv : RII w v xss) (hq : q.spot = none) (hc : w.cell? ⟨q.block, q.off, none⟩ = some (.int .i64 (k : Int))) (hb : q.block < w.heap.size) :
    Calls Tryz.prog 48 #[v, .func (.func 129) #[] #[.pointer (some q)]] w fun e w' => e = .returned (.bool (pivB xss k)) ∧ Bel w w' := by
  go_enter Tryz.func48, Tryz.ntmps48
  go_wp2_with fail
  refine (fcIdx k v q xss _ hv hq hc hb).mono ?_
  rintro e w1 ⟨⟨j, rfl, hk⟩, hb1⟩
  go_wp2
  go_ret
  exact ⟨by first | rfl | simp [hk], hb1⟩
set_option maxHeartbeats 2000000 in
theorem fcI (v : Value) (m : List (List Int)) (c : Nat) (w : World) (hv : RII w v m) (hcc : c ≤ 40) :
    Calls Tryz.prog 107 #[v, .int .i64 (c : Int)] w fun e w' => ∃ r, e = .returned r ∧ OI w' w.heap.size r (fiZ c m) ∧ Bel w w' := by
  have hmf : ∀ (fn : Fn) (first cap : Array Value) (w : World), (Instr.makeFunc fn first cap).run Tryz.prog w = .ok (.func fn first cap) w := fun _ _ _ _ => rfl
  have HV := Lib.hid hv
  obtain ⟨A, cp, rfl, _, _, _⟩ := id hv
  clear hv
  have O0 : OI w w.heap.size (.slice none 0 0) (fiZ 0 m) := OI.nil _ _
  go_enter Tryz.func107, Tryz.ntmps107
  go_wp2
  go_loopg [5, 8] c (fun f o i wr => ∃ k : Nat, k + f = c ∧ i = .int .i64 k ∧ OI wr w.heap.size o (fiZ k m) ∧ Bel w wr)
  case atStart => exact ⟨0, by omega, rfl, O0, Bel.refl _⟩
  case round =>
    clear O0
    obtain ⟨k, hk, rfl, O, Y⟩ := hrel
    have hk2 : k ≤ c := by omega
    have HK := Lib.hid hk
    clear hk
    by_cases hlt : k < c
    · have i0 : (0 : Int) ≤ (k : Int) := by omega
      have i1 : (k : Int) < (c : Int) := by omega
      have hlen : (fiZ k m).length ≤ 40 := by rw [fiZ_len]; have := freeZ_len k m; omega
      have Z := Blk.new wr 3 #[.int .i64 (k : Int)]
      have Ya : Bel wr (wr.alloc (.cells #[.int .i64 (k : Int)] 3)) := (Bel.refl wr).alloc _
      have hs := Y.size
      have HZ := Lib.hid (Z.facts.1 0)
      go_wp2_with fail
      refine (fcCont k _ ⟨wr.heap.size, 0, none⟩ m _ (HV.out.keep (Y.trans Ya)) rfl HZ.out Z.lt).mono ?_
      rintro e w2 ⟨rfl, hb2⟩
      have Z2 := hb2.keep Z
      have O2 := (O.keep Ya).keep hb2
      have Y2 := (Y.trans Ya).trans hb2
      cases hp : pivB m k
      · have HF := Lib.hid (fiZ_no hp)
        have cz : w2.cell? ⟨wr.heap.size, 0, none⟩ = some (.int .i64 (k : Int)) := Z2.facts.1 0
        have y2 := Y2.size
        clear hp Z Ya HZ O Y
        go_wp2_with (at_builtin; refine wpList_appI _ rfl _ _ rfl w.heap.size _ _ _ [(k : Int)] rfl rfl (O2.keep ((Bel.refl _).alloc _)) (RI.lit1 _ _ _) (by simp only [List.length_cons, List.length_nil]; omega) (by simp only [World.size_alloc]; omega) ?_)
        intro v4 w4 O4 hG
        have Y4 : Bel w w4 := (Y2.alloc _).grown hG (fun p hp => (O2.block p hp).1)
        rw [← HF.out] at O4
        clear hG
        go_wp2
        go_roundg (c - (k + 1))
        case measure => have := HK.out; omega
        case rel => exact ⟨k + 1, by omega, by go_num, O4, Y4⟩
      · have HF := Lib.hid (fiZ_yes hp)
        rw [← HF.out] at O2
        clear hp
        go_wp2
        go_roundg (c - (k + 1))
        case measure => have := HK.out; omega
        case rel => exact ⟨k + 1, by omega, by go_num, O2, Y2⟩
    · obtain rfl : k = c := by omega
      have i1 : ¬ (k : Int) < (k : Int) := by omega
      go_wp2
      go_ret
      exact ⟨_, rfl, O, Y⟩
theorem subI (x : Int) (w : World) (h : elB x = true) : Calls Tryz.prog 108 #[.int .i64 0, .int .i64 x] w fun e w' => e = .returned (.int .i64 (negF x)) ∧ w = w' := by
  obtain ⟨b1, b2⟩ := elB_facts h
  have HH := Lib.hid h
  have HN : Hid ((1019 - x) % 1019 = negF x) := rfl
  clear h
  have h0 : elB 0 = true := by decide
  go_enter Tryz.func108, Tryz.ntmps108
  go_wp2_with fail
  refine (elI 0 _).mono ?_
  rintro e w1 ⟨rfl, rfl⟩
  rw [h0]
  go_wp2_with fail
  refine (elI x _).mono ?_
  rintro e w1 ⟨rfl, rfl⟩
  rw [HH.out]
  go_wp2
  go_ret
  exact ⟨by rw [← HN.out]; first | rfl | (congr 2; omega), rfl⟩
end Go.Proofs.YtjaagabbbnokdaaGreat

namespace Go.Proofs.YtjaagabbbnokdaaGreat
open Go.ChangeShapes Go.WideShapes Go.ChangeAt Go.RowKit
set_option linter.unusedVariables false
set_option maxRecDepth 100000

set_option maxHeartbeats 4000000 in
theorem nullI (v : Value) (m : List (List Int)) (c : Nat) (P : Nat → Nat) (w : World) (hv : RII w v m) (hR : Red c m P) (hcc : c ≤ 40) :
    Calls Tryz.prog 78 #[v, .int .i64 (c : Int)] w fun e w' => ∃ r, e = .returned r ∧ ML w' w.heap.size r (nullZ c m) ∧ Bel w w' := by
  have HR := Lib.hid hR
  have HV := Lib.hid hv
  obtain ⟨A, cp, rfl, h2, h3, hA⟩ := id hv
  have hml := hR.len_le
  clear hv hR
  go_enter Tryz.func78, Tryz.ntmps78
  go_wp2_with fail
  refine (fcI _ m c _ HV.out hcc).mono ?_
  rintro e w1 ⟨r1, rfl, O1, hb1⟩
  obtain ⟨A1, c1, e1, _, _, hA1⟩ := O1.reads
  subst e1
  have HFL := Lib.hid (freeZ_len c m)
  have HFI := Lib.hid (fiZ_len c m)
  have O10 : ML w1 w1.heap.size (.slice none 0 0) ((nullZ c m).take 0) := ML.nil _ _
  have HNL := Lib.hid (nullZ_len c m)
  have hn40 : (fiZ c m).length ≤ 40 := by rw [HFI.out]; have := HFL.out; omega
  go_wp2
  go_loopg [5, 15] (fiZ c m).length (fun f o i wr => ∃ j : Nat, j + f = (fiZ c m).length ∧ i = .int .i64 j ∧ ML wr w1.heap.size o ((nullZ c m).take j) ∧ Bel w1 wr)
  case atStart => exact ⟨0, by omega, rfl, O10, Bel.refl _⟩
  case round =>
    clear O10 O1
    obtain ⟨j, hk, rfl, O, Y1⟩ := hrel
    have Y := hb1.trans Y1
    have hk2 : j ≤ (fiZ c m).length := by omega
    have HJ := Lib.hid hk
    clear hk
    by_cases hlt : j < (fiZ c m).length
    · have hjf : j < (freeZ c m).length := by rw [← HFI.out]; exact hlt
      obtain ⟨f, hf⟩ : ∃ f, f = (freeZ c m)[j]'hjf := ⟨_, rfl⟩
      have hfx : (freeZ c m)[j]? = some f := by rw [hf]; exact List.getElem?_eq_getElem hjf
      have hfc : f < c := (freeZ_mem.1 (List.mem_of_getElem? hfx)).1
      obtain ⟨b1, o1, rfl, z1, hc1⟩ := hA1 (by omega)
      have g1 := Y1.cell1 z1 (hc1 j _ (fiZ_at hfx))
      have HS := Lib.hid (take_snoc (nullZ_at hfx))
      have hlen : ((nullZ c m).take j).length ≤ 40 := by rw [List.length_take]; omega
      have i0 : (0 : Int) ≤ (j : Int) := by omega
      have i1 : (j : Int) < ((fiZ c m).length : Int) := by omega
      have f0 : (0 : Int) ≤ (f : Int) := by omega
      have f1 : (f : Int) < (c : Int) := by omega
      have hmk := mkInts c (by omega)
      have OV := OI.made wr c (by omega)
      have Yv : Bel wr (wr.alloc (.cells (madeCells #[.int .i64 0] c) 3)) := (Bel.refl wr).alloc _
      have OV1 := OV.store (i := f) hfc 1
      have hz := nvK_zero c m f
      rw [← hz] at OV1
      obtain ⟨g', cap', e', _, zg, _, _, fz, cs⟩ := OV.cells (by simp; omega)
      injection e' with e1 e2 e3
      injection e1 with e1
      injection e1 with e1
      subst e1
      have fz1 := fz f
      have cs1 := cs f 0 (by simp [hfc])
      have Yv1 := Yv.setCell (p := ⟨wr.heap.size, f, none⟩) (Nat.le_refl _) (.int .i64 1)
      have HOK : Hid (∀ W, Bel wr W → ML W w1.heap.size u5 ((nullZ c m).take j)) := Lib.hid (fun W h => O.keep h)
      have HYW : Hid (∀ W, Bel wr W → Bel w W) := Lib.hid (fun W h => Y.trans h)
      have HYW1 : Hid (∀ W, Bel wr W → Bel w1 W) := Lib.hid (fun W h => Y1.trans h)
      have HYS := Lib.hid Y1.size
      generalize madeCells #[.int .i64 0] c = C at *
      have ew : (wr.alloc (.cells C 3)).setCell ⟨wr.heap.size, f, none⟩ (.int .i64 1) = wr.alloc (.cells (C.setIfInBounds f (.int .i64 1)) 3) := World.setCell_alloc_at C 3 wr.heap.size f (.int .i64 1) rfl
      rw [ew] at OV1 Yv1
      clear ew
      obtain ⟨g, hg⟩ : ∃ g, g = wr.heap.size := ⟨_, rfl⟩
      have HG := Lib.hid hg
      have hgw : w1.heap.size ≤ g := by rw [hg]; exact HYS.out
      have HOB : Hid (∀ q, u5.ownBlock = some q → q < g) := Lib.hid (fun q hq => by rw [hg]; exact (O.block q hq).2)
      clear fz cs e2 e3 OV Yv hz hf hfx hc1 O
      go_wp2
      rw [← hg] at OV1 ⊢
      clear cs1 fz1 hmk g1 zg hg
      go_loopg [26] m.length (fun f' i2 wq => ∃ k : Nat, k + f' = m.length ∧ i2 = .int .i64 k ∧ OI wq g (.slice (some ⟨g, 0, none⟩) c c) (nvK c m f k) ∧ Bel wr wq)
      case atStart => exact ⟨0, by omega, rfl, OV1, Yv1⟩
      case round =>
        clear OV1 Yv1
        obtain ⟨k, hk, rfl, OV, YQ⟩ := hrel
        have hk2 : k ≤ m.length := by omega
        have HK := Lib.hid hk
        clear hk
        by_cases hl2 : k < m.length
        · obtain ⟨b2, o2, rfl, z2, hc2⟩ := hA (by omega)
          obtain ⟨u, gu, ru⟩ := hc2 k _ (rw_get hl2)
          have YW := HYW.out _ YQ
          replace gu := YW.cell1 z2 gu
          have RU := Lib.hid (ru.keep YW)
          have hrow := mtx_row HR.out.mtx hl2
          have hrl : (rw_ m k).length = c := hrow.1
          have hlow := HR.out.low k hl2
          have HST := Lib.hid (nvK_step HR.out hl2 f)
          have HEL : Hid (elB (ent (rw_ m k) f) = true) := Lib.hid (elB_yes (ent_bd hrow f))
          have HLV : Hid (leadV (rw_ m k) = (P k : Int)) := Lib.hid (leadV_row HR.out hl2)
          obtain ⟨Au, cu, eu, _, _, hAu⟩ := id ru
          subst eu
          obtain ⟨b3, o3, rfl, z3, hc3⟩ := hAu (by omega)
          have g3 := YW.cell1 z3 (hc3 f _ (ent_get (by omega)))
          have LC : Hid (∀ W, Bel wr W → Calls Tryz.prog 61 #[.slice (some ⟨b3, o3, none⟩) (rw_ m k).length cu] W fun e w' => e = .returned (.int .i64 (P k : Int)) ∧ W = w') := Lib.hid (fun W h => by rw [← HLV.out]; exact leadI _ (rw_ m k) W (RU.out.keep h))
          obtain ⟨g', cap', e', _, zg, _, _, fz, cs⟩ := OV.cells (by rw [nvK_len]; omega)
          injection e' with e1 e2 e3
          injection e1 with e1
          injection e1 with e1
          subst e1
          have fz1 := fz (P k)
          have cs1 := cs (P k) _ (ent_get (by rw [nvK_len]; exact hlow))
          have Yd := (Bel.refl wr).drew
          have OV3 := (OV.keep Yd).store (i := P k) hlow (negF (ent (rw_ m k) f))
          rw [HST.out] at OV3
          have Y3 := (YQ.trans Yd).setCell (p := ⟨g, P k, none⟩) (by rw [← HG.out]; exact Nat.le_refl _) (.int .i64 (negF (ent (rw_ m k) f)))
          have k0 : (0 : Int) ≤ (k : Int) := by omega
          have k1 : (k : Int) < (m.length : Int) := by omega
          have p0 : (0 : Int) ≤ (P k : Int) := by omega
          have p1 : (P k : Int) < (c : Int) := by omega
          have f2 : (f : Int) < ((rw_ m k).length : Int) := by omega
          obtain ⟨x, hxx⟩ : ∃ x, x = ent (rw_ m k) f := ⟨_, rfl⟩
          rw [← hxx] at g3 HEL OV3 Y3
          clear hxx hAu hc2 hc3 e2 e3 fz cs hrow hrl ru OV YQ HLV HST
          go_wp2_with fail
          refine wp_region_still_tail 9 (by kernel_rfl) (by kernel_rfl) ?_
          simp only [List.take_succ_cons, List.take_zero, List.drop_succ_cons, List.drop_zero]
          repeat (first | still_step | (still_call (stillQ (LC.out _ Yd))) | (still_call (stillQ (subI x _ HEL.out))))
          refine wpStill_nil ?_
          go_wp2
          go_roundg (m.length - (k + 1))
          case measure => have := HK.out; omega
          case rel => exact ⟨k + 1, by omega, by go_num, OV3, Y3⟩
        · obtain rfl : k = m.length := by omega
          have k1 : ¬ (m.length : Int) < (m.length : Int) := by omega
          have HNV := Lib.hid (nvec_eq c m f)
          rw [← HNV.out] at OV
          have RX : RIx wr w1.heap.size u5.ownBlock (.slice (some ⟨g, 0, none⟩) c c) (nvec c m f) := (OV.low hgw).rx (fun q hq e => by have hq2 : g = q := Option.some.inj hq; have := HOB.out q e; omega)
          have hnl : (nvec c m f).length = c := by rw [nvec_eq, nvK_len]
          have Ya : Bel wr (wr.alloc (.cells #[.slice (some ⟨g, 0, none⟩) c c] 47)) := (Bel.refl wr).alloc _
          have O2 := (HOK.out _ YQ).keep Ya
          have Y2 := (HYW.out _ YQ).trans Ya
          have Y12 := (HYW1.out _ YQ).trans Ya
          have RX2 := RX.keep Ya
          have zs := Y12.size
          have HO2B := Lib.hid O2.block
          clear RX OV hnl
          go_wp2_with (at_builtin; refine wpList_appR _ rfl _ _ rfl w1.heap.size _ _ _ ((nullZ c m).take j) (nvec c m f) rfl rfl O2 ((Blk.new wr 47 _).facts.1 0) rfl RX2 (by omega) zs ?_)
          intro v6 w6 O6 hG6 ho6
          have Y6 : Bel w1 w6 := Y12.grown hG6 (fun q hq => (HO2B.out q hq).1)
          rw [← HS.out] at O6
          clear hG6 ho6 O2 RX2
          go_wp2
          go_roundg ((fiZ c m).length - (j + 1))
          case measure => have := HJ.out; omega
          case rel => exact ⟨j + 1, by omega, by go_num, O6, Y6⟩
    · obtain rfl : j = (fiZ c m).length := by omega
      have i1 : ¬ ((fiZ c m).length : Int) < ((fiZ c m).length : Int) := by omega
      have HTK : Hid ((nullZ c m).take (fiZ c m).length = nullZ c m) := Lib.hid (List.take_of_length_le (by rw [HNL.out, HFI.out]; exact Nat.le_refl _))
      rw [HTK.out] at O
      go_wp2
      go_ret
      exact ⟨_, rfl, O.low hb1.size, Y⟩
set_option maxHeartbeats 2000000 in
theorem orthI (v : Value) (m : List (List Int)) (c : Nat) (P : Nat → Nat) (w : World) (hv : RII w v m) (hR : Red c m P) (hcc : c ≤ 40) :
    Calls Tryz.prog 37 #[.agg #[.int .i64 (c : Int), v]] w fun e w' => ∃ r, e = .returned (.agg #[.int .i64 (c : Int), r]) ∧ OM w' w.heap.size r (orthZ c m) ∧ Bel w w' := by
  have HR := Lib.hid hR
  have HB := Lib.hid (basB_red hR hcc)
  obtain ⟨A, cp, rfl, h2, h3, hA⟩ := id hv
  have X := (Blk.new w 40 #[.int .i64 (c : Int), .slice A m.length cp]).alloc (.cells #[.int .i64 0, .slice none 0 0] 40)
  have R := Blk.new2 w (.cells #[.int .i64 (c : Int), .slice A m.length cp] 40) 40 #[.int .i64 0, .slice none 0 0]
  have Y : Bel w ((w.alloc (.cells #[.int .i64 (c : Int), .slice A m.length cp] 40)).alloc (.cells #[.int .i64 0, .slice none 0 0] 40)) := ((Bel.refl _).alloc _).alloc _
  have HO : Hid (orthZ c m = spanZ c (nullZ c m)) := rfl
  clear hR
  obtain ⟨cx, _, zx⟩ := X.facts
  go_enter Tryz.func37, Tryz.ntmps37
  go_wp2_with fail
  refine (basI (c : Int) _ m _ (hv.keep Y)).mono ?_
  rintro e w1 ⟨rfl, hb1⟩
  rw [HB.out]
  have X1 := hb1.keep X
  have R1 := hb1.keep R
  have Y1 := Y.trans hb1
  clear cx zx X R Y hb1
  obtain ⟨cx, _, zx⟩ := X1.facts
  have rx0 : w1.cell? ⟨w.heap.size, 0, none⟩ = some (.int .i64 (c : Int)) := cx 0
  have rx1 : w1.cell? ⟨w.heap.size, 1, none⟩ = some (.slice A m.length cp) := cx 1
  clear cx
  have Yd := (Bel.refl w1).drew
  have HV := Lib.hid (hv.keep Y1)
  have sz1 := R1.lt
  go_wp2_with fail
  go_region_held3 (fun w' => w'.cell? ⟨w.heap.size, 0, none⟩ = some (.int .i64 (c : Int)) ∧ w'.cell? ⟨w.heap.size, 1, none⟩ = some (.slice A m.length cp)) (first | exact ⟨YE.cell1 zx rx0, YE.cell1 zx rx1⟩ | exact ⟨YA.cell1 zx rx0, YA.cell1 zx rx1⟩ | go_keep) (first
    | (go_at_call 78; ((with_reducible refine (nullI _ m c _ _ (by exact HV.out.keep Yd) HR.out hcc).mono ?_); rintro e wA ⟨ra, rfl, Oa, hbA⟩; obtain ⟨Aa, ca, ea, _, _⟩ := Oa.shape; subst ea; have YA : Bel w1 wA := Yd.trans hbA))
    | (go_at_call 53; ((with_reducible refine (spanI _ (nullZ c m) c _ (by exact Oa.reads) hcc).mono ?_); rintro e wE ⟨rv, rfl, Oe, hbE⟩; obtain ⟨Ae, ce, ee, _, _, _⟩ := Oe.reads; subst ee; have YE : Bel w1 wE := YA.trans hbE; have RE := YE.keep R1; have cq0 := RE.facts.1 0; have cq1 := RE.facts.1 1; have fq0 := RE.facts.2.1 0; have fq1 := RE.facts.2.1 1)))
  all_goals (
    have cr := RE.facts.1
    have zr := RE.lt
    have YF := Y1.trans YE
    have hlo : w1.heap.size ≤ wA.heap.size := YA.size
    have Y3 := (YF.setCell (p := ⟨w.heap.size + 1, 0, none⟩) (by dsimp only; omega) (.int .i64 (c : Int))).setCell (p := ⟨w.heap.size + 1, 1, none⟩) (by dsimp only; omega) (.slice Ae (spanZ c (nullZ c m)).length ce)
    have O3 := OM.setFar (OM.setFar (OM.low Oe (show w.heap.size + 2 ≤ _ by omega)) (p := ⟨w.heap.size + 1, 0, none⟩) (by dsimp only; omega) (.int .i64 (c : Int))) (p := ⟨w.heap.size + 1, 1, none⟩) (by dsimp only; omega) (.slice Ae (spanZ c (nullZ c m)).length ce)
    go_wp2
    refine bodyPost_ret (v := .agg #[.int .i64 (c : Int), .slice Ae (spanZ c (nullZ c m)).length ce]) (by simp [results, Tryz.results37, go_sem, cr]) rfl ⟨_, rfl, OM.low O3 (by omega), Y3⟩)
end Go.Proofs.YtjaagabbbnokdaaGreat

namespace Go.Proofs.YtjaagabbbnokdaaGreat
open Go.ChangeShapes Go.WideShapes Go.ChangeAt Go.RowKit
set_option linter.unusedVariables false
set_option maxRecDepth 100000

theorem Loc.grown {lo hi : Nat} {P : World → Prop} {w w' : World} {row : Option Nat} (h : Loc lo hi P w) (g : w.grownBy w' row) (hr : ∀ q, row = some q → q < lo ∨ hi ≤ q) : Loc lo hi P w' :=
  ⟨h.1, Nat.le_trans h.2.1 g.size, fun u hu => h.2.2 u (fun k k1 k2 => (hu k k1 k2).trans (g.block k (by have := h.2.1; omega) (fun e => by rcases hr k e.symm with h9 | h9 <;> omega)))⟩
set_option maxHeartbeats 1000000 in
theorem idS (c : Nat) (w : World) (hc : c ≤ 40) :
    Calls Tryz.prog 70 #[.int .i64 (c : Int)] w fun e w' => ∃ r, e = .returned r ∧ ML w' w.heap.size r (idZ c) ∧ Bel w w' := by
  have Y0 : Bel w (w.alloc (.cells #[] 47)) := (Bel.refl _).alloc _
  have hcI : (c : Int) ≤ 40 := by omega
  go_enter Tryz.func70, Tryz.ntmps70
  go_wp2
  go_loopg [3, 4] c (fun f o i wr => ∃ k : Nat, k + f = c ∧ i = .int .i64 k ∧ ML wr w.heap.size o ((idZ c).take k) ∧ Bel w wr)
  case atStart => exact ⟨0, by omega, rfl, ML.empty w, Y0⟩
  case round =>
    clear Y0
    obtain ⟨k, hk, rfl, O, Y⟩ := hrel
    have hk2 : k ≤ c := by omega
    have HK := Lib.hid hk
    clear hk
    by_cases hlt : k < c
    · have HS := Lib.hid (take_snoc (idZ_at hlt))
      have hlen : ((idZ c).take k).length ≤ 40 := by rw [List.length_take]; omega
      have i0 : (0 : Int) ≤ (k : Int) := by omega
      have i1 : (k : Int) < (c : Int) := by omega
      have y2 := Y.size
      go_wp2_with fail
      refine (unitS c k _ hc hlt).mono ?_
      rintro e w2 ⟨r2, rfl, O2, hb2⟩
      obtain ⟨A2, c2, e2, _, _, _⟩ := O2.reads
      subst e2
      have O3 := (O.keep hb2).keep ((Bel.refl w2).alloc (.cells #[.slice A2 (unitV c k).length c2] 47))
      have rx : RIx (w2.alloc (.cells #[.slice A2 (unitV c k).length c2] 47)) w.heap.size u3.ownBlock (.slice A2 (unitV c k).length c2) (unitV c k) := ((O2.low y2).keep ((Bel.refl w2).alloc _)).rx (fun p hp e => by have := (O2.block p hp).1; have := (O.block p e).2; omega)
      have Y2 := Y.trans hb2
      have y3 := Y2.size
      go_wp2_with (at_builtin; refine wpList_appR _ rfl _ _ rfl w.heap.size _ _ _ ((idZ c).take k) (unitV c k) rfl rfl O3 ((Blk.new w2 47 _).facts.1 0) rfl rx (by omega) (by simp only [World.size_alloc]; omega) ?_)
      intro v4 w4 O4 hG4 ho4
      have Y4 : Bel w w4 := (Y2.alloc _).grown hG4 (fun p hp => (O.block p hp).1)
      rw [← HS.out] at O4
      clear hG4 ho4
      go_wp2
      go_roundg (c - (k + 1))
      case measure => have := HK.out; omega
      case rel => exact ⟨k + 1, by omega, by go_num, O4, Y4⟩
    · obtain rfl : k = c := by omega
      have i1 : ¬ (k : Int) < (k : Int) := by omega
      have HT : Hid ((idZ k).take k = idZ k) := Lib.hid (List.take_of_length_le (by rw [idZ_len]; exact Nat.le_refl _))
      rw [HT.out] at O
      go_wp2
      go_ret
      exact ⟨_, rfl, O, Y⟩
def nzK (c : Nat) (m : List (List Int)) (k : Nat) : List (List Int) := (freeZ k m).map (nvec c m)
theorem nzK_len (c : Nat) (m : List (List Int)) (k : Nat) : (nzK c m k).length ≤ k := by unfold nzK; rw [List.length_map]; exact freeZ_len k m
theorem nzK_all (c : Nat) (m : List (List Int)) : nzK c m c = nullZ c m := rfl
theorem nzK_yes {c : Nat} {m : List (List Int)} {k : Nat} (h : pivB m k = true) : nzK c m (k + 1) = nzK c m k := by unfold nzK; rw [free_step_yes h]
theorem nzK_no {c : Nat} {m : List (List Int)} {k : Nat} (h : pivB m k = false) : nzK c m (k + 1) = nzK c m k ++ [nvec c m k] := by unfold nzK; rw [free_step_no h]; simp
set_option maxHeartbeats 4000000 in
theorem nullS (v : Value) (m : List (List Int)) (c : Nat) (P : Nat → Nat) (w : World) (hv : RII w v m) (hR : Red c m P) (hcc : c ≤ 40) (h0 : 0 < m.length) :
    Calls Tryz.prog 71 #[v] w fun e w' => ∃ r, e = .returned r ∧ ML w' w.heap.size r (nullZ c m) ∧ Bel w w' := by
  have HR := Lib.hid hR
  have HV := Lib.hid hv
  have hml := hR.len_le
  have hcn : colN m = c := (mtx_row hR.mtx h0).1
  have HMX := Lib.hid (mtxB_yes hR.mtx (by omega) hcc)
  have HRD := Lib.hid (redZ_id hR)
  have HCN := Lib.hid hcn
  obtain ⟨A, cp, rfl, h2, h3, hA⟩ := id hv
  have Y0 : Bel w (w.alloc (.cells #[] 47)) := (Bel.refl _).alloc _
  have E0 := ML.empty w
  clear hv hR hcn
  go_enter Tryz.func71, Tryz.ntmps71
  go_wp2_with fail
  refine (mtxS _ m _ (HV.out.keep Y0)).mono ?_
  rintro e w1 ⟨rfl, hb1⟩
  rw [HMX.out]
  have Y1 := Y0.trans hb1
  have E1 := E0.keep hb1
  go_wp2_with fail
  refine (colS _ m _ (HV.out.keep Y1)).mono ?_
  rintro e w2 ⟨rfl, rfl⟩
  rw [HCN.out]
  go_wp2_with fail
  refine (rowRedS _ m _ (HV.out.keep Y1) HMX.out).mono ?_
  rintro e w2 ⟨rx, rfl, OX, hb2⟩
  rw [HCN.out, HRD.out] at OX
  obtain ⟨Ax, cx, ex, _, _⟩ := OX.shape
  subst ex
  have sb1 : w.heap.size + 1 ≤ w1.heap.size := by have := hb1.size; rw [World.size_alloc] at this; exact this
  have Y2 := Y1.trans hb2
  have E2 := E1.keep hb2
  have hmk := mkInts c (by omega)
  have OV := OI.made w2 c (by omega)
  have Yv : Bel w2 (w2.alloc (.cells (madeCells #[.int .i64 0] c) 3)) := (Bel.refl w2).alloc _
  have HL : Hid ((List.replicate c (-1 : Int)).length = (List.replicate c (0 : Int)).length) := Lib.hid (by simp)
  have hz := mixK_zero (List.replicate c (0 : Int)) (List.replicate c (-1 : Int))
  rw [← hz] at OV
  generalize madeCells #[.int .i64 0] c = C at *
  clear hz Y0 Y1 E0 E1 hb1
  go_wp2
  clear hmk
  go_loopg [7] c (fun f i wr => ∃ k : Nat, k + f = c ∧ i = .int .i64 k ∧ OI wr w2.heap.size (.slice (some ⟨w2.heap.size, 0, none⟩) c c) (mixK (List.replicate c (0 : Int)) (List.replicate c (-1 : Int)) k) ∧ Bel w2 wr)
  case atStart => exact ⟨0, by omega, rfl, OV, Yv⟩
  case round =>
    clear OV Yv
    obtain ⟨k, hk, rfl, OV, YV⟩ := hrel
    have hk2 : k ≤ c := by omega
    have HK := Lib.hid hk
    clear hk
    by_cases hlt : k < c
    · have i0 : (0 : Int) ≤ (k : Int) := by omega
      have i1 : (k : Int) < (c : Int) := by omega
      have HST := Lib.hid (mixK_step HL.out (show (List.replicate c (-1 : Int))[k]? = some (-1) by simp [hlt]))
      have O3 := OV.store (i := k) hlt (-1)
      rw [HST.out] at O3
      obtain ⟨g', cap', e', _, zg, _, _, fz, cs⟩ := OV.cells (by rw [mixK_len HL.out]; simp; omega)
      injection e' with e1 e2 e3
      injection e1 with e1
      injection e1 with e1
      subst e1
      have f1 := fz k
      have c1 := cs k _ ((mixK_at HL.out (by simp; exact hlt)).trans (show (List.replicate c (0 : Int))[k]? = some 0 by simp [hlt]))
      have Y3 := YV.setCell (p := ⟨w2.heap.size, k, none⟩) (Nat.le_refl _) (.int .i64 (-1))
      clear cs fz e2 e3 OV
      go_wp2
      go_roundg (c - (k + 1))
      case measure => have := HK.out; omega
      case rel => exact ⟨k + 1, by omega, by go_num, O3, Y3⟩
    · obtain rfl : c = k := by omega
      have i1 : ¬ (c : Int) < (c : Int) := by omega
      have HA2 := Lib.hid (mixK_all HL.out)
      rw [List.length_replicate] at HA2
      rw [HA2.out] at OV
      have HP0 : Hid (List.replicate c (-1 : Int) = pvK c m 0) := rfl
      rw [HP0.out] at OV
      go_wp2
      go_loopg [8] m.length (fun f i wr => ∃ j : Nat, j + f = m.length ∧ i = .int .i64 j ∧ OI wr w2.heap.size (.slice (some ⟨w2.heap.size, 0, none⟩) c c) (pvK c m j) ∧ Bel w2 wr)
      case atStart => exact ⟨0, by omega, rfl, OV, YV⟩
      case round =>
        clear OV YV HK hk2 hlt i1
        obtain ⟨j, hj, rfl, OV, YV⟩ := hrel
        have hj2 : j ≤ m.length := by omega
        have HJ := Lib.hid hj
        clear hj
        by_cases hlj : j < m.length
        · obtain ⟨gx, capx, ex, q1, zx, _, _, _, hcx⟩ := OX.cells (by omega)
          injection ex with ex1 ex2 ex3
          subst ex1 ex3
          obtain ⟨u, gu, ru⟩ := hcx j hlj
          replace gu := YV.cell1 zx gu
          have RU := (ru.reads).keep YV
          have hlow := HR.out.low j hlj
          have HLV : Hid (leadV (rw_ m j) = (P j : Int)) := Lib.hid (leadV_row HR.out hlj)
          have HST := Lib.hid (pvK_step HR.out hlj)
          have O3 := OV.store (i := P j) hlow (j : Int)
          rw [HST.out] at O3
          obtain ⟨g', cap', e', _, zg, _, _, fz, cs⟩ := OV.cells (by rw [pvK_len]; omega)
          injection e' with e1 e2 e3
          injection e1 with e1
          injection e1 with e1
          subst e1
          have f1 := fz (P j)
          have c1 := cs (P j) _ (ent_get (by rw [pvK_len]; exact hlow))
          have Y3 := YV.setCell (p := ⟨w2.heap.size, P j, none⟩) (Nat.le_refl _) (.int .i64 (j : Int))
          have j0 : (0 : Int) ≤ (j : Int) := by omega
          have j1 : (j : Int) < (m.length : Int) := by omega
          have p0 : (0 : Int) ≤ (P j : Int) := by omega
          have p1 : (P j : Int) < (c : Int) := by omega
          obtain ⟨Au, cu, eu, _, _, _⟩ := id RU
          subst eu
          clear cs fz e2 e3 OV hcx
          go_wp2_with fail
          refine (leadS _ (rw_ m j) _ RU).mono ?_
          rintro e w5 ⟨rfl, rfl⟩
          rw [HLV.out]
          go_wp2
          go_roundg (m.length - (j + 1))
          case measure => have := HJ.out; omega
          case rel => exact ⟨j + 1, by omega, by go_num, O3, Y3⟩
        · obtain rfl : j = m.length := by omega
          have j1 : ¬ (m.length : Int) < (m.length : Int) := by omega
          clear HJ hj2 hlj
          have hs2 : w2.heap.size ≤ wr.heap.size := YV.size
          have hs1 : w1.heap.size ≤ w2.heap.size := hb2.size
          have OX3 := ((OX.keep YV).low sb1).loc (by omega)
          have OV3 := (OV.low (show w.heap.size + 1 ≤ w2.heap.size by omega)).loc (by omega)
          have FX0 : Loc (w.heap.size + 1) wr.heap.size (fun u => RII u (.slice Ax m.length cx) m ∧ RI u (.slice (some ⟨w2.heap.size, 0, none⟩) c c) (pvK c m m.length)) wr := OX3.and (OV3.imp (fun u h => h.reads))
          have E3 : ML wr w.heap.size (.slice (some ⟨w.heap.size, 0, none⟩) 0 0) (nzK c m 0) := E2.keep YV
          have Y3 := Y2.trans YV
          obtain ⟨L3, hL3⟩ : ∃ L, L = wr.heap.size := ⟨_, rfl⟩
          rw [← hL3] at FX0
          clear OX3 OV3 OV YV E2 Y2 hL3 hb2
          go_wp2
          go_loopg [3, 9] c (fun f o i wt => ∃ t : Nat, t + f = c ∧ i = .int .i64 t ∧ ML wt w.heap.size o (nzK c m t) ∧ (∀ q, o.ownBlock = some q → q < w.heap.size + 1 ∨ L3 ≤ q) ∧ Loc (w.heap.size + 1) L3 (fun u => RII u (.slice Ax m.length cx) m ∧ RI u (.slice (some ⟨w2.heap.size, 0, none⟩) c c) (pvK c m m.length)) wt ∧ Bel w wt)
          case atStart => exact ⟨0, by omega, rfl, E3, fun q hq => by have h9 : w.heap.size = q := Option.some.inj hq; omega, FX0, Y3⟩
          case round =>
            clear E3 FX0 Y3 hs2
            obtain ⟨t, ht, rfl, O, OB, FX, Y⟩ := hrel
            have ht2 : t ≤ c := by omega
            have HT := Lib.hid ht
            clear ht
            by_cases hlt : t < c
            · have hpl : (pvK c m m.length).length = c := pvK_len c m _
              have HPV : Hid (∀ (W : World) (j : Nat), j < c → RI W (.slice (some ⟨w2.heap.size, 0, none⟩) c c) (pvK c m m.length) → W.cell? ⟨w2.heap.size, j, none⟩ = some (.int .i64 (ent (pvK c m m.length) j))) := Lib.hid (fun W j hj h => by
                obtain ⟨A9, c9, e9, _, _, h9⟩ := h
                obtain ⟨b, off, eb, _, hcb⟩ := h9 (by omega)
                injection e9 with e91 e92 e93
                rw [← e91] at eb
                injection eb with eb
                injection eb with eb1 eb2
                have h8 := hcb j _ (ent_get (by omega))
                rw [← eb1, ← eb2, Nat.zero_add] at h8
                exact h8)
              have cp0 := HPV.out wr t hlt FX.out.2
              have i0 : (0 : Int) ≤ (t : Int) := by omega
              have i1 : (t : Int) < (c : Int) := by omega
              clear hpl
              rcases pv_cases HR.out hlt with ⟨hp, i, hi, ei, hv⟩ | ⟨hp, hv, hn⟩
              · rw [hv] at cp0
                have HZ := Lib.hid (nzK_yes (c := c) hp)
                rw [← HZ.out] at O
                have ii : (0 : Int) ≤ (i : Int) := by omega
                clear hp hv ei
                go_wp2
                go_roundg (c - (t + 1))
                case measure => have := HT.out; omega
                case rel => exact ⟨t + 1, by omega, by go_num, O, OB, FX, Y⟩
              · rw [hv] at cp0
                have HZ := Lib.hid (nzK_no (c := c) hp)
                have HLN := Lib.hid (nzK_len c m t)
                obtain ⟨wo, hwo⟩ : ∃ x, x = wr := ⟨_, rfl⟩
                subst hwo
                have HOB := Lib.hid OB
                have HFX := Lib.hid FX
                have HO := Lib.hid O
                have HY := Lib.hid Y
                clear hp hv hn OB FX O Y
                go_wp2_with fail
                refine (unitS c t _ hcc hlt).mono ?_
                rintro e w5 ⟨r5, rfl, O5, hb5⟩
                obtain ⟨g, cap, er, hg1, hg2, _⟩ := O5.cells (by rw [unitV_len]; omega)
                rw [unitV_len] at er
                subst er
                have V0 : OI w5 wo.heap.size (.slice (some ⟨g, 0, none⟩) c cap) (vJ c m t 0) := by rw [vJ_zero]; exact O5
                clear O5 hg2 cp0
                go_wp2
                go_loopg [11] c (fun f' jj wq => ∃ j : Nat, j + f' = c ∧ jj = .int .i64 j ∧ OI wq wo.heap.size (.slice (some ⟨g, 0, none⟩) c cap) (vJ c m t j) ∧ Bel wo wq)
                case atStart => exact ⟨0, by omega, rfl, V0, hb5⟩
                case round =>
                  clear V0 hb5
                  obtain ⟨j, hj, rfl, OV, YQ⟩ := hrel
                  have hj2 : j ≤ c := by omega
                  have HJ := Lib.hid hj
                  clear hj
                  by_cases hlj : j < c
                  · have FQ := (HFX.out.keep YQ).out
                    have cpj := HPV.out wr j hlj FQ.2
                    have RXX := Lib.hid FQ.1
                    have j0 : (0 : Int) ≤ (j : Int) := by omega
                    have j1 : (j : Int) < (c : Int) := by omega
                    clear FQ
                    rcases pv_cases HR.out hlj with ⟨hp, i, hi, ei, hv⟩ | ⟨hp, hv, hn⟩
                    · rw [hv] at cpj
                      have ii : (0 : Int) ≤ (i : Int) := by omega
                      have ii2 : (i : Int) < (m.length : Int) := by omega
                      obtain ⟨A7, c7, e7, _, _, hA7⟩ := RXX.out
                      injection e7 with e71 e72 e73
                      obtain ⟨b7, o7, eb7, z7, hc7⟩ := hA7 (by omega)
                      obtain ⟨u, gu, ru⟩ := hc7 i _ (rw_get hi)
                      have hrow := mtx_row HR.out.mtx hi
                      have hrl : (rw_ m i).length = c := hrow.1
                      rw [← e71] at eb7
                      subst eb7
                      obtain ⟨Au, cu, eu, _, _, hAu⟩ := id ru
                      subst eu
                      rw [hrl] at gu
                      obtain ⟨b8, o8, eb8, z8, hc8⟩ := hAu (by omega)
                      subst eb8
                      have g8 := hc8 t _ (ent_get (by omega))
                      have HEL : Hid (elB (ent (rw_ m i) t) = true) := Lib.hid (elB_yes (ent_bd hrow t))
                      have HST := Lib.hid (vJ_piv HR.out t hlj hi ei)
                      have OV3 := OV.store (i := j) hlj (negF (ent (rw_ m i) t))
                      rw [HST.out] at OV3
                      obtain ⟨g', cap', e', _, zg, _, _, fz, cs⟩ := OV.cells (by rw [vJ_len]; omega)
                      injection e' with e1 e2 e3
                      injection e1 with e1
                      injection e1 with e1
                      subst e1
                      have fz1 := fz j
                      have cs1 := cs j _ (ent_get (by rw [vJ_len]; exact hlj))
                      have Y3 := YQ.setCell (p := ⟨g, j, none⟩) hg1 (.int .i64 (negF (ent (rw_ m i) t)))
                      obtain ⟨x, hxx⟩ : ∃ x, x = ent (rw_ m i) t := ⟨_, rfl⟩
                      rw [← hxx] at g8 HEL OV3 Y3
                      clear hxx fz cs e2 e3 e71 e72 e73 hc7 hA7 hc8 hAu ru hrow hrl HST OV YQ hp hv ei
                      go_wp2_with fail
                      refine (subS x _ HEL.out).mono ?_
                      rintro e w7 ⟨rfl, rfl⟩
                      go_wp2
                      go_roundg (c - (j + 1))
                      case measure => have := HJ.out; omega
                      case rel => exact ⟨j + 1, by omega, by go_num, OV3, Y3⟩
                    · rw [hv] at cpj
                      have HST := Lib.hid (vJ_free HR.out hlt hlj hn)
                      rw [← HST.out] at OV
                      clear hp hv hn
                      go_wp2
                      go_roundg (c - (j + 1))
                      case measure => have := HJ.out; omega
                      case rel => exact ⟨j + 1, by omega, by go_num, OV, YQ⟩
                  · obtain rfl : c = j := by omega
                    have j1 : ¬ (c : Int) < (c : Int) := by omega
                    have HVA := Lib.hid (vJ_all c m t)
                    rw [HVA.out] at OV
                    have HWO := Lib.hid HY.out.size
                    have HOBL := Lib.hid HO.out.block
                    have Ya : Bel wr (wr.alloc (.cells #[.slice (some ⟨g, 0, none⟩) c cap] 47)) := (Bel.refl wr).alloc _
                    have RX : RIx (wr.alloc (.cells #[.slice (some ⟨g, 0, none⟩) c cap] 47)) w.heap.size u3.ownBlock (.slice (some ⟨g, 0, none⟩) c cap) (nvec c m t) := ((OV.low HWO.out).keep Ya).rx (fun q hq e => by have hq2 : g = q := Option.some.inj hq; have := (HOBL.out q e).2; omega)
                    have O2 := (HO.out.keep YQ).keep Ya
                    have FX2 := (HFX.out.keep YQ).keep Ya
                    have Y2 := (HY.out.trans YQ).trans Ya
                    have zs := Y2.size
                    have zl : L3 ≤ (wr.alloc (.cells #[.slice (some ⟨g, 0, none⟩) c cap] 47)).heap.size := FX2.2.1
                    have hlen : (nzK c m t).length ≤ 40 := Nat.le_trans HLN.out (by omega)
                    have HYY := Lib.hid Y2
                    have HZL := Lib.hid zl
                    clear OV Ya YQ Y2 zl
                    go_wp2_with (at_builtin; refine wpList_appR _ rfl _ _ rfl w.heap.size _ _ _ (nzK c m t) (nvec c m t) rfl rfl O2 ((Blk.new wr 47 _).facts.1 0) rfl RX (by omega) zs ?_)
                    intro v6 w6 O6 hG6 ho6
                    have Y6 : Bel w w6 := HYY.out.grown hG6 (fun q hq => (HOBL.out q hq).1)
                    have FX6 := Loc.grown FX2 hG6 (fun q hq => HOB.out q hq)
                    have OB6 : ∀ q, v6.ownBlock = some q → q < w.heap.size + 1 ∨ L3 ≤ q := fun q hq => by
                      rcases ho6 with e | e
                      · exact HOB.out q (by rw [← e]; exact hq)
                      · rw [e] at hq; injection hq with hq; rw [← hq]; have h7 := HZL.out; rw [World.size_alloc] at h7; exact .inr h7
                    rw [← HZ.out] at O6
                    clear hG6 ho6 O2 RX FX2
                    go_wp2
                    go_roundg (c - (t + 1))
                    case measure => have := HT.out; omega
                    case rel => exact ⟨t + 1, by omega, by go_num, O6, OB6, FX6, Y6⟩
            · obtain rfl : c = t := by omega
              have i1 : ¬ (c : Int) < (c : Int) := by omega
              have HNA := Lib.hid (nzK_all c m)
              rw [HNA.out] at O
              go_wp2
              go_ret
              exact ⟨_, rfl, O, Y⟩
set_option maxHeartbeats 4000000 in
theorem orthS (v : Value) (m : List (List Int)) (c : Nat) (P : Nat → Nat) (w : World) (hv : RII w v m) (hR : Red c m P) (hcc : c ≤ 40) :
    Calls Tryz.prog 29 #[.agg #[.int .i64 (c : Int), v]] w fun e w' => ∃ r, e = .returned (.agg #[.int .i64 (c : Int), r]) ∧ ML w' w.heap.size r (orthZ c m) ∧ Bel w w' := by
  have HR := Lib.hid hR
  have HB := Lib.hid (basB_red hR hcc)
  obtain ⟨A, cp, rfl, h2, h3, hA⟩ := id hv
  have X := (Blk.new w 40 #[.int .i64 (c : Int), .slice A m.length cp]).alloc (.cells #[.int .i64 0, .slice none 0 0] 40)
  have R := Blk.new2 w (.cells #[.int .i64 (c : Int), .slice A m.length cp] 40) 40 #[.int .i64 0, .slice none 0 0]
  have Y : Bel w ((w.alloc (.cells #[.int .i64 (c : Int), .slice A m.length cp] 40)).alloc (.cells #[.int .i64 0, .slice none 0 0] 40)) := ((Bel.refl _).alloc _).alloc _
  have HO : Hid (orthZ c m = spanZ c (nullZ c m)) := rfl
  clear hR
  obtain ⟨cx, _, zx⟩ := X.facts
  go_enter Tryz.func29, Tryz.ntmps29
  go_wp2_with fail
  refine (basS (c : Int) _ m _ (hv.keep Y)).mono ?_
  rintro e w1 ⟨rfl, hb1⟩
  rw [HB.out]
  have X1 := hb1.keep X
  have R1 := hb1.keep R
  have Y1 := Y.trans hb1
  clear cx zx X R Y hb1
  obtain ⟨cx, _, zx⟩ := X1.facts
  have rx0 : w1.cell? ⟨w.heap.size, 0, none⟩ = some (.int .i64 (c : Int)) := cx 0
  have rx1 : w1.cell? ⟨w.heap.size, 1, none⟩ = some (.slice A m.length cp) := cx 1
  clear cx
  have Yd := (Bel.refl w1).drew
  have HV := Lib.hid (hv.keep Y1)
  have sz1 := R1.lt
  rcases Nat.eq_zero_or_pos m.length with h0 | h0
  · have q0 : ((m.length : Int) == 0) = true := by rw [h0]; rfl
    have HI : Hid (nullZ c m = idZ c) := Lib.hid (by rw [List.eq_nil_of_length_eq_zero h0]; exact null_nil c)
    have HH0 := Lib.hid h0
    clear h0
    go_wp2_with fail
    go_region_held3 (fun w' => w'.cell? ⟨w.heap.size, 0, none⟩ = some (.int .i64 (c : Int)) ∧ w'.cell? ⟨w.heap.size, 1, none⟩ = some (.slice A m.length cp)) (first | exact ⟨YE.cell1 zx rx0, YE.cell1 zx rx1⟩ | exact ⟨YA.cell1 zx rx0, YA.cell1 zx rx1⟩ | go_keep) (first
      | (go_at_call 70; ((with_reducible refine (idS c _ hcc).mono ?_); rintro e wA ⟨ra, rfl, Oa, hbA⟩; obtain ⟨Aa, ca, ea, _, _⟩ := Oa.shape; subst ea; have YA : Bel w1 wA := Yd.trans hbA))
      | (go_at_call 69; ((with_reducible refine (spanS _ (idZ c) c _ (by exact Oa.reads) hcc).mono ?_); rintro e wE ⟨rv, rfl, Oe, hbE⟩; obtain ⟨Ae, ce, ee, _, _⟩ := Oe.shape; subst ee; have YE : Bel w1 wE := YA.trans hbE; have RE := YE.keep R1; have cq0 := RE.facts.1 0; have cq1 := RE.facts.1 1; have fq0 := RE.facts.2.1 0; have fq1 := RE.facts.2.1 1)))
    all_goals (
      have cr := RE.facts.1
      have zr := RE.lt
      have YF := Y1.trans YE
      have hlo : w1.heap.size ≤ wA.heap.size := YA.size
      have Y3 := (YF.setCell (p := ⟨w.heap.size + 1, 0, none⟩) (by dsimp only; omega) (.int .i64 (c : Int))).setCell (p := ⟨w.heap.size + 1, 1, none⟩) (by dsimp only; omega) (.slice Ae (spanZ c (idZ c)).length ce)
      have O3 := ((Oe.low (show w.heap.size + 2 ≤ _ by omega)).setFar (p := ⟨w.heap.size + 1, 0, none⟩) (by dsimp only; omega) (.int .i64 (c : Int))).setFar (p := ⟨w.heap.size + 1, 1, none⟩) (by dsimp only; omega) (.slice Ae (spanZ c (idZ c)).length ce)
      go_wp2
      refine bodyPost_ret (v := .agg #[.int .i64 (c : Int), .slice Ae (spanZ c (idZ c)).length ce]) (by simp [results, Tryz.results29, go_sem, cr]) rfl ⟨_, rfl, by have h9 := O3.low (show w.heap.size ≤ w.heap.size + 2 by omega); rw [HO.out, HI.out]; exact h9, Y3⟩)
  · have q0 : ((m.length : Int) == 0) = false := beq_eq_false_iff_ne.2 (by omega)
    have HH0 := Lib.hid h0
    clear h0
    go_wp2_with fail
    go_region_held3 (fun w' => w'.cell? ⟨w.heap.size, 0, none⟩ = some (.int .i64 (c : Int)) ∧ w'.cell? ⟨w.heap.size, 1, none⟩ = some (.slice A m.length cp)) (first | exact ⟨YE.cell1 zx rx0, YE.cell1 zx rx1⟩ | exact ⟨YA.cell1 zx rx0, YA.cell1 zx rx1⟩ | go_keep) (first
      | (go_at_call 71; ((with_reducible refine (nullS _ m c _ _ (by exact HV.out.keep Yd) HR.out hcc HH0.out).mono ?_); rintro e wA ⟨ra, rfl, Oa, hbA⟩; obtain ⟨Aa, ca, ea, _, _⟩ := Oa.shape; subst ea; have YA : Bel w1 wA := Yd.trans hbA))
      | (go_at_call 69; ((with_reducible refine (spanS _ (nullZ c m) c _ (by exact Oa.reads) hcc).mono ?_); rintro e wE ⟨rv, rfl, Oe, hbE⟩; obtain ⟨Ae, ce, ee, _, _⟩ := Oe.shape; subst ee; have YE : Bel w1 wE := YA.trans hbE; have RE := YE.keep R1; have cq0 := RE.facts.1 0; have cq1 := RE.facts.1 1; have fq0 := RE.facts.2.1 0; have fq1 := RE.facts.2.1 1)))
    all_goals (
      have cr := RE.facts.1
      have zr := RE.lt
      have YF := Y1.trans YE
      have hlo : w1.heap.size ≤ wA.heap.size := YA.size
      have Y3 := (YF.setCell (p := ⟨w.heap.size + 1, 0, none⟩) (by dsimp only; omega) (.int .i64 (c : Int))).setCell (p := ⟨w.heap.size + 1, 1, none⟩) (by dsimp only; omega) (.slice Ae (spanZ c (nullZ c m)).length ce)
      have O3 := ((Oe.low (show w.heap.size + 2 ≤ _ by omega)).setFar (p := ⟨w.heap.size + 1, 0, none⟩) (by dsimp only; omega) (.int .i64 (c : Int))).setFar (p := ⟨w.heap.size + 1, 1, none⟩) (by dsimp only; omega) (.slice Ae (spanZ c (nullZ c m)).length ce)
      go_wp2
      refine bodyPost_ret (v := .agg #[.int .i64 (c : Int), .slice Ae (spanZ c (nullZ c m)).length ce]) (by simp [results, Tryz.results29, go_sem, cr]) rfl ⟨_, rfl, by have h9 := O3.low (show w.heap.size ≤ w.heap.size + 2 by omega); rw [HO.out]; exact h9, Y3⟩)
end Go.Proofs.YtjaagabbbnokdaaGreat
