/-
  RecoverGeneration: contracts of the program's function and of the reference's. No condition.
-/
import Derived.Test.YtamiamogablglaaDec9
import Derived.Test.YtamiamogablglaaAppO
import Derived.Deep.RegionLaw
namespace Go.Proofs.Ytamiamogablglaa
open Go.ChangeShapes Go.WideShapes Go.ChangeAt Go.RowKit
set_option linter.unusedVariables false
set_option maxRecDepth 100000

theorem ML.setFar {w : World} {lo : Nat} {v : Value} {xss : List (List Int)} (h : ML w lo v xss) {p : Addr} (hp : p.block < lo) (z : Value) : ML (w.setCell p z) lo v xss := by
  obtain ⟨us, hl, ho, hr⟩ := h
  have hu : ∀ k, lo ≤ k → (w.setCell p z).heap[k]? = w.heap[k]? := fun k h1 => Below.heap_setCell w p z k (by omega)
  refine ⟨us, hl, ?_, fun j u xs q1 q2 => ?_⟩
  · obtain ⟨hl2, h0 | ⟨g, cap, cur, rfl, hb, hh, h1, h2, h3, h4⟩⟩ := ho
    · exact ⟨hl2, .inl h0⟩
    · exact ⟨hl2, .inr ⟨g, cap, cur, rfl, hb, (hu g hb).trans hh, h1, h2, h3, h4⟩⟩
  · obtain ⟨A, c, hv, h1, h2, h3⟩ := hr j u xs q1 q2
    refine ⟨A, c, hv, h1, h2, fun h0 => ?_⟩
    obtain ⟨b, off, hA, hl3, hb, hne, hc⟩ := h3 h0
    refine ⟨b, off, hA, hl3, by simpa [World.setCell] using hb, hne, fun j x hx => ?_⟩
    rw [← hc j x hx]
    exact World.cell?_of_block (hu b hl3)
theorem mono_id {n : Nat} {P : Nat → Nat} (hm : ∀ i j, i < j → j < n → P i < P j) (hb : ∀ i, i < n → P i < n) : ∀ i, i < n → P i = i := by
  have low : ∀ i, i < n → i ≤ P i := by
    intro i
    induction i with
    | zero => intro _; exact Nat.zero_le _
    | succ i ih =>
      intro hi
      have := ih (by omega)
      have := hm i (i + 1) (by omega) hi
      omega
  have high : ∀ d i, i + d + 1 = n → P i ≤ i := by
    intro d
    induction d with
    | zero => intro i hi; have := hb i (by omega); omega
    | succ d ih =>
      intro i hi
      have h1 := ih (i + 1) (by omega)
      have h2 := hm i (i + 1) (by omega) (by omega)
      omega
  intro i hi
  have h1 := low i hi
  have h2 := high (n - i - 1) i (by omega)
  omega
theorem comp_facts {a c d : Int} {s : Nat} {m : List (List Int)} (h : compB a (s : Int) c d m = true) : decB a (s : Int) c d m = true ∧ m.length = s := by
  unfold compB at h
  rw [Bool.and_eq_true] at h
  exact ⟨h.1, by have := h.2; simp at this; omega⟩
theorem comp_take {a c d : Int} {s : Nat} {m : List (List Int)} (h : compB a (s : Int) c d m = true) {i : Nat} (hi : i < s) : (rw_ m i).take s = unitV s i := by
  obtain ⟨h1, h2⟩ := comp_facts h
  obtain ⟨f1, f2, f3, f4⟩ := decB_facts h1
  obtain ⟨_, _, c3⟩ := fmtB_facts f1
  obtain ⟨n, e, hn, _, hR⟩ := basB_facts f2
  have hsn : s ≤ n := by omega
  have lt : ∀ k, k < s → lead (rw_ m k) < s := by
    intro k hk
    have hr := mtx_row hR.mtx (show k < m.length by omega)
    have h5 := List.all_eq_true.1 f4 _ (rw_mem (show k < m.length by omega))
    have h6 := hR.low k (by omega)
    unfold ldB at h5
    rw [leadV_yes (by rw [hr.1]; exact h6)] at h5
    simp at h5
    omega
  have pid := mono_id (n := s) (P := fun i => lead (rw_ m i)) (fun i j hij hj => hR.mono i j hij (by omega)) lt
  have hr := mtx_row hR.mtx (show i < m.length by omega)
  apply List.ext_getElem?
  intro k
  rcases Nat.lt_or_ge k s with hk | hk
  · rw [List.getElem?_take, if_pos hk, unitV_at hk, ent_get (by rw [hr.1]; omega)]
    have h7 : lead (rw_ m k) = k := pid k hk
    by_cases e2 : k = i
    · subst e2
      rw [if_pos rfl]
      have h8 : ent (rw_ m k) (lead (rw_ m k)) = 1 := hR.one k (by omega)
      rw [h7] at h8
      rw [h8]
    · rw [if_neg e2]
      have h8 : ent (rw_ m i) (lead (rw_ m k)) = 0 := hR.col k (by omega) i (by omega) (Ne.symm e2)
      rw [h7] at h8
      rw [h8]
  · rw [List.getElem?_eq_none (by rw [List.length_take]; omega), List.getElem?_eq_none (by rw [unitV_len]; exact hk)]
theorem unitV_inj {s i j : Nat} (hi : i < s) (h : unitV s i = unitV s j) : i = j := by
  have h1 := unitV_at (i := i) hi
  rw [h, unitV_at hi] at h1
  by_cases e : i = j
  · exact e
  · rw [if_neg e, if_pos rfl] at h1; simp at h1
/-- A complete decoder holds every symbol, in order. -/
theorem comp_sym {a c d : Int} {s : Nat} {m : List (List Int)} (h : compB a (s : Int) c d m = true) {i : Nat} (hi : i < s) : dsymZ a (s : Int) c d m (i : Int) = some ((rw_ m i).drop s) := by
  obtain ⟨h1, h2⟩ := comp_facts h
  rw [dsymZ_yes h1 (decide_eq_true (by omega))]
  rw [find_hit (rw_get (show i < m.length by omega)) ?_ ?_]
  · rfl
  · rw [List.all_eq_true]
    intro r hr
    obtain ⟨k, hk⟩ := List.mem_iff_getElem?.1 hr
    rw [List.getElem?_take] at hk
    split at hk
    · rename_i hki
      have e := rw_in hk
      unfold symF
      rw [← e, comp_take h (show k < s by omega)]
      simp only [Bool.not_eq_true', decide_eq_false_iff_not]
      intro e2
      have := unitV_inj (show k < s by omega) e2
      omega
    · cases hk
  · unfold symF
    rw [decide_eq_true_eq]
    exact comp_take h hi
def rgA (a b c d : Int) (m : List (List Int)) : Int := if compB a b c d m = true then a else 0
def rgM (a b c d : Int) (m : List (List Int)) : List (List Int) := if compB a b c d m = true then m.map (fun r => r.drop b.toNat) else []
theorem rg_no {a b c d : Int} {m : List (List Int)} (h : compB a b c d m = false) : rgA a b c d m = 0 ∧ rgM a b c d m = [] := by unfold rgA rgM; rw [h]; exact ⟨rfl, rfl⟩
theorem rg_yes {a c d : Int} {s : Nat} {m : List (List Int)} (h : compB a (s : Int) c d m = true) : rgA a (s : Int) c d m = a ∧ rgM a (s : Int) c d m = m.map (fun r => r.drop s) := by unfold rgA rgM; rw [h]; exact ⟨rfl, rfl⟩
theorem flat_len {m : List (List Int)} {n : Nat} (h : ∀ r ∈ m, r.length ≤ n) : m.flatten.length ≤ m.length * n := by
  induction m with
  | nil => simp
  | cons r m ih =>
    have h1 := ih (fun x hx => h x (List.mem_cons_of_mem _ hx))
    have h2 := h r List.mem_cons_self
    rw [List.flatten_cons, List.length_append, List.length_cons, Nat.add_mul, Nat.one_mul]
    omega
theorem rgM_fl (a b c d : Int) (m : List (List Int)) : flN (rgM a b c d m) ≤ 1600 := by
  unfold rgM
  split
  · rename_i h
    have h1 : decB a b c d m = true := by unfold compB at h; rw [Bool.and_eq_true] at h; exact h.1
    obtain ⟨_, _, _, f5, _⟩ := basB_facts (decB_facts h1).2.1
    have h2 : (m.map (fun r => r.drop b.toNat)).flatten.length ≤ (m.map (fun r => r.drop b.toNat)).length * 40 := by
      apply flat_len
      intro r hr
      obtain ⟨x, hx, rfl⟩ := List.mem_map.1 hr
      obtain ⟨k, hk⟩ := List.mem_iff_getElem?.1 hx
      have := (dec_row h1 hk).2.2
      rw [List.length_drop]
      omega
    rw [List.length_map] at h2
    show (m.map (fun r => r.drop b.toNat)).flatten.length ≤ 1600
    omega
  · show ([] : List (List Int)).flatten.length ≤ 1600
    simp

set_option maxHeartbeats 4000000 in
theorem recC (a c d : Int) (s : Nat) (v : Value) (m : List (List Int)) (w : World) (hv : RII w v m) (hd : decB a (s : Int) c d m = true) :
    Calls Try.prog 83 #[.agg #[.int .i64 a, .int .i64 (s : Int), .int .i64 c, .int .i64 d, v]] w fun e w' => ∃ r, e = .returned (.agg #[.int .i64 a, r]) ∧ OM w' w.heap.size r (m.map (fun r => r.drop s)) ∧ Bel w w' := by
  have HD := Lib.hid hd
  obtain ⟨_, f2, f3⟩ := fmtB_facts (decB_facts hd).1
  have f5 : m.length ≤ 40 := by obtain ⟨_, _, _, f5, _⟩ := basB_facts (decB_facts hd).2.1; exact f5
  clear hd
  obtain ⟨A, cp, rfl, h2, h3, hA⟩ := id hv
  have X := ((Blk.new w 31 #[.int .i64 a, .int .i64 (s : Int), .int .i64 c, .int .i64 d, .slice A m.length cp]).alloc (.cells #[.int .i64 0, .slice none 0 0] 50)).alloc (.cells #[.int .i64 a, .slice none 0 0] 50)
  have R := (Blk.new2 w (.cells #[.int .i64 a, .int .i64 (s : Int), .int .i64 c, .int .i64 d, .slice A m.length cp] 31) 50 #[.int .i64 0, .slice none 0 0]).alloc (.cells #[.int .i64 a, .slice none 0 0] 50)
  have G := Blk.new3 w (.cells #[.int .i64 a, .int .i64 (s : Int), .int .i64 c, .int .i64 d, .slice A m.length cp] 31) (.cells #[.int .i64 0, .slice none 0 0] 50) 50 #[.int .i64 a, .slice none 0 0]
  have Y : Bel w (((w.alloc (.cells #[.int .i64 a, .int .i64 (s : Int), .int .i64 c, .int .i64 d, .slice A m.length cp] 31)).alloc (.cells #[.int .i64 0, .slice none 0 0] 50)).alloc (.cells #[.int .i64 a, .slice none 0 0] 50)) := (((Bel.refl _).alloc _).alloc _).alloc _
  go_enter Try.func83, Try.ntmps83
  go_wp2
  go_loopg [13] m.length (fun f i wr => ∃ (k : Nat) (o : Value), k + f = m.length ∧ i = .int .i64 k ∧ Blk wr w.heap.size 31 #[.int .i64 a, .int .i64 (s : Int), .int .i64 c, .int .i64 d, .slice A m.length cp] ∧ Blk wr (w.heap.size + 1) 50 #[.int .i64 0, .slice none 0 0] ∧ Blk wr (w.heap.size + 2) 50 #[.int .i64 a, o] ∧ OM wr (w.heap.size + 3) o ((m.map (fun r => r.drop s)).take k) ∧ Bel w wr)
  case atStart => exact ⟨0, _, by omega, rfl, X, R, G, OM.nil _ _, Y⟩
  case round =>
    clear X R G Y
    obtain ⟨k, o, hk, rfl, X, R, G, O, Y⟩ := hrel
    have hk2 : k ≤ m.length := by omega
    have HK := Lib.hid hk
    clear hk
    obtain ⟨cx, _, zx⟩ := X.facts
    obtain ⟨cg, fg, zg⟩ := G.facts
    by_cases hlt : k < m.length
    · obtain ⟨b1, o1, rfl, z1, hc1⟩ := hA (by omega)
      have hx : m[k]? = some (m[k]'hlt) := List.getElem?_eq_getElem hlt
      obtain ⟨u, g1, ru⟩ := hc1 k _ hx
      replace g1 := Y.cell1 z1 g1
      replace ru := ru.keep Y
      have hrow := dec_row HD.out hx
      have HS : Hid ((m.map (fun r => r.drop s)).take (k + 1) = (m.map (fun r => r.drop s)).take k ++ [(m[k]'hlt).drop s]) := Lib.hid (take_snoc (by rw [List.getElem?_map, hx]; rfl))
      have hlen : ((m.map (fun r => r.drop s)).take k).length ≤ 40 := by rw [List.length_take, List.length_map]; omega
      clear hc1 hA hx
      generalize m[k]'hlt = xs at *
      obtain ⟨l1, l2, l3⟩ := hrow
      obtain ⟨Au, cu, rfl, k1, k3, hu⟩ := id ru
      obtain ⟨bu, ou, rfl, _, _⟩ := hu (by omega)
      have HRD := Lib.hid (ru.drop (t := s) (by omega))
      have i0 : (0 : Int) ≤ (k : Int) := by omega
      have i1 : (k : Int) < (m.length : Int) := by omega
      have i3 : (s : Int) ≤ (xs.length : Int) := by omega
      have i4 : (0 : Int) ≤ (s : Int) := by omega
      have i5 : (xs.length : Int) ≤ (cu : Int) := by omega
      have i6 : ¬ cu = s := by omega
      have ldr : (xs.drop s).length ≤ 40 := by rw [List.length_drop]; omega
      obtain ⟨ys, hys⟩ : ∃ ys, ys = xs.drop s := ⟨_, rfl⟩
      rw [← hys] at HRD HS ldr
      clear hys
      have yz := G.lt
      obtain ⟨Ao, co, eo, _, _, _⟩ := O.reads
      subst eo
      have HON := Lib.hid (fun q hq => (O.block q hq).1)
      have Yd := (Bel.refl wr).drew
      clear hu l2 l1
      have r1 : wr.cell? ⟨w.heap.size, 1, none⟩ = some (.int .i64 (s : Int)) := cx 1
      have rg : wr.cell? ⟨w.heap.size + 2, 1, none⟩ = some (.slice Ao ((m.map (fun r => r.drop s)).take k).length co) := cg 1
      have fg1 := fg 1
      clear cx cg fg
      generalize hLT : (m.map (fun r => r.drop s)).take k = LT at *
      have eLT : (LT ++ [ys]).length = LT.length + 1 := by simp
      have HLT := Lib.hid eLT
      go_wp2
      go_region_law (first
        | (go_simp; go_at_call 82; refine (cloneI _ ys _ ?_ ?_).mono ?_; exact HRD.out.keep Yd; omega; rintro e wT ⟨r, rfl, Ov, hbT⟩; obtain ⟨Ar, cr, er, _, _, _⟩ := Ov.reads; subst er; have r1T := hbT.cell1 zx r1; have rgT := hbT.cell1 zg rg; have rgTA := (hbT.alloc (.cells #[.slice Ar ys.length cr] 42)).cell1 zg rg)
        | (refine step_appO _ (by rfl) _ _ (by rfl) (w.heap.size + 3) wr.heap.size _ _ _ LT ys (by rfl) (by rfl) (by exact OII.keep O (Nat.le_refl _) ((Yd.trans hbT).alloc _)) (by omega) (by exact Nat.le_trans hbT.size (by simp)) (by exact (Blk.new wT 42 _).facts.1 0) (by rfl) (by exact (OI.keep Ov ((Bel.refl wT).alloc _))) (by omega) ?_; intro v2 w2 O2 hG ho2; have G2 := ((hbT.keep G.drew).alloc (.cells #[.slice Ar ys.length cr] 42)).grown hG (fun e => by have := HON.out _ e; omega); obtain ⟨Av2, cv2, ev2, _, _, _⟩ := O2.reads; rw [eLT] at ev2; subst ev2; have rg2 := G2.facts.1 1; have fg2 := G2.facts.2.1 1))
      all_goals (
        have Y2 : Bel w w2 := ((Y.drew.trans hbT).alloc _).grown hG (fun q hq => by have := HON.out q hq; omega)
        have X2 := ((hbT.keep X.drew).alloc (.cells #[.slice Ar ys.length cr] 42)).grown hG (fun e => by have := HON.out _ e; omega)
        have R2 := ((hbT.keep R.drew).alloc (.cells #[.slice Ar ys.length cr] 42)).grown hG (fun e => by have := HON.out _ e; omega)
        have X3 := X2.far (p := ⟨w.heap.size + 2, 1, none⟩) (by dsimp only; omega) (.slice Av2 (LT.length + 1) cv2)
        have R3 := R2.far (p := ⟨w.heap.size + 2, 1, none⟩) (by dsimp only; omega) (.slice Av2 (LT.length + 1) cv2)
        have G3 : Blk (w2.setCell ⟨w.heap.size + 2, 1, none⟩ (.slice Av2 (LT.length + 1) cv2)) (w.heap.size + 2) 50 #[.int .i64 a, .slice Av2 (LT.length + 1) cv2] := G2.set 1 (.slice Av2 (LT.length + 1) cv2)
        have O3 := OM.setFar O2 (p := ⟨w.heap.size + 2, 1, none⟩) (by dsimp only; omega) (.slice Av2 (LT.length + 1) cv2)
        have Y3 := Y2.setCell (p := ⟨w.heap.size + 2, 1, none⟩) (by dsimp only; omega) (.slice Av2 (LT.length + 1) cv2)
        rw [← HS.out] at O3
        clear hbT hG ho2 O2 Y2 X2 R2 G2 rg2 fg2 rg fg1 r1
        go_wp2
        go_roundg (m.length - (k + 1))
        case measure => have := HK.out; omega
        case rel => exact ⟨k + 1, _, by omega, by go_num, X3, R3, G3, O3, Y3⟩)
    · obtain rfl : k = m.length := by omega
      have i1 : ¬ (m.length : Int) < (m.length : Int) := by omega
      have HE : Hid ((m.map (fun r => r.drop s)).take m.length = m.map (fun r => r.drop s)) := Lib.hid (List.take_of_length_le (by rw [List.length_map]; exact Nat.le_refl _))
      rw [HE.out] at O
      obtain ⟨D, hD⟩ : ∃ D, D = m.map (fun r => r.drop s) := ⟨_, rfl⟩
      rw [← hD] at O
      have HD2 := Lib.hid hD
      clear hD
      obtain ⟨Ao, co, eo, _, _, _⟩ := O.reads
      rw [eo] at G O
      clear eo cx cg fg
      obtain ⟨cg, fg, zg2⟩ := G.facts
      obtain ⟨cr, fr, zr⟩ := R.facts
      have Y2 : Bel w ((wr.setCell ⟨w.heap.size + 1, 0, none⟩ (.int .i64 a)).setCell ⟨w.heap.size + 1, 1, none⟩ (.slice Ao D.length co)) := (Y.setCell (p := ⟨w.heap.size + 1, 0, none⟩) (by dsimp only; omega) _).setCell (p := ⟨w.heap.size + 1, 1, none⟩) (by dsimp only; omega) _
      have O2 := OM.setFar (OM.setFar O (p := ⟨w.heap.size + 1, 0, none⟩) (by dsimp only; omega) (.int .i64 a)) (p := ⟨w.heap.size + 1, 1, none⟩) (by dsimp only; omega) (.slice Ao D.length co)
      go_wp2
      refine bodyPost_ret (v := .agg #[.int .i64 a, .slice Ao D.length co]) (by simp [results, Try.results83, go_sem, cr]) rfl ⟨_, rfl, by rw [← HD2.out]; exact OM.low O2 (Nat.le_add_right _ _), Y2⟩
set_option maxHeartbeats 2000000 in
theorem recI (a b c d : Int) (v : Value) (m : List (List Int)) (w : World) (hv : RII w v m) :
    Calls Try.prog 36 #[.agg #[.int .i64 a, .int .i64 b, .int .i64 c, .int .i64 d, v]] w fun e w' => ∃ r, e = .returned (.tuple #[.agg #[.int .i64 (rgA a b c d m), r], .bool (compB a b c d m)]) ∧ OM w' w.heap.size r (rgM a b c d m) ∧ Bel w w' := by
  obtain ⟨A, cp, rfl, h2, h3, hA⟩ := id hv
  have X := (Blk.new w 31 #[.int .i64 a, .int .i64 b, .int .i64 c, .int .i64 d, .slice A m.length cp]).alloc (.cells #[.int .i64 0, .slice none 0 0] 50)
  have R := Blk.new2 w (.cells #[.int .i64 a, .int .i64 b, .int .i64 c, .int .i64 d, .slice A m.length cp] 31) 50 #[.int .i64 0, .slice none 0 0]
  have Y : Bel w ((w.alloc (.cells #[.int .i64 a, .int .i64 b, .int .i64 c, .int .i64 d, .slice A m.length cp] 31)).alloc (.cells #[.int .i64 0, .slice none 0 0] 50)) := ((Bel.refl _).alloc _).alloc _
  obtain ⟨cx, _, zx⟩ := X.facts
  go_enter Try.func36, Try.ntmps36
  go_wp2_with fail
  refine (compI a b c d _ m _ (hv.keep Y)).mono ?_
  rintro e w1 ⟨rfl, hb1⟩
  have X1 := hb1.keep X
  have R1 := hb1.keep R
  have Y1 := Y.trans hb1
  clear cx
  obtain ⟨cx, _, zx1⟩ := X1.facts
  obtain ⟨cr, fr, zr⟩ := R1.facts
  cases q1 : compB a b c d m
  · have HN := Lib.hid (rg_no q1)
    have HQ := Lib.hid q1
    clear q1
    have Y2 : Bel w ((w1.setCell ⟨w.heap.size + 1, 0, none⟩ (.int .i64 0)).setCell ⟨w.heap.size + 1, 1, none⟩ (.slice none 0 0)) := (Y1.setCell (p := ⟨w.heap.size + 1, 0, none⟩) (by dsimp only; omega) _).setCell (p := ⟨w.heap.size + 1, 1, none⟩) (by dsimp only; omega) _
    go_wp2
    refine bodyPost_ret (v := .tuple #[.agg #[.int .i64 0, .slice none 0 0], .bool false]) (by simp [results, Try.results36, go_sem, cr]) rfl ⟨.slice none 0 0, by rw [HN.out.1, HQ.out], by rw [HN.out.2]; exact OM.nil _ _, Y2⟩
  have hdec : decB a b c d m = true := by unfold compB at q1; rw [Bool.and_eq_true] at q1; exact q1.1
  obtain ⟨_, f2, _⟩ := fmtB_facts (decB_facts hdec).1
  obtain ⟨s, rfl⟩ : ∃ s : Nat, b = (s : Int) := Int.eq_ofNat_of_zero_le (by omega)
  have HDC := Lib.hid hdec
  have HN := Lib.hid (rg_yes q1)
  have HQ := Lib.hid q1
  clear q1 hdec
  go_wp2_with fail
  refine (recC a c d s _ m _ (hv.keep Y1) HDC.out).mono ?_
  rintro e w2 ⟨r, rfl, O, hb2⟩
  have R2 := hb2.keep R1
  have Y2 := Y1.trans hb2
  have sz := hb2.size
  clear cx cr fr
  obtain ⟨cr, fr, zr2⟩ := R2.facts
  obtain ⟨D, hD⟩ : ∃ D, D = m.map (fun r => r.drop s) := ⟨_, rfl⟩
  rw [← hD] at O
  have HD2 := Lib.hid hD
  clear hD
  obtain ⟨Ao, co, eo, _, _, _⟩ := O.reads
  subst eo
  have Y3 : Bel w ((w2.setCell ⟨w.heap.size + 1, 0, none⟩ (.int .i64 a)).setCell ⟨w.heap.size + 1, 1, none⟩ (.slice Ao D.length co)) := (Y2.setCell (p := ⟨w.heap.size + 1, 0, none⟩) (by dsimp only; omega) _).setCell (p := ⟨w.heap.size + 1, 1, none⟩) (by dsimp only; omega) _
  have O3 := OM.setFar (OM.setFar O (p := ⟨w.heap.size + 1, 0, none⟩) (by dsimp only; omega) (.int .i64 a)) (p := ⟨w.heap.size + 1, 1, none⟩) (by dsimp only; omega) (.slice Ao D.length co)
  have yl := Y1.size
  go_wp2
  refine bodyPost_ret (v := .tuple #[.agg #[.int .i64 a, .slice Ao D.length co], .bool true]) (by simp [results, Try.results36, go_sem, cr]) rfl ⟨.slice Ao D.length co, by rw [HN.out.1, HQ.out], by rw [HN.out.2, ← HD2.out]; exact OM.low O3 yl, Y3⟩
theorem rg_at {a c d : Int} {s : Nat} {m : List (List Int)} (h : compB a (s : Int) c d m = true) {k : Nat} (hk : k < s) : (m.map (fun r => r.drop s))[k]? = some ((dsymZ a (s : Int) c d m (k : Int)).getD []) := by
  rw [comp_sym h hk, List.getElem?_map, rw_get (by rw [(comp_facts h).2]; exact hk)]
  rfl
set_option maxHeartbeats 4000000 in
theorem recS (a b c d : Int) (v : Value) (m : List (List Int)) (w : World) (hv : RII w v m) :
    Calls Try.prog 35 #[.agg #[.int .i64 a, .int .i64 b, .int .i64 c, .int .i64 d, v]] w fun e w' => ∃ r, e = .returned (.tuple #[.agg #[.int .i64 (rgA a b c d m), r], .bool (compB a b c d m)]) ∧ ML w' w.heap.size r (rgM a b c d m) ∧ Bel w w' := by
  obtain ⟨A, cp, rfl, h2, h3, hA⟩ := id hv
  have X := (Blk.new w 31 #[.int .i64 a, .int .i64 b, .int .i64 c, .int .i64 d, .slice A m.length cp]).alloc (.cells #[.int .i64 0, .slice none 0 0] 50)
  have R := Blk.new2 w (.cells #[.int .i64 a, .int .i64 b, .int .i64 c, .int .i64 d, .slice A m.length cp] 31) 50 #[.int .i64 0, .slice none 0 0]
  have Y : Bel w ((w.alloc (.cells #[.int .i64 a, .int .i64 b, .int .i64 c, .int .i64 d, .slice A m.length cp] 31)).alloc (.cells #[.int .i64 0, .slice none 0 0] 50)) := ((Bel.refl _).alloc _).alloc _
  obtain ⟨cx, _, zx⟩ := X.facts
  go_enter Try.func35, Try.ntmps35
  go_wp2_with fail
  refine (compS a b c d _ m _ (hv.keep Y)).mono ?_
  rintro e w1 ⟨rfl, hb1⟩
  have X1 := hb1.keep X
  have R1 := hb1.keep R
  have Y1 := Y.trans hb1
  clear cx
  obtain ⟨cx, _, zx1⟩ := X1.facts
  obtain ⟨cr, fr, zr⟩ := R1.facts
  cases q1 : compB a b c d m
  · have HN := Lib.hid (rg_no q1)
    have HQ := Lib.hid q1
    clear q1
    have Y2 : Bel w ((w1.setCell ⟨w.heap.size + 1, 0, none⟩ (.int .i64 0)).setCell ⟨w.heap.size + 1, 1, none⟩ (.slice none 0 0)) := (Y1.setCell (p := ⟨w.heap.size + 1, 0, none⟩) (by dsimp only; omega) _).setCell (p := ⟨w.heap.size + 1, 1, none⟩) (by dsimp only; omega) _
    go_wp2
    refine bodyPost_ret (v := .tuple #[.agg #[.int .i64 0, .slice none 0 0], .bool false]) (by simp [results, Try.results35, go_sem, cr]) rfl ⟨.slice none 0 0, by rw [HN.out.1, HQ.out], by rw [HN.out.2]; exact ML.nil _ _, Y2⟩
  have hdec : decB a b c d m = true := by unfold compB at q1; rw [Bool.and_eq_true] at q1; exact q1.1
  obtain ⟨_, f2, _⟩ := fmtB_facts (decB_facts hdec).1
  obtain ⟨s, rfl⟩ : ∃ s : Nat, b = (s : Int) := Int.eq_ofNat_of_zero_le (by omega)
  have HN := Lib.hid (rg_yes q1)
  have HQ := Lib.hid q1
  have HMS : Hid ((m.map (fun r => r.drop s)).length = s) := Lib.hid (by rw [List.length_map]; exact (comp_facts q1).2)
  obtain ⟨D, hD⟩ : ∃ D, D = m.map (fun r => r.drop s) := ⟨_, rfl⟩
  have HAT : Hid (∀ k, k < s → D[k]? = some ((dsymZ a (s : Int) c d m (k : Int)).getD [])) := Lib.hid (fun k hk => by rw [hD]; exact rg_at q1 hk)
  rw [← hD] at HMS HN
  clear q1 hdec hD
  have X2 := X1.alloc (.cells #[.int .i64 a, .slice none 0 0] 50)
  have R2 := R1.alloc (.cells #[.int .i64 a, .slice none 0 0] 50)
  have G2 := Blk.new w1 50 #[.int .i64 a, .slice none 0 0]
  have Y2 := Y1.alloc (.cells #[.int .i64 a, .slice none 0 0] 50)
  have sz1 := R1.lt
  go_wp2
  clear cx cr fr
  obtain ⟨gb, hgb⟩ : ∃ gb, gb = w1.heap.size := ⟨_, rfl⟩
  have HGB := Lib.hid hgb
  have gbl : w.heap.size + 2 ≤ gb := by omega
  rw [← hgb] at G2
  rw [← hgb]
  clear hgb
  go_loopg [5] s (fun f i wr => ∃ (k : Nat) (o : Value), k + f = s ∧ i = .int .i64 k ∧ Blk wr w.heap.size 31 #[.int .i64 a, .int .i64 (s : Int), .int .i64 c, .int .i64 d, .slice A m.length cp] ∧ Blk wr (w.heap.size + 1) 50 #[.int .i64 0, .slice none 0 0] ∧ Blk wr gb 50 #[.int .i64 a, o] ∧ ML wr (gb + 1) o (D.take k) ∧ Bel w wr)
  case atStart => exact ⟨0, _, by omega, rfl, X2, R2, G2, ML.nil _ _, Y2⟩
  case round =>
    clear X R Y X1 R1 Y1 X2 R2 G2 Y2
    obtain ⟨k, o, hk, rfl, X, R, G, O, Y⟩ := hrel
    have hk2 : k ≤ s := by omega
    have HK := Lib.hid hk
    clear hk
    obtain ⟨cx, _, zx⟩ := X.facts
    by_cases hlt : k < s
    · have HS := Lib.hid (take_snoc (HAT.out k hlt))
      have hlen : (D.take k).length ≤ 8 := by rw [List.length_take]; omega
      have i1 : (k : Int) < (s : Int) := by omega
      go_wp2_with fail
      refine (dsymS a (s : Int) c d (k : Int) _ m _ (hv.keep Y)).mono ?_
      rintro e w3 ⟨r, rfl, Or, hb3⟩
      have X3 := hb3.keep X
      have R3 := hb3.keep R
      have G3 := hb3.keep G
      have O3 := O.keep hb3
      have Y3 := Y.trans hb3
      have sz3 := G.lt
      have sz4 := hb3.size
      clear cx
      obtain ⟨ys, hys⟩ : ∃ ys, ys = (dsymZ a (s : Int) c d m (k : Int)).getD [] := ⟨_, rfl⟩
      rw [← hys] at Or HS
      clear hys
      obtain ⟨Ar, cr, er, _, _, _⟩ := Or.reads
      subst er
      obtain ⟨Ao, co, eo, _, _⟩ := O3.shape
      subst eo
      have HON := Lib.hid (fun q hq => (O.block q hq))
      obtain ⟨cg, fg, zg⟩ := G3.facts
      generalize hLT : D.take k = LT at *
      have eLT : (LT ++ [ys]).length = LT.length + 1 := by simp
      have O4 := O3.keep ((Bel.refl w3).alloc (.cells #[.slice Ar ys.length cr] 42))
      have rx : RIx (w3.alloc (.cells #[.slice Ar ys.length cr] 42)) (gb + 1) (Value.slice Ao LT.length co).ownBlock (.slice Ar ys.length cr) ys := ((Or.low (by omega)).keep ((Bel.refl w3).alloc _)).rx (fun p hp e => by have := (Or.block p hp).1; have := (HON.out p e).2; omega)
      have rg : w3.cell? ⟨gb, 1, none⟩ = some (.slice Ao LT.length co) := cg 1
      clear cg
      go_wp2_with (at_builtin; refine wpList_appR _ rfl _ _ rfl (gb + 1) _ _ _ LT ys rfl rfl O4 ((Blk.new w3 42 _).facts.1 0) rfl rx (by omega) (by simp only [World.size_alloc]; omega) ?_)
      intro v5 w5 O5 hG5 ho5
      obtain ⟨A5, c5, e5, _, _⟩ := O5.shape
      rw [eLT] at e5
      subst e5
      have G5 := (G3.alloc (.cells #[.slice Ar ys.length cr] 42)).grown hG5 (fun e => by have := (HON.out _ e).1; omega)
      have X5 := (X3.alloc (.cells #[.slice Ar ys.length cr] 42)).grown hG5 (fun e => by have := (HON.out _ e).1; omega)
      have R5 := (R3.alloc (.cells #[.slice Ar ys.length cr] 42)).grown hG5 (fun e => by have := (HON.out _ e).1; omega)
      have Y5 := (Y3.alloc (.cells #[.slice Ar ys.length cr] 42)).grown hG5 (fun q hq => by have := (HON.out q hq).1; omega)
      obtain ⟨cg5, fg5, zg5⟩ := G5.facts
      have X6 := X5.far (p := ⟨gb, 1, none⟩) (by dsimp only; omega) (.slice A5 (LT.length + 1) c5)
      have R6 := R5.far (p := ⟨gb, 1, none⟩) (by dsimp only; omega) (.slice A5 (LT.length + 1) c5)
      have G6 : Blk (w5.setCell ⟨gb, 1, none⟩ (.slice A5 (LT.length + 1) c5)) gb 50 #[.int .i64 a, .slice A5 (LT.length + 1) c5] := G5.set 1 (.slice A5 (LT.length + 1) c5)
      have O6 := O5.setFar (p := ⟨gb, 1, none⟩) (by dsimp only; omega) (.slice A5 (LT.length + 1) c5)
      have Y6 := Y5.setCell (p := ⟨gb, 1, none⟩) (by dsimp only; omega) (.slice A5 (LT.length + 1) c5)
      rw [← HS.out] at O6
      clear hG5 ho5 O5 rx O4 O3 rg X5 R5 Y5 hLT
      go_wp2
      go_roundg (s - (k + 1))
      case measure => have := HK.out; omega
      case rel => exact ⟨k + 1, _, by omega, by go_num, X6, R6, G6, O6, Y6⟩
    · obtain rfl : k = s := by omega
      have i1 : ¬ (k : Int) < (k : Int) := by omega
      have HE : Hid (D.take k = D) := Lib.hid (List.take_of_length_le (by rw [HMS.out]; exact Nat.le_refl _))
      rw [HE.out] at O
      obtain ⟨Ao, co, eo, _, _⟩ := O.shape
      subst eo
      obtain ⟨cg, fg, zg⟩ := G.facts
      obtain ⟨cr, fr, zr⟩ := R.facts
      have Y3 : Bel w ((wr.setCell ⟨w.heap.size + 1, 0, none⟩ (.int .i64 a)).setCell ⟨w.heap.size + 1, 1, none⟩ (.slice Ao D.length co)) := (Y.setCell (p := ⟨w.heap.size + 1, 0, none⟩) (by dsimp only; omega) _).setCell (p := ⟨w.heap.size + 1, 1, none⟩) (by dsimp only; omega) _
      have O3 := (O.setFar (p := ⟨w.heap.size + 1, 0, none⟩) (by dsimp only; omega) (.int .i64 a)).setFar (p := ⟨w.heap.size + 1, 1, none⟩) (by dsimp only; omega) (.slice Ao D.length co)
      go_wp2
      refine bodyPost_ret (v := .tuple #[.agg #[.int .i64 a, .slice Ao D.length co], .bool true]) (by simp [results, Try.results35, go_sem, cr]) rfl ⟨.slice Ao D.length co, by rw [HN.out.1, HQ.out], by rw [HN.out.2]; exact O3.low (by omega), Y3⟩
end Go.Proofs.Ytamiamogablglaa
