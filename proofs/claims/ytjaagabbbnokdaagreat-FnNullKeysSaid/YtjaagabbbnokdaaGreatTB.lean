/-
  DecodedSymbol, CountDecoded: contracts of the program's functions and of the reference's. No condition.
  CountDecoded: contracts of the program's function and of the reference's. No condition.
  Contracts of IsValidFeedback, of the program and of the reference, and of toFeedback. No condition.
  DecodedSymbol's length; MakeFeedback: contracts of the program's function and of the reference's. No condition.
  RecoverGeneration: contracts of the program's function and of the reference's. No condition.
  l8Copy, InsertVector of the reference: contracts. Conditions: a valid basis.
  InsertVector of the reference: contract. Conditions: a valid basis.
-/
import Derived.Test.YtjaagabbbnokdaaGreatMx6
import Derived.Test.YtjaagabbbnokdaaGreatVx
import Derived.Deep.RegionHeld3
import Derived.Deep.RegionLaw
import Derived.Test.YtjaagabbbnokdaaGreatWords
import Derived.Test.YtjaagabbbnokdaaGreatTA
namespace Go.Proofs.YtjaagabbbnokdaaGreat
open Go.ChangeShapes Go.WideShapes Go.ChangeAt Go.RowKit
set_option linter.unusedVariables false
set_option maxRecDepth 100000

def symF (s i : Nat) (r : List Int) : Bool := decide (r.take s = unitV s i)
/-- The symbol with number i, if the decoder holds it. -/
def dsymZ (a b c d : Int) (m : List (List Int)) (i : Int) : Option (List Int) := if decB a b c d m = true ∧ inB i 0 (b - 1) = true then (m.find? (symF b.toNat i.toNat)).map (fun r => r.drop b.toNat) else none
theorem dsymZ_no {a b c d : Int} {m : List (List Int)} {i : Int} (h : ¬ (decB a b c d m = true ∧ inB i 0 (b - 1) = true)) : dsymZ a b c d m i = none := if_neg h
theorem dsymZ_yes {a c d : Int} {s j : Nat} {m : List (List Int)} (h1 : decB a (s : Int) c d m = true) (h2 : inB (j : Int) 0 ((s : Int) - 1) = true) : dsymZ a (s : Int) c d m (j : Int) = (m.find? (symF s j)).map (fun r => r.drop s) := by
  unfold dsymZ; rw [if_pos ⟨h1, h2⟩]; rfl
theorem find_hit {α : Type} {p : α → Bool} {m : List α} {k : Nat} {r : α} (hx : m[k]? = some r) (hn : (m.take k).all (fun x => !(p x)) = true) (hp : p r = true) : m.find? p = some r := by
  obtain ⟨hk, rfl⟩ := List.getElem?_eq_some_iff.1 hx
  conv => lhs; rw [← List.take_append_drop k m]
  rw [List.find?_append]
  have h1 : (m.take k).find? p = none := by
    rw [List.find?_eq_none]
    intro x hx2
    have := List.all_eq_true.1 hn x hx2
    simpa using this
  rw [h1, List.drop_eq_getElem_cons hk, List.find?_cons, hp]
  rfl
theorem find_miss {α : Type} {p : α → Bool} {m : List α} (hn : m.all (fun x => !(p x)) = true) : m.find? p = none := by
  rw [List.find?_eq_none]
  intro x hx
  have := List.all_eq_true.1 hn x hx
  simpa using this
theorem dec_row {a b c d : Int} {m : List (List Int)} (h : decB a b c d m = true) {k : Nat} {r : List Int} (hx : m[k]? = some r) : (r.length : Int) = b + c ∧ Row r.length r ∧ r.length ≤ 40 := by
  obtain ⟨f1, f2, f3, f4⟩ := decB_facts h
  obtain ⟨n, e, hn, _, hR⟩ := basB_facts f2
  have := hR.mtx r (List.mem_of_getElem? hx)
  refine ⟨by rw [this.1, ← f3, e], by rw [this.1]; exact this, by rw [this.1]; exact hn⟩

end Go.Proofs.YtjaagabbbnokdaaGreat

namespace Go.Proofs.YtjaagabbbnokdaaGreat
open Go.ChangeShapes Go.WideShapes Go.ChangeAt Go.RowKit
set_option linter.unusedVariables false
set_option maxRecDepth 100000

/-- How many of the numbers below n meet p. -/
def cntN (p : Nat → Bool) : Nat → Nat
  | 0 => 0
  | k + 1 => cntN p k + (if p k = true then 1 else 0)
theorem cntN_le (p : Nat → Bool) : ∀ k, cntN p k ≤ k
  | 0 => Nat.le_refl _
  | k + 1 => by have := cntN_le p k; unfold cntN; split <;> omega
theorem cntN_yes {p : Nat → Bool} {k : Nat} (h : p k = true) : cntN p (k + 1) = cntN p k + 1 := by show cntN p k + (if p k = true then 1 else 0) = _; rw [if_pos h]
theorem cntN_no {p : Nat → Bool} {k : Nat} (h : p k = false) : cntN p (k + 1) = cntN p k := by show cntN p k + (if p k = true then 1 else 0) = _; rw [if_neg (by rw [h]; decide)]; rfl
theorem cntN_zero {p : Nat → Bool} (h : ∀ k, p k = false) : ∀ n, cntN p n = 0
  | 0 => rfl
  | n + 1 => by rw [cntN_no (h n)]; exact cntN_zero h n
def cntZ (a b c d : Int) (m : List (List Int)) : Nat := if decB a b c d m = true then cntN (fun i => (dsymZ a b c d m (i : Int)).isSome) b.toNat else 0
theorem cntZ_impl (a b c d : Int) (m : List (List Int)) : cntZ a b c d m = cntN (fun i => (dsymZ a b c d m (i : Int)).isSome) (min b 8).toNat := by
  unfold cntZ
  split
  · rename_i h
    obtain ⟨_, f2, _⟩ := fmtB_facts (decB_facts h).1
    rw [show min b 8 = b by omega]
  · rename_i h
    rw [cntN_zero (fun k => by rw [dsymZ_no (fun q => h q.1)]; rfl)]

end Go.Proofs.YtjaagabbbnokdaaGreat

namespace Go.Proofs.YtjaagabbbnokdaaGreat
open Go.ChangeShapes Go.WideShapes Go.ChangeAt Go.RowKit
set_option linter.unusedVariables false

abbrev fbk (s g m : Int) : Value := .agg #[.int .i64 s, .int .i64 g, .int .i64 m]
def fbB (s g m : Int) : Bool := decide (0 ≤ s ∧ s ≤ 7 ∧ 0 ≤ g ∧ g ≤ 1000000000000 ∧ 0 ≤ m ∧ m ≤ 8)
theorem fbB_no {s g m : Int} (h : ¬ (0 ≤ s ∧ s ≤ 7 ∧ 0 ≤ g ∧ g ≤ 1000000000000 ∧ 0 ≤ m ∧ m ≤ 8)) : fbB s g m = false := decide_eq_false h
theorem fbB_yes {s g m : Int} (h : 0 ≤ s ∧ s ≤ 7 ∧ 0 ≤ g ∧ g ≤ 1000000000000 ∧ 0 ≤ m ∧ m ≤ 8) : fbB s g m = true := decide_eq_true h
theorem fbB_facts {s g m : Int} (h : fbB s g m = true) : 0 ≤ s ∧ s ≤ 7 ∧ 0 ≤ g ∧ g ≤ 1000000000000 ∧ 0 ≤ m ∧ m ≤ 8 := of_decide_eq_true h
end Go.Proofs.YtjaagabbbnokdaaGreat

namespace Go.Proofs.YtjaagabbbnokdaaGreat
open Go.ChangeShapes Go.WideShapes Go.ChangeAt Go.RowKit
set_option linter.unusedVariables false
set_option maxRecDepth 100000

theorem dsymZ_len (a b c d : Int) (m : List (List Int)) (i : Int) : ((dsymZ a b c d m i).getD []).length ≤ 40 := by
  unfold dsymZ
  split
  · rename_i h
    cases hf : m.find? (symF b.toNat i.toNat) with
    | none => simp
    | some r =>
      have hm : r ∈ m := List.mem_of_find?_eq_some hf
      obtain ⟨k, hk⟩ := List.mem_iff_getElem?.1 hm
      have := (dec_row h.1 hk).2.2
      simp only [Option.map_some, Option.getD_some, List.length_drop]
      omega
  · simp
def mfB (s a b c d : Int) (m : List (List Int)) : Bool := decB a b c d m && fbB s a (missZ a b c d m)
def mfZ (s a b c d : Int) (m : List (List Int)) (x : Int) : Int := if mfB s a b c d m = true then x else 0
theorem missZ_bd (a b c d : Int) (m : List (List Int)) : -40 ≤ missZ a b c d m ∧ missZ a b c d m ≤ 40 := by
  unfold missZ
  split
  · rename_i h
    obtain ⟨_, f2, _⟩ := fmtB_facts (decB_facts h).1
    obtain ⟨_, _, _, f5, _⟩ := basB_facts (decB_facts h).2.1
    omega
  · omega

end Go.Proofs.YtjaagabbbnokdaaGreat

namespace Go.Proofs.YtjaagabbbnokdaaGreat
open Go.ChangeShapes Go.WideShapes Go.ChangeAt Go.RowKit
set_option linter.unusedVariables false
set_option maxRecDepth 100000

theorem ML.setFar {w : World} {lo : Nat} {v : Value} {xss : List (List Int)} (h : ML w lo v xss) {p : Addr} (hp : p.block < lo) (z : Value) : ML (w.setCell p z) lo v xss := by
  obtain ⟨us, hl, ho, hr⟩ := h
  have hu : ∀ k, lo ≤ k → (w.setCell p z).heap[k]? = w.heap[k]? := fun k h1 => Below.heap_setCell w p z k (by omega)
  refine ⟨us, hl, ?_, fun j u xs q1 q2 => ?_⟩
  · obtain ⟨hl2, h0 | ⟨g, cap, cur, rfl, hb, hh, h1, h2, h3, h4⟩⟩ := ho
    · exact ⟨hl2, .inl h0⟩
    · exact ⟨hl2, .inr ⟨g, cap, cur, rfl, hb, (hu g hb).trans hh, h1, h2, h3, h4⟩⟩
  · obtain ⟨A, c, hv, h1, h2, h3⟩ := hr j u xs q1 q2
    refine ⟨A, c, hv, h1, h2, fun h0 => ?_⟩
    obtain ⟨b, off, hA, hl3, hb, hne, hc⟩ := h3 h0
    refine ⟨b, off, hA, hl3, by simpa [World.setCell] using hb, hne, fun j x hx => ?_⟩
    rw [← hc j x hx]
    exact World.cell?_of_block (hu b hl3)
theorem mono_id {n : Nat} {P : Nat → Nat} (hm : ∀ i j, i < j → j < n → P i < P j) (hb : ∀ i, i < n → P i < n) : ∀ i, i < n → P i = i := by
  have low : ∀ i, i < n → i ≤ P i := by
    intro i
    induction i with
    | zero => intro _; exact Nat.zero_le _
    | succ i ih =>
      intro hi
      have := ih (by omega)
      have := hm i (i + 1) (by omega) hi
      omega
  have high : ∀ d i, i + d + 1 = n → P i ≤ i := by
    intro d
    induction d with
    | zero => intro i hi; have := hb i (by omega); omega
    | succ d ih =>
      intro i hi
      have h1 := ih (i + 1) (by omega)
      have h2 := hm i (i + 1) (by omega) (by omega)
      omega
  intro i hi
  have h1 := low i hi
  have h2 := high (n - i - 1) i (by omega)
  omega
theorem comp_facts {a c d : Int} {s : Nat} {m : List (List Int)} (h : compB a (s : Int) c d m = true) : decB a (s : Int) c d m = true ∧ m.length = s := by
  unfold compB at h
  rw [Bool.and_eq_true] at h
  exact ⟨h.1, by have := h.2; simp at this; omega⟩
theorem comp_take {a c d : Int} {s : Nat} {m : List (List Int)} (h : compB a (s : Int) c d m = true) {i : Nat} (hi : i < s) : (rw_ m i).take s = unitV s i := by
  obtain ⟨h1, h2⟩ := comp_facts h
  obtain ⟨f1, f2, f3, f4⟩ := decB_facts h1
  obtain ⟨_, _, c3⟩ := fmtB_facts f1
  obtain ⟨n, e, hn, _, hR⟩ := basB_facts f2
  have hsn : s ≤ n := by omega
  have lt : ∀ k, k < s → lead (rw_ m k) < s := by
    intro k hk
    have hr := mtx_row hR.mtx (show k < m.length by omega)
    have h5 := List.all_eq_true.1 f4 _ (rw_mem (show k < m.length by omega))
    have h6 := hR.low k (by omega)
    unfold ldB at h5
    rw [leadV_yes (by rw [hr.1]; exact h6)] at h5
    simp at h5
    omega
  have pid := mono_id (n := s) (P := fun i => lead (rw_ m i)) (fun i j hij hj => hR.mono i j hij (by omega)) lt
  have hr := mtx_row hR.mtx (show i < m.length by omega)
  apply List.ext_getElem?
  intro k
  rcases Nat.lt_or_ge k s with hk | hk
  · rw [List.getElem?_take, if_pos hk, unitV_at hk, ent_get (by rw [hr.1]; omega)]
    have h7 : lead (rw_ m k) = k := pid k hk
    by_cases e2 : k = i
    · subst e2
      rw [if_pos rfl]
      have h8 : ent (rw_ m k) (lead (rw_ m k)) = 1 := hR.one k (by omega)
      rw [h7] at h8
      rw [h8]
    · rw [if_neg e2]
      have h8 : ent (rw_ m i) (lead (rw_ m k)) = 0 := hR.col k (by omega) i (by omega) (Ne.symm e2)
      rw [h7] at h8
      rw [h8]
  · rw [List.getElem?_eq_none (by rw [List.length_take]; omega), List.getElem?_eq_none (by rw [unitV_len]; exact hk)]
theorem unitV_inj {s i j : Nat} (hi : i < s) (h : unitV s i = unitV s j) : i = j := by
  have h1 := unitV_at (i := i) hi
  rw [h, unitV_at hi] at h1
  by_cases e : i = j
  · exact e
  · rw [if_neg e, if_pos rfl] at h1; simp at h1
/-- A complete decoder holds every symbol, in order. -/
theorem comp_sym {a c d : Int} {s : Nat} {m : List (List Int)} (h : compB a (s : Int) c d m = true) {i : Nat} (hi : i < s) : dsymZ a (s : Int) c d m (i : Int) = some ((rw_ m i).drop s) := by
  obtain ⟨h1, h2⟩ := comp_facts h
  rw [dsymZ_yes h1 (decide_eq_true (by omega))]
  rw [find_hit (rw_get (show i < m.length by omega)) ?_ ?_]
  · rfl
  · rw [List.all_eq_true]
    intro r hr
    obtain ⟨k, hk⟩ := List.mem_iff_getElem?.1 hr
    rw [List.getElem?_take] at hk
    split at hk
    · rename_i hki
      have e := rw_in hk
      unfold symF
      rw [← e, comp_take h (show k < s by omega)]
      simp only [Bool.not_eq_true', decide_eq_false_iff_not]
      intro e2
      have := unitV_inj (show k < s by omega) e2
      omega
    · cases hk
  · unfold symF
    rw [decide_eq_true_eq]
    exact comp_take h hi
def rgA (a b c d : Int) (m : List (List Int)) : Int := if compB a b c d m = true then a else 0
def rgM (a b c d : Int) (m : List (List Int)) : List (List Int) := if compB a b c d m = true then m.map (fun r => r.drop b.toNat) else []
theorem rg_no {a b c d : Int} {m : List (List Int)} (h : compB a b c d m = false) : rgA a b c d m = 0 ∧ rgM a b c d m = [] := by unfold rgA rgM; rw [h]; exact ⟨rfl, rfl⟩
theorem rg_yes {a c d : Int} {s : Nat} {m : List (List Int)} (h : compB a (s : Int) c d m = true) : rgA a (s : Int) c d m = a ∧ rgM a (s : Int) c d m = m.map (fun r => r.drop s) := by unfold rgA rgM; rw [h]; exact ⟨rfl, rfl⟩
theorem flat_len {m : List (List Int)} {n : Nat} (h : ∀ r ∈ m, r.length ≤ n) : m.flatten.length ≤ m.length * n := by
  induction m with
  | nil => simp
  | cons r m ih =>
    have h1 := ih (fun x hx => h x (List.mem_cons_of_mem _ hx))
    have h2 := h r List.mem_cons_self
    rw [List.flatten_cons, List.length_append, List.length_cons, Nat.add_mul, Nat.one_mul]
    omega
theorem rgM_fl (a b c d : Int) (m : List (List Int)) : flN (rgM a b c d m) ≤ 1600 := by
  unfold rgM
  split
  · rename_i h
    have h1 : decB a b c d m = true := by unfold compB at h; rw [Bool.and_eq_true] at h; exact h.1
    obtain ⟨_, _, _, f5, _⟩ := basB_facts (decB_facts h1).2.1
    have h2 : (m.map (fun r => r.drop b.toNat)).flatten.length ≤ (m.map (fun r => r.drop b.toNat)).length * 40 := by
      apply flat_len
      intro r hr
      obtain ⟨x, hx, rfl⟩ := List.mem_map.1 hr
      obtain ⟨k, hk⟩ := List.mem_iff_getElem?.1 hx
      have := (dec_row h1 hk).2.2
      rw [List.length_drop]
      omega
    rw [List.length_map] at h2
    show (m.map (fun r => r.drop b.toNat)).flatten.length ≤ 1600
    omega
  · show ([] : List (List Int)).flatten.length ≤ 1600
    simp

end Go.Proofs.YtjaagabbbnokdaaGreat

namespace Go.Proofs.YtjaagabbbnokdaaGreat
open Go.ChangeShapes Go.WideShapes Go.ChangeAt Go.RowKit
set_option linter.unusedVariables false
set_option maxRecDepth 100000

theorem drew_size (w : World) : w.drew.heap.size = w.heap.size := rfl
theorem ML.far {w w' : World} {lo g : Nat} {v : Value} {xss : List (List Int)} (h : ML w lo v xss) (hg : w.grownBy w' (some g)) (hlt : g < lo) : ML w' lo v xss := by
  obtain ⟨us, hl, ho, hr⟩ := h
  have hb : ∀ b, lo ≤ b → b < w.heap.size → w'.heap[b]? = w.heap[b]? := fun b h1 h2 => hg.block b h2 (fun e => by injection e with e; omega)
  refine ⟨us, hl, ?_, fun j u xs q1 q2 => ?_⟩
  · obtain ⟨hl2, h0 | ⟨g2, cap, cur, rfl, hb2, hh, h1, h2, h3, h4⟩⟩ := ho
    · exact ⟨hl2, .inl h0⟩
    · exact ⟨hl2, .inr ⟨g2, cap, cur, rfl, hb2, (hb g2 hb2 (Blk.lt hh)).trans hh, h1, h2, h3, h4⟩⟩
  · obtain ⟨A, c, hv, h1, h2, h3⟩ := hr j u xs q1 q2
    refine ⟨A, c, hv, h1, h2, fun h0 => ?_⟩
    obtain ⟨b, off, hA, hl3, hb3, hne, hc⟩ := h3 h0
    refine ⟨b, off, hA, hl3, Nat.lt_of_lt_of_le hb3 hg.size, hne, fun j x hx => ?_⟩
    rw [← hc j x hx]
    exact World.cell?_of_block (hb b hl3 hb3)
set_option maxHeartbeats 1000000 in
theorem l8cS (d : Int) (v : Value) (m : List (List Int)) (w : World) (hv : RII w v m) (hn : m.length ≤ 1048576) (hr : ∀ xs ∈ m, xs.length ≤ 1048576) :
    Calls Tryz.prog 124 #[.agg #[.int .i64 d, v]] w fun e w' => ∃ r, e = .returned (.agg #[.int .i64 d, r]) ∧ ML w' w.heap.size r m ∧ Bel w w' := by
  have HRW := Lib.hid hr
  clear hr
  obtain ⟨A, cp, rfl, h2, h3, hA⟩ := id hv
  have X := (Blk.new w 40 #[.int .i64 d, .slice A m.length cp]).alloc (.cells #[.int .i64 0, .slice none 0 0] 40)
  have R := Blk.new2 w (.cells #[.int .i64 d, .slice A m.length cp] 40) 40 #[.int .i64 0, .slice none 0 0]
  have Y : Bel w ((w.alloc (.cells #[.int .i64 d, .slice A m.length cp] 40)).alloc (.cells #[.int .i64 0, .slice none 0 0] 40)) := ((Bel.refl _).alloc _).alloc _
  obtain ⟨cx, _, zx⟩ := X.facts
  have r0 : ((w.alloc (.cells #[.int .i64 d, .slice A m.length cp] 40)).alloc (.cells #[.int .i64 0, .slice none 0 0] 40)).cell? ⟨w.heap.size, 0, none⟩ = some (.int .i64 d) := cx 0
  have r1 : ((w.alloc (.cells #[.int .i64 d, .slice A m.length cp] 40)).alloc (.cells #[.int .i64 0, .slice none 0 0] 40)).cell? ⟨w.heap.size, 1, none⟩ = some (.slice A m.length cp) := cx 1
  clear cx
  go_enter Tryz.func124, Tryz.ntmps124
  go_wp2_with fail
  go_region_held3 (fun w' => w'.cell? ⟨w.heap.size, 0, none⟩ = some (.int .i64 d) ∧ w'.cell? ⟨w.heap.size, 1, none⟩ = some (.slice A m.length cp)) (first | exact ⟨hbT.cell1 zx r0, hbT.cell1 zx r1⟩ | go_keep) (first | (go_at_call 126; ((with_reducible refine (copyS _ m _ (by exact (hv.keep Y).keep ((Bel.refl _).drew)) hn HRW.out).mono ?_); rintro e wT ⟨rv, rfl, Ov, hbT⟩; obtain ⟨Ar, ca, er, _, _⟩ := Ov.shape; subst er; have RT := hbT.keep (R.drew); have cq0 := RT.facts.1 0; have cq1 := RT.facts.1 1; have fq0 := RT.facts.2.1 0; have fq1 := RT.facts.2.1 1)))
  all_goals (
    have cr := RT.facts.1
    have zr := RT.lt
    have YT : Bel w wT := Y.drew.trans hbT
    have Y3 := (YT.setCell (p := ⟨w.heap.size + 1, 0, none⟩) (by dsimp only; omega) (.int .i64 d)).setCell (p := ⟨w.heap.size + 1, 1, none⟩) (by dsimp only; omega) (.slice Ar m.length ca)
    have O3 := ((Ov.low (show w.heap.size + 2 ≤ _ by simp)).setFar (p := ⟨w.heap.size + 1, 0, none⟩) (by dsimp only; omega) (.int .i64 d)).setFar (p := ⟨w.heap.size + 1, 1, none⟩) (by dsimp only; omega) (.slice Ar m.length ca)
    go_wp2
    refine bodyPost_ret (v := .agg #[.int .i64 d, .slice Ar m.length ca]) (by simp [results, Tryz.results124, go_sem, cr]) rfl ⟨_, rfl, ML.low O3 (by omega), Y3⟩)
def insF (c : Nat) (m : List (List Int)) (xs : List Int) : List (List Int) := if mrowB c xs = true then insB m xs else m
def putB (c : Nat) (m : List (List Int)) (xs : List Int) : Bool := mrowB c xs && innB m xs
theorem insF_no {c : Nat} {m : List (List Int)} {xs : List Int} (h : putB c m xs = false) : insF c m xs = m := by
  unfold insF
  unfold putB at h
  cases h1 : mrowB c xs
  · rfl
  · rw [h1] at h
    rw [if_pos rfl, insB_no (by simpa using h)]
theorem insF_yes {c : Nat} {m : List (List Int)} {P : Nat → Nat} {xs : List Int} (hR : Red c m P) (h : putB c m xs = true) : redZ (m ++ [xs]) c = insF c m xs := by
  unfold putB at h
  rw [Bool.and_eq_true] at h
  unfold insF
  rw [if_pos h.1, insB_yes h.2]
  exact ins_red hR (mrowB_row h.1).1 h.2
end Go.Proofs.YtjaagabbbnokdaaGreat

namespace Go.Proofs.YtjaagabbbnokdaaGreat
open Go.ChangeShapes Go.WideShapes Go.ChangeAt Go.RowKit
set_option linter.unusedVariables false
set_option maxRecDepth 100000

set_option maxHeartbeats 4000000 in
theorem insVS (c : Nat) (v u : Value) (m : List (List Int)) (xs : List Int) (P : Nat → Nat) (w : World) (hv : RII w v m) (hu : RI w u xs) (hR : Red c m P) (hc : c ≤ 40) :
    Calls Tryz.prog 101 #[.agg #[.int .i64 (c : Int), v], u] w fun e w' => ∃ r, e = .returned (.tuple #[.agg #[.int .i64 (c : Int), r], .bool (putB c m xs)]) ∧ ML w' w.heap.size r (insF c m xs) ∧ Bel w w' := by
  have HRR := Lib.hid hR
  have hlen := hR.len_le
  have HFB := Lib.hid (fitB_red hR hc xs)
  have HRW : Hid (∀ r ∈ m, r.length ≤ 1048576) := Lib.hid (fun r hr => by have := (hR.mtx r hr).1; omega)
  have HPB : Hid (putB c m xs = (mrowB c xs && innB m xs)) := rfl
  clear hR
  obtain ⟨A, cp, rfl, h2, h3, hA⟩ := id hv
  obtain ⟨Bu, cu, rfl, _, _, _⟩ := id hu
  have X := (Blk.new w 40 #[.int .i64 (c : Int), .slice A m.length cp]).alloc (.cells #[.int .i64 0, .slice none 0 0] 40)
  have R := Blk.new2 w (.cells #[.int .i64 (c : Int), .slice A m.length cp] 40) 40 #[.int .i64 0, .slice none 0 0]
  have Y : Bel w ((w.alloc (.cells #[.int .i64 (c : Int), .slice A m.length cp] 40)).alloc (.cells #[.int .i64 0, .slice none 0 0] 40)) := ((Bel.refl _).alloc _).alloc _
  obtain ⟨cx, _, _⟩ := X.facts
  have hcopy : ∀ (w2 : World), Blk w2 w.heap.size 40 #[.int .i64 (c : Int), .slice A m.length cp] → Bel w w2 → Calls Tryz.prog 124 #[.agg #[.int .i64 (c : Int), .slice A m.length cp]] w2 fun e w' => ∃ r, e = .returned (.agg #[.int .i64 (c : Int), r]) ∧ ML w' w2.heap.size r m ∧ Bel w2 w' := fun w2 _ hb => l8cS (c : Int) _ m w2 (hv.keep hb) (by omega) HRW.out
  have HCOPY := Lib.hid hcopy
  clear hcopy
  go_enter Tryz.func101, Tryz.ntmps101
  go_wp2_with fail
  refine (fitS (c : Int) _ _ m xs _ (hv.keep Y) (hu.keep Y)).mono ?_
  rintro e w1 ⟨rfl, hb1⟩
  have X1 := hb1.keep X
  have R1 := hb1.keep R
  have Y1 := Y.trans hb1
  clear cx
  obtain ⟨cx, _, zx⟩ := X1.facts
  cases q1 : mrowB c xs
  · rw [HFB.out, q1]
    have HQ : Hid (putB c m xs = false) := Lib.hid (by rw [HPB.out, q1]; rfl)
    clear q1
    go_wp2_with fail
    refine (HCOPY.out _ X1 Y1).mono ?_
    rintro e w2 ⟨r, rfl, O, hb2⟩
    obtain ⟨Ar, ca, er, _, _⟩ := O.shape
    subst er
    have R2 := hb2.keep R1
    obtain ⟨cr, fr, zr⟩ := R2.facts
    have sz1 := R1.lt
    have Y2 := Y1.trans hb2
    have Y3 := (Y2.setCell (p := ⟨w.heap.size + 1, 0, none⟩) (by dsimp only; omega) (.int .i64 (c : Int))).setCell (p := ⟨w.heap.size + 1, 1, none⟩) (by dsimp only; omega) (.slice Ar m.length ca)
    have O3 := ((O.low (show w.heap.size + 2 ≤ _ by omega)).setFar (p := ⟨w.heap.size + 1, 0, none⟩) (by dsimp only; omega) (.int .i64 (c : Int))).setFar (p := ⟨w.heap.size + 1, 1, none⟩) (by dsimp only; omega) (.slice Ar m.length ca)
    go_wp2
    refine bodyPost_ret (v := .tuple #[.agg #[.int .i64 (c : Int), .slice Ar m.length ca], .bool false]) (by simp [results, Tryz.results101, go_sem, cr]) rfl ⟨_, by rw [HQ.out], by rw [insF_no HQ.out]; exact ML.low O3 (by omega), Y3⟩
  have HQ1 := Lib.hid q1
  have HFT : Hid (fitB (c : Int) m xs = true) := Lib.hid (by rw [HFB.out, q1])
  rw [HFT.out]
  clear q1
  go_wp2_with fail
  refine (conS c _ _ m xs _ (hv.keep Y1) (hu.keep Y1) HFT.out).mono ?_
  rintro e w2 ⟨rfl, hb2⟩
  have X2 := hb2.keep X1
  have R2 := hb2.keep R1
  have Y2 := Y1.trans hb2
  clear cx
  obtain ⟨cx, _, zx⟩ := X2.facts
  cases q2 : innB m xs
  · have HQ : Hid (putB c m xs = false) := Lib.hid (by rw [HPB.out, q2]; simp)
    clear q2
    go_wp2_with fail
    refine (HCOPY.out _ X2 Y2).mono ?_
    rintro e w3 ⟨r, rfl, O, hb3⟩
    obtain ⟨Ar, ca, er, _, _⟩ := O.shape
    subst er
    have R3 := hb3.keep R2
    obtain ⟨cr, fr, zr⟩ := R3.facts
    have sz1 := R2.lt
    have Y3 := Y2.trans hb3
    have Y4 := (Y3.setCell (p := ⟨w.heap.size + 1, 0, none⟩) (by dsimp only; omega) (.int .i64 (c : Int))).setCell (p := ⟨w.heap.size + 1, 1, none⟩) (by dsimp only; omega) (.slice Ar m.length ca)
    have O3 := ((O.low (show w.heap.size + 2 ≤ _ by omega)).setFar (p := ⟨w.heap.size + 1, 0, none⟩) (by dsimp only; omega) (.int .i64 (c : Int))).setFar (p := ⟨w.heap.size + 1, 1, none⟩) (by dsimp only; omega) (.slice Ar m.length ca)
    go_wp2
    refine bodyPost_ret (v := .tuple #[.agg #[.int .i64 (c : Int), .slice Ar m.length ca], .bool false]) (by simp [results, Tryz.results101, go_sem, cr]) rfl ⟨_, by rw [HQ.out], by rw [insF_no HQ.out]; exact ML.low O3 (by omega), Y4⟩
  have HQ : Hid (putB c m xs = true) := Lib.hid (by rw [HPB.out, HQ1.out, q2]; rfl)
  have HYES := Lib.hid (insF_yes HRR.out HQ.out)
  have HRX : Hid (Row c xs) := Lib.hid (mrowB_row HQ1.out).1
  have HMX : Hid (Mtx c (m ++ [xs])) := Lib.hid (mtx_app HRR.out.mtx HRX.out)
  have hx40 : xs.length ≤ 40 := (mrowB_row HQ1.out).2
  have HML : Hid ((m ++ [xs]).length ≤ 1048576) := Lib.hid (by rw [List.length_append, List.length_singleton]; omega)
  have r0 : w2.cell? ⟨w.heap.size, 0, none⟩ = some (.int .i64 (c : Int)) := cx 0
  have r1 : w2.cell? ⟨w.heap.size, 1, none⟩ = some (.slice A m.length cp) := cx 1
  have RU := Lib.hid (hu.keep Y2)
  have HV := Lib.hid (hv.keep Y2)
  have Yd := (Bel.refl w2).drew
  have sz2 := R2.lt
  clear q2 cx hb1 hb2 X X1 R R1 Y Y1 HFB HPB HFT HCOPY
  go_wp2_with fail
  go_region_held3 (fun w' => w'.cell? ⟨w.heap.size, 0, none⟩ = some (.int .i64 (c : Int)) ∧ w'.cell? ⟨w.heap.size, 1, none⟩ = some (.slice A m.length cp)) (first | exact ⟨YE.cell1 zx r0, YE.cell1 zx r1⟩ | exact ⟨YB.cell1 zx r0, YB.cell1 zx r1⟩ | exact ⟨YA.cell1 zx r0, YA.cell1 zx r1⟩ | exact ⟨YC.cell1 zx r0, YC.cell1 zx r1⟩ | go_keep) (first
    | (go_at_call 126; refine (copyS _ m _ (HV.out.keep Yd) (by omega) HRW.out).mono ?_; rintro e wC ⟨cv, rfl, Oc, hbC⟩; obtain ⟨Ac, ca, ec, _, _⟩ := Oc.shape; subst ec; have YC : Bel w2 wC := Yd.trans hbC; have OcL : ML wC w2.heap.size (.slice Ac m.length ca) m := Oc.low Yd.size; have HCO := Oc.block)
    | (refine step_appE _ (by rfl) _ _ (by rfl) _ _ xs (by rfl) (by rfl) (by first | exact Blk.new _ _ _ | exact hbC.keep (Blk.new _ _ _)) (by first | exact RU.out.keep (Yd.alloc _) | exact RU.out.keep YC | exact RU.out.keep (YC.alloc _)) (by omega) ?_; intro vA w1 O1 hG1 ho1; obtain ⟨A1, c1, e1, _, _, _⟩ := O1.reads; subst e1; have YA : Bel w2 w1 := (by first | exact (Yd.alloc _).grown hG1 (fun q hq => by cases hq; exact Nat.le_refl _) | exact (YC.alloc _).grown hG1 (fun q hq => by cases hq; exact YC.size) | exact YC.grown hG1 (fun q hq => by cases hq; exact Nat.le_refl _)); have O1L : OI w1 w2.heap.size (.slice A1 xs.length c1) xs := OI.low O1 (by first | exact Nat.le_refl _ | exact YC.size); have HO1 := O1.block; (try have OcA : ML w1 w2.heap.size (.slice Ac m.length ca) m := (by first | exact OcL.keep (((Bel.refl _).alloc _).grown hG1 (fun q hq => by cases hq; exact Nat.le_refl _)) | exact (Oc.far hG1 (by simp)).low (by first | exact (Yd.alloc _).size | exact Yd.size))))
    | (refine step_appR _ (by rfl) _ _ (by rfl) w2.heap.size _ _ _ m xs (by rfl) (by rfl) (by first | exact OcA.keep ((Bel.refl _).alloc _) | exact OcL.keep ((Bel.refl _).alloc _) | exact OcL) (by first | exact (Blk.new _ _ _).facts.1 0 | exact (hbC.keep (Blk.new _ _ _)).facts.1 0) (by rfl) (by first | exact (O1L.keep ((Bel.refl _).alloc _)).rx (fun q hq e => by have t1 := HCO q e; have t2 := HO1 q hq; have t3 := ho1.imp (fun h => Option.some.inj (hq.symm.trans h)) (fun h => Option.some.inj (hq.symm.trans h)); clear hq e ho1; (try simp only [World.size_alloc] at t1 t2 t3); (try simp only [drew_size] at t1 t2 t3); omega) | exact ((O1L.keep hbC).keep ((Bel.refl _).alloc _)).rx (fun q hq e => by have t1 := HCO q e; have t2 := HO1 q hq; omega) | exact ((O1L.keep ((Bel.refl _).alloc _)).keep hbC).rx (fun q hq e => by have t1 := HCO q e; have t2 := HO1 q hq; simp only [World.size_alloc] at t1; omega)) (by omega) (by first | exact (YA.alloc _).size | exact (YC.alloc _).size | exact YC.size) ?_; intro v4 w4 O4 hG4 ho4; have YB : Bel w2 w4 := (by first | exact (YA.alloc _).grown hG4 (fun q hq => (OcL.block q hq).1) | exact (YC.alloc _).grown hG4 (fun q hq => (OcL.block q hq).1) | exact YC.grown hG4 (fun q hq => (OcL.block q hq).1)))
    | (go_at_call 126; refine (copyS _ m _ (HV.out.keep (Yd.alloc _)) (by omega) HRW.out).mono ?_; rintro e wC ⟨cv, rfl, Oc, hbC⟩; obtain ⟨Ac, ca, ec, _, _⟩ := Oc.shape; subst ec; have YC : Bel w2 wC := (Yd.alloc _).trans hbC; have OcL : ML wC w2.heap.size (.slice Ac m.length ca) m := Oc.low (Yd.alloc _).size; have HCO := Oc.block)
    | (go_at_call 125; ((with_reducible refine (elimS _ (m ++ [xs]) c _ (by exact O4.reads) HMX.out hc HML.out).mono ?_); rintro e wE ⟨rv, rfl, Oe, hbE⟩; obtain ⟨Ae, ce, ee, _, _⟩ := Oe.shape; subst ee; have YE : Bel w2 wE := YB.trans hbE; have RE := YE.keep R2; have cq0 := RE.facts.1 0; have cq1 := RE.facts.1 1; have fq0 := RE.facts.2.1 0; have fq1 := RE.facts.2.1 1)))
  all_goals (
    have cr := RE.facts.1
    have zr := RE.lt
    have YF := Y2.trans YE
    have hlo : w2.heap.size ≤ w4.heap.size := YB.size
    have Y3 := (YF.setCell (p := ⟨w.heap.size + 1, 0, none⟩) (by dsimp only; omega) (.int .i64 (c : Int))).setCell (p := ⟨w.heap.size + 1, 1, none⟩) (by dsimp only; omega) (.slice Ae (redZ (m ++ [xs]) c).length ce)
    have O3 := ((Oe.low (show w.heap.size + 2 ≤ _ by omega)).setFar (p := ⟨w.heap.size + 1, 0, none⟩) (by dsimp only; omega) (.int .i64 (c : Int))).setFar (p := ⟨w.heap.size + 1, 1, none⟩) (by dsimp only; omega) (.slice Ae (redZ (m ++ [xs]) c).length ce)
    go_wp2
    refine bodyPost_ret (v := .tuple #[.agg #[.int .i64 (c : Int), .slice Ae (redZ (m ++ [xs]) c).length ce], .bool true]) (by simp [results, Tryz.results101, go_sem, cr]) rfl ⟨_, by rw [HQ.out], by rw [← HYES.out]; exact ML.low O3 (by omega), Y3⟩)
end Go.Proofs.YtjaagabbbnokdaaGreat
