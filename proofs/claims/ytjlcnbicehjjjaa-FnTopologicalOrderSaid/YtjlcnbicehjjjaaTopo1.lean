/-
  Graphs without circles: the plain law: repeated choice of a ready node goes through if and only if no node is reached from itself; the sweeps of the reference find all that is reached. Nothing of the program is run here.
-/
import Derived.Test.YtjlcnbicehjjjaaSl3
namespace Go.Proofs.Ytjlcnbicehjjjaa
set_option linter.unusedVariables false

abbrev Eds : Type := List (Nat × Nat)
/-- b is reached from a by one edge or more. -/
inductive Rch (E : Eds) : Nat → Nat → Prop
  | one {a b : Nat} (h : (a, b) ∈ E) : Rch E a b
  | step {a b c : Nat} (r : Rch E a b) (h : (b, c) ∈ E) : Rch E a c
theorem Rch.last {E : Eds} {a c : Nat} (h : Rch E a c) : ∃ p, (p, c) ∈ E ∧ (p = a ∨ Rch E a p) := by
  cases h with
  | one h => exact ⟨a, h, .inl rfl⟩
  | step r h => exact ⟨_, h, .inr r⟩
theorem Rch.from {E : Eds} {s a c : Nat} (hE : ∀ e ∈ E, e.1 < s ∧ e.2 < s) (h : Rch E a c) : a < s ∧ c < s := by
  induction h with
  | one h => exact hE _ h
  | step r h ih => exact ⟨ih.1, (hE _ h).2⟩

/- the sweeps of the reference -/
def at_ (sn : List Bool) (i : Nat) : Bool := sn.getD i false
def relax (sn : List Bool) (e : Nat × Nat) : List Bool := if at_ sn e.1 = true then sn.set e.2 true else sn
def sweep (E : Eds) (sn : List Bool) : List Bool := E.foldl relax sn
def sweeps (E : Eds) : Nat → List Bool → List Bool
  | 0, sn => sn
  | k + 1, sn => sweep E (sweeps E k sn)
theorem at_set {sn : List Bool} {i x : Nat} : at_ (sn.set i true) x = if i = x ∧ x < sn.length then true else at_ sn x := by
  unfold at_
  rw [List.getD_eq_getElem?_getD, List.getElem?_set, List.getD_eq_getElem?_getD]
  by_cases h : i = x
  · subst h
    by_cases h2 : i < sn.length
    · simp [h2]
    · rw [if_pos rfl, if_neg h2, if_neg (by omega), List.getElem?_eq_none (by omega)]
  · rw [if_neg h, if_neg (by omega)]
theorem relax_len (sn : List Bool) (e : Nat × Nat) : (relax sn e).length = sn.length := by unfold relax; split <;> simp
theorem sweep_len (E : Eds) : ∀ sn : List Bool, (sweep E sn).length = sn.length := by
  induction E with
  | nil => intro sn; rfl
  | cons e E ih => intro sn; exact (ih (relax sn e)).trans (relax_len sn e)
theorem sweeps_len (E : Eds) (sn : List Bool) : ∀ k, (sweeps E k sn).length = sn.length
  | 0 => rfl
  | k + 1 => (sweep_len E _).trans (sweeps_len E sn k)
theorem relax_mono {sn : List Bool} {e : Nat × Nat} {x : Nat} (h : at_ sn x = true) : at_ (relax sn e) x = true := by
  unfold relax
  split
  · rw [at_set]; split
    · rfl
    · exact h
  · exact h
theorem sweep_mono (E : Eds) : ∀ {sn : List Bool} {x : Nat}, at_ sn x = true → at_ (sweep E sn) x = true := by
  induction E with
  | nil => intro sn x h; exact h
  | cons e E ih => intro sn x h; exact ih (relax_mono h)
theorem sweeps_mono (E : Eds) {sn : List Bool} {x : Nat} (h : at_ sn x = true) : ∀ k, at_ (sweeps E k sn) x = true
  | 0 => h
  | k + 1 => sweep_mono E (sweeps_mono E h k)
def cnt (sn : List Bool) : Nat := sn.count true
theorem relax_cnt (sn : List Bool) (e : Nat × Nat) : relax sn e = sn ∨ cnt (relax sn e) = cnt sn + 1 := by
  unfold relax
  split
  · rcases Nat.lt_or_ge e.2 sn.length with h | h
    · cases hb : sn[e.2]'h
      · right
        unfold cnt
        rw [List.count_set h, hb]
        simp
      · left
        have := List.set_getElem_self h
        rw [hb] at this
        exact this
    · left
      exact List.set_eq_of_length_le h
  · exact .inl rfl
theorem sweep_cnt (E : Eds) : ∀ sn : List Bool, (sweep E sn = sn ∧ ∀ e ∈ E, relax sn e = sn) ∨ cnt sn + 1 ≤ cnt (sweep E sn) := by
  induction E with
  | nil => intro sn; exact .inl ⟨rfl, fun e h => by cases h⟩
  | cons e E ih =>
    intro sn
    show (sweep E (relax sn e) = sn ∧ _) ∨ cnt sn + 1 ≤ cnt (sweep E (relax sn e))
    rcases relax_cnt sn e with h | h
    · rw [h]
      rcases ih sn with h2 | h2
      · refine .inl ⟨h2.1, fun e' he => ?_⟩
        rcases List.mem_cons.1 he with rfl | he
        · exact h
        · exact h2.2 e' he
      · exact .inr h2
    · right
      rcases ih (relax sn e) with h2 | h2
      · rw [h2.1]; omega
      · omega
def Fix (E : Eds) (sn : List Bool) : Prop := sweep E sn = sn ∧ ∀ e ∈ E, relax sn e = sn
theorem sweeps_fix (E : Eds) (sn : List Bool) : ∀ k, Fix E (sweeps E k sn) ∨ k ≤ cnt (sweeps E k sn)
  | 0 => .inr (Nat.zero_le _)
  | k + 1 => by
    rcases sweeps_fix E sn k with h | h
    · left
      show Fix E (sweep E (sweeps E k sn))
      rw [h.1]; exact h
    · rcases sweep_cnt E (sweeps E k sn) with h2 | h2
      · left
        show Fix E (sweep E (sweeps E k sn))
        rw [h2.1]; exact h2
      · right
        show k + 1 ≤ cnt (sweep E (sweeps E k sn))
        omega
theorem full_at : ∀ {sn : List Bool}, sn.length ≤ cnt sn → ∀ {x : Nat}, x < sn.length → at_ sn x = true := by
  intro sn h x hx
  have h2 : sn.count true = sn.length := Nat.le_antisymm List.count_le_length h
  have h3 := (List.count_eq_length.1 h2) (sn[x]'hx) (List.getElem_mem hx)
  unfold at_
  rw [List.getD_eq_getElem?_getD, List.getElem?_eq_getElem hx, ← h3]
  rfl
/-- After as many sweeps as there are nodes all is closed. -/
theorem sweeps_closed {E : Eds} {s : Nat} {sn : List Bool} (hl : sn.length = s) (hE : ∀ e ∈ E, e.1 < s ∧ e.2 < s) : ∀ e ∈ E, at_ (sweeps E s sn) e.1 = true → at_ (sweeps E s sn) e.2 = true := by
  intro e he h
  have hl2 := sweeps_len E sn s
  rcases sweeps_fix E sn s with h2 | h2
  · have h3 := h2.2 e he
    unfold relax at h3
    rw [if_pos h] at h3
    rw [← h3, at_set, if_pos ⟨rfl, by rw [hl2, hl]; exact (hE e he).2⟩]
  · exact full_at (by omega) (by rw [hl2, hl]; exact (hE e he).2)
theorem closed_rch {E : Eds} {sn : List Bool} {a : Nat} (hc : ∀ e ∈ E, at_ sn e.1 = true → at_ sn e.2 = true) (hs : ∀ b, (a, b) ∈ E → at_ sn b = true) {x : Nat} (h : Rch E a x) : at_ sn x = true := by
  induction h with
  | one h => exact hs _ h
  | step r h ih => exact hc _ h ih
theorem relax_sound {E : Eds} {sn : List Bool} {a : Nat} {e : Nat × Nat} (he : e ∈ E) (h : ∀ x, at_ sn x = true → Rch E a x) : ∀ x, at_ (relax sn e) x = true → Rch E a x := by
  intro x hx
  unfold relax at hx
  split at hx
  · rename_i h1
    rw [at_set] at hx
    split at hx
    · rename_i h2
      obtain ⟨rfl, _⟩ := h2
      exact Rch.step (h _ h1) he
    · exact h x hx
  · exact h x hx
theorem fold_sound {E : Eds} {a : Nat} : ∀ (F : Eds) (sn : List Bool), (∀ e ∈ F, e ∈ E) → (∀ x, at_ sn x = true → Rch E a x) → ∀ x, at_ (F.foldl relax sn) x = true → Rch E a x
  | [], sn, _, h => h
  | e :: F, sn, hF, h => fold_sound F (relax sn e) (fun e' he' => hF e' (List.mem_cons_of_mem _ he')) (relax_sound (hF e List.mem_cons_self) h)
theorem sweeps_sound {E : Eds} {a : Nat} {sn : List Bool} (h : ∀ x, at_ sn x = true → Rch E a x) : ∀ k, ∀ x, at_ (sweeps E k sn) x = true → Rch E a x
  | 0 => h
  | k + 1 => fold_sound E _ (fun e he => he) (sweeps_sound h k)
/-- The nodes marked at the start. -/
def markL (s : Nat) (l : List Nat) : List Bool := l.foldl (fun sn x => sn.set x true) (List.replicate s false)
theorem fold_set_len : ∀ (l : List Nat) (sn : List Bool), (l.foldl (fun sn x => sn.set x true) sn).length = sn.length
  | [], sn => rfl
  | x :: l, sn => (fold_set_len l (sn.set x true)).trans (by simp)
theorem markL_len (s : Nat) (l : List Nat) : (markL s l).length = s := (fold_set_len l _).trans (by simp)
theorem fold_set_at : ∀ (l : List Nat) (sn : List Bool) (x : Nat), at_ (l.foldl (fun sn x => sn.set x true) sn) x = (at_ sn x || (decide (x ∈ l) && decide (x < sn.length)))
  | [], sn, x => by simp
  | y :: l, sn, x => by
    show at_ (l.foldl _ (sn.set y true)) x = _
    rw [fold_set_at l (sn.set y true) x, at_set]
    by_cases h : y = x
    · subst h
      by_cases h2 : y < sn.length
      · simp [h2]
      · simp [h2]
    · by_cases h2 : x < sn.length
      · have h3 : ¬ x = y := fun e => h e.symm
        simp [h, h2, h3]
      · simp [h, h2]
theorem at_rep (s x : Nat) : at_ (List.replicate s false) x = false := by
  unfold at_
  rw [List.getD_eq_getElem?_getD, List.getElem?_replicate]
  split <;> rfl
theorem markL_at (s : Nat) (l : List Nat) (x : Nat) : at_ (markL s l) x = (decide (x ∈ l) && decide (x < s)) := by
  unfold markL
  rw [fold_set_at, at_rep]
  simp
/-- What the reference sees from the nodes behind a. -/
theorem seen_iff {E : Eds} {s a : Nat} {l : List Nat} (hE : ∀ e ∈ E, e.1 < s ∧ e.2 < s) (hl : ∀ b, b ∈ l ↔ (a, b) ∈ E) (x : Nat) : at_ (sweeps E s (markL s l)) x = true ↔ Rch E a x := by
  constructor
  · refine sweeps_sound (fun y hy => ?_) s x
    rw [markL_at] at hy
    have : y ∈ l := by simp at hy; exact hy.1
    exact Rch.one ((hl y).1 this)
  · intro h
    refine closed_rch (sweeps_closed (markL_len s l) hE) (fun b hb => ?_) h
    refine sweeps_mono E ?_ s
    rw [markL_at, decide_eq_true ((hl b).2 hb), decide_eq_true (hE _ hb).2]
    rfl

/- the program's order -/
def rdyB (E : Eds) (out : List Nat) (v : Nat) : Bool := !(out.contains v) && E.all (fun e => !(e.2 == v) || out.contains e.1)
def nextN (s : Nat) (E : Eds) (out : List Nat) : Option Nat := (List.range s).find? (rdyB E out)
def topo (s : Nat) (E : Eds) : Nat → List Nat → Option (List Nat)
  | 0, out => some out
  | f + 1, out => match nextN s E out with
    | none => none
    | some v => topo s E f (out ++ [v])
theorem rdy_facts {E : Eds} {out : List Nat} {v : Nat} (h : rdyB E out v = true) : v ∉ out ∧ ∀ p, (p, v) ∈ E → p ∈ out := by
  unfold rdyB at h
  rw [Bool.and_eq_true] at h
  refine ⟨by have := h.1; simpa using this, fun p hp => ?_⟩
  have := List.all_eq_true.1 h.2 _ hp
  simpa using this
theorem rdy_not {E : Eds} {out : List Nat} {v : Nat} (h : rdyB E out v = false) (hv : v ∉ out) : ∃ p, (p, v) ∈ E ∧ p ∉ out := by
  unfold rdyB at h
  rw [Bool.and_eq_false_iff] at h
  rcases h with h | h
  · exact absurd (by simpa using h) hv
  · rw [List.all_eq_false] at h
    obtain ⟨e, he, h2⟩ := h
    have h3 : e.2 = v ∧ e.1 ∉ out := by simpa using h2
    exact ⟨e.1, by rw [← h3.1]; exact he, h3.2⟩
theorem sub_len : ∀ (l D : List Nat), l.Nodup → (∀ y ∈ l, y ∈ D) → l.length ≤ D.length
  | [], D, _, _ => Nat.zero_le _
  | y :: l, D, hn, h => by
    have hy := h y List.mem_cons_self
    have hn2 := List.nodup_cons.1 hn
    have ih := sub_len l (D.erase y) hn2.2 (fun z hz => (List.mem_erase_of_ne (fun e => hn2.1 (by rw [← e]; exact hz))).2 (h z (List.mem_cons_of_mem _ hz)))
    rw [List.length_erase_of_mem hy] at ih
    have := List.length_pos_of_mem hy
    simp only [List.length_cons]
    omega
/-- What holds of the nodes chosen so far. -/
structure TInv (E : Eds) (s : Nat) (out : List Nat) : Prop where
  down : ∀ x ∈ out, ∀ y, Rch E y x → y ∈ out
  free : ∀ a ∈ out, ¬ Rch E a a
  nodup : out.Nodup
  lt : ∀ x ∈ out, x < s
theorem TInv.snoc {E : Eds} {s : Nat} {out : List Nat} {v : Nat} (h : TInv E s out) (hr : rdyB E out v = true) (hv : v < s) : TInv E s (out ++ [v]) := by
  obtain ⟨r1, r2⟩ := rdy_facts hr
  have hp : ∀ y, Rch E y v → y ∈ out := fun y hy => by
    obtain ⟨p, hp, hq⟩ := hy.last
    rcases hq with rfl | hq
    · exact r2 p hp
    · exact h.down p (r2 p hp) y hq
  refine ⟨fun x hx y hy => ?_, fun a ha hc => ?_, ?_, fun x hx => ?_⟩
  · rcases List.mem_append.1 hx with hx | hx
    · exact List.mem_append_left _ (h.down x hx y hy)
    · rw [List.mem_singleton.1 hx] at hy
      exact List.mem_append_left _ (hp y hy)
  · rcases List.mem_append.1 ha with ha | ha
    · exact h.free a ha hc
    · rw [List.mem_singleton.1 ha] at hc
      exact r1 (hp v hc)
  · rw [List.nodup_append]
    refine ⟨h.nodup, by simp, fun x hx y hy e => ?_⟩
    rw [List.mem_singleton.1 hy] at e
    exact r1 (e ▸ hx)
  · rcases List.mem_append.1 hx with hx | hx
    · exact h.lt x hx
    · rw [List.mem_singleton.1 hx]; exact hv
theorem TInv.nil (E : Eds) (s : Nat) : TInv E s [] where
  down := fun x hx => absurd hx (by simp)
  free := fun a ha => absurd ha (by simp)
  nodup := List.nodup_nil
  lt := fun x hx => absurd hx (by simp)
theorem next_some {s : Nat} {E : Eds} {out : List Nat} {v : Nat} (h : nextN s E out = some v) : rdyB E out v = true ∧ v < s := by
  unfold nextN at h
  exact ⟨List.find?_some h, List.mem_range.1 (List.mem_of_find?_eq_some h)⟩
theorem topo_inv {s : Nat} {E : Eds} : ∀ (f : Nat) (out l : List Nat), TInv E s out → topo s E f out = some l → TInv E s l ∧ l.length = out.length + f
  | 0, out, l, h, ht => by
    have e : out = l := by simpa [topo] using ht
    subst e
    exact ⟨h, rfl⟩
  | f + 1, out, l, h, ht => by
    simp only [topo] at ht
    cases hn : nextN s E out with
    | none => rw [hn] at ht; cases ht
    | some v =>
      rw [hn] at ht
      obtain ⟨h1, h2⟩ := next_some hn
      obtain ⟨h3, h4⟩ := topo_inv f (out ++ [v]) l (h.snoc h1 h2) ht
      refine ⟨h3, by rw [h4]; simp; omega⟩
theorem all_in {s : Nat} {l : List Nat} (hn : l.Nodup) (hl : ∀ x ∈ l, x < s) (hs : s ≤ l.length) {x : Nat} (hx : x < s) : x ∈ l := by
  rcases Decidable.em (x ∈ l) with h | h
  · exact h
  · have h1 := sub_len l ((List.range s).erase x) hn (fun y hy => (List.mem_erase_of_ne (fun e => h (by rw [← e]; exact hy))).2 (List.mem_range.2 (hl y hy)))
    rw [List.length_erase_of_mem (List.mem_range.2 hx), List.length_range] at h1
    omega
theorem out_missing {s : Nat} {l : List Nat} (hs : l.length < s) : ∃ x, x < s ∧ x ∉ l := by
  rcases Classical.em (∃ x, x < s ∧ x ∉ l) with h | h
  · exact h
  · have h1 := sub_len (List.range s) l List.nodup_range (fun y hy => by
      rcases Decidable.em (y ∈ l) with h2 | h2
      · exact h2
      · exact absurd ⟨y, List.mem_range.1 hy, h2⟩ h)
    rw [List.length_range] at h1
    omega
open Classical in
noncomputable def anc (E : Eds) (s v : Nat) : List Nat := (List.range s).filter (fun x => decide (Rch E x v))
theorem anc_lt {E : Eds} {s p v : Nat} (hE : ∀ e ∈ E, e.1 < s ∧ e.2 < s) (hp : (p, v) ∈ E) (hc : ¬ Rch E p p) : (anc E s p).length < (anc E s v).length := by
  have h := sub_len (p :: anc E s p) (anc E s v) (List.nodup_cons.2 ⟨fun h => hc (by unfold anc at h; simpa using (List.mem_filter.1 h).2), List.Nodup.sublist List.filter_sublist List.nodup_range⟩) (fun y hy => by
    unfold anc
    rcases List.mem_cons.1 hy with rfl | hy
    · exact List.mem_filter.2 ⟨List.mem_range.2 (hE _ hp).1, by simpa using Rch.one hp⟩
    · unfold anc at hy
      have h2 := List.mem_filter.1 hy
      exact List.mem_filter.2 ⟨h2.1, by simpa using Rch.step (by simpa using h2.2) hp⟩)
  simp only [List.length_cons] at h
  omega
theorem no_descent {E : Eds} {s : Nat} {out : List Nat} (hE : ∀ e ∈ E, e.1 < s ∧ e.2 < s) (hc : ∀ a, ¬ Rch E a a) (hp : ∀ v, v < s → v ∉ out → ∃ p, (p, v) ∈ E ∧ p ∉ out) : ∀ (n v : Nat), (anc E s v).length = n → v < s → v ∉ out → False := by
  intro n
  induction n using Nat.strongRecOn with
  | _ n ih =>
    intro v hn hv ho
    obtain ⟨p, h1, h2⟩ := hp v hv ho
    have h3 := anc_lt hE h1 (hc p)
    exact ih _ (by omega) p rfl (hE _ h1).1 h2
theorem topo_some {s : Nat} {E : Eds} (hE : ∀ e ∈ E, e.1 < s ∧ e.2 < s) (hc : ∀ a, ¬ Rch E a a) : ∀ (f : Nat) (out : List Nat), out.length + f ≤ s → (topo s E f out).isSome = true
  | 0, out, _ => rfl
  | f + 1, out, hl => by
    simp only [topo]
    cases hn : nextN s E out with
    | some v => exact topo_some hE hc f (out ++ [v]) (by simp; omega)
    | none =>
      exfalso
      obtain ⟨x, hx, hxo⟩ := out_missing (s := s) (l := out) (by omega)
      unfold nextN at hn
      rw [List.find?_eq_none] at hn
      exact no_descent hE hc (fun v hv ho => rdy_not (by have := hn v (List.mem_range.2 hv); simpa using this) ho) _ x rfl hx hxo
/-- The order exists if and only if no node is reached from itself. -/
theorem topo_iff {s : Nat} {E : Eds} (hE : ∀ e ∈ E, e.1 < s ∧ e.2 < s) : (topo s E s []).isSome = true ↔ ∀ a, ¬ Rch E a a := by
  constructor
  · intro h a ha
    obtain ⟨l, hl⟩ := Option.isSome_iff_exists.1 h
    obtain ⟨h1, h2⟩ := topo_inv s [] l (TInv.nil E s) hl
    exact h1.free a (all_in h1.nodup h1.lt (by simp at h2; omega) (Rch.from hE ha).1) ha
  · intro h
    exact topo_some hE h s [] (by simp)
end Go.Proofs.Ytjlcnbicehjjjaa
