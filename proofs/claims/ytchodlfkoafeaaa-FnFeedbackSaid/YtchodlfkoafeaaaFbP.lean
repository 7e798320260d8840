/-
  The plain law of reports: recording one lowers what is missing, keeps the table in order, and does nothing twice.
-/
import Derived.Test.YtchodlfkoafeaaaRcg
import Derived.Test.YtchodlfkoafeaaaFb2
import Derived.Test.YtchodlfkoafeaaaFgt
namespace Go.Proofs.Ytchodlfkoafeaaa
set_option linter.unusedVariables false

theorem less_iff {a b : Tr} : lessFb a b = true ↔ (a.2.1 < b.2.1 ∨ a.2.1 = b.2.1 ∧ a.1 < b.1) := by unfold lessFb; exact decide_eq_true_iff
theorem less_no {a b : Tr} : lessFb a b = false ↔ ¬ (a.2.1 < b.2.1 ∨ a.2.1 = b.2.1 ∧ a.1 < b.1) := by unfold lessFb; exact decide_eq_false_iff_not
theorem entB_iff {a b : Int} {f : Tr} : entB a b f = true ↔ (f.2.1 = a ∧ f.1 = b) := by unfold entB; simp
theorem entB_no {a b : Int} {f : Tr} : entB a b f = false ↔ ¬ (f.2.1 = a ∧ f.1 = b) := by
  rw [← Bool.not_eq_true, entB_iff]

theorem srt_pair {fs : List Tr} (h : Srt fs) : fs.Pairwise (fun a b => lessFb a b = true) := by
  rw [List.pairwise_iff_getElem]
  intro i j hi hj hij
  refine srt_lt h (j - i - 1) i fs[i] fs[j] (List.getElem?_eq_getElem hi) ?_
  rw [show i + (j - i - 1) + 1 = j by omega]
  exact List.getElem?_eq_getElem hj
theorem pair_srt {fs : List Tr} (h : fs.Pairwise (fun a b => lessFb a b = true)) : Srt fs := by
  rw [List.pairwise_iff_getElem] at h
  intro j a b ha hb
  obtain ⟨h1, e1⟩ := List.getElem?_eq_some_iff.1 ha
  obtain ⟨h2, e2⟩ := List.getElem?_eq_some_iff.1 hb
  rw [← e1, ← e2]
  exact h j (j + 1) h1 h2 (by omega)
theorem tab_of {fs : List Tr} (h : Srt fs) (hv : ∀ f ∈ fs, fbB f.1 f.2.1 f.2.2 = true) : tabB fs = true := by
  unfold tabB
  rw [List.all_eq_true]
  intro k hk
  have hk' := List.mem_range.1 hk
  have e := List.getElem?_eq_getElem hk'
  unfold tabP
  rw [e]
  dsimp only
  rw [hv _ (List.getElem_mem hk'), Bool.true_and]
  cases k with
  | zero => rfl
  | succ j =>
    have e2 : fs[j]? = some (fs[j]'(by omega)) := List.getElem?_eq_getElem (by omega)
    dsimp only
    rw [e2]
    exact h j _ _ e2 e
theorem tab_valid {fs : List Tr} (h : tabB fs = true) : ∀ f ∈ fs, fbB f.1 f.2.1 f.2.2 = true := by
  intro f hf
  obtain ⟨k, hk, e⟩ := List.getElem_of_mem hf
  have h1 := List.all_eq_true.1 h k (List.mem_range.2 hk)
  unfold tabP at h1
  rw [List.getElem?_eq_getElem hk] at h1
  dsimp only at h1
  rw [Bool.and_eq_true] at h1
  rw [← e]
  exact h1.1

theorem tw_app {A B : List Tr} {f : Tr} (hA : ∀ a ∈ A, lessFb a f = true) (hB : ∀ g, B.head? = some g → lessFb g f = false) : tw (A ++ B) f = A.length := by
  unfold tw
  induction A with
  | nil =>
    cases B with
    | nil => rfl
    | cons g B => simp [hB g rfl]
  | cons a A ih =>
    have h1 := hA a (by simp)
    rw [List.cons_append, List.takeWhile_cons, if_pos h1]
    simp only [List.length_cons]
    rw [ih (fun x hx => hA x (by simp [hx]))]
theorem recL_eq {A B : List Tr} {g f : Tr} (hA : ∀ a ∈ A, lessFb a f = true) (hg : g.2.1 = f.2.1 ∧ g.1 = f.1) : recL (A ++ g :: B) f = A ++ (g.1, g.2.1, min g.2.2 f.2.2) :: B := by
  have ht : tw (A ++ g :: B) f = A.length := tw_app hA (fun q hq => by
    simp only [List.head?_cons, Option.some.injEq] at hq
    subst hq
    rw [less_no]; omega)
  unfold recL
  rw [ht]
  have e : (A ++ g :: B)[A.length]? = some g := by simp
  rw [e]
  have hl : lessFb f g = false := by rw [less_no]; omega
  dsimp only
  rw [hl]
  simp

theorem rec_shape {fs : List Tr} {f : Tr} (hs : Srt fs) : ∃ A B, fs = A ++ B ∧ (∀ a ∈ A, lessFb a f = true) ∧
    (((∀ b ∈ B, lessFb f b = true) ∧ recL fs f = A ++ f :: B) ∨ ∃ g B', B = g :: B' ∧ (g.2.1 = f.2.1 ∧ g.1 = f.1) ∧ recL fs f = A ++ (g.1, g.2.1, min g.2.2 f.2.2) :: B') := by
  have hp := srt_pair hs
  have e : fs.takeWhile (fun g => lessFb g f) ++ fs.dropWhile (fun g => lessFb g f) = fs := List.takeWhile_append_dropWhile
  have hA : ∀ a ∈ fs.takeWhile (fun g => lessFb g f), lessFb a f = true := fun a ha => by
    have := List.all_takeWhile (p := fun g => lessFb g f) (l := fs)
    exact List.all_eq_true.1 this a ha
  generalize hAe : fs.takeWhile (fun g => lessFb g f) = A at *
  generalize hBe : fs.dropWhile (fun g => lessFb g f) = B at *
  have htw : tw fs f = A.length := by unfold tw; rw [hAe]
  subst e
  rw [List.pairwise_append] at hp
  refine ⟨A, B, rfl, hA, ?_⟩
  cases B with
  | nil =>
    refine .inl ⟨fun b hb => by simp at hb, ?_⟩
    unfold recL
    rw [htw]
    have : (A ++ ([] : List Tr))[A.length]? = none := by simp
    rw [this]
    simp [insF]
  | cons g B =>
    have hg : lessFb g f = false := by
      cases hh : lessFb g f with
      | false => rfl
      | true =>
        have h1 := List.head_dropWhile_not (p := fun g => lessFb g f) (l := A ++ g :: B) (by rw [hBe]; simp)
        simp only [hBe, List.head_cons] at h1
        rw [hh] at h1
        cases h1
    cases hh : lessFb f g with
    | true =>
      refine .inl ⟨fun b hb => ?_, ?_⟩
      · rcases List.mem_cons.1 hb with rfl | hb
        · exact hh
        · exact less_trans hh (List.rel_of_pairwise_cons hp.2.1 hb)
      · unfold recL
        rw [htw]
        have : (A ++ g :: B)[A.length]? = some g := by simp
        rw [this]
        simp [hh, insF]
    | false =>
      have hk : g.2.1 = f.2.1 ∧ g.1 = f.1 := by
        rw [less_no] at hg hh
        omega
      exact .inr ⟨g, B, rfl, hk, recL_eq hA hk⟩

theorem find_A {A : List Tr} {f : Tr} (hA : ∀ a ∈ A, lessFb a f = true) : A.find? (entB f.2.1 f.1) = none := by
  rw [List.find?_eq_none]
  intro a ha
  rw [Bool.not_eq_true, entB_no]
  have := less_iff.1 (hA a ha)
  omega
theorem find_B {B : List Tr} {f : Tr} (hB : ∀ b ∈ B, lessFb f b = true) : B.find? (entB f.2.1 f.1) = none := by
  rw [List.find?_eq_none]
  intro a ha
  rw [Bool.not_eq_true, entB_no]
  have := less_iff.1 (hB a ha)
  omega
theorem find_hit {A B : List Tr} {g f : Tr} (hA : ∀ a ∈ A, lessFb a f = true) (hg : g.2.1 = f.2.1 ∧ g.1 = f.1) : (A ++ g :: B).find? (entB f.2.1 f.1) = some g := by
  rw [List.find?_append, find_A hA, Option.none_or, List.find?_cons]
  rw [entB_iff.2 hg]
theorem miss_hit {A B : List Tr} {g f : Tr} {z : Int} (hA : ∀ a ∈ A, lessFb a f = true) (hg : g.2.1 = f.2.1 ∧ g.1 = f.1) : missZ (A ++ g :: B) f.2.1 z f.1 = g.2.2 := missZ_some (find_hit hA hg)

/-- What recording a valid report in a valid table does. -/
theorem rec_law {fs : List Tr} {f : Tr} (ht : tabB fs = true) (hf : fbB f.1 f.2.1 f.2.2 = true) :
    tabB (recZ fs f) = true ∧ missZ (recZ fs f) f.2.1 99 f.1 ≤ f.2.2 ∧ missZ (recZ fs f) f.2.1 99 f.1 ≤ missZ fs f.2.1 99 f.1 ∧ recZ (recZ fs f) f = recZ fs f := by
  have hs := tab_srt ht
  have hval := tab_valid ht
  have hff := fbB_facts hf
  have e0 : recZ fs f = recL fs f := by unfold recZ; rw [ht, hf]; rfl
  rw [e0]
  have hp := srt_pair hs
  obtain ⟨A, B, rfl, hA, ⟨hB, e⟩ | ⟨g, B', rfl, hk, e⟩⟩ := rec_shape (f := f) hs
  · rw [e]
    rw [List.pairwise_append] at hp
    have hT : tabB (A ++ f :: B) = true := by
      refine tab_of (pair_srt ?_) (fun q hq => ?_)
      · rw [List.pairwise_append]
        refine ⟨hp.1, List.pairwise_cons.2 ⟨hB, hp.2.1⟩, fun a ha b hb => ?_⟩
        rcases List.mem_cons.1 hb with rfl | hb
        · exact hA a ha
        · exact hp.2.2 a ha b hb
      · rcases List.mem_append.1 hq with hq | hq
        · exact hval q (List.mem_append.2 (.inl hq))
        · rcases List.mem_cons.1 hq with rfl | hq
          · exact hf
          · exact hval q (List.mem_append.2 (.inr hq))
    refine ⟨hT, ?_, ?_, ?_⟩
    · rw [miss_hit hA ⟨rfl, rfl⟩]; exact Int.le_refl _
    · rw [miss_hit hA ⟨rfl, rfl⟩, missZ_none (by rw [List.find?_append, find_A hA, find_B hB]; rfl)]; omega
    · unfold recZ
      rw [hT, hf]
      simp only [Bool.and_self, if_true]
      rw [recL_eq hA ⟨rfl, rfl⟩]
      simp
  · rw [e]
    rw [List.pairwise_append] at hp
    have hgv := fbB_facts (hval g (by simp))
    have hT : tabB (A ++ (g.1, g.2.1, min g.2.2 f.2.2) :: B') = true := by
      refine tab_of (pair_srt ?_) (fun q hq => ?_)
      · rw [List.pairwise_append]
        refine ⟨hp.1, List.pairwise_cons.2 ⟨fun b hb => (List.pairwise_cons.1 hp.2.1).1 b hb, (List.pairwise_cons.1 hp.2.1).2⟩, fun a ha b hb => ?_⟩
        rcases List.mem_cons.1 hb with rfl | hb
        · exact hp.2.2 a ha g (by simp)
        · exact hp.2.2 a ha b (by simp [hb])
      · rcases List.mem_append.1 hq with hq | hq
        · exact hval q (List.mem_append.2 (.inl hq))
        · rcases List.mem_cons.1 hq with rfl | hq
          · exact fbB_yes (by dsimp only; omega)
          · exact hval q (List.mem_append.2 (.inr (by simp [hq])))
    refine ⟨hT, ?_, ?_, ?_⟩
    · rw [miss_hit (g := (g.1, g.2.1, min g.2.2 f.2.2)) hA hk]; dsimp only; omega
    · rw [miss_hit (g := (g.1, g.2.1, min g.2.2 f.2.2)) hA hk, miss_hit hA hk]; dsimp only; omega
    · unfold recZ
      rw [hT, hf]
      simp only [Bool.and_self, if_true]
      rw [recL_eq (g := (g.1, g.2.1, min g.2.2 f.2.2)) hA hk]
      dsimp only
      rw [show min (min g.2.2 f.2.2) f.2.2 = min g.2.2 f.2.2 by omega]
theorem rec_invalid {fs : List Tr} {f : Tr} (h : (tabB fs && fbB f.1 f.2.1 f.2.2) = false) : recZ fs f = fs := by unfold recZ; rw [h]; rfl

theorem deg_one (fs : List Tr) (g z s : Int) : degZ fs g z [s] 1 = missZ fs g z s := by simp [degZ]

theorem colK_all {α : Type} {f : Nat → Option α} {p : α → Prop} : ∀ k, (∀ j x, j < k → f j = some x → p x) → ∀ x ∈ colK f k, p x
  | 0, _, x, hx => by simp [colK] at hx
  | k + 1, h, x, hx => by
    unfold colK at hx
    rcases List.mem_append.1 hx with hx | hx
    · exact colK_all k (fun j y hj => h j y (by omega)) x hx
    · rw [Option.mem_toList] at hx
      exact h k x (by omega) hx
theorem fgt_miss (fs : List Tr) (g s z : Int) : missZ (fgtL g fs) g z s = z := by
  refine missZ_none ?_
  rw [List.find?_eq_none]
  intro a ha
  have : g < a.2.1 := colK_all (p := fun a : Tr => g < a.2.1) fs.length (fun j x _ hx => by
    unfold fgtF at hx
    split at hx
    · split at hx
      · injection hx with e; subst e; assumption
      · cases hx
    · cases hx) a ha
  rw [Bool.not_eq_true, entB_no]
  omega

theorem miss_done {fs : List Tr} {g s : Int} (hv : ∀ f ∈ fs, 0 ≤ f.2.2) : 0 ≤ missZ fs g 9 s ∧ (doneP fs g s = true ↔ missZ fs g 9 s = 0) := by
  cases h : fs.find? (entB g s) with
  | none => rw [missZ_none h, doneP_none h]; simp
  | some f => rw [missZ_some h, doneP_some h]; exact ⟨hv f (List.mem_of_find?_eq_some h), by simp⟩
theorem deg_zero {fs : List Tr} {g : Int} {sinks : List Int} (hv : ∀ f ∈ fs, 0 ≤ f.2.2) : ∀ k, 0 ≤ degZ fs g 9 sinks k ∧ (degZ fs g 9 sinks k = 0 ↔ ∀ j, j < k → missZ fs g 9 (sinks.getD j 0) = 0)
  | 0 => by simp [degZ]
  | k + 1 => by
    have ih := deg_zero (sinks := sinks) (g := g) hv k
    have hm := (miss_done (g := g) (s := sinks.getD k 0) hv).1
    unfold degZ
    generalize hmm : missZ fs g 9 (sinks.getD k 0) = m at *
    by_cases hc : k = 0 ∨ degZ fs g 9 sinks k < m
    · rw [if_pos hc]
      refine ⟨hm, fun h0 j hj => ?_, fun h => by rw [← hmm]; exact h k (by omega)⟩
      subst h0
      rcases hc with rfl | hc
      · have : j = 0 := by omega
        subst this
        exact hmm
      · omega
    · rw [if_neg hc]
      refine ⟨ih.1, fun h0 j hj => ?_, fun h => ih.2.2 (fun j hj => h j (by omega))⟩
      rcases Nat.lt_or_ge j k with h1 | h1
      · exact ih.2.1 h0 j h1
      · have : j = k := by omega
        subst this
        rw [hmm]
        omega
theorem done_law {fs : List Tr} {g : Int} {sinks : List Int} (hv : tabB fs = true) :
    sinks.all (doneP fs g) = (((sinks.length : Int) == 0) || (degZ fs g 9 sinks sinks.length == 0)) := by
  have hv' : ∀ f ∈ fs, 0 ≤ f.2.2 := fun f hf => (fbB_facts (tab_valid hv f hf)).2.2.2.2.1
  rw [Bool.eq_iff_iff, List.all_eq_true, Bool.or_eq_true, beq_iff_eq, beq_iff_eq, (deg_zero hv' _).2]
  constructor
  · intro h
    refine .inr fun j hj => (miss_done hv').2.1 (h _ ?_)
    rw [List.getD_eq_getElem?_getD, List.getElem?_eq_getElem hj]
    exact List.getElem_mem hj
  · rintro (h | h) s hs
    · have : sinks = [] := List.length_eq_zero_iff.1 (by omega)
      subst this
      simp at hs
    · obtain ⟨j, hj, rfl⟩ := List.getElem_of_mem hs
      have := h j hj
      rw [List.getD_eq_getElem?_getD, List.getElem?_eq_getElem hj] at this
      exact (miss_done hv').2.2 this
end Go.Proofs.Ytchodlfkoafeaaa
