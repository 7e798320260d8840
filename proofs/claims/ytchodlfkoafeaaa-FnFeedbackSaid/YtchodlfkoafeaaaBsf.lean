/-
  slices.BinarySearchFunc at reports: a contract. Condition: a table in order, of at most 2^20 reports.
-/
import Derived.Test.YtchodlfkoafeaaaFb4
namespace Go.Proofs.Ytchodlfkoafeaaa
open Go.ChangeShapes Go.WideShapes Go.ChangeAt Go.RowKit
set_option linter.unusedVariables false
set_option maxRecDepth 100000

/-- How many reports at the head lie before f. -/
def tw (fs : List Tr) (f : Tr) : Nat := (fs.takeWhile (fun g => lessFb g f)).length
theorem tw_le (fs : List Tr) (f : Tr) : tw fs f ≤ fs.length := by
  unfold tw
  exact (List.takeWhile_sublist _).length_le
theorem tw_eq : ∀ (fs : List Tr) (f : Tr) (i : Nat), i ≤ fs.length → (∀ (k : Nat) (g : Tr), k < i → fs[k]? = some g → lessFb g f = true) → (∀ g : Tr, fs[i]? = some g → lessFb g f = false) → tw fs f = i
  | [], f, i, hi, _, _ => by
    simp at hi
    subst hi
    rfl
  | g :: fs, f, 0, _, _, h2 => by
    unfold tw
    rw [List.takeWhile_cons, h2 g rfl]
    rfl
  | g :: fs, f, i + 1, hi, h1, h2 => by
    have ih := tw_eq fs f i (by simp at hi; omega) (fun k x hk hx => h1 (k + 1) x (by omega) hx) (fun x hx => h2 x hx)
    unfold tw at *
    rw [List.takeWhile_cons, h1 0 g (by omega) rfl]
    simp [ih]
theorem less_trans {a b c : Tr} (h1 : lessFb a b = true) (h2 : lessFb b c = true) : lessFb a c = true := by
  unfold lessFb at *
  rw [decide_eq_true_eq] at *
  omega
/-- A table in order. -/
def Srt (fs : List Tr) : Prop := ∀ (j : Nat) (a b : Tr), fs[j]? = some a → fs[j + 1]? = some b → lessFb a b = true
theorem tab_srt {fs : List Tr} (h : tabB fs = true) : Srt fs := by
  intro j a b ha hb
  have hl := (List.getElem?_eq_some_iff.1 hb).1
  have h1 := List.all_eq_true.1 h (j + 1) (List.mem_range.2 hl)
  unfold tabP at h1
  rw [hb] at h1
  dsimp only at h1
  rw [ha, Bool.and_eq_true] at h1
  exact h1.2
theorem srt_lt {fs : List Tr} (h : Srt fs) : ∀ (d i : Nat) (a b : Tr), fs[i]? = some a → fs[i + d + 1]? = some b → lessFb a b = true
  | 0, i, a, b, ha, hb => h i a b ha hb
  | d + 1, i, a, b, ha, hb => by
    have hl := (List.getElem?_eq_some_iff.1 hb).1
    have hc : fs[i + d + 1]? = some (fs[i + d + 1]'(by omega)) := List.getElem?_eq_getElem (by omega)
    exact less_trans (srt_lt h d i a _ ha hc) (h (i + d + 1) _ b hc (by rw [← hb]; congr 1))
theorem srt_down {fs : List Tr} (h : Srt fs) {m : Nat} {g f : Tr} (hm : fs[m]? = some g) (hl : lessFb g f = true) : ∀ (k : Nat) (x : Tr), k < m + 1 → fs[k]? = some x → lessFb x f = true := by
  intro k x hk hx
  rcases Nat.lt_or_ge k m with hkm | hkm
  · have := srt_lt h (m - k - 1) k x g hx (by rw [← hm]; congr 1; omega)
    exact less_trans this hl
  · have : k = m := by omega
    subst this
    rw [hm] at hx
    injection hx with hx
    rw [← hx]; exact hl
theorem srt_up {fs : List Tr} (h : Srt fs) {m : Nat} {g f : Tr} (hm : fs[m]? = some g) (hl : lessFb g f = false) : ∀ (k : Nat) (x : Tr), m ≤ k → fs[k]? = some x → lessFb x f = false := by
  intro k x hk hx
  rcases Nat.lt_or_ge m k with hkm | hkm
  · cases hq : lessFb x f
    · rfl
    · have h2 := srt_lt h (k - m - 1) m g x hm (by rw [← hx]; congr 1; omega)
      rw [less_trans h2 hq] at hl
      cases hl
  · have : k = m := by omega
    subst this
    rw [hm] at hx
    injection hx with hx
    rw [← hx]; exact hl
theorem comp_neg (f g : Tr) : decide (compFb f g < 0) = lessFb f g := by
  have h := compFb_neg f g
  cases hq : lessFb f g
  · rw [hq] at h
    have : 0 ≤ compFb f g := of_decide_eq_true h
    exact decide_eq_false (by omega)
  · rw [hq] at h
    have : ¬ 0 ≤ compFb f g := of_decide_eq_false h
    exact decide_eq_true (by omega)
theorem comp_zero (f g : Tr) : (compFb f g == 0) = (!(lessFb f g) && !(lessFb g f)) := by
  unfold compFb lessFb orZ cmpZ
  by_cases h1 : f.2.1 < g.2.1
  · have h2 : ¬ g.2.1 < f.2.1 := by omega
    simp [h1]
  · by_cases h2 : g.2.1 < f.2.1
    · simp [h1, h2]
    · have e : f.2.1 = g.2.1 := by omega
      by_cases h3 : f.1 < g.1
      · simp [e, h3]
      · by_cases h4 : g.1 < f.1
        · simp [e, h3, h4]
        · simp [e, h3, h4]
def bsB (fs : List Tr) (f : Tr) : Bool := match fs[tw fs f]? with
  | some g => !(lessFb f g)
  | none => false
end Go.Proofs.Ytchodlfkoafeaaa
