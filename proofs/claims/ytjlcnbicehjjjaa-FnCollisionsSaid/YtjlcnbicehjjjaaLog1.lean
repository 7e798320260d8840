/-
  Plain words for discrete logarithms: every element of the group is a power of 4, and so of every element but 1. No condition.
-/
import Derived.Test.YtjlcnbicehjjjaaHash
namespace Go.Proofs.Ytjlcnbicehjjjaa
set_option linter.unusedVariables false
set_option maxRecDepth 100000

def pmask : Nat → Nat
  | 0 => 0
  | n + 1 => pmask n ||| 2 ^ (4 ^ n % 2039)
theorem pmask_bit (x : Nat) : ∀ n, (pmask n).testBit x = true → ∃ k, k < n ∧ 4 ^ k % 2039 = x
  | 0, h => by simp [pmask] at h
  | n + 1, h => by
    unfold pmask at h
    rw [Nat.testBit_or, Bool.or_eq_true] at h
    rcases h with h | h
    · obtain ⟨k, h1, h2⟩ := pmask_bit x n h
      exact ⟨k, by omega, h2⟩
    · rw [Nat.testBit_two_pow] at h
      exact ⟨n, by omega, by simpa using h⟩
def pLit : Nat := 535662461277093691336929166355814392150859254155675959229816698074154517229552720373783243630392592469373150264096609057984969746780946638447739032279467306980764652821794435786076504216458038760494042415154865145392649021962872994490833050327081332702980601683773975303275874922776582181375698483191680793622145215411415978915119257783978487199730975574408194387359063400639210778169780844458713109263084381632575912333409504548365523993869541034582605350763044703180562677462085869302945950548847137673852987047743702649012496786319748644387323856635772271907475824759243600921160564807043655823346916801353598
theorem pmask_lit : pmask 1019 = pLit := by decide +kernel
theorem grp_nat : ∀ x : Nat, x < 2039 → x ^ 1019 % 2039 = 1 → pLit.testBit x = true := by decide +kernel
theorem inv19 : ∀ n : Nat, n < 1019 → n ≠ 0 → n * (n ^ 1017 % 1019) % 1019 = 1 := by decide +kernel
theorem four19 : 4 ^ 1019 % 2039 = 1 := by decide +kernel
theorem pow4 {x : Int} (h : grB x = true) : ∃ k : Nat, k < 1019 ∧ x = ((4 ^ k % 2039 : Nat) : Int) := by
  obtain ⟨⟨h1, h2⟩, h3⟩ := grB_facts h
  obtain ⟨n, rfl⟩ : ∃ n : Nat, x = (n : Int) := Int.eq_ofNat_of_zero_le (by omega)
  obtain ⟨E, hE⟩ : ∃ E : Nat, E = 1019 := ⟨_, rfl⟩
  rw [← hE] at h3
  have h4 : n ^ E % 2039 = 1 := by
    have h9 : ((n ^ E % 2039 : Nat) : Int) = ((1 : Nat) : Int) := by
      rw [Int.natCast_emod, Int.natCast_pow]
      exact h3
    exact Int.ofNat_inj.1 h9
  rw [hE] at h4
  have h5 := grp_nat n (by omega) h4
  rw [← pmask_lit] at h5
  obtain ⟨k, k1, k2⟩ := pmask_bit n 1019 h5
  exact ⟨k, k1, by rw [k2]⟩
theorem log_nat {a b : Nat} (ha : a < 1019) (ha0 : a ≠ 0) (hb : b < 1019) : ∃ e, e < 1019 ∧ (4 ^ a % 2039) ^ e % 2039 = 4 ^ b % 2039 := by
  have hi := inv19 a ha ha0
  generalize a ^ 1017 % 1019 = i at hi
  refine ⟨b * i % 1019, Nat.mod_lt _ (by omega), ?_⟩
  rw [← Nat.pow_mod, ← Nat.pow_mul]
  have h1 : a * (b * i % 1019) % 1019 = b := by
    rw [Nat.mul_mod, Nat.mod_mod, ← Nat.mul_mod, show a * (b * i) = b * (a * i) by rw [Nat.mul_left_comm], Nat.mul_mod, hi, Nat.mul_one, Nat.mod_mod, Nat.mod_eq_of_lt hb]
  have h2 := Nat.div_add_mod (a * (b * i % 1019)) 1019
  rw [h1] at h2
  rw [← h2, Nat.pow_add, Nat.pow_mul, Nat.mul_mod, Nat.pow_mod, four19, Nat.one_pow]
  simp
theorem log_ex {g h : Int} (hg : grB g = true) (h1 : g ≠ 1) (hh : grB h = true) : ∃ e : Nat, e < 1019 ∧ g ^ e % 2039 = h := by
  obtain ⟨a, ha, rfl⟩ := pow4 hg
  obtain ⟨b, hb, rfl⟩ := pow4 hh
  have ha0 : a ≠ 0 := by
    intro e
    subst e
    exact h1 (by decide)
  obtain ⟨e, e1, e2⟩ := log_nat ha ha0 hb
  exact ⟨e, e1, by exact_mod_cast e2⟩
def logB (g h : Int) (e : Nat) : Bool := g ^ e % 2039 == h
def logN (g h : Int) (n : Nat) : Nat := (List.range n).findIdx (logB g h)
def logZ (g h : Int) : Nat := logN g h 1019
theorem logN_facts {g h : Int} {n : Nat} (he : ∃ e, e < n ∧ logB g h e = true) : logN g h n < n ∧ logB g h (logN g h n) = true ∧ ∀ e, e < logN g h n → logB g h e = false := by
  obtain ⟨e, e1, e2⟩ := he
  have hl : logN g h n < (List.range n).length := List.findIdx_lt_length_of_exists ⟨e, List.mem_range.2 e1, e2⟩
  have h1 : logN g h n < n := by simpa using hl
  refine ⟨h1, ?_, fun i hi => ?_⟩
  · have h2 := List.findIdx_getElem (p := logB g h) (xs := List.range n) (w := hl)
    have h4 : (List.range n)[(List.range n).findIdx (logB g h)]'hl = logN g h n := List.getElem_range _
    rw [h4] at h2
    exact h2
  · have h3 := List.not_of_lt_findIdx (p := logB g h) (xs := List.range n) hi
    have h4 : (List.range n)[i]'(Nat.lt_trans hi hl) = i := List.getElem_range _
    rw [h4] at h3
    first | exact h3 | exact Bool.eq_false_iff.2 h3
theorem logZ_facts {g h : Int} (hg : grB g = true) (h1 : g ≠ 1) (hh : grB h = true) : logZ g h < 1019 ∧ g ^ logZ g h % 2039 = h ∧ ∀ e, e < logZ g h → g ^ e % 2039 ≠ h := by
  obtain ⟨e, e1, e2⟩ := log_ex hg h1 hh
  obtain ⟨a, b, c⟩ := logN_facts (g := g) (h := h) (n := 1019) ⟨e, e1, by unfold logB; simpa using e2⟩
  refine ⟨a, by unfold logB at b; exact eq_of_beq b, fun e he => ?_⟩
  have h9 := c e he
  unfold logB at h9
  exact ne_of_beq_false h9
end Go.Proofs.Ytjlcnbicehjjjaa
