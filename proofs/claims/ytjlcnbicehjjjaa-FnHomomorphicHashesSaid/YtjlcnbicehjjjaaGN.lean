/-
  Plain words for discrete logarithms: every element of the group is a power of 4, and so of every element but 1. No condition.
  logarithm of the program, l18Log of the reference, AddField and SubField of both: contracts. Conditions: elements; group elements, the base not 1.
  FindCollision: contracts of the program's function and of the reference's. No condition.
  Plain words: the vector that FindCollision returns has the same hash, and is another one. No condition.
-/
import Derived.Test.YtjlcnbicehjjjaaHash
import Derived.Test.YtjlcnbicehjjjaaSl3
import Derived.Test.YtjlcnbicehjjjaaVx
import Derived.StillTailTactics
import Derived.Test.YtjlcnbicehjjjaaHash2
namespace Go.Proofs.Ytjlcnbicehjjjaa
set_option linter.unusedVariables false
set_option maxRecDepth 100000

def pmask : Nat → Nat
  | 0 => 0
  | n + 1 => pmask n ||| 2 ^ (4 ^ n % 2039)
theorem pmask_bit (x : Nat) : ∀ n, (pmask n).testBit x = true → ∃ k, k < n ∧ 4 ^ k % 2039 = x
  | 0, h => by simp [pmask] at h
  | n + 1, h => by
    unfold pmask at h
    rw [Nat.testBit_or, Bool.or_eq_true] at h
    rcases h with h | h
    · obtain ⟨k, h1, h2⟩ := pmask_bit x n h
      exact ⟨k, by omega, h2⟩
    · rw [Nat.testBit_two_pow] at h
      exact ⟨n, by omega, by simpa using h⟩
def pLit : Nat := 535662461277093691336929166355814392150859254155675959229816698074154517229552720373783243630392592469373150264096609057984969746780946638447739032279467306980764652821794435786076504216458038760494042415154865145392649021962872994490833050327081332702980601683773975303275874922776582181375698483191680793622145215411415978915119257783978487199730975574408194387359063400639210778169780844458713109263084381632575912333409504548365523993869541034582605350763044703180562677462085869302945950548847137673852987047743702649012496786319748644387323856635772271907475824759243600921160564807043655823346916801353598
theorem pmask_lit : pmask 1019 = pLit := by decide +kernel
theorem grp_nat : ∀ x : Nat, x < 2039 → x ^ 1019 % 2039 = 1 → pLit.testBit x = true := by decide +kernel
theorem inv19 : ∀ n : Nat, n < 1019 → n ≠ 0 → n * (n ^ 1017 % 1019) % 1019 = 1 := by decide +kernel
theorem four19 : 4 ^ 1019 % 2039 = 1 := by decide +kernel
theorem pow4 {x : Int} (h : grB x = true) : ∃ k : Nat, k < 1019 ∧ x = ((4 ^ k % 2039 : Nat) : Int) := by
  obtain ⟨⟨h1, h2⟩, h3⟩ := grB_facts h
  obtain ⟨n, rfl⟩ : ∃ n : Nat, x = (n : Int) := Int.eq_ofNat_of_zero_le (by omega)
  obtain ⟨E, hE⟩ : ∃ E : Nat, E = 1019 := ⟨_, rfl⟩
  rw [← hE] at h3
  have h4 : n ^ E % 2039 = 1 := by
    have h9 : ((n ^ E % 2039 : Nat) : Int) = ((1 : Nat) : Int) := by
      rw [Int.natCast_emod, Int.natCast_pow]
      exact h3
    exact Int.ofNat_inj.1 h9
  rw [hE] at h4
  have h5 := grp_nat n (by omega) h4
  rw [← pmask_lit] at h5
  obtain ⟨k, k1, k2⟩ := pmask_bit n 1019 h5
  exact ⟨k, k1, by rw [k2]⟩
theorem log_nat {a b : Nat} (ha : a < 1019) (ha0 : a ≠ 0) (hb : b < 1019) : ∃ e, e < 1019 ∧ (4 ^ a % 2039) ^ e % 2039 = 4 ^ b % 2039 := by
  have hi := inv19 a ha ha0
  generalize a ^ 1017 % 1019 = i at hi
  refine ⟨b * i % 1019, Nat.mod_lt _ (by omega), ?_⟩
  rw [← Nat.pow_mod, ← Nat.pow_mul]
  have h1 : a * (b * i % 1019) % 1019 = b := by
    rw [Nat.mul_mod, Nat.mod_mod, ← Nat.mul_mod, show a * (b * i) = b * (a * i) by rw [Nat.mul_left_comm], Nat.mul_mod, hi, Nat.mul_one, Nat.mod_mod, Nat.mod_eq_of_lt hb]
  have h2 := Nat.div_add_mod (a * (b * i % 1019)) 1019
  rw [h1] at h2
  rw [← h2, Nat.pow_add, Nat.pow_mul, Nat.mul_mod, Nat.pow_mod, four19, Nat.one_pow]
  simp
theorem log_ex {g h : Int} (hg : grB g = true) (h1 : g ≠ 1) (hh : grB h = true) : ∃ e : Nat, e < 1019 ∧ g ^ e % 2039 = h := by
  obtain ⟨a, ha, rfl⟩ := pow4 hg
  obtain ⟨b, hb, rfl⟩ := pow4 hh
  have ha0 : a ≠ 0 := by
    intro e
    subst e
    exact h1 (by decide)
  obtain ⟨e, e1, e2⟩ := log_nat ha ha0 hb
  exact ⟨e, e1, by exact_mod_cast e2⟩
def logB (g h : Int) (e : Nat) : Bool := g ^ e % 2039 == h
def logN (g h : Int) (n : Nat) : Nat := (List.range n).findIdx (logB g h)
def logZ (g h : Int) : Nat := logN g h 1019
theorem logN_facts {g h : Int} {n : Nat} (he : ∃ e, e < n ∧ logB g h e = true) : logN g h n < n ∧ logB g h (logN g h n) = true ∧ ∀ e, e < logN g h n → logB g h e = false := by
  obtain ⟨e, e1, e2⟩ := he
  have hl : logN g h n < (List.range n).length := List.findIdx_lt_length_of_exists ⟨e, List.mem_range.2 e1, e2⟩
  have h1 : logN g h n < n := by simpa using hl
  refine ⟨h1, ?_, fun i hi => ?_⟩
  · have h2 := List.findIdx_getElem (p := logB g h) (xs := List.range n) (w := hl)
    have h4 : (List.range n)[(List.range n).findIdx (logB g h)]'hl = logN g h n := List.getElem_range _
    rw [h4] at h2
    exact h2
  · have h3 := List.not_of_lt_findIdx (p := logB g h) (xs := List.range n) hi
    have h4 : (List.range n)[i]'(Nat.lt_trans hi hl) = i := List.getElem_range _
    rw [h4] at h3
    first | exact h3 | exact Bool.eq_false_iff.2 h3
theorem logZ_facts {g h : Int} (hg : grB g = true) (h1 : g ≠ 1) (hh : grB h = true) : logZ g h < 1019 ∧ g ^ logZ g h % 2039 = h ∧ ∀ e, e < logZ g h → g ^ e % 2039 ≠ h := by
  obtain ⟨e, e1, e2⟩ := log_ex hg h1 hh
  obtain ⟨a, b, c⟩ := logN_facts (g := g) (h := h) (n := 1019) ⟨e, e1, by unfold logB; simpa using e2⟩
  refine ⟨a, by unfold logB at b; exact eq_of_beq b, fun e he => ?_⟩
  have h9 := c e he
  unfold logB at h9
  exact ne_of_beq_false h9
end Go.Proofs.Ytjlcnbicehjjjaa

namespace Go.Proofs.Ytjlcnbicehjjjaa
open Go.ChangeShapes Go.WideShapes Go.ChangeAt Go.RowKit
set_option linter.unusedVariables false
set_option maxRecDepth 100000

theorem lg_step (g : Int) (k : Nat) : g ^ k % 2039 * g % 2039 = g ^ (k + 1) % 2039 := by
  rw [Int.pow_succ, Int.mul_emod (g ^ k % 2039) g, Int.emod_emod, ← Int.mul_emod]
theorem lg_bd {p g : Int} (hp : 0 ≤ p ∧ p ≤ 2038) (hg : 1 ≤ g ∧ g ≤ 2038) : 0 ≤ p * g ∧ p * g ≤ 4153444 := by
  refine ⟨Int.mul_nonneg hp.1 (by omega), ?_⟩
  have := Int.mul_le_mul hp.2 hg.2 (by omega) (by omega)
  omega
set_option maxHeartbeats 1000000 in
theorem logI (g h : Int) (w : World) (hg : grB g = true) (h1 : g ≠ 1) (hh : grB h = true) :
    Calls Try.prog 63 #[.int .i64 g, .int .i64 h] w fun e w' => e = .returned (.int .i64 (logZ g h : Int)) ∧ w = w' := by
  obtain ⟨l1, l2, l3⟩ := logZ_facts hg h1 hh
  have HL3 := Lib.hid l3
  have HL2 := Lib.hid l2
  have hgb := (grB_facts hg).1
  have HGB := Lib.hid hgb
  have H0 : Hid ((1 : Int) = g ^ 0 % 2039) := Lib.hid (by rw [Int.pow_zero]; rfl)
  generalize logZ g h = L at *
  clear hg h1 hh l2 l3 hgb
  go_enter Try.func63, Try.ntmps63
  go_wp2
  go_loopg [5, 6] L (fun f n p wr => ∃ k : Nat, k + f = L ∧ n = .int .i64 k ∧ p = .int .i64 (g ^ k % 2039) ∧ w = wr)
  case atStart => exact ⟨0, by omega, rfl, by rw [← H0.out], rfl⟩
  case round =>
    obtain ⟨k, hk, rfl, rfl, rfl⟩ := hrel
    have hk2 : k ≤ L := by omega
    have HK := Lib.hid hk
    clear hk
    have HST := Lib.hid (lg_step g k)
    obtain ⟨p, hp⟩ : ∃ p, p = g ^ k % 2039 := ⟨_, rfl⟩
    have hpb : 0 ≤ p ∧ p ≤ 2038 := by have := Int.emod_nonneg (g ^ k) (show (2039 : Int) ≠ 0 by omega); have := Int.emod_lt_of_pos (g ^ k) (show (0 : Int) < 2039 by omega); omega
    have hpg := lg_bd hpb HGB.out
    by_cases hlt : k < L
    · have q : (p != h) = true := bne_iff_ne.2 (by rw [hp]; exact HL3.out k hlt)
      rw [← hp] at HST ⊢
      clear hp
      go_wp2
      go_roundg (L - (k + 1))
      case measure => have := HK.out; omega
      case rel => exact ⟨k + 1, by omega, by go_num, by rw [← HST.out], rfl⟩
    · obtain rfl : k = L := by omega
      have e : p = h := hp.trans HL2.out
      have q : (p != h) = false := by rw [e]; simp
      rw [← hp]
      clear hp e
      go_wp2
      go_ret
      exact ⟨rfl, rfl⟩
set_option maxHeartbeats 1000000 in
theorem logS (g h : Int) (w : World) (hg : grB g = true) (h1 : g ≠ 1) (hh : grB h = true) :
    Calls Try.prog 58 #[.int .i64 g, .int .i64 h] w fun e w' => e = .returned (.int .i64 (logZ g h : Int)) ∧ w = w' := by
  obtain ⟨l1, l2, l3⟩ := logZ_facts hg h1 hh
  have HL3 := Lib.hid l3
  have HL2 := Lib.hid l2
  have hgb := (grB_facts hg).1
  have HGB := Lib.hid hgb
  have H0 : Hid ((1 : Int) = g ^ 0 % 2039) := Lib.hid (by rw [Int.pow_zero]; rfl)
  generalize logZ g h = L at *
  clear hg h1 hh l2 l3 hgb
  go_enter Try.func58, Try.ntmps58
  go_wp2
  go_loopg [5, 6] L (fun f p n wr => ∃ k : Nat, k + f = L ∧ n = .int .i64 k ∧ p = .int .i64 (g ^ k % 2039) ∧ w = wr)
  case atStart => exact ⟨0, by omega, rfl, by rw [← H0.out], rfl⟩
  case round =>
    obtain ⟨k, hk, rfl, rfl, rfl⟩ := hrel
    have hk2 : k ≤ L := by omega
    have HK := Lib.hid hk
    clear hk
    have HST := Lib.hid (lg_step g k)
    obtain ⟨p, hp⟩ : ∃ p, p = g ^ k % 2039 := ⟨_, rfl⟩
    have hpb : 0 ≤ p ∧ p ≤ 2038 := by have := Int.emod_nonneg (g ^ k) (show (2039 : Int) ≠ 0 by omega); have := Int.emod_lt_of_pos (g ^ k) (show (0 : Int) < 2039 by omega); omega
    have hpg := lg_bd hpb HGB.out
    have hk3 : (k : Int) < 1019 := by omega
    by_cases hlt : k < L
    · have q : (p == h) = false := beq_eq_false_iff_ne.2 (by rw [hp]; exact HL3.out k hlt)
      rw [← hp] at HST ⊢
      clear hp
      go_wp2
      go_roundg (L - (k + 1))
      case measure => have := HK.out; omega
      case rel => exact ⟨k + 1, by omega, by go_num, by rw [← HST.out], rfl⟩
    · obtain rfl : k = L := by omega
      have e : p = h := hp.trans HL2.out
      have q : (p == h) = true := by rw [e]; simp
      rw [← hp]
      clear hp e
      go_wp2
      go_ret
      exact ⟨rfl, rfl⟩
def sfZ (a b : Int) : Int := (a + 1019 - b) % 1019
theorem adfI (a b : Int) (w : World) (ha : elB a = true) (hb : elB b = true) : Calls Try.prog 62 #[.int .i64 a, .int .i64 b] w fun e w' => e = .returned (.int .i64 ((a + b) % 1019)) ∧ w = w' := by
  obtain ⟨a1, a2⟩ := elB_facts ha
  obtain ⟨b1, b2⟩ := elB_facts hb
  have HA := Lib.hid ha
  have HB := Lib.hid hb
  clear ha hb
  go_enter Try.func62, Try.ntmps62
  go_wp2_with fail
  refine (elI a _).mono ?_
  rintro e w1 ⟨rfl, rfl⟩
  rw [HA.out]
  go_wp2_with fail
  refine (elI b _).mono ?_
  rintro e w1 ⟨rfl, rfl⟩
  rw [HB.out]
  go_wp2
  go_ret
  exact ⟨rfl, rfl⟩
theorem sufI (a b : Int) (w : World) (ha : elB a = true) (hb : elB b = true) : Calls Try.prog 64 #[.int .i64 a, .int .i64 b] w fun e w' => e = .returned (.int .i64 (sfZ a b)) ∧ w = w' := by
  obtain ⟨a1, a2⟩ := elB_facts ha
  obtain ⟨b1, b2⟩ := elB_facts hb
  have HA := Lib.hid ha
  have HB := Lib.hid hb
  have HN : Hid ((a + 1019 - b) % 1019 = sfZ a b) := rfl
  clear ha hb
  go_enter Try.func64, Try.ntmps64
  go_wp2_with fail
  refine (elI a _).mono ?_
  rintro e w1 ⟨rfl, rfl⟩
  rw [HA.out]
  go_wp2_with fail
  refine (elI b _).mono ?_
  rintro e w1 ⟨rfl, rfl⟩
  rw [HB.out]
  go_wp2
  go_ret
  exact ⟨by rw [← HN.out]; rfl, rfl⟩
theorem bothS (a b : Int) (w : World) (ha : elB a = true) (hb : elB b = true) : Calls Try.prog 100 #[.int .i64 a, .int .i64 b] w fun e w' => e = .returned (.bool true) ∧ w = w' := by
  have HA := Lib.hid ha
  have HB := Lib.hid hb
  clear ha hb
  go_enter Try.func100, Try.ntmps100
  go_wp2_with fail
  refine (elS a _).mono ?_
  rintro e w1 ⟨rfl, rfl⟩
  rw [HA.out]
  go_wp2_with fail
  refine (elS b _).mono ?_
  rintro e w1 ⟨rfl, rfl⟩
  rw [HB.out]
  go_wp2
  go_ret
  exact ⟨rfl, rfl⟩
theorem adfS (a b : Int) (w : World) (ha : elB a = true) (hb : elB b = true) : Calls Try.prog 57 #[.int .i64 a, .int .i64 b] w fun e w' => e = .returned (.int .i64 ((a + b) % 1019)) ∧ w = w' := by
  obtain ⟨a1, a2⟩ := elB_facts ha
  obtain ⟨b1, b2⟩ := elB_facts hb
  have HC := Lib.hid (fun w => bothS a b w ha hb)
  clear ha hb
  go_enter Try.func57, Try.ntmps57
  go_wp2_with fail
  refine (HC.out _).mono ?_
  rintro e w1 ⟨rfl, rfl⟩
  go_wp2
  go_ret
  exact ⟨rfl, rfl⟩
theorem sufS (a b : Int) (w : World) (ha : elB a = true) (hb : elB b = true) : Calls Try.prog 59 #[.int .i64 a, .int .i64 b] w fun e w' => e = .returned (.int .i64 (sfZ a b)) ∧ w = w' := by
  obtain ⟨a1, a2⟩ := elB_facts ha
  obtain ⟨b1, b2⟩ := elB_facts hb
  have HC := Lib.hid (fun w => bothS a b w ha hb)
  have HN : Hid ((a - b + 1019) % 1019 = sfZ a b) := Lib.hid (by unfold sfZ; congr 1; omega)
  clear ha hb
  go_enter Try.func59, Try.ntmps59
  go_wp2_with fail
  refine (HC.out _).mono ?_
  rintro e w1 ⟨rfl, rfl⟩
  go_wp2
  go_ret
  exact ⟨by rw [← HN.out]; rfl, rfl⟩
end Go.Proofs.Ytjlcnbicehjjjaa

namespace Go.Proofs.Ytjlcnbicehjjjaa
open Go.ChangeShapes Go.WideShapes Go.ChangeAt Go.RowKit
set_option linter.unusedVariables false
set_option maxRecDepth 100000

def fcolB (gs xs : List Int) : Bool := hkB gs && vecB xs && !((xs.length : Int) != (gs.length : Int)) && !(decide ((xs.length : Int) < 2))
def fcolX (gs xs : List Int) : List Int := (xs.set 0 ((xs.getD 0 0 + (logZ (gs.getD 0 0) (gs.getD 1 0) : Int)) % 1019)).set 1 (sfZ (xs.getD 1 0) 1)
def fcolZ (gs xs : List Int) : List Int := if fcolB gs xs = true then fcolX gs xs else []
theorem fcol_no {gs xs : List Int} (h : fcolB gs xs = false) : fcolZ gs xs = [] := by unfold fcolZ; rw [h]; rfl
theorem fcol_yes {gs xs : List Int} (h : fcolB gs xs = true) : fcolZ gs xs = fcolX gs xs := by unfold fcolZ; rw [h]; rfl
theorem fcol_len (gs xs : List Int) : (fcolZ gs xs).length ≤ 40 := by
  cases q : fcolB gs xs
  · rw [fcol_no q]; simp
  · rw [fcol_yes q]
    unfold fcolX
    rw [List.length_set, List.length_set]
    unfold fcolB at q
    rw [Bool.and_eq_true, Bool.and_eq_true, Bool.and_eq_true] at q
    exact (vecB_facts q.1.1.2).2
theorem stillW {P : Program} {f : FuncId} {args : Array Value} {w : World} {v : Value} (h : Calls P f args w fun e w' => e = .returned v ∧ w = w') : Calls P f args w fun e w'' => e = .returned v ∧ w'' = w :=
  h.mono fun _ _ ⟨a, b⟩ => ⟨a, b.symm⟩
theorem getD_at {xs : List Int} {i : Nat} (h : i < xs.length) : xs[i]? = some (xs.getD i 0) := by simp [List.getD, h]
set_option maxHeartbeats 4000000 in
theorem fcoI (v u : Value) (gs xs : List Int) (w : World) (hv : RI w v gs) (hu : RI w u xs) :
    Calls Try.prog 19 #[.agg #[v], u] w fun e w' => ∃ r, e = .returned (.tuple #[r, .bool (fcolB gs xs)]) ∧ OI w' w.heap.size r (fcolZ gs xs) ∧ Bel w w' := by
  have HM : Hid (fcolB gs xs = (hkB gs && vecB xs && !((xs.length : Int) != (gs.length : Int)) && !(decide ((xs.length : Int) < 2)))) := rfl
  obtain ⟨A, c, rfl, h2, h3, hA⟩ := id hv
  obtain ⟨B, d, rfl, h4, h5, hB⟩ := id hu
  have X := Blk.new w 24 #[.slice A gs.length c]
  have Y : Bel w (w.alloc (.cells #[.slice A gs.length c] 24)) := (Bel.refl _).alloc _
  obtain ⟨cx, _, zx⟩ := X.facts
  have HNO := fun (h : fcolB gs xs = false) => Lib.hid (fcol_no h)
  go_enter Try.func19, Try.ntmps19
  go_wp2_with fail
  refine (hkI _ gs _ (hv.keep Y)).mono ?_
  rintro e w1 ⟨rfl, hb1⟩
  have X1 := hb1.keep X
  have Y1 := Y.trans hb1
  clear cx zx
  obtain ⟨cx, _, zx⟩ := X1.facts
  cases q1 : hkB gs
  · have HQ : Hid (fcolB gs xs = false) := Lib.hid (by rw [HM.out, q1]; rfl)
    have HN := HNO HQ.out
    clear q1
    go_wp2
    refine bodyPost_ret (v := .tuple #[.slice none 0 0, .bool false]) (by simp [results, Try.results19, go_sem]) rfl ⟨_, by rw [HQ.out], by rw [HN.out]; exact OI.nil _ _, Y1⟩
  go_wp2_with fail
  refine (vecI _ xs _ (hu.keep Y1)).mono ?_
  rintro e w2 ⟨rfl, rfl⟩
  cases q2 : vecB xs
  · have HQ : Hid (fcolB gs xs = false) := Lib.hid (by rw [HM.out, q2]; simp)
    have HN := HNO HQ.out
    clear q2 q1
    go_wp2
    refine bodyPost_ret (v := .tuple #[.slice none 0 0, .bool false]) (by simp [results, Try.results19, go_sem]) rfl ⟨_, by rw [HQ.out], by rw [HN.out]; exact OI.nil _ _, Y1⟩
  cases q3 : ((xs.length : Int) != (gs.length : Int))
  case true =>
    have HQ : Hid (fcolB gs xs = false) := Lib.hid (by rw [HM.out, q3]; simp)
    have HN := HNO HQ.out
    clear q2 q1
    go_wp2
    refine bodyPost_ret (v := .tuple #[.slice none 0 0, .bool false]) (by simp [results, Try.results19, go_sem]) rfl ⟨_, by rw [HQ.out], by rw [HN.out]; exact OI.nil _ _, Y1⟩
  cases q4 : decide ((xs.length : Int) < 2)
  case true =>
    have HQ : Hid (fcolB gs xs = false) := Lib.hid (by rw [HM.out, q4]; simp)
    have HN := HNO HQ.out
    have q5 := of_decide_eq_true q4
    clear q2 q1 q4
    go_wp2
    refine bodyPost_ret (v := .tuple #[.slice none 0 0, .bool false]) (by simp [results, Try.results19, go_sem]) rfl ⟨_, by rw [HQ.out], by rw [HN.out]; exact OI.nil _ _, Y1⟩
  have HQ : Hid (fcolB gs xs = true) := Lib.hid (by rw [HM.out, q1, q2, q3, q4]; rfl)
  have HN := Lib.hid (fcol_yes HQ.out)
  have q5 : ¬ (xs.length : Int) < 2 := of_decide_eq_false q4
  have hlen : xs.length = gs.length := by simp at q3; omega
  obtain ⟨b1, o1, rfl, z1, hc1⟩ := hA (by omega)
  obtain ⟨b2, o2, rfl, z2, hc2⟩ := hB (by omega)
  have e0 := getD_at (show 0 < gs.length by omega)
  have e1 := getD_at (show 1 < gs.length by omega)
  have e2 := getD_at (show 0 < xs.length by omega)
  have e3 := getD_at (show 1 < xs.length by omega)
  have g0 := hc1 0 _ e0
  have g1 := hc1 1 _ e1
  have x0 := hc2 0 _ e2
  have x1 := hc2 1 _ e3
  rw [Nat.add_zero] at g0 x0
  have k0 := (hkB_facts q1).1 _ (List.mem_of_getElem? e0)
  have k1 := (hkB_facts q1).1 _ (List.mem_of_getElem? e1)
  have n0 := (vecB_facts q2).1 _ (List.mem_of_getElem? e2)
  have n1 := (vecB_facts q2).1 _ (List.mem_of_getElem? e3)
  have hx40 := (vecB_facts q2).2
  have hgl : 2 ≤ gs.length := by omega
  have HFX : Hid (fcolX gs xs = (xs.set 0 ((xs.getD 0 0 + (logZ (gs.getD 0 0) (gs.getD 1 0) : Int)) % 1019)).set 1 (sfZ (xs.getD 1 0) 1)) := rfl
  generalize gs.getD 0 0 = ga at *
  generalize gs.getD 1 0 = gb at *
  generalize xs.getD 0 0 = xa at *
  generalize xs.getD 1 0 = xb at *
  have hga : ga ≠ 1 := ne_of_beq_false k0.2
  have lf := logZ_facts k0.1 hga k1.1
  have HLG := Lib.hid (fun W => logI ga gb W k0.1 hga k1.1)
  generalize logZ ga gb = L at *
  have HAD := Lib.hid (fun W => adfI xa (L : Int) W (elB_yes n0) (elB_yes (by omega)))
  have HSU := Lib.hid (fun W => sufI xb 1 W (elB_yes n1) (by decide))
  have HXE := Lib.hid (by simpa using e3 : (xs.set 0 ((xa + (L : Int)) % 1019))[1]? = some xb)
  have HE2 := Lib.hid e2
  have HE3 := Lib.hid e3
  have hx2 : 2 ≤ xs.length := by omega
  have q6 : ((xs.length : Int) != (gs.length : Int)) = false := q3
  have q7 : ¬ (xs.length : Int) < 2 := q5
  have HLN := Lib.hid hlen
  clear hlen q3 q5 q1 q2 q4 k0 k1 n0 n1 lf hga e0 e1 e2 e3 hc1 hc2 hA hB HM HNO h2 h3
  go_wp2_with fail
  refine (cloneI _ xs _ (hu.keep Y1) (by omega)).mono ?_
  rintro e w3 ⟨r3, rfl, O3, hb3⟩
  have X3 := hb3.keep X1
  have Y3 := Y1.trans hb3
  obtain ⟨g, cap, er, hg1, hg2, _, _, fz, cs⟩ := O3.cells (by omega)
  subst er
  have s31 := Y1.size
  have hxg : w.heap.size ≠ g := by have := X1.lt; omega
  have gne1 : b1 ≠ g := by omega
  have r0 := cs 0 _ HE2.out
  have r1 := cs 1 _ HE3.out
  have fz0 := fz 0
  have Yd := (Bel.refl w3).drew
  have O4 := O3.store (i := 0) (by omega) ((xa + (L : Int)) % 1019)
  clear cx zx fz cs
  obtain ⟨cx, _, zx⟩ := X3.facts
  have rx : w3.cell? ⟨w.heap.size, 0, none⟩ = some (.slice (some ⟨b1, o1, none⟩) gs.length c) := cx 0
  have ga3 := Y3.cell1 z1 g0
  have gb3 := Y3.cell1 z1 g1
  have xa3 := Y3.cell1 z2 x0
  have xb3 := Y3.cell1 z2 x1
  have i0 : (0 : Int) < (xs.length : Int) := by omega
  have i1 : (1 : Int) < (xs.length : Int) := by omega
  have i2 : (0 : Int) < (gs.length : Int) := by omega
  have i3 : (1 : Int) < (gs.length : Int) := by omega
  have j0 : 0 < xs.length := by omega
  have j1 : 1 < xs.length := by omega
  have j2 : 0 < gs.length := by omega
  have j3 : 1 < gs.length := by omega
  have Y4 := Y3.setCell (p := ⟨g, 0, none⟩) (by dsimp only; omega) (.int .i64 ((xa + (L : Int)) % 1019))
  have xb4 := Y4.cell1 z2 x1
  obtain ⟨y, hy⟩ : ∃ y, y = (xa + (L : Int)) % 1019 := ⟨_, rfl⟩
  rw [← hy] at O4 Y4 HAD HXE HFX xb4
  clear cx hy g0 g1 x0 x1
  go_wp2_with fail
  refine wp_region_still_tail 15 (by kernel_rfl) (by kernel_rfl) ?_
  simp only [List.take_succ_cons, List.take_zero, List.drop_succ_cons, List.drop_zero]
  repeat (first | still_step | (still_call (stillW (HLG.out _))) | (still_call (stillW (HAD.out _))))
  refine wpStill_nil ?_
  obtain ⟨g', cap', e', _, _, _, _, fy, cy⟩ := O4.cells (by rw [List.length_set]; omega)
  rw [List.length_set] at e'
  injection e' with e1 e2 e3
  injection e1 with e1
  injection e1 with e1
  subst e1
  have q1 := cy 1 _ HXE.out
  have fq1 := fy 1
  have q1d : (w3.setCell ⟨g, 0, none⟩ (.int .i64 y)).drew.cell? ⟨g, 1, none⟩ = some (.int .i64 xb) := q1
  have fq1d : (w3.setCell ⟨g, 0, none⟩ (.int .i64 y)).drew.frozen? ⟨g, 1, none⟩ = false := fq1
  have xb4d : (w3.setCell ⟨g, 0, none⟩ (.int .i64 y)).drew.cell? ⟨b2, o2 + 1, none⟩ = some (.int .i64 xb) := xb4
  have O5 := O4.store (i := 1) (by omega) (sfZ xb 1)
  have Y5 := Y4.setCell (p := ⟨g, 1, none⟩) (by dsimp only; omega) (.int .i64 (sfZ xb 1))
  generalize sfZ xb 1 = z at *
  clear fy cy e2 e3 O4 Y4
  go_wp2_with fail
  refine (HSU.out _).mono ?_
  rintro e w5 ⟨rfl, rfl⟩
  go_wp2
  refine bodyPost_ret (v := .tuple #[.slice (some ⟨g, 0, none⟩) xs.length cap, .bool true]) (by simp [results, Try.results19, go_sem]) rfl ⟨_, by rw [HQ.out], by rw [HN.out, HFX.out]; exact O5.low (by omega), Y5.drew⟩
set_option maxHeartbeats 4000000 in
theorem fcoS (v u : Value) (gs xs : List Int) (w : World) (hv : RI w v gs) (hu : RI w u xs) :
    Calls Try.prog 16 #[.agg #[v], u] w fun e w' => ∃ r, e = .returned (.tuple #[r, .bool (fcolB gs xs)]) ∧ OI w' w.heap.size r (fcolZ gs xs) ∧ Bel w w' := by
  have HM : Hid (fcolB gs xs = (hkB gs && vecB xs && !((xs.length : Int) != (gs.length : Int)) && !(decide ((xs.length : Int) < 2)))) := rfl
  obtain ⟨A, c, rfl, h2, h3, hA⟩ := id hv
  obtain ⟨B, d, rfl, h4, h5, hB⟩ := id hu
  have X := Blk.new w 24 #[.slice A gs.length c]
  have Y : Bel w (w.alloc (.cells #[.slice A gs.length c] 24)) := (Bel.refl _).alloc _
  obtain ⟨cx, _, zx⟩ := X.facts
  have HNO := fun (h : fcolB gs xs = false) => Lib.hid (fcol_no h)
  go_enter Try.func16, Try.ntmps16
  go_wp2_with fail
  refine (hkS _ gs _ (hv.keep Y)).mono ?_
  rintro e w1 ⟨rfl, hb1⟩
  have X1 := hb1.keep X
  have Y1 := Y.trans hb1
  clear cx zx
  obtain ⟨cx, _, zx⟩ := X1.facts
  cases q1 : hkB gs
  · have HQ : Hid (fcolB gs xs = false) := Lib.hid (by rw [HM.out, q1]; rfl)
    have HN := HNO HQ.out
    clear q1
    have E1 := OI.empty w1
    rw [← HN.out] at E1
    go_wp2
    refine bodyPost_ret (v := .tuple #[.slice (some ⟨w1.heap.size, 0, none⟩) 0 0, .bool false]) (by simp [results, Try.results16, go_sem]) rfl ⟨_, by rw [HQ.out], E1.low Y1.size, Y1.alloc _⟩
  go_wp2_with fail
  refine (vecS _ xs _ (hu.keep Y1)).mono ?_
  rintro e w2 ⟨rfl, rfl⟩
  cases q2 : vecB xs
  · have HQ : Hid (fcolB gs xs = false) := Lib.hid (by rw [HM.out, q2]; simp)
    have HN := HNO HQ.out
    clear q2 q1
    have E1 := OI.empty w1
    rw [← HN.out] at E1
    go_wp2
    refine bodyPost_ret (v := .tuple #[.slice (some ⟨w1.heap.size, 0, none⟩) 0 0, .bool false]) (by simp [results, Try.results16, go_sem]) rfl ⟨_, by rw [HQ.out], E1.low Y1.size, Y1.alloc _⟩
  cases q3 : ((xs.length : Int) != (gs.length : Int))
  case true =>
    have HQ : Hid (fcolB gs xs = false) := Lib.hid (by rw [HM.out, q3]; simp)
    have HN := HNO HQ.out
    clear q2 q1
    have E1 := OI.empty w1
    rw [← HN.out] at E1
    go_wp2
    refine bodyPost_ret (v := .tuple #[.slice (some ⟨w1.heap.size, 0, none⟩) 0 0, .bool false]) (by simp [results, Try.results16, go_sem]) rfl ⟨_, by rw [HQ.out], E1.low Y1.size, Y1.alloc _⟩
  cases q4 : decide ((xs.length : Int) < 2)
  case true =>
    have HQ : Hid (fcolB gs xs = false) := Lib.hid (by rw [HM.out, q4]; simp)
    have HN := HNO HQ.out
    have q5 := of_decide_eq_true q4
    clear q2 q1 q4
    have E1 := OI.empty w1
    rw [← HN.out] at E1
    go_wp2
    refine bodyPost_ret (v := .tuple #[.slice (some ⟨w1.heap.size, 0, none⟩) 0 0, .bool false]) (by simp [results, Try.results16, go_sem]) rfl ⟨_, by rw [HQ.out], E1.low Y1.size, Y1.alloc _⟩
  have HQ : Hid (fcolB gs xs = true) := Lib.hid (by rw [HM.out, q1, q2, q3, q4]; rfl)
  have HN := Lib.hid (fcol_yes HQ.out)
  have q5 : ¬ (xs.length : Int) < 2 := of_decide_eq_false q4
  have hlen : xs.length = gs.length := by simp at q3; omega
  obtain ⟨b1, o1, rfl, z1, hc1⟩ := hA (by omega)
  obtain ⟨b2, o2, rfl, z2, hc2⟩ := hB (by omega)
  have e0 := getD_at (show 0 < gs.length by omega)
  have e1 := getD_at (show 1 < gs.length by omega)
  have e2 := getD_at (show 0 < xs.length by omega)
  have e3 := getD_at (show 1 < xs.length by omega)
  have g0 := hc1 0 _ e0
  have g1 := hc1 1 _ e1
  have x0 := hc2 0 _ e2
  have x1 := hc2 1 _ e3
  rw [Nat.add_zero] at g0 x0
  have k0 := (hkB_facts q1).1 _ (List.mem_of_getElem? e0)
  have k1 := (hkB_facts q1).1 _ (List.mem_of_getElem? e1)
  have n0 := (vecB_facts q2).1 _ (List.mem_of_getElem? e2)
  have n1 := (vecB_facts q2).1 _ (List.mem_of_getElem? e3)
  have hx40 := (vecB_facts q2).2
  have hgl : 2 ≤ gs.length := by omega
  have HFX : Hid (fcolX gs xs = (xs.set 0 ((xs.getD 0 0 + (logZ (gs.getD 0 0) (gs.getD 1 0) : Int)) % 1019)).set 1 (sfZ (xs.getD 1 0) 1)) := rfl
  generalize gs.getD 0 0 = ga at *
  generalize gs.getD 1 0 = gb at *
  generalize xs.getD 0 0 = xa at *
  generalize xs.getD 1 0 = xb at *
  have hga : ga ≠ 1 := ne_of_beq_false k0.2
  have lf := logZ_facts k0.1 hga k1.1
  have HLG := Lib.hid (fun W => logS ga gb W k0.1 hga k1.1)
  generalize logZ ga gb = L at *
  have HAD := Lib.hid (fun W => adfS xa (L : Int) W (elB_yes n0) (elB_yes (by omega)))
  have HSU := Lib.hid (fun W => sufS xb 1 W (elB_yes n1) (by decide))
  have HXE := Lib.hid (by simpa using e3 : (xs.set 0 ((xa + (L : Int)) % 1019))[1]? = some xb)
  have HE2 := Lib.hid e2
  have HE3 := Lib.hid e3
  have hx2 : 2 ≤ xs.length := by omega
  have q6 : ((xs.length : Int) != (gs.length : Int)) = false := q3
  have q7 : ¬ (xs.length : Int) < 2 := q5
  have HLN := Lib.hid hlen
  clear hlen q3 q5 q1 q2 q4 k0 k1 n0 n1 lf hga e0 e1 e2 e3 hc1 hc2 hA hB HM HNO h2 h3
  have RU := Lib.hid ((hu.keep Y1).keep ((Bel.refl w1).alloc (.cells #[] 3)))
  have E0 := OI.empty w1
  go_wp2_with (at_builtin; refine wpList_appI _ rfl _ _ rfl w1.heap.size _ _ [] xs rfl rfl E0 RU.out (by simp only [List.length_nil]; omega) (by simp only [World.size_alloc]; omega) ?_)
  intro r3 w3 O3 hG3
  have hb3 : Bel w1 w3 := ((Bel.refl w1).alloc _).grown hG3 (fun p hp => (E0.block p hp).1)
  have X3 := hb3.keep X1
  have Y3 := Y1.trans hb3
  clear hG3
  obtain ⟨g, cap, er, hg1, hg2, _, _, fz, cs⟩ := O3.cells (by omega)
  subst er
  have s31 := Y1.size
  have hxg : w.heap.size ≠ g := by have := X1.lt; omega
  have gne1 : b1 ≠ g := by omega
  have r0 := cs 0 _ HE2.out
  have r1 := cs 1 _ HE3.out
  have fz0 := fz 0
  have Yd := (Bel.refl w3).drew
  have O4 := O3.store (i := 0) (by omega) ((xa + (L : Int)) % 1019)
  clear cx zx fz cs
  obtain ⟨cx, _, zx⟩ := X3.facts
  have rx : w3.cell? ⟨w.heap.size, 0, none⟩ = some (.slice (some ⟨b1, o1, none⟩) gs.length c) := cx 0
  have ga3 := Y3.cell1 z1 g0
  have gb3 := Y3.cell1 z1 g1
  have xa3 := Y3.cell1 z2 x0
  have xb3 := Y3.cell1 z2 x1
  have i0 : (0 : Int) < (xs.length : Int) := by omega
  have i1 : (1 : Int) < (xs.length : Int) := by omega
  have i2 : (0 : Int) < (gs.length : Int) := by omega
  have i3 : (1 : Int) < (gs.length : Int) := by omega
  have j0 : 0 < xs.length := by omega
  have j1 : 1 < xs.length := by omega
  have j2 : 0 < gs.length := by omega
  have j3 : 1 < gs.length := by omega
  have Y4 := Y3.setCell (p := ⟨g, 0, none⟩) (by dsimp only; omega) (.int .i64 ((xa + (L : Int)) % 1019))
  have xb4 := Y4.cell1 z2 x1
  obtain ⟨y, hy⟩ : ∃ y, y = (xa + (L : Int)) % 1019 := ⟨_, rfl⟩
  rw [← hy] at O4 Y4 HAD HXE HFX xb4
  clear cx hy g0 g1 x0 x1
  go_wp2_with fail
  refine wp_region_still_tail 15 (by kernel_rfl) (by kernel_rfl) ?_
  simp only [List.take_succ_cons, List.take_zero, List.drop_succ_cons, List.drop_zero]
  repeat (first | still_step | (still_call (stillW (HLG.out _))) | (still_call (stillW (HAD.out _))))
  refine wpStill_nil ?_
  obtain ⟨g', cap', e', _, _, _, _, fy, cy⟩ := O4.cells (by rw [List.length_set]; omega)
  rw [List.length_set] at e'
  injection e' with e1 e2 e3
  injection e1 with e1
  injection e1 with e1
  subst e1
  have q1 := cy 1 _ HXE.out
  have fq1 := fy 1
  have q1d : (w3.setCell ⟨g, 0, none⟩ (.int .i64 y)).drew.cell? ⟨g, 1, none⟩ = some (.int .i64 xb) := q1
  have fq1d : (w3.setCell ⟨g, 0, none⟩ (.int .i64 y)).drew.frozen? ⟨g, 1, none⟩ = false := fq1
  have xb4d : (w3.setCell ⟨g, 0, none⟩ (.int .i64 y)).drew.cell? ⟨b2, o2 + 1, none⟩ = some (.int .i64 xb) := xb4
  have O5 := O4.store (i := 1) (by omega) (sfZ xb 1)
  have Y5 := Y4.setCell (p := ⟨g, 1, none⟩) (by dsimp only; omega) (.int .i64 (sfZ xb 1))
  generalize sfZ xb 1 = z at *
  clear fy cy e2 e3 O4 Y4
  go_wp2_with fail
  refine (HSU.out _).mono ?_
  rintro e w5 ⟨rfl, rfl⟩
  go_wp2
  refine bodyPost_ret (v := .tuple #[.slice (some ⟨g, 0, none⟩) xs.length cap, .bool true]) (by simp [results, Try.results16, go_sem]) rfl ⟨_, by rw [HQ.out], by rw [HN.out, HFX.out]; exact O5.low (by omega), Y5.drew⟩
end Go.Proofs.Ytjlcnbicehjjjaa

namespace Go.Proofs.Ytjlcnbicehjjjaa
set_option linter.unusedVariables false
set_option maxRecDepth 100000

/-- An exponent counts modulo the order. -/
theorem pow_ord {g : Int} {E : Nat} (h : g ^ E % 2039 = 1) (a : Nat) : g ^ (a % E) % 2039 = g ^ a % 2039 := by
  have h1 := Nat.div_add_mod a E
  have h2 : g ^ a = g ^ (E * (a / E)) * g ^ (a % E) := by rw [← Int.pow_add, h1]
  have h3 : (g ^ E) ^ (a / E) % 2039 = 1 := by
    generalize a / E = n
    induction n with
    | zero => rw [Int.pow_zero]; rfl
    | succ n ih => rw [Int.pow_succ, Int.mul_emod, ih, h]; rfl
  rw [h2, Int.pow_mul, Int.mul_emod, h3, Int.one_mul, Int.emod_emod]
theorem col_two {g0 g1 : Int} {E L : Nat} (h0 : g0 ^ E % 2039 = 1) (h1 : g1 ^ E % 2039 = 1) (hE : 0 < E) (hl : g0 ^ L % 2039 = g1 % 2039) (a b : Nat) :
    g0 ^ ((a + L) % E) * g1 ^ ((b + (E - 1)) % E) % 2039 = g0 ^ a * g1 ^ b % 2039 := by
  have e1 : g0 ^ L * g1 ^ (E - 1) % 2039 = 1 := by
    rw [Int.mul_emod, hl, ← Int.mul_emod, Int.mul_comm, ← Int.pow_succ, show (E - 1).succ = E by omega, h1]
  rw [Int.mul_emod, pow_ord h0, pow_ord h1, ← Int.mul_emod, Int.pow_add, Int.pow_add]
  have e2 : g0 ^ a * g0 ^ L * (g1 ^ b * g1 ^ (E - 1)) = g0 ^ a * g1 ^ b * (g0 ^ L * g1 ^ (E - 1)) := by
    rw [Int.mul_assoc, Int.mul_left_comm (g0 ^ L), ← Int.mul_assoc]
  rw [e2, Int.mul_emod, e1, Int.mul_one, Int.emod_emod]
theorem pwr_two {gs es : List Int} {g0 g1 e0 e1 : Int} (a : gs[0]? = some g0) (b : gs[1]? = some g1) (c : es[0]? = some e0) (d : es[1]? = some e1) : pwr gs es 2 = g0 ^ e0.toNat * g1 ^ e1.toNat % 2039 := by
  rw [pwr_step b d, pwr_step a c, show pwr gs es 0 = 1 from rfl, Int.one_mul, Int.emod_emod, ← Int.mul_emod]
theorem fcolX_at {gs es : List Int} {k : Nat} (h : 2 ≤ k) : (fcolX gs es)[k]? = es[k]? := by
  unfold fcolX
  rw [List.getElem?_set_ne (by omega), List.getElem?_set_ne (by omega)]
theorem col_pwr {gs es : List Int} (hk : hkB gs = true) (hv : vecB es = true) (hl : es.length = gs.length) (h2 : 2 ≤ es.length) : ∀ k, k + 2 ≤ gs.length → pwr gs (fcolX gs es) (k + 2) = pwr gs es (k + 2)
  | 0, hn => by
    have a0 := getD_at (xs := gs) (show 0 < gs.length by omega)
    have a1 := getD_at (xs := gs) (show 1 < gs.length by omega)
    have c0 := getD_at (xs := es) (show 0 < es.length by omega)
    have c1 := getD_at (xs := es) (show 1 < es.length by omega)
    have k0 := (hkB_facts hk).1 _ (List.mem_of_getElem? a0)
    have k1 := (hkB_facts hk).1 _ (List.mem_of_getElem? a1)
    have n0 := (vecB_facts hv).1 _ (List.mem_of_getElem? c0)
    have n1 := (vecB_facts hv).1 _ (List.mem_of_getElem? c1)
    obtain ⟨l1, l2, _⟩ := logZ_facts k0.1 (ne_of_beq_false k0.2) k1.1
    have d0 : (fcolX gs es)[0]? = some ((es.getD 0 0 + (logZ (gs.getD 0 0) (gs.getD 1 0) : Int)) % 1019) := by
      unfold fcolX
      rw [List.getElem?_set_ne (by omega), List.getElem?_set_self (by omega)]
    have d1 : (fcolX gs es)[1]? = some (sfZ (es.getD 1 0) 1) := by
      unfold fcolX
      rw [List.getElem?_set_self (by rw [List.length_set]; omega)]
    rw [pwr_two a0 a1 c0 c1, pwr_two a0 a1 d0 d1]
    generalize gs.getD 0 0 = g0 at *
    generalize gs.getD 1 0 = g1 at *
    generalize es.getD 0 0 = e0 at *
    generalize es.getD 1 0 = e1 at *
    generalize logZ g0 g1 = L at *
    have t0 : ((e0 + (L : Int)) % 1019).toNat = (e0.toNat + L) % 1019 := by omega
    have t1 : (sfZ e1 1).toNat = (e1.toNat + (1019 - 1)) % 1019 := by unfold sfZ; omega
    rw [t0, t1]
    have hg1 := (grB_facts k1.1).1
    exact col_two (grB_facts k0.1).2 (grB_facts k1.1).2 (by omega) (by rw [l2]; omega) e0.toNat e1.toNat
  | k + 1, hn => by
    have ih := col_pwr hk hv hl h2 k (by omega)
    have a := getD_at (xs := gs) (show k + 2 < gs.length by omega)
    have b := getD_at (xs := es) (show k + 2 < es.length by omega)
    have c := (fcolX_at (gs := gs) (es := es) (show 2 ≤ k + 2 by omega)).trans b
    rw [show k + 1 + 2 = k + 2 + 1 by omega, pwr_step a b, pwr_step a c, ih]
theorem fcolX_len (gs es : List Int) : (fcolX gs es).length = es.length := by unfold fcolX; rw [List.length_set, List.length_set]
theorem col_ne {gs es : List Int} (hk : hkB gs = true) (hv : vecB es = true) (hl : es.length = gs.length) (h2 : 2 ≤ es.length) : fcolX gs es ≠ es := fun e => by
  have a0 := getD_at (xs := gs) (show 0 < gs.length by omega)
  have a1 := getD_at (xs := gs) (show 1 < gs.length by omega)
  have c0 := getD_at (xs := es) (show 0 < es.length by omega)
  have k0 := (hkB_facts hk).1 _ (List.mem_of_getElem? a0)
  have k1 := (hkB_facts hk).1 _ (List.mem_of_getElem? a1)
  have n0 := (vecB_facts hv).1 _ (List.mem_of_getElem? c0)
  obtain ⟨l1, l2, _⟩ := logZ_facts k0.1 (ne_of_beq_false k0.2) k1.1
  have d0 : (fcolX gs es)[0]? = some ((es.getD 0 0 + (logZ (gs.getD 0 0) (gs.getD 1 0) : Int)) % 1019) := by
    unfold fcolX
    rw [List.getElem?_set_ne (by omega), List.getElem?_set_self (by omega)]
  rw [e, c0] at d0
  have d1 := Option.some.inj d0
  have hn1 : gs.getD 1 0 ≠ 1 := ne_of_beq_false k1.2
  have hL : logZ (gs.getD 0 0) (gs.getD 1 0) ≠ 0 := fun h => by
    rw [h, Int.pow_zero] at l2
    exact hn1 (by rw [← l2]; rfl)
  generalize logZ (gs.getD 0 0) (gs.getD 1 0) = L at *
  omega
theorem col_vec {gs es : List Int} (hv : vecB es = true) : vecB (fcolX gs es) = true := by
  obtain ⟨h1, h2⟩ := vecB_facts hv
  unfold vecB
  rw [Bool.and_eq_true]
  refine ⟨List.all_eq_true.2 fun x hx => ?_, by rw [fcolX_len]; exact decide_eq_true h2⟩
  unfold fcolX at hx
  rcases List.mem_or_eq_of_mem_set hx with h | h
  · rcases List.mem_or_eq_of_mem_set h with h | h
    · exact elB_yes (h1 x h)
    · exact elB_yes (by omega)
  · exact elB_yes (by unfold sfZ at h; omega)
theorem col_hash {gs es : List Int} (h : fcolB gs es = true) : hashZ gs (fcolX gs es) = hashZ gs es := by
  unfold fcolB at h
  rw [Bool.and_eq_true, Bool.and_eq_true, Bool.and_eq_true] at h
  obtain ⟨⟨⟨h1, h2⟩, h3⟩, h4⟩ := h
  have hl : es.length = gs.length := by simp at h3; omega
  have h5 : 2 ≤ es.length := by simp at h4; omega
  rw [hashZ_yes h1 (col_vec h2) (by rw [fcolX_len]; exact hl), hashZ_yes h1 h2 hl]
  have h9 := col_pwr h1 h2 hl h5 (gs.length - 2) (by omega)
  rwa [show gs.length - 2 + 2 = gs.length by omega] at h9
end Go.Proofs.Ytjlcnbicehjjjaa
