/-
  Homomorphic hashes: contracts of PowGroup, MulGroup, powers, HashVector, CombineHashes. No condition.
  Contracts of HashVector and CombineHashes, of the program and of the reference. No condition.
  VerifyHash, IsValidPacket: contracts of the program's functions and of the reference's. No condition.
  Hashes: contracts of Mod, Hash, KeyedHash, of the program and of the reference. Conditions: a modulus from 1 to 10^12; at most 2^39 numbers.
  Contracts of KeyedHash and ManifestMAC, of the program and of the reference. Condition: at most 2^21 numbers.
  PacketRow: contract of the program's function. Condition: at most 2^21 numbers.
  PacketRow: contract of the reference's function. Condition: at most 2^21 numbers.
-/
import Derived.Test.YtjaagabbbnokdaaGreatVec
import Derived.Test.YtjaagabbbnokdaaGreatMani2
import Derived.Test.YtjaagabbbnokdaaGreatConcat
import Derived.Deep.RegionHeld3
namespace Go.Proofs.YtjaagabbbnokdaaGreat
open Go.ChangeShapes Go.WideShapes Go.ChangeAt Go.RowKit
set_option linter.unusedVariables false
set_option maxRecDepth 100000

theorem grB_mk {x : Int} (h1 : 0 ≤ x) (h2 : x ≤ 2038) (h : x ^ 1019 % 2039 = 1) : grB x = true := by
  have h0 : 1 ≤ x := by
    rcases (by omega : x = 0 ∨ 1 ≤ x) with rfl | h0
    · rw [Int.zero_pow (by decide)] at h; simp at h
    · exact h0
  unfold grB
  rw [decide_eq_true ⟨h0, h2⟩, h]
  rfl
theorem grB_one : grB 1 = true := grB_mk (by decide) (by decide) (by rw [Int.one_pow]; decide)
theorem grB_pow {g : Int} (n : Nat) (h : grB g = true) : grB (g ^ n % 2039) = true := by
  have hg := (grB_facts h).2
  refine grB_mk (Int.emod_nonneg _ (by decide)) (by have := Int.emod_lt_of_pos (g ^ n) (show (0 : Int) < 2039 by decide); omega) ?_
  rw [pow_mod, ← Int.pow_mul, Nat.mul_comm, Int.pow_mul, ← pow_mod, hg, Int.one_pow]
  decide
theorem grB_mul {a b : Int} (ha : grB a = true) (hb : grB b = true) : grB (a * b % 2039) = true := by
  refine grB_mk (Int.emod_nonneg _ (by decide)) (by have := Int.emod_lt_of_pos (a * b) (show (0 : Int) < 2039 by decide); omega) ?_
  rw [pow_mod, Int.mul_pow, Int.mul_emod, (grB_facts ha).2, (grB_facts hb).2]
  decide
/-- The product of the first k powers. -/
def pwr (gs es : List Int) : Nat → Int
  | 0 => 1
  | k + 1 => pwr gs es k * (gs.getD k 0 ^ (es.getD k 0).toNat % 2039) % 2039
theorem pwr_bd (gs es : List Int) (k : Nat) : 0 ≤ pwr gs es k ∧ pwr gs es k ≤ 2038 := by
  cases k with
  | zero => simp [pwr]
  | succ k => simp only [pwr]; omega
theorem pwr_step {gs es : List Int} {k : Nat} {g e : Int} (hg : gs[k]? = some g) (he : es[k]? = some e) : pwr gs es (k + 1) = pwr gs es k * (g ^ e.toNat % 2039) % 2039 := by
  simp [pwr, List.getD, hg, he]
theorem pwr_gr {gs es : List Int} (h : ∀ g ∈ gs, grB g = true) : ∀ k, k ≤ gs.length → grB (pwr gs es k) = true := by
  intro k
  induction k with
  | zero => intro _; exact grB_one
  | succ k ih =>
    intro hk
    have hx : gs[k]? = some (gs[k]'(by omega)) := List.getElem?_eq_getElem (by omega)
    simp only [pwr, List.getD, hx, Option.getD_some]
    exact grB_mul (ih (by omega)) (grB_pow _ (h _ (List.getElem_mem _)))
def hashZ (gs v : List Int) : Int := if hkB gs = true ∧ vecB v = true ∧ v.length = gs.length then pwr gs v gs.length else 0
def combZ (hs cs : List Int) : Int := if vecB cs = true ∧ hs.length = cs.length ∧ hs.all grB = true then pwr hs cs hs.length else 0

end Go.Proofs.YtjaagabbbnokdaaGreat

namespace Go.Proofs.YtjaagabbbnokdaaGreat
open Go.ChangeShapes Go.WideShapes Go.ChangeAt Go.RowKit
set_option linter.unusedVariables false
set_option maxRecDepth 100000

theorem hashZ_no {gs v : List Int} (h : ¬ (hkB gs = true ∧ vecB v = true ∧ v.length = gs.length)) : hashZ gs v = 0 := if_neg h
theorem hashZ_yes {gs v : List Int} (h1 : hkB gs = true) (h2 : vecB v = true) (h3 : v.length = gs.length) : hashZ gs v = pwr gs v gs.length := if_pos ⟨h1, h2, h3⟩
theorem combZ_no {gs v : List Int} (h : ¬ (vecB v = true ∧ gs.length = v.length ∧ gs.all grB = true)) : combZ gs v = 0 := if_neg h
theorem combZ_yes {gs v : List Int} (h1 : vecB v = true) (h2 : gs.length = v.length) (h3 : gs.all grB = true) : combZ gs v = pwr gs v gs.length := if_pos ⟨h1, h2, h3⟩
theorem pwr_take_le (gs es : List Int) (n k : Nat) (h : k ≤ n) : pwr gs es k = pwr (gs.take n) es k := by
  induction k with
  | zero => rfl
  | succ k ih =>
    simp only [pwr, ih (by omega)]
    have : (gs.take n).getD k 0 = gs.getD k 0 := by simp [List.getD, show k < n by omega]
    rw [this]
theorem pwr_take (gs es : List Int) (k : Nat) : pwr gs es k = pwr (gs.take k) es k := pwr_take_le gs es k k (Nat.le_refl _)
end Go.Proofs.YtjaagabbbnokdaaGreat

namespace Go.Proofs.YtjaagabbbnokdaaGreat
open Go.ChangeShapes Go.WideShapes Go.ChangeAt Go.RowKit
set_option linter.unusedVariables false
set_option maxRecDepth 100000

def vhB (gs hs co pa : List Int) : Bool := (hashZ gs pa != 0) && (hashZ gs pa == combZ hs co)
def pktB (a s d : Int) (co pa : List Int) : Bool := fmtB a s d && ((co.length : Int) == s) && ((pa.length : Int) == d) && vecB co && vecB pa
set_option maxHeartbeats 1000000 in
theorem pktI (a s d : Int) (c p : Value) (co pa : List Int) (w : World) (hc : RI w c co) (hp : RI w p pa) :
    Calls Tryz.prog 57 #[.agg #[.int .i64 a, c, p], .int .i64 s, .int .i64 d] w fun e w' => e = .returned (.bool (pktB a s d co pa)) ∧ Bel w w' := by
  have HM : Hid (pktB a s d co pa = (fmtB a s d && ((co.length : Int) == s) && ((pa.length : Int) == d) && vecB co && vecB pa)) := rfl
  obtain ⟨A1, c1, rfl, _, _, _⟩ := id hc
  obtain ⟨A2, c2, rfl, _, _, _⟩ := id hp
  have Y : Bel w (w.alloc (.cells #[.int .i64 a, .slice A1 co.length c1, .slice A2 pa.length c2] 49)) := (Bel.refl _).alloc _
  go_enter Tryz.func57, Tryz.ntmps57
  go_wp2_with fail
  refine (fmtI _ _ _ _).mono ?_
  rintro e w1 ⟨rfl, rfl⟩
  cases q1 : fmtB a s d
  · go_wp2
    go_ret
    exact ⟨by rw [HM.out, q1]; rfl, Y⟩
  have Q1 := Lib.hid q1
  clear q1
  cases q2 : ((co.length : Int) == s)
  · go_wp2
    go_ret
    exact ⟨by rw [HM.out, Q1.out, q2]; rfl, Y⟩
  cases q3 : ((pa.length : Int) == d)
  · go_wp2
    go_ret
    exact ⟨by rw [HM.out, Q1.out, q2, q3]; rfl, Y⟩
  go_wp2_with fail
  refine (vecI _ co _ (hc.keep Y)).mono ?_
  rintro e w1 ⟨rfl, rfl⟩
  cases q4 : vecB co
  · go_wp2
    go_ret
    exact ⟨by rw [HM.out, Q1.out, q2, q3, q4]; rfl, Y⟩
  go_wp2_with fail
  refine (vecI _ pa _ (hp.keep Y)).mono ?_
  rintro e w1 ⟨rfl, rfl⟩
  go_wp2
  go_ret
  exact ⟨by rw [HM.out, Q1.out, q2, q3, q4]; rfl, Y⟩
set_option maxHeartbeats 1000000 in
theorem pktS (a s d : Int) (c p : Value) (co pa : List Int) (w : World) (hc : RI w c co) (hp : RI w p pa) :
    Calls Tryz.prog 114 #[.agg #[.int .i64 a, c, p], .int .i64 s, .int .i64 d] w fun e w' => e = .returned (.bool (pktB a s d co pa)) ∧ Bel w w' := by
  have HM : Hid (pktB a s d co pa = (fmtB a s d && ((co.length : Int) == s) && ((pa.length : Int) == d) && vecB co && vecB pa)) := rfl
  obtain ⟨A1, c1, rfl, _, _, _⟩ := id hc
  obtain ⟨A2, c2, rfl, _, _, _⟩ := id hp
  have Y : Bel w (w.alloc (.cells #[.int .i64 a, .slice A1 co.length c1, .slice A2 pa.length c2] 49)) := (Bel.refl _).alloc _
  go_enter Tryz.func114, Tryz.ntmps114
  go_wp2_with fail
  refine (l1InB _ _ _ _).mono ?_
  rintro e w1 ⟨rfl, rfl⟩
  cases p1 : inB a 0 1000000000000
  · go_wp2
    go_ret
    exact ⟨by rw [HM.out, fmtB, p1]; rfl, Y⟩
  go_wp2_with fail
  refine (l1InB _ _ _ _).mono ?_
  rintro e w1 ⟨rfl, rfl⟩
  cases p2 : inB s 1 8
  · go_wp2
    go_ret
    exact ⟨by rw [HM.out, fmtB, p1, p2]; rfl, Y⟩
  go_wp2_with fail
  refine (l1InB _ _ _ _).mono ?_
  rintro e w1 ⟨rfl, rfl⟩
  cases p3 : inB d 1 16
  · go_wp2
    go_ret
    exact ⟨by rw [HM.out, fmtB, p1, p2, p3]; rfl, Y⟩
  have q1 : fmtB a s d = true := by rw [fmtB, p1, p2, p3]; rfl
  have Q1 := Lib.hid q1
  clear q1
  cases q2 : ((co.length : Int) == s)
  · go_wp2
    go_ret
    exact ⟨by rw [HM.out, Q1.out, q2]; rfl, Y⟩
  cases q3 : ((pa.length : Int) == d)
  · go_wp2
    go_ret
    exact ⟨by rw [HM.out, Q1.out, q2, q3]; rfl, Y⟩
  go_wp2_with fail
  refine (vecS _ co _ (hc.keep Y)).mono ?_
  rintro e w1 ⟨rfl, rfl⟩
  cases q4 : vecB co
  · go_wp2
    go_ret
    exact ⟨by rw [HM.out, Q1.out, q2, q3, q4]; rfl, Y⟩
  go_wp2_with fail
  refine (vecS _ pa _ (hp.keep Y)).mono ?_
  rintro e w1 ⟨rfl, rfl⟩
  go_wp2
  go_ret
  exact ⟨by rw [HM.out, Q1.out, q2, q3, q4]; rfl, Y⟩
end Go.Proofs.YtjaagabbbnokdaaGreat

namespace Go.Proofs.YtjaagabbbnokdaaGreat
open Go.ChangeShapes Go.WideShapes Go.ChangeAt Go.RowKit
set_option linter.unusedVariables false
set_option maxRecDepth 100000

theorem tmod_emod (p q : Int) (hq : 1 ≤ q) : (p.tmod q + q) % q = p % q ∧ -q < p.tmod q ∧ p.tmod q < q := by
  have h1 : p.tmod q < q := Int.tmod_lt_of_pos p (by omega)
  have h2 : -q < p.tmod q := by
    rcases Int.le_total 0 p with hp | hp
    · have := Int.tmod_nonneg q hp; omega
    · have h3 : (-p).tmod q < q := Int.tmod_lt_of_pos (-p) (by omega)
      rw [Int.neg_tmod] at h3
      omega
  refine ⟨?_, h2, h1⟩
  rw [Int.add_emod_right]
  have h4 := Int.mul_tdiv_add_tmod p q
  conv => rhs; rw [← h4]
  rw [Int.add_comm, Int.add_mul_emod_self_left]

/-- The hash of a list of numbers. -/
def hshS (s v : Int) : Int := (s * 1000003 + v % 2147483647 + 13) % 2147483647
def hsh (xs : List Int) : Int := xs.foldl hshS 11
theorem hsh_bd (xs : List Int) : 0 ≤ hsh xs ∧ hsh xs < 2147483647 := by
  have key : ∀ (ys : List Int) (s : Int), 0 ≤ s ∧ s < 2147483647 → 0 ≤ ys.foldl hshS s ∧ ys.foldl hshS s < 2147483647 := by
    intro ys
    induction ys with
    | nil => intro s h; exact h
    | cons y ys ih => intro s h; exact ih _ ⟨Int.emod_nonneg _ (by decide), Int.emod_lt_of_pos _ (by decide)⟩
  exact key xs 11 (by decide)
theorem hsh_step {xs : List Int} {k : Nat} {x : Int} (h : xs[k]? = some x) : hsh (xs.take (k + 1)) = (hsh (xs.take k) * 1000003 + x % 2147483647 + 13) % 2147483647 := by
  obtain ⟨hk, rfl⟩ := List.getElem?_eq_some_iff.1 h
  unfold hsh
  rw [List.take_succ_eq_append_getElem hk, List.foldl_append]
  rfl
set_option maxHeartbeats 400000 in
theorem modI (p q : Int) (w : World) (h1 : 1 ≤ q) (h2 : q ≤ 1000000000000) (hp : -9223372036854775808 ≤ p) (hp2 : p ≤ 9223372036854775807) :
    Calls Tryz.prog 139 #[.int .i64 p, .int .i64 q] w fun e w' => e = .returned (.int .i64 (p % q)) ∧ w = w' := by
  obtain ⟨k1, k2, k3⟩ := tmod_emod p q h1
  have K1 := Lib.hid k1
  clear k1
  have k4 : 0 ≤ p.tmod q + q := by omega
  go_enter Tryz.func139, Tryz.ntmps139
  go_wp2_with fail
  refine (inR_yes _ _ _ _ (by omega) (by omega)).mono ?_
  rintro e w1 ⟨rfl, rfl⟩
  go_wp2
  go_ret
  exact ⟨by rw [← K1.out]; rfl, rfl⟩
set_option maxHeartbeats 400000 in
theorem modS (p q : Int) (w : World) (h1 : 1 ≤ q) (h2 : q ≤ 1000000000000) (hp : -9223372036854775808 ≤ p) (hp2 : p ≤ 9223372036854775807) :
    Calls Tryz.prog 138 #[.int .i64 p, .int .i64 q] w fun e w' => e = .returned (.int .i64 (p % q)) ∧ w = w' := by
  obtain ⟨k1, k2, k3⟩ := tmod_emod p q h1
  have K1 := Lib.hid k1
  clear k1
  have k4 : 0 ≤ p.tmod q + q := by omega
  go_enter Tryz.func138, Tryz.ntmps138
  go_wp2_with fail
  refine (l1In_yes _ _ _ _ (by omega) (by omega)).mono ?_
  rintro e w1 ⟨rfl, rfl⟩
  go_wp2
  go_ret
  exact ⟨by rw [← K1.out]; rfl, rfl⟩
set_option maxHeartbeats 1000000 in
theorem hash1I (v : Value) (xs : List Int) (w : World) (hv : RI w v xs) (hb : ∀ x ∈ xs, -9223372036854775808 ≤ x ∧ x ≤ 9223372036854775807) :
    Calls Tryz.prog 130 #[v] w fun e w' => e = .returned (.int .i64 (hsh xs)) ∧ w = w' := by
  obtain ⟨A, c, rfl, h2, h3, hA⟩ := hv
  have HB := Lib.hid hb
  clear hb
  go_enter Tryz.func130, Tryz.ntmps130
  go_wp2
  go_loopg [3, 8] xs.length (fun f m i wr => ∃ k : Nat, k + f = xs.length ∧ i = .int .i64 k ∧ m = .int .i64 (hsh (xs.take k)) ∧ wr = w)
  case atStart => exact ⟨0, by omega, rfl, rfl, rfl⟩
  case round =>
    obtain ⟨k, hk, rfl, rfl, rfl⟩ := hrel
    have hk2 : k ≤ xs.length := by omega
    have HK := Lib.hid hk
    clear hk
    by_cases hlt : k < xs.length
    · obtain ⟨b1, o1, rfl, z1, hc1⟩ := hA (by omega)
      have hx : xs[k]? = some (xs[k]'hlt) := List.getElem?_eq_getElem hlt
      have g1 := hc1 k _ hx
      have HS := Lib.hid (hsh_step hx)
      obtain ⟨m1, m2⟩ := HB.out _ (List.getElem_mem hlt)
      obtain ⟨q1, q2⟩ := hsh_bd (xs.take k)
      clear hc1 hA hx
      generalize xs[k]'hlt = x at *
      generalize hsh (xs.take k) = s at *
      have i0 : (0 : Int) ≤ (k : Int) := by omega
      have i1 : (k : Int) < (xs.length : Int) := by omega
      go_wp2_with fail
      refine (modI x 2147483647 _ (by omega) (by omega) m1 m2).mono ?_
      rintro e w1 ⟨rfl, rfl⟩
      have u1 : 0 ≤ x % 2147483647 := Int.emod_nonneg _ (by omega)
      have u2 : x % 2147483647 < 2147483647 := Int.emod_lt_of_pos _ (by omega)
      generalize x % 2147483647 = y at *
      go_wp2
      go_roundg (xs.length - (k + 1))
      case measure => have := HK.out; omega
      case rel => exact ⟨k + 1, by omega, by go_num, by rw [HS.out], rfl⟩
    · obtain rfl : k = xs.length := by omega
      have i1 : ¬ (xs.length : Int) < (xs.length : Int) := by omega
      go_wp2
      go_ret
      exact ⟨rfl, rfl⟩
set_option maxHeartbeats 1000000 in
theorem hash1S (v : Value) (xs : List Int) (w : World) (hv : RI w v xs) (hb : ∀ x ∈ xs, -9223372036854775808 ≤ x ∧ x ≤ 9223372036854775807) :
    Calls Tryz.prog 128 #[v] w fun e w' => e = .returned (.int .i64 (hsh xs)) ∧ w = w' := by
  obtain ⟨A, c, rfl, h2, h3, hA⟩ := hv
  have HB := Lib.hid hb
  clear hb
  go_enter Tryz.func128, Tryz.ntmps128
  go_wp2
  go_loopg [3, 4] xs.length (fun f m i wr => ∃ k : Nat, k + f = xs.length ∧ i = .int .i64 k ∧ m = .int .i64 (hsh (xs.take k)) ∧ wr = w)
  case atStart => exact ⟨0, by omega, rfl, rfl, rfl⟩
  case round =>
    obtain ⟨k, hk, rfl, rfl, rfl⟩ := hrel
    have hk2 : k ≤ xs.length := by omega
    have HK := Lib.hid hk
    clear hk
    by_cases hlt : k < xs.length
    · obtain ⟨b1, o1, rfl, z1, hc1⟩ := hA (by omega)
      have hx : xs[k]? = some (xs[k]'hlt) := List.getElem?_eq_getElem hlt
      have g1 := hc1 k _ hx
      have HS := Lib.hid (hsh_step hx)
      obtain ⟨m1, m2⟩ := HB.out _ (List.getElem_mem hlt)
      obtain ⟨q1, q2⟩ := hsh_bd (xs.take k)
      clear hc1 hA hx
      generalize xs[k]'hlt = x at *
      generalize hsh (xs.take k) = s at *
      have i0 : (0 : Int) ≤ (k : Int) := by omega
      have i1 : (k : Int) < (xs.length : Int) := by omega
      go_wp2_with fail
      refine (modS x 2147483647 _ (by omega) (by omega) m1 m2).mono ?_
      rintro e w1 ⟨rfl, rfl⟩
      have u1 : 0 ≤ x % 2147483647 := Int.emod_nonneg _ (by omega)
      have u2 : x % 2147483647 < 2147483647 := Int.emod_lt_of_pos _ (by omega)
      generalize x % 2147483647 = y at *
      go_wp2
      go_roundg (xs.length - (k + 1))
      case measure => have := HK.out; omega
      case rel => exact ⟨k + 1, by omega, by go_num, by rw [HS.out], rfl⟩
    · obtain rfl : k = xs.length := by omega
      have i1 : ¬ (xs.length : Int) < (xs.length : Int) := by omega
      go_wp2
      go_ret
      exact ⟨rfl, rfl⟩
end Go.Proofs.YtjaagabbbnokdaaGreat

namespace Go.Proofs.YtjaagabbbnokdaaGreat
open Go.ChangeShapes Go.WideShapes Go.ChangeAt Go.RowKit
set_option linter.unusedVariables false
set_option maxRecDepth 100000

abbrev In64s (xs : List Int) : Prop := ∀ x ∈ xs, -9223372036854775808 ≤ x ∧ x ≤ 9223372036854775807
theorem RI.one {w : World} {g : Nat} {x : Int} (h : Blk w g 3 #[.int .i64 x]) : RI w (.slice (some ⟨g, 0, none⟩) 1 1) [x] :=
  ⟨some ⟨g, 0, none⟩, 1, rfl, Nat.le_refl _, by omega, fun _ => ⟨g, 0, rfl, h.lt, fun j y hj => by
    have hj0 : j = 0 := by
      have := (List.getElem?_eq_some_iff.1 hj).1
      simp at this
      exact this
    subst hj0
    simp at hj
    subst hj
    exact h.facts.1 0⟩⟩
/-- A block that holds just these numbers. -/
theorem OI.lit {w : World} {base g : Nat} {xs : List Int} (h : Blk w g 3 ((xs.map (Value.int .i64)).toArray)) (hb : base ≤ g) (hn : xs.length ≤ 1099511627776) : OI w base (.slice (some ⟨g, 0, none⟩) xs.length xs.length) xs :=
  ⟨by simp, .inr ⟨g, xs.length, _, rfl, hb, h, Nat.le_refl _, by unfold maxLen; omega, by simp, by rw [Nat.mul_one]; exact List.take_of_length_le (by simp)⟩⟩
theorem RII.of {w : World} {g n : Nat} {cs : Array Value} {T : TypeId} {xss : List (List Int)} (h : Blk w g T cs) (hn : n = xss.length) (hc : n ≤ 9223372036854775807) (hr : ∀ (j : Nat) (xs : List Int), xss[j]? = some xs → ∃ u, cs[j]? = some u ∧ RI w u xs) : RII w (.slice (some ⟨g, 0, none⟩) n n) xss := by
  subst hn
  refine ⟨some ⟨g, 0, none⟩, xss.length, rfl, Nat.le_refl _, hc, fun _ => ⟨g, 0, rfl, h.lt, fun j xs hj => ?_⟩⟩
  obtain ⟨u, hu, hr⟩ := hr j xs hj
  exact ⟨u, by rw [Nat.zero_add, h.facts.1]; exact hu, hr⟩

def khZ (key : Int) (xs : List Int) : Int := hsh ([key] ++ xs ++ [key])
set_option maxHeartbeats 1000000 in
theorem khI (key : Int) (v : Value) (xs : List Int) (w : World) (hv : RI w v xs) (hn : xs.length ≤ 2097152) (hk : -9223372036854775808 ≤ key ∧ key ≤ 9223372036854775807) (hb : In64s xs) :
    Calls Tryz.prog 109 #[.int .i64 key, v] w fun e w' => e = .returned (.int .i64 (khZ key xs)) ∧ Bel w w' := by
  obtain ⟨A, c, rfl, _, _, _⟩ := id hv
  have HB := Lib.hid hb
  clear hb
  have X1 := ((Blk.new w 3 #[.int .i64 key]).alloc (.cells #[.int .i64 key] 3)).alloc (.cells #[.slice (some ⟨w.heap.size, 0, none⟩) 1 1, .slice A xs.length c, .slice (some ⟨w.heap.size + 1, 0, none⟩) 1 1] 47)
  have X2 := (Blk.new2 w (.cells #[.int .i64 key] 3) 3 #[.int .i64 key]).alloc (.cells #[.slice (some ⟨w.heap.size, 0, none⟩) 1 1, .slice A xs.length c, .slice (some ⟨w.heap.size + 1, 0, none⟩) 1 1] 47)
  have X3 := Blk.new3 w (.cells #[.int .i64 key] 3) (.cells #[.int .i64 key] 3) 47 #[.slice (some ⟨w.heap.size, 0, none⟩) 1 1, .slice A xs.length c, .slice (some ⟨w.heap.size + 1, 0, none⟩) 1 1]
  have Y : Bel w (((w.alloc (.cells #[.int .i64 key] 3)).alloc (.cells #[.int .i64 key] 3)).alloc (.cells #[.slice (some ⟨w.heap.size, 0, none⟩) 1 1, .slice A xs.length c, .slice (some ⟨w.heap.size + 1, 0, none⟩) 1 1] 47)) := (((Bel.refl _).alloc _).alloc _).alloc _
  have HV := Lib.hid (hv.keep Y)
  go_enter Tryz.func109, Tryz.ntmps109
  go_wp2_with fail
  refine (concatI _ [[key], xs, [key]] _ ?_ (by simp; omega)).mono ?_
  · refine RII.of X3 rfl (by omega) ?_
    intro j ys hj
    match j with
    | 0 => simp at hj; subst hj; exact ⟨_, rfl, RI.one X1⟩
    | 1 => simp at hj; subst hj; exact ⟨_, rfl, HV.out⟩
    | 2 => simp at hj; subst hj; exact ⟨_, rfl, RI.one X2⟩
    | j + 3 => simp at hj
  · rintro e w1 ⟨v1, rfl, O1, hb1⟩
    have e1 : ([[key], xs, [key]] : List (List Int)).flatten = [key] ++ xs ++ [key] := by simp
    rw [e1] at O1
    clear X1 X2 X3 e1
    go_wp2_with fail
    refine (hash1I v1 _ _ O1.reads ?_).mono ?_
    · intro x hx
      have hb := HB.out
      simp at hx
      rcases hx with rfl | hx | rfl
      · exact hk
      · exact hb x hx
      · exact hk
    · rintro e w2 ⟨rfl, rfl⟩
      go_wp2
      go_ret
      exact ⟨rfl, Y.trans hb1⟩
set_option maxHeartbeats 1000000 in
theorem khS (key : Int) (v : Value) (xs : List Int) (w : World) (hv : RI w v xs) (hn : xs.length ≤ 2097152) (hk : -9223372036854775808 ≤ key ∧ key ≤ 9223372036854775807) (hb : In64s xs) :
    Calls Tryz.prog 106 #[.int .i64 key, v] w fun e w' => e = .returned (.int .i64 (khZ key xs)) ∧ Bel w w' := by
  have HB := Lib.hid hb
  clear hb
  have O0 : OI (w.alloc (.cells #[.int .i64 key] 3)) w.heap.size (.slice (some ⟨w.heap.size, 0, none⟩) 1 1) [key] := OI.lit (xs := [key]) (Blk.new w _ _) (Nat.le_refl _) (by simp)
  have Y0 : Bel w (w.alloc (.cells #[.int .i64 key] 3)) := (Bel.refl _).alloc _
  have HV := Lib.hid (hv.keep Y0)
  go_enter Tryz.func106, Tryz.ntmps106
  go_wp2_with (first
    | (at_builtin
       refine wpList_appI _ rfl (.tmp 6) (.tmp 7) rfl w.heap.size _ _ _ _ rfl rfl O0 HV.out (by simp; omega) (by simp) ?_
       intro v1 w1 O1 hG1
       have Y1 : Bel w w1 := Y0.grown hG1 (fun q hq => (O0.block q hq).1)
       have s1 := Y1.size
       clear hG1 O0 Y0 HV
       have R2 : RI (w1.alloc (.cells #[.int .i64 key] 3)) (.slice (some ⟨w1.heap.size, 0, none⟩) 1 1) [key] := RI.one (Blk.new w1 _ _)
       have O2 := O1.keep ((Bel.refl _).alloc (.cells #[.int .i64 key] 3))
       have Y2 := Y1.alloc (.cells #[.int .i64 key] 3))
    | (at_builtin
       refine wpList_appI _ rfl (.tmp 8) (.tmp 10) rfl w.heap.size _ _ _ _ rfl rfl O2 R2 (by simp; omega) (by simp; omega) ?_
       intro v3 w3 O3 hG3
       have Y3 : Bel w w3 := Y2.grown hG3 (fun q hq => (O2.block q hq).1)
       clear hG3 O2 R2)
    | fail)
  refine (hash1S v3 _ _ O3.reads ?_).mono ?_
  · intro x hx
    have hb := HB.out
    simp at hx
    rcases hx with rfl | hx | rfl
    · exact hk
    · exact hb x hx
    · exact hk
  · rintro e w4 ⟨rfl, rfl⟩
    go_wp2
    go_ret
    exact ⟨rfl, Y3⟩
end Go.Proofs.YtjaagabbbnokdaaGreat

namespace Go.Proofs.YtjaagabbbnokdaaGreat
open Go.ChangeShapes Go.WideShapes Go.ChangeAt Go.RowKit
set_option linter.unusedVariables false
set_option maxRecDepth 100000

set_option maxHeartbeats 1000000 in
theorem rowI (a : Int) (v u : Value) (xs ys : List Int) (w : World) (hv : RI w v xs) (hu : RI w u ys) (hn : xs.length + ys.length ≤ 2097152) :
    Calls Tryz.prog 25 #[.agg #[.int .i64 a, v, u]] w fun e w' => ∃ r, e = .returned r ∧ OI w' w.heap.size r (xs ++ ys) ∧ Bel w w' := by
  obtain ⟨A, c, rfl, _, _, _⟩ := id hv
  obtain ⟨B, d, rfl, _, _, _⟩ := id hu
  have X := Blk.new2 w (.cells #[.int .i64 a, .slice A xs.length c, .slice B ys.length d] 49) 47 #[.slice A xs.length c, .slice B ys.length d]
  have Y : Bel w ((w.alloc (.cells #[.int .i64 a, .slice A xs.length c, .slice B ys.length d] 49)).alloc (.cells #[.slice A xs.length c, .slice B ys.length d] 47)) := ((Bel.refl _).alloc _).alloc _
  have HV := Lib.hid (hv.keep Y)
  have HU := Lib.hid (hu.keep Y)
  go_enter Tryz.func25, Tryz.ntmps25
  go_wp2_with fail
  refine (concatI _ [xs, ys] _ ?_ (by simp; omega)).mono ?_
  · refine RII.of X rfl (by omega) ?_
    intro j zs hj
    match j with
    | 0 => simp at hj; subst hj; exact ⟨_, rfl, HV.out⟩
    | 1 => simp at hj; subst hj; exact ⟨_, rfl, HU.out⟩
    | j + 2 => simp at hj
  · rintro e w1 ⟨v1, rfl, O1, hb1⟩
    have e1 : ([xs, ys] : List (List Int)).flatten = xs ++ ys := by simp
    rw [e1] at O1
    clear X e1
    go_wp2
    go_ret
    exact ⟨_, rfl, O1.low Y.size, Y.trans hb1⟩
end Go.Proofs.YtjaagabbbnokdaaGreat

namespace Go.Proofs.YtjaagabbbnokdaaGreat
open Go.ChangeShapes Go.WideShapes Go.ChangeAt Go.RowKit
set_option linter.unusedVariables false
set_option maxRecDepth 100000

set_option maxHeartbeats 1000000 in
theorem rowS (a : Int) (v u : Value) (xs ys : List Int) (w : World) (hv : RI w v xs) (hu : RI w u ys) (hn : xs.length + ys.length ≤ 2097152) :
    Calls Tryz.prog 73 #[.agg #[.int .i64 a, v, u]] w fun e w' => ∃ r, e = .returned r ∧ OI w' w.heap.size r (xs ++ ys) ∧ Bel w w' := by
  have X := Blk.new w 49 #[.int .i64 a, v, u]
  have Y : Bel w (w.alloc (.cells #[.int .i64 a, v, u] 49)) := (Bel.refl _).alloc _
  go_enter Tryz.func73, Tryz.ntmps73
  go_wp2
  generalize w.alloc (.cells #[.int .i64 a, v, u] 49) = w0 at *
  obtain ⟨cx, _, zx⟩ := X.facts
  have r1 : w0.cell? ⟨w.heap.size, 1, none⟩ = some v := cx 1
  have r2 : w0.cell? ⟨w.heap.size, 2, none⟩ = some u := cx 2
  clear cx
  have Ya := Y.alloc (.cells #[] 3)
  have O0 : OI (w0.alloc (.cells #[] 3)) w0.heap.size (.slice (some ⟨w0.heap.size, 0, none⟩) 0 0) [] := OI.lit (xs := []) (Blk.new w0 _ _) (Nat.le_refl _) (by simp)
  have R0 := hv.keep Ya
  have nx : w0.heap.size ≠ w.heap.size := by omega
  have ny : w.heap.size ≠ w0.heap.size := by omega
  have ra1 : (w0.alloc (.cells #[] 3)).cell? ⟨w.heap.size, 1, none⟩ = some v := (World.cell?_alloc_lt w0 _ ⟨w.heap.size, 1, none⟩ zx).trans r1
  have ra2 : (w0.alloc (.cells #[] 3)).cell? ⟨w.heap.size, 2, none⟩ = some u := (World.cell?_alloc_lt w0 _ ⟨w.heap.size, 2, none⟩ zx).trans r2
  have za : w.heap.size < (w0.alloc (.cells #[] 3)).heap.size := by simp; omega
  go_region_held3 (fun w' => w'.cell? ⟨w.heap.size, 1, none⟩ = some v ∧ w'.cell? ⟨w.heap.size, 2, none⟩ = some u)
    (first | exact ⟨(K1 1).trans ra1, (K1 2).trans ra2⟩ | exact ⟨(K2 1).trans ((K1 1).trans ra1), (K2 2).trans ((K1 2).trans ra2)⟩ | go_keep)
    (first
      | (refine step_appI _ (by rfl) _ _ (by rfl) w0.heap.size _ _ [] xs (by rfl) (by rfl) (by exact O0) (by exact R0) (by simp; omega) (by simp) ?_; intro v1 w1 O1 hG1; have K1 := fun o => World.cell?_of_block (a := ⟨w.heap.size, o, none⟩) (hG1.block w.heap.size za (fun e => by have := (O0.block _ e.symm).1; omega)))
      | (refine step_appI _ (by rfl) _ _ (by rfl) w0.heap.size _ _ _ ys (by rfl) (by rfl) (by exact O1) (by exact hu.keep (Ya.drew.grown hG1 (fun q hq => Nat.le_trans Y.size (O0.block q hq).1))) (by simp; omega) (by exact (Nat.le_trans (by simp) hG1.size)) ?_; intro v2 w2 O2 hG2; have K2 := fun o => World.cell?_of_block (a := ⟨w.heap.size, o, none⟩) (hG2.block w.heap.size (Nat.lt_of_lt_of_le za hG1.size) (fun e => by have := (O1.block _ e.symm).1; omega))))
  have Y1 : Bel w w1 := Ya.drew.grown hG1 (fun q hq => Nat.le_trans Y.size (O0.block q hq).1)
  have Y2 : Bel w w2 := Y1.grown hG2 (fun q hq => Nat.le_trans Y.size (O1.block q hq).1)
  go_wp2
  go_ret
  exact ⟨_, rfl, O2.low Y.size, Y2⟩
end Go.Proofs.YtjaagabbbnokdaaGreat
