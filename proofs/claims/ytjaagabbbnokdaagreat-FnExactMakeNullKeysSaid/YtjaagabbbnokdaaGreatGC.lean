/-
  Hashes: contracts of Mod, Hash, KeyedHash, of the program and of the reference. Conditions: a modulus from 1 to 10^12; at most 2^39 numbers.
  Contracts of KeyedHash and ManifestMAC, of the program and of the reference. Condition: at most 2^21 numbers.
  GenerationSpace of the program: contract. No condition.
  l8Fits, ReduceVector, ContainsVector, InsertVector, SpanOf of the reference: contracts. Conditions: a valid basis.
  ReduceVector, ContainsVector of the reference: contracts. Conditions: a vector that fits a valid basis.
  Steps of regions that draw their order: append(ints of a fresh empty slice, ys...), append of a row to a matrix. Condition: the bound on bytes.
-/
import Derived.Test.YtjaagabbbnokdaaGreatConcat
import Derived.Test.YtjaagabbbnokdaaGreatGB
import Derived.Test.YtjaagabbbnokdaaGreatGA
import Derived.Deep.RegionLaw
import Derived.Deep.RegionHeld3
import Derived.StillTailTactics
import Derived.Test.YtjaagabbbnokdaaGreatApp
import Derived.Test.YtjaagabbbnokdaaGreatMl
namespace Go.Proofs.YtjaagabbbnokdaaGreat
open Go.ChangeShapes Go.WideShapes Go.ChangeAt Go.RowKit
set_option linter.unusedVariables false
set_option maxRecDepth 100000

theorem tmod_emod (p q : Int) (hq : 1 ≤ q) : (p.tmod q + q) % q = p % q ∧ -q < p.tmod q ∧ p.tmod q < q := by
  have h1 : p.tmod q < q := Int.tmod_lt_of_pos p (by omega)
  have h2 : -q < p.tmod q := by
    rcases Int.le_total 0 p with hp | hp
    · have := Int.tmod_nonneg q hp; omega
    · have h3 : (-p).tmod q < q := Int.tmod_lt_of_pos (-p) (by omega)
      rw [Int.neg_tmod] at h3
      omega
  refine ⟨?_, h2, h1⟩
  rw [Int.add_emod_right]
  have h4 := Int.mul_tdiv_add_tmod p q
  conv => rhs; rw [← h4]
  rw [Int.add_comm, Int.add_mul_emod_self_left]

/-- The hash of a list of numbers. -/
def hshS (s v : Int) : Int := (s * 1000003 + v % 2147483647 + 13) % 2147483647
def hsh (xs : List Int) : Int := xs.foldl hshS 11
theorem hsh_bd (xs : List Int) : 0 ≤ hsh xs ∧ hsh xs < 2147483647 := by
  have key : ∀ (ys : List Int) (s : Int), 0 ≤ s ∧ s < 2147483647 → 0 ≤ ys.foldl hshS s ∧ ys.foldl hshS s < 2147483647 := by
    intro ys
    induction ys with
    | nil => intro s h; exact h
    | cons y ys ih => intro s h; exact ih _ ⟨Int.emod_nonneg _ (by decide), Int.emod_lt_of_pos _ (by decide)⟩
  exact key xs 11 (by decide)
theorem hsh_step {xs : List Int} {k : Nat} {x : Int} (h : xs[k]? = some x) : hsh (xs.take (k + 1)) = (hsh (xs.take k) * 1000003 + x % 2147483647 + 13) % 2147483647 := by
  obtain ⟨hk, rfl⟩ := List.getElem?_eq_some_iff.1 h
  unfold hsh
  rw [List.take_succ_eq_append_getElem hk, List.foldl_append]
  rfl
set_option maxHeartbeats 400000 in
theorem modI (p q : Int) (w : World) (h1 : 1 ≤ q) (h2 : q ≤ 1000000000000) (hp : -9223372036854775808 ≤ p) (hp2 : p ≤ 9223372036854775807) :
    Calls Tryz.prog 139 #[.int .i64 p, .int .i64 q] w fun e w' => e = .returned (.int .i64 (p % q)) ∧ w = w' := by
  obtain ⟨k1, k2, k3⟩ := tmod_emod p q h1
  have K1 := Lib.hid k1
  clear k1
  have k4 : 0 ≤ p.tmod q + q := by omega
  go_enter Tryz.func139, Tryz.ntmps139
  go_wp2_with fail
  refine (inR_yes _ _ _ _ (by omega) (by omega)).mono ?_
  rintro e w1 ⟨rfl, rfl⟩
  go_wp2
  go_ret
  exact ⟨by rw [← K1.out]; rfl, rfl⟩
set_option maxHeartbeats 400000 in
theorem modS (p q : Int) (w : World) (h1 : 1 ≤ q) (h2 : q ≤ 1000000000000) (hp : -9223372036854775808 ≤ p) (hp2 : p ≤ 9223372036854775807) :
    Calls Tryz.prog 138 #[.int .i64 p, .int .i64 q] w fun e w' => e = .returned (.int .i64 (p % q)) ∧ w = w' := by
  obtain ⟨k1, k2, k3⟩ := tmod_emod p q h1
  have K1 := Lib.hid k1
  clear k1
  have k4 : 0 ≤ p.tmod q + q := by omega
  go_enter Tryz.func138, Tryz.ntmps138
  go_wp2_with fail
  refine (l1In_yes _ _ _ _ (by omega) (by omega)).mono ?_
  rintro e w1 ⟨rfl, rfl⟩
  go_wp2
  go_ret
  exact ⟨by rw [← K1.out]; rfl, rfl⟩
set_option maxHeartbeats 1000000 in
theorem hash1I (v : Value) (xs : List Int) (w : World) (hv : RI w v xs) (hb : ∀ x ∈ xs, -9223372036854775808 ≤ x ∧ x ≤ 9223372036854775807) :
    Calls Tryz.prog 130 #[v] w fun e w' => e = .returned (.int .i64 (hsh xs)) ∧ w = w' := by
  obtain ⟨A, c, rfl, h2, h3, hA⟩ := hv
  have HB := Lib.hid hb
  clear hb
  go_enter Tryz.func130, Tryz.ntmps130
  go_wp2
  go_loopg [3, 8] xs.length (fun f m i wr => ∃ k : Nat, k + f = xs.length ∧ i = .int .i64 k ∧ m = .int .i64 (hsh (xs.take k)) ∧ wr = w)
  case atStart => exact ⟨0, by omega, rfl, rfl, rfl⟩
  case round =>
    obtain ⟨k, hk, rfl, rfl, rfl⟩ := hrel
    have hk2 : k ≤ xs.length := by omega
    have HK := Lib.hid hk
    clear hk
    by_cases hlt : k < xs.length
    · obtain ⟨b1, o1, rfl, z1, hc1⟩ := hA (by omega)
      have hx : xs[k]? = some (xs[k]'hlt) := List.getElem?_eq_getElem hlt
      have g1 := hc1 k _ hx
      have HS := Lib.hid (hsh_step hx)
      obtain ⟨m1, m2⟩ := HB.out _ (List.getElem_mem hlt)
      obtain ⟨q1, q2⟩ := hsh_bd (xs.take k)
      clear hc1 hA hx
      generalize xs[k]'hlt = x at *
      generalize hsh (xs.take k) = s at *
      have i0 : (0 : Int) ≤ (k : Int) := by omega
      have i1 : (k : Int) < (xs.length : Int) := by omega
      go_wp2_with fail
      refine (modI x 2147483647 _ (by omega) (by omega) m1 m2).mono ?_
      rintro e w1 ⟨rfl, rfl⟩
      have u1 : 0 ≤ x % 2147483647 := Int.emod_nonneg _ (by omega)
      have u2 : x % 2147483647 < 2147483647 := Int.emod_lt_of_pos _ (by omega)
      generalize x % 2147483647 = y at *
      go_wp2
      go_roundg (xs.length - (k + 1))
      case measure => have := HK.out; omega
      case rel => exact ⟨k + 1, by omega, by go_num, by rw [HS.out], rfl⟩
    · obtain rfl : k = xs.length := by omega
      have i1 : ¬ (xs.length : Int) < (xs.length : Int) := by omega
      go_wp2
      go_ret
      exact ⟨rfl, rfl⟩
set_option maxHeartbeats 1000000 in
theorem hash1S (v : Value) (xs : List Int) (w : World) (hv : RI w v xs) (hb : ∀ x ∈ xs, -9223372036854775808 ≤ x ∧ x ≤ 9223372036854775807) :
    Calls Tryz.prog 128 #[v] w fun e w' => e = .returned (.int .i64 (hsh xs)) ∧ w = w' := by
  obtain ⟨A, c, rfl, h2, h3, hA⟩ := hv
  have HB := Lib.hid hb
  clear hb
  go_enter Tryz.func128, Tryz.ntmps128
  go_wp2
  go_loopg [3, 4] xs.length (fun f m i wr => ∃ k : Nat, k + f = xs.length ∧ i = .int .i64 k ∧ m = .int .i64 (hsh (xs.take k)) ∧ wr = w)
  case atStart => exact ⟨0, by omega, rfl, rfl, rfl⟩
  case round =>
    obtain ⟨k, hk, rfl, rfl, rfl⟩ := hrel
    have hk2 : k ≤ xs.length := by omega
    have HK := Lib.hid hk
    clear hk
    by_cases hlt : k < xs.length
    · obtain ⟨b1, o1, rfl, z1, hc1⟩ := hA (by omega)
      have hx : xs[k]? = some (xs[k]'hlt) := List.getElem?_eq_getElem hlt
      have g1 := hc1 k _ hx
      have HS := Lib.hid (hsh_step hx)
      obtain ⟨m1, m2⟩ := HB.out _ (List.getElem_mem hlt)
      obtain ⟨q1, q2⟩ := hsh_bd (xs.take k)
      clear hc1 hA hx
      generalize xs[k]'hlt = x at *
      generalize hsh (xs.take k) = s at *
      have i0 : (0 : Int) ≤ (k : Int) := by omega
      have i1 : (k : Int) < (xs.length : Int) := by omega
      go_wp2_with fail
      refine (modS x 2147483647 _ (by omega) (by omega) m1 m2).mono ?_
      rintro e w1 ⟨rfl, rfl⟩
      have u1 : 0 ≤ x % 2147483647 := Int.emod_nonneg _ (by omega)
      have u2 : x % 2147483647 < 2147483647 := Int.emod_lt_of_pos _ (by omega)
      generalize x % 2147483647 = y at *
      go_wp2
      go_roundg (xs.length - (k + 1))
      case measure => have := HK.out; omega
      case rel => exact ⟨k + 1, by omega, by go_num, by rw [HS.out], rfl⟩
    · obtain rfl : k = xs.length := by omega
      have i1 : ¬ (xs.length : Int) < (xs.length : Int) := by omega
      go_wp2
      go_ret
      exact ⟨rfl, rfl⟩
end Go.Proofs.YtjaagabbbnokdaaGreat

namespace Go.Proofs.YtjaagabbbnokdaaGreat
open Go.ChangeShapes Go.WideShapes Go.ChangeAt Go.RowKit
set_option linter.unusedVariables false
set_option maxRecDepth 100000

abbrev In64s (xs : List Int) : Prop := ∀ x ∈ xs, -9223372036854775808 ≤ x ∧ x ≤ 9223372036854775807
theorem RI.one {w : World} {g : Nat} {x : Int} (h : Blk w g 3 #[.int .i64 x]) : RI w (.slice (some ⟨g, 0, none⟩) 1 1) [x] :=
  ⟨some ⟨g, 0, none⟩, 1, rfl, Nat.le_refl _, by omega, fun _ => ⟨g, 0, rfl, h.lt, fun j y hj => by
    have hj0 : j = 0 := by
      have := (List.getElem?_eq_some_iff.1 hj).1
      simp at this
      exact this
    subst hj0
    simp at hj
    subst hj
    exact h.facts.1 0⟩⟩
/-- A block that holds just these numbers. -/
theorem OI.lit {w : World} {base g : Nat} {xs : List Int} (h : Blk w g 3 ((xs.map (Value.int .i64)).toArray)) (hb : base ≤ g) (hn : xs.length ≤ 1099511627776) : OI w base (.slice (some ⟨g, 0, none⟩) xs.length xs.length) xs :=
  ⟨by simp, .inr ⟨g, xs.length, _, rfl, hb, h, Nat.le_refl _, by unfold maxLen; omega, by simp, by rw [Nat.mul_one]; exact List.take_of_length_le (by simp)⟩⟩
theorem RII.of {w : World} {g n : Nat} {cs : Array Value} {T : TypeId} {xss : List (List Int)} (h : Blk w g T cs) (hn : n = xss.length) (hc : n ≤ 9223372036854775807) (hr : ∀ (j : Nat) (xs : List Int), xss[j]? = some xs → ∃ u, cs[j]? = some u ∧ RI w u xs) : RII w (.slice (some ⟨g, 0, none⟩) n n) xss := by
  subst hn
  refine ⟨some ⟨g, 0, none⟩, xss.length, rfl, Nat.le_refl _, hc, fun _ => ⟨g, 0, rfl, h.lt, fun j xs hj => ?_⟩⟩
  obtain ⟨u, hu, hr⟩ := hr j xs hj
  exact ⟨u, by rw [Nat.zero_add, h.facts.1]; exact hu, hr⟩

def khZ (key : Int) (xs : List Int) : Int := hsh ([key] ++ xs ++ [key])
set_option maxHeartbeats 1000000 in
theorem khI (key : Int) (v : Value) (xs : List Int) (w : World) (hv : RI w v xs) (hn : xs.length ≤ 2097152) (hk : -9223372036854775808 ≤ key ∧ key ≤ 9223372036854775807) (hb : In64s xs) :
    Calls Tryz.prog 109 #[.int .i64 key, v] w fun e w' => e = .returned (.int .i64 (khZ key xs)) ∧ Bel w w' := by
  obtain ⟨A, c, rfl, _, _, _⟩ := id hv
  have HB := Lib.hid hb
  clear hb
  have X1 := ((Blk.new w 3 #[.int .i64 key]).alloc (.cells #[.int .i64 key] 3)).alloc (.cells #[.slice (some ⟨w.heap.size, 0, none⟩) 1 1, .slice A xs.length c, .slice (some ⟨w.heap.size + 1, 0, none⟩) 1 1] 47)
  have X2 := (Blk.new2 w (.cells #[.int .i64 key] 3) 3 #[.int .i64 key]).alloc (.cells #[.slice (some ⟨w.heap.size, 0, none⟩) 1 1, .slice A xs.length c, .slice (some ⟨w.heap.size + 1, 0, none⟩) 1 1] 47)
  have X3 := Blk.new3 w (.cells #[.int .i64 key] 3) (.cells #[.int .i64 key] 3) 47 #[.slice (some ⟨w.heap.size, 0, none⟩) 1 1, .slice A xs.length c, .slice (some ⟨w.heap.size + 1, 0, none⟩) 1 1]
  have Y : Bel w (((w.alloc (.cells #[.int .i64 key] 3)).alloc (.cells #[.int .i64 key] 3)).alloc (.cells #[.slice (some ⟨w.heap.size, 0, none⟩) 1 1, .slice A xs.length c, .slice (some ⟨w.heap.size + 1, 0, none⟩) 1 1] 47)) := (((Bel.refl _).alloc _).alloc _).alloc _
  have HV := Lib.hid (hv.keep Y)
  go_enter Tryz.func109, Tryz.ntmps109
  go_wp2_with fail
  refine (concatI _ [[key], xs, [key]] _ ?_ (by simp; omega)).mono ?_
  · refine RII.of X3 rfl (by omega) ?_
    intro j ys hj
    match j with
    | 0 => simp at hj; subst hj; exact ⟨_, rfl, RI.one X1⟩
    | 1 => simp at hj; subst hj; exact ⟨_, rfl, HV.out⟩
    | 2 => simp at hj; subst hj; exact ⟨_, rfl, RI.one X2⟩
    | j + 3 => simp at hj
  · rintro e w1 ⟨v1, rfl, O1, hb1⟩
    have e1 : ([[key], xs, [key]] : List (List Int)).flatten = [key] ++ xs ++ [key] := by simp
    rw [e1] at O1
    clear X1 X2 X3 e1
    go_wp2_with fail
    refine (hash1I v1 _ _ O1.reads ?_).mono ?_
    · intro x hx
      have hb := HB.out
      simp at hx
      rcases hx with rfl | hx | rfl
      · exact hk
      · exact hb x hx
      · exact hk
    · rintro e w2 ⟨rfl, rfl⟩
      go_wp2
      go_ret
      exact ⟨rfl, Y.trans hb1⟩
set_option maxHeartbeats 1000000 in
theorem khS (key : Int) (v : Value) (xs : List Int) (w : World) (hv : RI w v xs) (hn : xs.length ≤ 2097152) (hk : -9223372036854775808 ≤ key ∧ key ≤ 9223372036854775807) (hb : In64s xs) :
    Calls Tryz.prog 106 #[.int .i64 key, v] w fun e w' => e = .returned (.int .i64 (khZ key xs)) ∧ Bel w w' := by
  have HB := Lib.hid hb
  clear hb
  have O0 : OI (w.alloc (.cells #[.int .i64 key] 3)) w.heap.size (.slice (some ⟨w.heap.size, 0, none⟩) 1 1) [key] := OI.lit (xs := [key]) (Blk.new w _ _) (Nat.le_refl _) (by simp)
  have Y0 : Bel w (w.alloc (.cells #[.int .i64 key] 3)) := (Bel.refl _).alloc _
  have HV := Lib.hid (hv.keep Y0)
  go_enter Tryz.func106, Tryz.ntmps106
  go_wp2_with (first
    | (at_builtin
       refine wpList_appI _ rfl (.tmp 6) (.tmp 7) rfl w.heap.size _ _ _ _ rfl rfl O0 HV.out (by simp; omega) (by simp) ?_
       intro v1 w1 O1 hG1
       have Y1 : Bel w w1 := Y0.grown hG1 (fun q hq => (O0.block q hq).1)
       have s1 := Y1.size
       clear hG1 O0 Y0 HV
       have R2 : RI (w1.alloc (.cells #[.int .i64 key] 3)) (.slice (some ⟨w1.heap.size, 0, none⟩) 1 1) [key] := RI.one (Blk.new w1 _ _)
       have O2 := O1.keep ((Bel.refl _).alloc (.cells #[.int .i64 key] 3))
       have Y2 := Y1.alloc (.cells #[.int .i64 key] 3))
    | (at_builtin
       refine wpList_appI _ rfl (.tmp 8) (.tmp 10) rfl w.heap.size _ _ _ _ rfl rfl O2 R2 (by simp; omega) (by simp; omega) ?_
       intro v3 w3 O3 hG3
       have Y3 : Bel w w3 := Y2.grown hG3 (fun q hq => (O2.block q hq).1)
       clear hG3 O2 R2)
    | fail)
  refine (hash1S v3 _ _ O3.reads ?_).mono ?_
  · intro x hx
    have hb := HB.out
    simp at hx
    rcases hx with rfl | hx | rfl
    · exact hk
    · exact hb x hx
    · exact hk
  · rintro e w4 ⟨rfl, rfl⟩
    go_wp2
    go_ret
    exact ⟨rfl, Y3⟩
end Go.Proofs.YtjaagabbbnokdaaGreat

namespace Go.Proofs.YtjaagabbbnokdaaGreat
open Go.ChangeShapes Go.WideShapes Go.ChangeAt Go.RowKit
set_option linter.unusedVariables false
set_option maxRecDepth 100000

def gspN (a : Int) (m : List (List Int)) : Nat := if gnrB a m = true then m.length + colN m else 0
def gspM (a : Int) (m : List (List Int)) : List (List Int) := if gnrB a m = true then genZ m else []
theorem gsp_no {a : Int} {m : List (List Int)} (h : gnrB a m = false) : gspN a m = 0 ∧ gspM a m = [] := by unfold gspN gspM; rw [h]; exact ⟨rfl, rfl⟩
theorem gsp_yes {a : Int} {m : List (List Int)} (h : gnrB a m = true) : gspN a m = m.length + colN m ∧ gspM a m = genZ m := by unfold gspN gspM; rw [h]; exact ⟨rfl, rfl⟩
/-- The rows of a generation's space, up to k, are what is got by inserting them in turn. -/
theorem gsp_take {w : Nat} {m : List (List Int)} (h : Mtx w m) (hc : m.length + w ≤ 40) : spanZ (m.length + w) ((genZ m).take m.length) = genZ m := by
  rw [List.take_of_length_le (by rw [genZ_len]; exact Nat.le_refl _)]
  exact genZ_span h hc
theorem gspM_bd (a : Int) (m : List (List Int)) : gspN a m ≤ 24 ∧ (gspM a m).length ≤ 8 ∧ Mtx (gspN a m) (gspM a m) := by
  cases q : gnrB a m
  · rw [(gsp_no q).1, (gsp_no q).2]
    exact ⟨by omega, by simp, fun r hr => by simp at hr⟩
  · obtain ⟨_, h1, h2, h3, _⟩ := gnrB_facts q
    rw [(gsp_yes q).1, (gsp_yes q).2]
    exact ⟨by omega, by rw [genZ_len]; omega, genZ_mtx h3⟩
set_option maxHeartbeats 4000000 in
theorem gspI (a : Int) (v : Value) (m : List (List Int)) (w : World) (hv : RII w v m) :
    Calls Tryz.prog 20 #[.agg #[.int .i64 a, v]] w fun e w' => ∃ r, e = .returned (.agg #[.int .i64 (gspN a m : Int), r]) ∧ OM w' w.heap.size r (gspM a m) ∧ Bel w w' := by
  obtain ⟨A, cp, rfl, h2, h3, hA⟩ := id hv
  have X0 := (Blk.new w 30 #[.int .i64 a, .slice A m.length cp]).alloc (.cells #[.int .i64 0, .slice none 0 0] 40)
  have R0 := Blk.new2 w (.cells #[.int .i64 a, .slice A m.length cp] 30) 40 #[.int .i64 0, .slice none 0 0]
  have Y0 : Bel w ((w.alloc (.cells #[.int .i64 a, .slice A m.length cp] 30)).alloc (.cells #[.int .i64 0, .slice none 0 0] 40)) := ((Bel.refl _).alloc _).alloc _
  obtain ⟨cx, _, zx⟩ := X0.facts
  go_enter Tryz.func20, Tryz.ntmps20
  go_wp2_with fail
  refine (gnrI a _ m _ (hv.keep Y0)).mono ?_
  rintro e w1 ⟨rfl, hb1⟩
  have X1 := hb1.keep X0
  have R1 := hb1.keep R0
  have Y1 := Y0.trans hb1
  clear cx X0 R0 Y0 hb1
  obtain ⟨cx, _, zx1⟩ := X1.facts
  cases q : gnrB a m
  · obtain ⟨f1, f2⟩ := gsp_no q
    have HF1 := Lib.hid f1
    have HF2 := Lib.hid f2
    clear f1 f2 q
    go_wp2_with fail
    refine (newBI 0 _ (by omega)).mono ?_
    rintro e w2 ⟨rfl, hb2⟩
    have R2 := hb2.keep R1
    have Y2 := Y1.trans hb2
    clear cx
    obtain ⟨cr, fr, zr⟩ := R2.facts
    have Y3 := (Y2.setCell (p := ⟨w.heap.size + 1, 0, none⟩) (by dsimp only; omega) (.int .i64 ((0 : Nat) : Int))).setCell (p := ⟨w.heap.size + 1, 1, none⟩) (by dsimp only; omega) (.slice none 0 0)
    go_wp2
    refine bodyPost_ret (v := .agg #[.int .i64 ((0 : Nat) : Int), .slice none 0 0]) (by simp [results, Tryz.results20, go_sem, cr]) rfl ⟨_, by rw [HF1.out], by rw [HF2.out]; exact OM.nil _ _, Y3⟩
  obtain ⟨f1, f2⟩ := gsp_yes q
  obtain ⟨_, fl, fc, fm, _⟩ := gnrB_facts q
  have HF1 := Lib.hid f1
  have HF2 := Lib.hid f2
  have HM := Lib.hid fm
  have HT := Lib.hid (gsp_take fm (by omega))
  clear f1 f2 q fm
  go_wp2_with fail
  refine (symwI a _ m _ (hv.keep Y1)).mono ?_
  rintro e w2 ⟨rfl, hb2⟩
  have X2 := hb2.keep X1
  have R2 := hb2.keep R1
  have Y2 := Y1.trans hb2
  clear cx X1 R1 Y1 hb2
  have HCC : Hid ((m.length : Int) + (colN m : Int) = ((m.length + colN m : Nat) : Int)) := Lib.hid (by omega)
  obtain ⟨fl1, fl2⟩ := fl
  obtain ⟨fc1, fc2⟩ := fc
  go_wp2_with fail
  rw [HCC.out]
  refine (newBI (m.length + colN m) _ (by omega)).mono ?_
  rintro e w3 ⟨rfl, hb3⟩
  obtain ⟨c, hcn⟩ : ∃ c, c = m.length + colN m := ⟨_, rfl⟩
  rw [← hcn] at HT HF1 ⊢
  have HCN := Lib.hid hcn
  have hc24 : c ≤ 24 := by omega
  clear hcn
  have X3 := (hb3.keep X2).alloc (.cells #[.int .i64 (c : Int), .slice none 0 0] 40)
  have R3 := (hb3.keep R2).alloc (.cells #[.int .i64 (c : Int), .slice none 0 0] 40)
  have B3 := Blk.new w3 40 #[.int .i64 (c : Int), .slice none 0 0]
  have Y3 := (Y2.trans hb3).alloc (.cells #[.int .i64 (c : Int), .slice none 0 0] 40)
  have sz3 := (hb3.keep R2).lt
  obtain ⟨pb, hpb⟩ : ∃ pb, pb = w3.heap.size := ⟨_, rfl⟩
  rw [← hpb] at B3 sz3
  obtain ⟨cx, _, zx3⟩ := X3.facts
  go_wp2
  rw [← hpb]
  clear hpb cx zx3
  go_loopg [22] m.length (fun f i wr => ∃ (k : Nat) (o : Value), k + f = m.length ∧ i = .int .i64 k ∧ Blk wr (w.heap.size + 1) 40 #[.int .i64 0, .slice none 0 0] ∧ Blk wr pb 40 #[.int .i64 (c : Int), o] ∧ OM wr (pb + 1) o (spanZ c ((genZ m).take k)) ∧ Bel w wr)
  case atStart => exact ⟨0, _, by omega, rfl, R3, B3, OM.nil _ _, Y3⟩
  case round =>
    clear X2 X3 R2 R3 B3 Y2 Y3 hb3 zx zx1
    obtain ⟨k, o, hk, rfl, R, B, O, Y⟩ := hrel
    have hk2 : k ≤ m.length := by omega
    have HK := Lib.hid hk
    clear hk
    by_cases hlt : k < m.length
    · obtain ⟨b1, o1, rfl, z1, hc1⟩ := hA (by omega)
      have hx : m[k]? = some (rw_ m k) := rw_get hlt
      obtain ⟨u, g1, ru⟩ := hc1 k _ hx
      replace g1 := Y.cell1 z1 g1
      replace ru := ru.keep Y
      have HGR : Hid (mrowB c (unitV m.length k ++ rw_ m k) = true) := Lib.hid (by
        have h9 := genZ_mtx HM.out (unitV m.length k ++ rw_ m k) (List.mem_of_getElem? (genZ_at hx))
        rw [HCN.out]
        exact mrowB_yes h9 (by omega))
      have HST := Lib.hid (span_yes (c := c) (genZ_at hx) HGR.out)
      obtain ⟨P, hP⟩ := span_red c ((genZ m).take k)
      have hlen := hP.len_le
      have HPP := Lib.hid hP
      have hrl : (rw_ m k).length ≤ 16 := by rw [(mtx_row HM.out hlt).1]; exact fc2
      obtain ⟨Au, cu, rfl, _, _, _⟩ := id ru
      clear hc1 hA hx hP
      generalize rw_ m k = s at *
      generalize spanZ c ((genZ m).take k) = mm at *
      have i0 : (0 : Int) ≤ (k : Int) := by omega
      have i1 : (k : Int) < (m.length : Int) := by omega
      go_wp2_with fail
      refine (unitI m.length k _ (by omega) hlt).mono ?_
      rintro e w4 ⟨r4, rfl, O4, hb4⟩
      have R4 := hb4.keep R
      have B4 := hb4.keep B
      have OO4 := O.keep hb4
      have Y4 := Y.trans hb4
      have ru4 := ru.keep hb4
      clear R B O Y hb4
      obtain ⟨A4, c4, e4, _, _, _⟩ := O4.reads
      subst e4
      have hul : (unitV m.length k).length ≤ 8 := by rw [unitV_len]; exact fl2
      generalize unitV m.length k = uv at *
      have XA := Blk.new w4 47 #[.slice A4 uv.length c4, .slice Au s.length cu]
      have YA : Bel w4 (w4.alloc (.cells #[.slice A4 uv.length c4, .slice Au s.length cu] 47)) := (Bel.refl _).alloc _
      have HV := Lib.hid (O4.reads.keep YA)
      have HU := Lib.hid (ru4.keep YA)
      have R5 := YA.keep R4
      have B5 := YA.keep B4
      have O5 := OO4.keep YA
      have Y5 := Y4.trans YA
      clear R4 B4 OO4 Y4 g1
      go_wp2_with fail
      refine (concatI _ [uv, s] _ ?_ (by simp; omega)).mono ?_
      · refine RII.of XA rfl (by omega) ?_
        intro j zs hj
        match j with
        | 0 => simp at hj; subst hj; exact ⟨_, rfl, HV.out⟩
        | 1 => simp at hj; subst hj; exact ⟨_, rfl, HU.out⟩
        | j + 2 => simp at hj
      rintro e w6 ⟨v6, rfl, O6, hb6⟩
      have e1 : ([uv, s] : List (List Int)).flatten = uv ++ s := by simp
      rw [e1] at O6
      have R6 := hb6.keep R5
      have B6 := hb6.keep B5
      have OO6 := O5.keep hb6
      have Y6 := Y5.trans hb6
      clear XA e1 R5 B5 O5 Y5 YA hb6
      have zb := B6.lt
      obtain ⟨A6, c6, e6, _, _, _⟩ := O6.reads
      subst e6
      have R66 : Hid (RI w6 (.slice A6 (uv.length + s.length) c6) (uv ++ s)) := Lib.hid (by have h9 := O6.reads; rwa [List.length_append] at h9)
      clear O6
      go_wp2_with fail
      refine (insertI (c : Int) o _ mm (uv ++ s) c pb (pb + 1) _ P _ B6 OO6 (by omega) (Nat.le_refl _) (by omega) R66.out HPP.out (mrowB_row HGR.out).1 (by omega) (by omega)).mono ?_
      rintro e w7 ⟨o2, rfl, B7, O7, M7⟩
      have R7 := R6.mid M7 (.inl (by omega))
      have Y7 := Y6.mid M7 (by omega)
      rw [← HST.out] at O7
      clear R6 B6 OO6 Y6 M7
      go_wp2
      go_roundg (m.length - (k + 1))
      case measure => have := HK.out; omega
      case rel => exact ⟨k + 1, _, by omega, by go_num, R7, B7, O7, Y7⟩
    · obtain rfl : k = m.length := by omega
      have i1 : ¬ (m.length : Int) < (m.length : Int) := by omega
      rw [HT.out] at O
      obtain ⟨Ao, co, eo, _, _, _⟩ := O.reads
      subst eo
      obtain ⟨cb, fb, zb⟩ := B.facts
      obtain ⟨cr, fr, zr⟩ := R.facts
      have Y3 : Bel w ((wr.setCell ⟨w.heap.size + 1, 0, none⟩ (.int .i64 (c : Int))).setCell ⟨w.heap.size + 1, 1, none⟩ (.slice Ao (genZ m).length co)) := (Y.setCell (p := ⟨w.heap.size + 1, 0, none⟩) (by dsimp only; omega) _).setCell (p := ⟨w.heap.size + 1, 1, none⟩) (by dsimp only; omega) _
      have O3 := OM.setFar (OM.setFar O (p := ⟨w.heap.size + 1, 0, none⟩) (by dsimp only; omega) (.int .i64 (c : Int))) (p := ⟨w.heap.size + 1, 1, none⟩) (by dsimp only; omega) (.slice Ao (genZ m).length co)
      go_wp2
      refine bodyPost_ret (v := .agg #[.int .i64 (c : Int), .slice Ao (genZ m).length co]) (by simp [results, Tryz.results20, go_sem, cr]) rfl ⟨_, by rw [HF1.out], by rw [HF2.out]; exact OM.low O3 (by omega), Y3⟩
end Go.Proofs.YtjaagabbbnokdaaGreat

namespace Go.Proofs.YtjaagabbbnokdaaGreat
open Go.ChangeShapes Go.WideShapes Go.ChangeAt Go.RowKit
set_option linter.unusedVariables false
set_option maxRecDepth 100000

def fitB (d : Int) (m : List (List Int)) (xs : List Int) : Bool := basB d m && vecB xs && ((xs.length : Int) == d)
theorem fitB_facts {c : Nat} {m : List (List Int)} {xs : List Int} (h : fitB (c : Int) m xs = true) : c ≤ 40 ∧ m.length ≤ 40 ∧ Red c m (fun i => lead (rw_ m i)) ∧ Row c xs := by
  unfold fitB at h
  rw [Bool.and_eq_true, Bool.and_eq_true] at h
  obtain ⟨⟨h1, h2⟩, h3⟩ := h
  obtain ⟨c', e, h4, h5, h6⟩ := basB_facts h1
  have : c' = c := by omega
  subst this
  refine ⟨h4, h5, h6, ?_, (vecB_facts h2).1⟩
  simp at h3
  omega
/-- A reduced matrix makes a valid basis. -/
theorem basB_red {c : Nat} {m : List (List Int)} {P : Nat → Nat} (h : Red c m P) (hc : c ≤ 40) : basB (c : Int) m = true := by
  have hl := h.len_le
  unfold basB redB
  rw [mtxB_yes h.mtx (by omega) hc, (rdB_iff h.mtx).2 h.own, show inB (c : Int) 0 40 = true from decide_eq_true (by omega)]
  rcases Nat.eq_zero_or_pos m.length with h0 | h0
  · have : m = [] := List.eq_nil_of_length_eq_zero h0
    subst this
    rfl
  · have : colN m = c := (mtx_row h.mtx h0).1
    rw [this]
    simp
theorem fitB_red {c : Nat} {m : List (List Int)} {P : Nat → Nat} (h : Red c m P) (hc : c ≤ 40) (xs : List Int) : fitB (c : Int) m xs = mrowB c xs := by
  unfold fitB mrowB
  rw [basB_red h hc]
  simp
set_option maxHeartbeats 1000000 in
theorem fitS (d : Int) (v u : Value) (m : List (List Int)) (xs : List Int) (w : World) (hv : RII w v m) (hu : RI w u xs) :
    Calls Tryz.prog 122 #[.agg #[.int .i64 d, v], u] w fun e w' => e = .returned (.bool (fitB d m xs)) ∧ Bel w w' := by
  have HM : Hid (fitB d m xs = (basB d m && vecB xs && ((xs.length : Int) == d))) := rfl
  obtain ⟨A, c, rfl, _, _, _⟩ := id hv
  obtain ⟨B, c2, rfl, _, _, _⟩ := id hu
  have X := Blk.new w 40 #[.int .i64 d, .slice A m.length c]
  have Y : Bel w (w.alloc (.cells #[.int .i64 d, .slice A m.length c] 40)) := (Bel.refl _).alloc _
  obtain ⟨cc, _, _⟩ := X.facts
  go_enter Tryz.func122, Tryz.ntmps122
  go_wp2_with fail
  refine (basS d _ m _ (hv.keep Y)).mono ?_
  rintro e w1 ⟨rfl, hb1⟩
  have X1 := hb1.keep X
  have Y1 := Y.trans hb1
  clear cc
  obtain ⟨cc, _, _⟩ := X1.facts
  cases q1 : basB d m
  · go_wp2
    go_ret
    exact ⟨by rw [HM.out, q1]; rfl, Y1⟩
  go_wp2_with fail
  refine (vecS _ xs _ (hu.keep Y1)).mono ?_
  rintro e w2 ⟨rfl, rfl⟩
  cases q2 : vecB xs
  · go_wp2
    go_ret
    exact ⟨by rw [HM.out, q1, q2]; rfl, Y1⟩
  go_wp2
  go_ret
  exact ⟨by rw [HM.out, q1, q2]; rfl, Y1⟩
/-- SubField(0, x) of the reference. -/
theorem subS (x : Int) (w : World) (h : elB x = true) : Calls Tryz.prog 104 #[.int .i64 0, .int .i64 x] w fun e w' => e = .returned (.int .i64 (negF x)) ∧ w = w' := by
  obtain ⟨b1, b2⟩ := elB_facts h
  have HH := Lib.hid h
  have HN : Hid ((-x + 1019) % 1019 = negF x) := Lib.hid (by unfold negF; omega)
  clear h
  have h0 : elB 0 = true := by decide
  have HB : ∀ w : World, Calls Tryz.prog 127 #[.int .i64 0, .int .i64 x] w fun e w' => e = .returned (.bool true) ∧ w = w' := by
    intro w
    go_enter Tryz.func127, Tryz.ntmps127
    go_wp2_with fail
    refine (elS 0 _).mono ?_
    rintro e w1 ⟨rfl, rfl⟩
    rw [h0]
    go_wp2_with fail
    refine (elS x _).mono ?_
    rintro e w1 ⟨rfl, rfl⟩
    rw [HH.out]
    go_wp2
    go_ret
    exact ⟨rfl, rfl⟩
  go_enter Tryz.func104, Tryz.ntmps104
  go_wp2_with fail
  refine (HB _).mono ?_
  rintro e w1 ⟨rfl, rfl⟩
  go_wp2
  go_ret
  exact ⟨by rw [← HN.out]; rfl, rfl⟩
theorem clr1_neg {c : Nat} {r l : List Int} {k : Nat} (hr : Row c r) (hl : Row c l) : addsZ r l (negF (ent r k)) = clr1 r l k := by
  have hb := ent_bd hr k
  unfold clr1
  by_cases h : ent r k = 0
  · rw [h]
    simp only [bne_self_eq_false, Bool.false_eq_true, if_false]
    have hz : negF 0 = 0 := by decide
    rw [hz]
    apply row_ext (by rw [addsZ_len _ _ _ (by rw [hr.1, hl.1])])
    intro j _
    rw [ent_addsZ _ _ _ _ (by rw [hr.1, hl.1])]
    have := ent_bd hr j
    rw [Int.mul_zero, Int.add_zero]
    omega
  · have e1 : (ent r k != 0) = true := by simpa using h
    rw [e1, if_pos rfl]
    congr 1
    unfold negF
    omega
end Go.Proofs.YtjaagabbbnokdaaGreat

namespace Go.Proofs.YtjaagabbbnokdaaGreat
open Go.ChangeShapes Go.WideShapes Go.ChangeAt Go.RowKit
set_option linter.unusedVariables false
set_option maxRecDepth 100000

theorem reduce_zero (v : List Int) (m : List (List Int)) : reduceZ (m.take 0) v = v := rfl
theorem reduce_all (v : List Int) (m : List (List Int)) : reduceZ (m.take m.length) v = reduceZ m v := by rw [List.take_length]
theorem stillQ {P : Program} {f : FuncId} {args : Array Value} {w : World} {v : Value} (h : Calls P f args w fun e w' => e = .returned v ∧ w = w') : Calls P f args w fun e w'' => e = .returned v ∧ w'' = w :=
  h.mono fun _ _ ⟨a, b⟩ => ⟨a, b.symm⟩
set_option maxHeartbeats 2000000 in
theorem redVS (c : Nat) (v u : Value) (m : List (List Int)) (xs : List Int) (w : World) (hv : RII w v m) (hu : RI w u xs) (hf : fitB (c : Int) m xs = true) :
    Calls Tryz.prog 115 #[.agg #[.int .i64 (c : Int), v], u] w fun e w' => ∃ r, e = .returned r ∧ OI w' w.heap.size r (reduceZ m xs) ∧ Bel w w' := by
  obtain ⟨hc40, hm40, hR, hx⟩ := fitB_facts hf
  have HR := Lib.hid hR
  have HXR := Lib.hid hx
  have HF := Lib.hid hf
  have hxl : xs.length ≤ 40 := by rw [hx.1]; exact hc40
  clear hf hR hx
  obtain ⟨A, cp, rfl, h2, h3, hA⟩ := id hv
  obtain ⟨Bu, cu, rfl, _, _, _⟩ := id hu
  have X := Blk.new w 40 #[.int .i64 (c : Int), .slice A m.length cp]
  have Y : Bel w (w.alloc (.cells #[.int .i64 (c : Int), .slice A m.length cp] 40)) := (Bel.refl _).alloc _
  obtain ⟨cc, _, _⟩ := X.facts
  go_enter Tryz.func115, Tryz.ntmps115
  go_wp2_with fail
  refine (fitS (c : Int) _ _ m xs _ (hv.keep Y) (hu.keep Y)).mono ?_
  rintro e w1 ⟨rfl, hb1⟩
  rw [HF.out]
  have X1 := hb1.keep X
  have Y1 := Y.trans hb1
  have sz1 := X1.lt
  have ru1 := (hu.keep Y1).keep ((Bel.refl w1).alloc (.cells #[] 3))
  clear cc
  go_wp2_with (at_builtin; refine wpList_appI _ rfl _ _ rfl w1.heap.size _ _ [] xs rfl rfl (OI.empty w1) ru1 (by simp only [List.length_nil]; omega) (by simp only [World.size_alloc]; omega) ?_)
  intro v2 w2 O2 hG
  have hbs : Bel w1 w2 := ((Bel.refl w1).alloc _).grown hG (fun p hp => ((OI.empty w1).block p hp).1)
  have X2 := hbs.keep X1
  have Y2 := Y1.trans hbs
  have O2' : OI w2 (w.heap.size + 1) v2 (reduceZ (m.take 0) xs) := OI.low O2 sz1
  clear hG O2 ru1 X X1 Y Y1 hbs hb1
  go_wp2
  go_loopg [5, 6] m.length (fun f o i wr => ∃ k : Nat, k + f = m.length ∧ i = .int .i64 k ∧ OI wr (w.heap.size + 1) o (reduceZ (m.take k) xs) ∧ Blk wr w.heap.size 40 #[.int .i64 (c : Int), .slice A m.length cp] ∧ Bel w wr)
  case atStart => exact ⟨0, by omega, rfl, O2', X2, Y2⟩
  case round =>
    clear O2' X2 Y2
    obtain ⟨k, hk, rfl, O, X, Y⟩ := hrel
    have hk2 : k ≤ m.length := by omega
    have HK := Lib.hid hk
    clear hk
    obtain ⟨cc, _, zx⟩ := X.facts
    have rB : wr.cell? ⟨w.heap.size, 1, none⟩ = some (.slice A m.length cp) := cc 1
    clear cc
    by_cases hlt : k < m.length
    · obtain ⟨b1, o1, rfl, z1, hc1⟩ := hA (by omega)
      have hx : Hid (m[k]? = some (rw_ m k)) := Lib.hid (rw_get hlt)
      obtain ⟨u, g1, ru⟩ := hc1 k _ hx.out
      replace g1 := Y.cell1 z1 g1
      replace ru := ru.keep Y
      have z1' := Nat.lt_of_lt_of_le z1 Y.size
      have hlow := HR.out.low k hlt
      have hrow := mtx_row HR.out.mtx hlt
      have HST := Lib.hid (reduce_take xs hlt)
      have hin := (reduce_inv HR.out HXR.out k (by omega)).1
      obtain ⟨p, hp⟩ : ∃ p, p = lead (rw_ m k) := ⟨_, rfl⟩
      have HLV : Hid (leadV (rw_ m k) = (p : Int)) := Lib.hid (by rw [hp]; exact leadV_row HR.out hlt)
      rw [← hp] at HST hlow
      clear hp hc1 hA
      generalize reduceZ (m.take k) xs = ys at *
      have HCN : Hid (addsZ ys (rw_ m k) (negF (ent ys p)) = reduceZ (m.take (k + 1)) xs) := Lib.hid (by rw [HST.out, clr1_neg hin hrow])
      have HEL : Hid (elB (ent ys p) = true) := Lib.hid (elB_yes (ent_bd hin p))
      have HNB : Hid (elB (negF (ent ys p)) = true) := Lib.hid (elB_yes (negF_bd (ent_bd hin p)))
      have HPR : Hid (pairB ys (rw_ m k) = true) := Lib.hid (pair_rows hin hrow hc40)
      have hpy : p < ys.length := by rw [hin.1]; exact hlow
      obtain ⟨Ao, co, eo, _, _, hO⟩ := O.reads
      subst eo
      obtain ⟨bo, oo, rfl, zo, hco⟩ := hO (by omega)
      have gx := hco p _ (ent_get hpy)
      have ZO := Lib.hid (O.block)
      have RO := Lib.hid O.reads
      have RU := Lib.hid ru
      have LC : Hid (∀ W, Bel wr W → Calls Tryz.prog 76 #[u] W fun e w' => e = .returned (.int .i64 (p : Int)) ∧ W = w') := Lib.hid (fun W h => by rw [← HLV.out]; exact leadS u (rw_ m k) W (RU.out.keep h))
      have i0 : (0 : Int) ≤ (k : Int) := by omega
      have i1 : (k : Int) < (m.length : Int) := by omega
      have p0 : (0 : Int) ≤ (p : Int) := by omega
      have p1 : (p : Int) < (ys.length : Int) := by omega
      obtain ⟨x, hxx⟩ : ∃ x, x = ent ys p := ⟨_, rfl⟩
      rw [← hxx] at gx HCN HEL HNB
      obtain ⟨row, hrw⟩ : ∃ row, row = rw_ m k := ⟨_, rfl⟩
      rw [← hrw] at RU HCN HPR
      clear hxx hrw hO hco hin hrow hpy hx HST ru HLV
      have Yd := (Bel.refl wr).drew
      go_wp2_with fail
      refine wp_region_still_tail 16 (by kernel_rfl) (by kernel_rfl) ?_
      simp only [List.take_succ_cons, List.take_zero, List.drop_succ_cons, List.drop_zero]
      repeat (first | still_step | (still_call (stillQ (LC.out _ Yd))) | (still_call (stillQ (subS x _ HEL.out))))
      refine wpStill_nil ?_
      go_wp2_with fail
      refine (addsS _ _ (negF x) ys row _ (RO.out.keep Yd) (RU.out.keep Yd) HPR.out HNB.out).mono ?_
      rintro e wE ⟨r, rfl, Ov, hbE⟩
      have hbR : Bel wr wE := Yd.trans hbE
      have X2 := hbR.keep X
      have Y2 := Y.trans hbR
      rw [HCN.out] at Ov
      have O3 : OI wE (w.heap.size + 1) r (reduceZ (m.take (k + 1)) xs) := OI.low Ov X.lt
      clear hbE hbR X Y O Ov rB g1 gx Yd
      go_wp2
      go_roundg (m.length - (k + 1))
      case measure => have := HK.out; omega
      case rel => exact ⟨k + 1, by omega, by go_num, O3, X2, Y2⟩
    · obtain rfl : k = m.length := by omega
      have i1 : ¬ (m.length : Int) < (m.length : Int) := by omega
      rw [reduce_all] at O
      go_wp2
      go_ret
      exact ⟨_, rfl, OI.low O (by omega), Y⟩
def conB (m : List (List Int)) (xs : List Int) : Bool := !(innB m xs)
set_option maxHeartbeats 1000000 in
theorem conS (c : Nat) (v u : Value) (m : List (List Int)) (xs : List Int) (w : World) (hv : RII w v m) (hu : RI w u xs) (hf : fitB (c : Int) m xs = true) :
    Calls Tryz.prog 123 #[.agg #[.int .i64 (c : Int), v], u] w fun e w' => e = .returned (.bool (!(innB m xs))) ∧ Bel w w' := by
  have HF := Lib.hid hf
  have HI : Hid (decide (leadV (reduceZ m xs) < 0) = !(innB m xs)) := Lib.hid (by
    unfold leadV innB
    by_cases h : lead (reduceZ m xs) < (reduceZ m xs).length
    · rw [if_pos h, decide_eq_true h]; simp
    · rw [if_neg h, decide_eq_false h]; rfl)
  obtain ⟨A, cp, rfl, h2, h3, hA⟩ := id hv
  obtain ⟨Bu, cu, rfl, _, _, _⟩ := id hu
  have X := Blk.new w 40 #[.int .i64 (c : Int), .slice A m.length cp]
  have Y : Bel w (w.alloc (.cells #[.int .i64 (c : Int), .slice A m.length cp] 40)) := (Bel.refl _).alloc _
  obtain ⟨cc, _, _⟩ := X.facts
  clear hf
  go_enter Tryz.func123, Tryz.ntmps123
  go_wp2_with fail
  refine (fitS (c : Int) _ _ m xs _ (hv.keep Y) (hu.keep Y)).mono ?_
  rintro e w1 ⟨rfl, hb1⟩
  rw [HF.out]
  have X1 := hb1.keep X
  have Y1 := Y.trans hb1
  clear cc
  obtain ⟨cc, _, _⟩ := X1.facts
  go_wp2_with fail
  refine (redVS c _ _ m xs _ (hv.keep Y1) (hu.keep Y1) HF.out).mono ?_
  rintro e w2 ⟨r, rfl, O, hb2⟩
  go_wp2_with fail
  refine (leadS _ _ _ O.reads).mono ?_
  rintro e w3 ⟨rfl, rfl⟩
  go_wp2
  go_ret
  exact ⟨by rw [← HI.out]; rfl, Y1.trans hb2⟩
end Go.Proofs.YtjaagabbbnokdaaGreat

namespace Go.Proofs.YtjaagabbbnokdaaGreat
open Go.ChangeShapes Go.WideShapes Go.ChangeAt Go.RowKit
set_option linter.unusedVariables false
set_option maxRecDepth 100000

theorem OI.blk0 {w : World} {g : Nat} (h : Blk w g 3 #[]) : OI w g (.slice (some ⟨g, 0, none⟩) 0 0) [] :=
  ⟨rfl, .inr ⟨g, 0, #[], rfl, Nat.le_refl _, h, Nat.le_refl _, by unfold maxLen; omega, by simp, by simp⟩⟩
theorem run_appE (w : World) (g : Nat) (ty : TypeId) (u : Value) (ys : List Int) (hg : Blk w g 3 #[]) (hr : RI w u ys) (hbytes : ys.length ≤ 1099511627776) :
    ∃ v' w', (Builtin.append_ #[47, 47] ty #[.slice (some ⟨g, 0, none⟩) 0 0, u]).run Tryz.prog w = .ok v' w' ∧ OI w' g v' ys ∧ w.grownBy w' (some g) ∧ (v'.ownBlock = some g ∨ v'.ownBlock = some w.heap.size) := by
  obtain ⟨i0, hi, hz0, hz1, hz2⟩ := info_parts int_info
  have hown := OI.blk0 hg
  have hgl := hg.lt
  obtain ⟨A, c, rfl, h1, h2, h3⟩ := hr
  cases A with
  | none =>
    have hy : ys = [] := by
      cases ys with
      | nil => rfl
      | cons y ys => obtain ⟨b, off, h, _⟩ := h3 (by simp); cases h
    subst hy
    refine ⟨.slice (some ⟨g, 0, none⟩) 0 0, w, ?_, hown, World.grownBy.refl w _, .inl rfl⟩
    simp [Builtin.append_, run_underlying Tryz.underlying47, sizeOf, typeInfo, hi, Builtin.lenOf, Builtin.firstCells, storeCells]
  | some ad =>
    have hcells : ∀ j q, (ys.map (Value.int .i64))[j]? = some q → w.cell? (ad.add j) = some q := by
      intro j q hq
      rw [List.getElem?_map] at hq
      cases hy : ys[j]? with
      | none => rw [hy] at hq; cases hq
      | some y =>
        rw [hy] at hq
        have hq' : Value.int .i64 y = q := by simpa using hq
        have hl : 0 < ys.length := by have := (List.getElem?_eq_some_iff.1 hy).1; omega
        obtain ⟨b, off, ha, _, hc⟩ := h3 hl
        injection ha with ha
        subst ha
        rw [add_plain, hc j y hy, hq']
    obtain ⟨v', w', hrun, h4, h5, _, h6⟩ := run_append_own_at (P := Tryz.prog) w g 47 ty 3 i0 (.int .i64 0) 1 8 Tryz.underlying47 hi hz0 hz1 hz2 rfl (by omega) (.slice (some ⟨g, 0, none⟩) 0 0) 0 [] hown ad ys.length c (ys.map (Value.int .i64)) (by simp) hcells
      (fun q hq => by obtain ⟨y, _, rfl⟩ := List.mem_map.1 hq; rfl) (by unfold maxLen; omega) (by omega) (by omega)
    refine ⟨v', w', hrun, ?_, h5, h6⟩
    unfold OI
    rw [Nat.zero_add, List.nil_append] at h4
    exact h4
theorem wp_appE {o : Oper} {a : Act} {K : Act → World → Prop} {Q : Exit → Act → World → Prop} (w : World) (s x : Operand)
    (ho : o.op = .call { callee := .builtin .append, args := #[s, x], argTypes := #[47, 47] })
    (g : Nat) (u : Value) (ys : List Int) (hs : a.eval s = .slice (some ⟨g, 0, none⟩) 0 0) (hx : a.eval x = u) (hg : Blk w g 3 #[]) (hr : RI w u ys) (hbytes : ys.length ≤ 1099511627776)
    (h : ∀ v' w', OI w' g v' ys → w.grownBy w' (some g) → (v'.ownBlock = some g ∨ v'.ownBlock = some w.heap.size) → K (a.put o.dst v') w') : o.wp Tryz.prog a w K Q := by
  obtain ⟨v', w', hrun, h2, h3, h4⟩ := run_appE w g o.type u ys hg hr hbytes
  unfold Oper.wp execOp
  simp only [ho, resolve, invoke, builtin, Sem.run_bind, Sem.run_pure, Result.andThen_ok, List.map_toArray, List.map_cons, List.map_nil, hs, hx, hrun]
  exact h v' w' h2 h3 h4
theorem step_appE {ops : Array Oper} {o : Oper} {a : Act} {K : Act → World → Prop} {Q : Exit → Act → World → Prop} {E : Prop} (w : World) (hgd : o.guard = none) (s x : Operand)
    (ho : o.op = .call { callee := .builtin .append, args := #[s, x], argTypes := #[47, 47] })
    (g : Nat) (u : Value) (ys : List Int) (hs : a.eval s = .slice (some ⟨g, 0, none⟩) 0 0) (hx : a.eval x = u) (hg : Blk w g 3 #[]) (hr : RI w u ys) (hbytes : ys.length ≤ 1099511627776)
    (h : ∀ v' w', OI w' g v' ys → w.grownBy w' (some g) → (v'.ownBlock = some g ∨ v'.ownBlock = some w.heap.size) → K (a.put o.dst v') w') :
    if Region.wanted o (yielded ops a.tmps) = true then Oper.wp Tryz.prog o a w K Q else E := by
  have hw : Region.wanted o (yielded ops a.tmps) = true := by simp [Region.wanted, hgd]
  rw [if_pos hw]
  exact wp_appE w s x ho g u ys hs hx hg hr hbytes h
theorem step_appR {ops : Array Oper} {o : Oper} {a : Act} {K : Act → World → Prop} {Q : Exit → Act → World → Prop} {E : Prop} (w : World) (hgd : o.guard = none) (s x : Operand)
    (ho : o.op = .call { callee := .builtin .append, args := #[s, x], argTypes := #[22, 22] })
    (lo : Nat) (v u : Value) (ad : Addr) (xss : List (List Int)) (xs : List Int) (hs : a.eval s = v) (hx : a.eval x = .slice (some ad) 1 1) (h : ML w lo v xss) (hc : w.cell? ad = some u) (hsp : ad.spot = none) (hu : RIx w lo v.ownBlock u xs) (hbytes : xss.length + 1 ≤ 1099511627776) (hbase : lo ≤ w.heap.size)
    (hk : ∀ v' w', ML w' lo v' (xss ++ [xs]) → w.grownBy w' v.ownBlock → (v'.ownBlock = v.ownBlock ∨ v'.ownBlock = some w.heap.size) → K (a.put o.dst v') w') :
    if Region.wanted o (yielded ops a.tmps) = true then Oper.wp Tryz.prog o a w K Q else E := by
  have hw : Region.wanted o (yielded ops a.tmps) = true := by simp [Region.wanted, hgd]
  rw [if_pos hw]
  obtain ⟨v', w', hrun, h2, h3, h4⟩ := run_appR w lo o.type v u ad xss xs h hc hsp hu hbytes hbase
  unfold Oper.wp execOp
  simp only [ho, resolve, invoke, builtin, Sem.run_bind, Sem.run_pure, Result.andThen_ok, List.map_toArray, List.map_cons, List.map_nil, hs, hx, hrun]
  exact hk v' w' h2 h3 h4
end Go.Proofs.YtjaagabbbnokdaaGreat
