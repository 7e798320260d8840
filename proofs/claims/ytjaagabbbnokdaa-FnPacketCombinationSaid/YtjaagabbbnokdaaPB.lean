/-
  Homomorphic hashes: contracts of PowGroup, MulGroup, powers, HashVector, CombineHashes. No condition.
  Contracts of HashVector and CombineHashes, of the program and of the reference. No condition.
  VerifyHash, IsValidPacket: contracts of the program's functions and of the reference's. No condition.
  A slice that could be read earlier can be read beside an own row. Nothing of the program is run here.
  IsValidRecoder and RecoderRank: contracts of the program's functions and of the reference's. No condition.
-/
import Derived.Test.YtjaagabbbnokdaaVec
import Derived.Test.YtjaagabbbnokdaaMani2
import Derived.Test.YtjaagabbbnokdaaMl
import Derived.Test.YtjaagabbbnokdaaPks1
import Derived.Test.YtjaagabbbnokdaaPA
import Derived.Test.YtjaagabbbnokdaaBq
import Derived.Deep.RegionHeld3
import Derived.Deep.RegionLaw
namespace Go.Proofs.Ytjaagabbbnokdaa
open Go.ChangeShapes Go.WideShapes Go.ChangeAt Go.RowKit
set_option linter.unusedVariables false
set_option maxRecDepth 100000

theorem grB_mk {x : Int} (h1 : 0 ≤ x) (h2 : x ≤ 2038) (h : x ^ 1019 % 2039 = 1) : grB x = true := by
  have h0 : 1 ≤ x := by
    rcases (by omega : x = 0 ∨ 1 ≤ x) with rfl | h0
    · rw [Int.zero_pow (by decide)] at h; simp at h
    · exact h0
  unfold grB
  rw [decide_eq_true ⟨h0, h2⟩, h]
  rfl
theorem grB_one : grB 1 = true := grB_mk (by decide) (by decide) (by rw [Int.one_pow]; decide)
theorem grB_pow {g : Int} (n : Nat) (h : grB g = true) : grB (g ^ n % 2039) = true := by
  have hg := (grB_facts h).2
  refine grB_mk (Int.emod_nonneg _ (by decide)) (by have := Int.emod_lt_of_pos (g ^ n) (show (0 : Int) < 2039 by decide); omega) ?_
  rw [pow_mod, ← Int.pow_mul, Nat.mul_comm, Int.pow_mul, ← pow_mod, hg, Int.one_pow]
  decide
theorem grB_mul {a b : Int} (ha : grB a = true) (hb : grB b = true) : grB (a * b % 2039) = true := by
  refine grB_mk (Int.emod_nonneg _ (by decide)) (by have := Int.emod_lt_of_pos (a * b) (show (0 : Int) < 2039 by decide); omega) ?_
  rw [pow_mod, Int.mul_pow, Int.mul_emod, (grB_facts ha).2, (grB_facts hb).2]
  decide
/-- The product of the first k powers. -/
def pwr (gs es : List Int) : Nat → Int
  | 0 => 1
  | k + 1 => pwr gs es k * (gs.getD k 0 ^ (es.getD k 0).toNat % 2039) % 2039
theorem pwr_bd (gs es : List Int) (k : Nat) : 0 ≤ pwr gs es k ∧ pwr gs es k ≤ 2038 := by
  cases k with
  | zero => simp [pwr]
  | succ k => simp only [pwr]; omega
theorem pwr_step {gs es : List Int} {k : Nat} {g e : Int} (hg : gs[k]? = some g) (he : es[k]? = some e) : pwr gs es (k + 1) = pwr gs es k * (g ^ e.toNat % 2039) % 2039 := by
  simp [pwr, List.getD, hg, he]
theorem pwr_gr {gs es : List Int} (h : ∀ g ∈ gs, grB g = true) : ∀ k, k ≤ gs.length → grB (pwr gs es k) = true := by
  intro k
  induction k with
  | zero => intro _; exact grB_one
  | succ k ih =>
    intro hk
    have hx : gs[k]? = some (gs[k]'(by omega)) := List.getElem?_eq_getElem (by omega)
    simp only [pwr, List.getD, hx, Option.getD_some]
    exact grB_mul (ih (by omega)) (grB_pow _ (h _ (List.getElem_mem _)))
def hashZ (gs v : List Int) : Int := if hkB gs = true ∧ vecB v = true ∧ v.length = gs.length then pwr gs v gs.length else 0
def combZ (hs cs : List Int) : Int := if vecB cs = true ∧ hs.length = cs.length ∧ hs.all grB = true then pwr hs cs hs.length else 0

end Go.Proofs.Ytjaagabbbnokdaa

namespace Go.Proofs.Ytjaagabbbnokdaa
open Go.ChangeShapes Go.WideShapes Go.ChangeAt Go.RowKit
set_option linter.unusedVariables false
set_option maxRecDepth 100000

theorem hashZ_no {gs v : List Int} (h : ¬ (hkB gs = true ∧ vecB v = true ∧ v.length = gs.length)) : hashZ gs v = 0 := if_neg h
theorem hashZ_yes {gs v : List Int} (h1 : hkB gs = true) (h2 : vecB v = true) (h3 : v.length = gs.length) : hashZ gs v = pwr gs v gs.length := if_pos ⟨h1, h2, h3⟩
theorem combZ_no {gs v : List Int} (h : ¬ (vecB v = true ∧ gs.length = v.length ∧ gs.all grB = true)) : combZ gs v = 0 := if_neg h
theorem combZ_yes {gs v : List Int} (h1 : vecB v = true) (h2 : gs.length = v.length) (h3 : gs.all grB = true) : combZ gs v = pwr gs v gs.length := if_pos ⟨h1, h2, h3⟩
theorem pwr_take_le (gs es : List Int) (n k : Nat) (h : k ≤ n) : pwr gs es k = pwr (gs.take n) es k := by
  induction k with
  | zero => rfl
  | succ k ih =>
    simp only [pwr, ih (by omega)]
    have : (gs.take n).getD k 0 = gs.getD k 0 := by simp [List.getD, show k < n by omega]
    rw [this]
theorem pwr_take (gs es : List Int) (k : Nat) : pwr gs es k = pwr (gs.take k) es k := pwr_take_le gs es k k (Nat.le_refl _)
end Go.Proofs.Ytjaagabbbnokdaa

namespace Go.Proofs.Ytjaagabbbnokdaa
open Go.ChangeShapes Go.WideShapes Go.ChangeAt Go.RowKit
set_option linter.unusedVariables false
set_option maxRecDepth 100000

def vhB (gs hs co pa : List Int) : Bool := (hashZ gs pa != 0) && (hashZ gs pa == combZ hs co)
def pktB (a s d : Int) (co pa : List Int) : Bool := fmtB a s d && ((co.length : Int) == s) && ((pa.length : Int) == d) && vecB co && vecB pa
set_option maxHeartbeats 1000000 in
theorem pktI (a s d : Int) (c p : Value) (co pa : List Int) (w : World) (hc : RI w c co) (hp : RI w p pa) :
    Calls Try.prog 54 #[.agg #[.int .i64 a, c, p], .int .i64 s, .int .i64 d] w fun e w' => e = .returned (.bool (pktB a s d co pa)) ∧ Bel w w' := by
  have HM : Hid (pktB a s d co pa = (fmtB a s d && ((co.length : Int) == s) && ((pa.length : Int) == d) && vecB co && vecB pa)) := rfl
  obtain ⟨A1, c1, rfl, _, _, _⟩ := id hc
  obtain ⟨A2, c2, rfl, _, _, _⟩ := id hp
  have Y : Bel w (w.alloc (.cells #[.int .i64 a, .slice A1 co.length c1, .slice A2 pa.length c2] 63)) := (Bel.refl _).alloc _
  go_enter Try.func54, Try.ntmps54
  go_wp2_with fail
  refine (fmtI _ _ _ _).mono ?_
  rintro e w1 ⟨rfl, rfl⟩
  cases q1 : fmtB a s d
  · go_wp2
    go_ret
    exact ⟨by rw [HM.out, q1]; rfl, Y⟩
  have Q1 := Lib.hid q1
  clear q1
  cases q2 : ((co.length : Int) == s)
  · go_wp2
    go_ret
    exact ⟨by rw [HM.out, Q1.out, q2]; rfl, Y⟩
  cases q3 : ((pa.length : Int) == d)
  · go_wp2
    go_ret
    exact ⟨by rw [HM.out, Q1.out, q2, q3]; rfl, Y⟩
  go_wp2_with fail
  refine (vecI _ co _ (hc.keep Y)).mono ?_
  rintro e w1 ⟨rfl, rfl⟩
  cases q4 : vecB co
  · go_wp2
    go_ret
    exact ⟨by rw [HM.out, Q1.out, q2, q3, q4]; rfl, Y⟩
  go_wp2_with fail
  refine (vecI _ pa _ (hp.keep Y)).mono ?_
  rintro e w1 ⟨rfl, rfl⟩
  go_wp2
  go_ret
  exact ⟨by rw [HM.out, Q1.out, q2, q3, q4]; rfl, Y⟩
set_option maxHeartbeats 1000000 in
theorem pktS (a s d : Int) (c p : Value) (co pa : List Int) (w : World) (hc : RI w c co) (hp : RI w p pa) :
    Calls Try.prog 48 #[.agg #[.int .i64 a, c, p], .int .i64 s, .int .i64 d] w fun e w' => e = .returned (.bool (pktB a s d co pa)) ∧ Bel w w' := by
  have HM : Hid (pktB a s d co pa = (fmtB a s d && ((co.length : Int) == s) && ((pa.length : Int) == d) && vecB co && vecB pa)) := rfl
  obtain ⟨A1, c1, rfl, _, _, _⟩ := id hc
  obtain ⟨A2, c2, rfl, _, _, _⟩ := id hp
  have Y : Bel w (w.alloc (.cells #[.int .i64 a, .slice A1 co.length c1, .slice A2 pa.length c2] 63)) := (Bel.refl _).alloc _
  go_enter Try.func48, Try.ntmps48
  go_wp2_with fail
  refine (l1InB _ _ _ _).mono ?_
  rintro e w1 ⟨rfl, rfl⟩
  cases p1 : inB a 0 1000000000000
  · go_wp2
    go_ret
    exact ⟨by rw [HM.out, fmtB, p1]; rfl, Y⟩
  go_wp2_with fail
  refine (l1InB _ _ _ _).mono ?_
  rintro e w1 ⟨rfl, rfl⟩
  cases p2 : inB s 1 8
  · go_wp2
    go_ret
    exact ⟨by rw [HM.out, fmtB, p1, p2]; rfl, Y⟩
  go_wp2_with fail
  refine (l1InB _ _ _ _).mono ?_
  rintro e w1 ⟨rfl, rfl⟩
  cases p3 : inB d 1 16
  · go_wp2
    go_ret
    exact ⟨by rw [HM.out, fmtB, p1, p2, p3]; rfl, Y⟩
  have q1 : fmtB a s d = true := by rw [fmtB, p1, p2, p3]; rfl
  have Q1 := Lib.hid q1
  clear q1
  cases q2 : ((co.length : Int) == s)
  · go_wp2
    go_ret
    exact ⟨by rw [HM.out, Q1.out, q2]; rfl, Y⟩
  cases q3 : ((pa.length : Int) == d)
  · go_wp2
    go_ret
    exact ⟨by rw [HM.out, Q1.out, q2, q3]; rfl, Y⟩
  go_wp2_with fail
  refine (vecS _ co _ (hc.keep Y)).mono ?_
  rintro e w1 ⟨rfl, rfl⟩
  cases q4 : vecB co
  · go_wp2
    go_ret
    exact ⟨by rw [HM.out, Q1.out, q2, q3, q4]; rfl, Y⟩
  go_wp2_with fail
  refine (vecS _ pa _ (hp.keep Y)).mono ?_
  rintro e w1 ⟨rfl, rfl⟩
  go_wp2
  go_ret
  exact ⟨by rw [HM.out, Q1.out, q2, q3, q4]; rfl, Y⟩
end Go.Proofs.Ytjaagabbbnokdaa

namespace Go.Proofs.Ytjaagabbbnokdaa
open Go.ChangeShapes Go.WideShapes Go.ChangeAt Go.RowKit
set_option linter.unusedVariables false
set_option maxRecDepth 100000

theorem RI.rx0 {w0 w : World} {v : Value} {xs : List Int} {ob : Option Nat} (h : RI w0 v xs) (k : Bel w0 w) (hob : ∀ q, ob = some q → w0.heap.size ≤ q) : RIx w 0 ob v xs := by
  obtain ⟨A, c, hv, h1, h2, h3⟩ := h
  refine ⟨A, c, hv, h1, h2, fun h0 => ?_⟩
  obtain ⟨b, off, hA, hb, hc⟩ := h3 h0
  exact ⟨b, off, hA, Nat.zero_le _, Nat.lt_of_lt_of_le hb k.size, fun e => by have := hob b e; omega, fun j x hx => k.cell1 hb (hc j x hx)⟩
end Go.Proofs.Ytjaagabbbnokdaa

namespace Go.Proofs.Ytjaagabbbnokdaa
open Go.ChangeShapes Go.WideShapes Go.ChangeAt Go.RowKit
set_option linter.unusedVariables false
set_option maxRecDepth 100000

def pkV (g s d : Int) (p : Pk) : Bool := pktB p.1 s d p.2.1 p.2.2 && !(p.1 != g)
def cofs (ps : List Pk) : List (List Int) := ps.map fun p => p.2.1
theorem cofs_len (ps : List Pk) : (cofs ps).length = ps.length := by simp [cofs]
theorem cofs_at {ps : List Pk} {k : Nat} {p : Pk} (h : ps[k]? = some p) : (cofs ps)[k]? = some p.2.1 := by simp [cofs, h]
theorem cofs_take (ps : List Pk) (k : Nat) : (cofs ps).take k = cofs (ps.take k) := by simp [cofs, List.map_take]
def recoB (g s d n : Int) (ps : List Pk) : Bool := fmtB g s d && decide (ps.length ≤ 8) && inB n 0 1000000000000 && ps.all (pkV g s d) && innAll (cofs ps) ps.length
theorem pkV_row {g d : Int} {c : Nat} {p : Pk} (h : pkV g (c : Int) d p = true) : Row c p.2.1 := by
  unfold pkV pktB at h
  simp only [Bool.and_eq_true] at h
  obtain ⟨⟨⟨⟨⟨_, h1⟩, _⟩, h2⟩, _⟩, _⟩ := h
  refine ⟨?_, (vecB_facts h2).1⟩
  simp at h1
  omega
theorem cofs_mtx {g d : Int} {c : Nat} {ps : List Pk} (h : ps.all (pkV g (c : Int) d) = true) : Mtx c (cofs ps) := fun r hr => by
  obtain ⟨p, hp, rfl⟩ := List.mem_map.1 hr
  exact pkV_row (List.all_eq_true.1 h p hp)
theorem pref_red {g d : Int} {c : Nat} {ps : List Pk} {k : Nat} (h : (ps.take k).all (pkV g (c : Int) d) = true) : ∃ P, Red c (insAll ((cofs ps).take k)) P := by
  rw [cofs_take]
  have h2 := insAll_facts (cofs_mtx h) (cofs (ps.take k)).length (Nat.le_refl _)
  rw [List.take_length] at h2
  exact h2.1
theorem pref_step {ps : List Pk} {k : Nat} {p : Pk} (h : ps[k]? = some p) : insAll ((cofs ps).take (k + 1)) = insB (insAll ((cofs ps).take k)) p.2.1 := by
  rw [take_snoc (cofs_at h), insAll_snoc]
theorem inn_step {ps : List Pk} {k : Nat} {p : Pk} (h : ps[k]? = some p) : innAll (cofs ps) (k + 1) = (innAll (cofs ps) k && innB (insAll ((cofs ps).take k)) p.2.1) := by
  show (innAll (cofs ps) k && innB (insAll ((cofs ps).take k)) (rw_ (cofs ps) k)) = _
  rw [rw_in (cofs_at h)]
theorem recoB_len {g s d n : Int} {ps : List Pk} (h : ¬ ps.length ≤ 8) : recoB g s d n ps = false := by
  unfold recoB
  rw [decide_eq_false h]
  simp
theorem recoB_all {g s d n : Int} {ps : List Pk} (h : ps.all (pkV g s d) = false) : recoB g s d n ps = false := by unfold recoB; rw [h]; simp
theorem recoB_inn {g s d n : Int} {ps : List Pk} (h : innAll (cofs ps) ps.length = false) : recoB g s d n ps = false := by unfold recoB; rw [h]; simp
theorem rank_cofs {g d : Int} {c : Nat} {ps : List Pk} (hc : c ≤ 40) (h : ps.all (pkV g (c : Int) d) = true) (h8 : ps.length ≤ 8) :
    mtxB (cofs ps) = true ∧ (((redZ (cofs ps) (colN (cofs ps))).length : Int) == ((cofs ps).length : Int)) = innAll (cofs ps) ps.length := by
  have hm := cofs_mtx h
  rcases Nat.eq_zero_or_pos ps.length with h0 | h0
  · have e : ps = [] := List.eq_nil_of_length_eq_zero h0
    subst e
    exact ⟨rfl, rfl⟩
  · have e : colN (cofs ps) = c := (mtx_row hm (i := 0) (by rw [cofs_len]; exact h0)).1
    rw [e]
    refine ⟨mtxB_yes hm (by rw [cofs_len]; omega) hc, ?_⟩
    have h2 := rank_inn hm
    rw [cofs_len] at h2 ⊢
    rw [← h2]
    by_cases q : (redZ (cofs ps) c).length = ps.length
    · rw [q]; simp
    · rw [decide_eq_false q]
      simp
      omega
set_option maxHeartbeats 4000000 in
theorem recoI (g s d n : Int) (v : Value) (ps : List Pk) (w : World) (hv : RP w v ps) :
    Calls Try.prog 12 #[.agg #[.int .i64 g, .int .i64 s, .int .i64 d, v, .int .i64 n]] w fun e w' => e = .returned (.bool (recoB g s d n ps)) ∧ Bel w w' := by
  have HM : Hid (recoB g s d n ps = (fmtB g s d && decide (ps.length ≤ 8) && inB n 0 1000000000000 && ps.all (pkV g s d) && innAll (cofs ps) ps.length)) := rfl
  obtain ⟨A, cp, rfl, h2, h3, hA⟩ := id hv
  have X := Blk.new w 29 #[.int .i64 g, .int .i64 s, .int .i64 d, .slice A ps.length cp, .int .i64 n]
  have Y : Bel w (w.alloc (.cells #[.int .i64 g, .int .i64 s, .int .i64 d, .slice A ps.length cp, .int .i64 n] 29)) := (Bel.refl _).alloc _
  obtain ⟨cx, _, zx⟩ := X.facts
  go_enter Try.func12, Try.ntmps12
  go_wp2_with fail
  refine (fmtI g s d _).mono ?_
  rintro e w1 ⟨rfl, rfl⟩
  cases q1 : fmtB g s d
  · go_wp2
    go_ret
    exact ⟨by rw [HM.out, q1]; rfl, Y⟩
  by_cases q2 : 8 < ps.length
  · have q3 : (8 : Int) < (ps.length : Int) := by omega
    have HF := Lib.hid (recoB_len (g := g) (s := s) (d := d) (n := n) (show ¬ ps.length ≤ 8 by omega))
    clear q2
    go_wp2
    go_ret
    exact ⟨by rw [HF.out]; rfl, Y⟩
  have q3 : ¬ (8 : Int) < (ps.length : Int) := by omega
  have H8 : Hid (ps.length ≤ 8) := Lib.hid (by omega)
  clear q2
  go_wp2_with fail
  refine (inRB n 0 1000000000000 _).mono ?_
  rintro e w1 ⟨rfl, rfl⟩
  cases q4 : inB n 0 1000000000000
  · go_wp2
    go_ret
    exact ⟨by rw [HM.out, q4]; simp, Y⟩
  have HM2 : Hid (recoB g s d n ps = (ps.all (pkV g s d) && innAll (cofs ps) ps.length)) := Lib.hid (by rw [HM.out, q1, q4, decide_eq_true H8.out]; simp)
  obtain ⟨c, hcs, hc8⟩ : ∃ c : Nat, s = (c : Int) ∧ c ≤ 8 := ⟨s.toNat, by have := fmtB_facts q1; omega, by have := fmtB_facts q1; omega⟩
  subst hcs
  clear q1 q4 HM
  go_wp2_with fail
  refine (newBI c _ (by omega)).mono ?_
  rintro e w1 ⟨rfl, hb1⟩
  have X1 := (hb1.keep X).alloc (.cells #[.int .i64 (c : Int), .slice none 0 0] 39)
  have B1 := Blk.new w1 39 #[.int .i64 (c : Int), .slice none 0 0]
  have Y1 := (Y.trans hb1).alloc (.cells #[.int .i64 (c : Int), .slice none 0 0] 39)
  have sz1 := (hb1.keep X).lt
  obtain ⟨pb, hpb⟩ : ∃ pb, pb = w1.heap.size := ⟨_, rfl⟩
  rw [← hpb] at B1 sz1
  clear cx
  obtain ⟨cx, _, zx1⟩ := X1.facts
  go_wp2
  rw [← hpb]
  clear hpb cx zx1 q3
  go_loopg [32] ps.length (fun f i wr => ∃ (k : Nat) (o : Value), k + f = ps.length ∧ i = .int .i64 k ∧ Blk wr w.heap.size 29 #[.int .i64 g, .int .i64 (c : Int), .int .i64 d, .slice A ps.length cp, .int .i64 n] ∧ Blk wr pb 39 #[.int .i64 (c : Int), o] ∧ OM wr (pb + 1) o (insAll ((cofs ps).take k)) ∧ Bel w wr ∧ Hid ((ps.take k).all (pkV g (c : Int) d) = true) ∧ Hid (innAll (cofs ps) k = true))
  case atStart => exact ⟨0, _, by omega, rfl, X1, B1, OM.nil _ _, Y1, by show _ = _; simp, rfl⟩
  case round =>
    clear X B1 X1 Y Y1 hb1 zx
    obtain ⟨k, o, hk, rfl, X, B, O, Y, HB, HI⟩ := hrel
    have hk2 : k ≤ ps.length := by omega
    have HK := Lib.hid hk
    clear hk
    by_cases hlt : k < ps.length
    · obtain ⟨b1, o1, rfl, z1, hc1⟩ := hA (by omega)
      have hx : Hid (ps[k]? = some (ps[k]'hlt)) := List.getElem?_eq_getElem hlt
      obtain ⟨g0, u1, u2, g1, g2, r1, r2⟩ := (hc1 k _ hx.out).keep Y z1
      generalize ps[k]'hlt = p at *
      obtain ⟨a, xs, ys⟩ := p
      dsimp only at *
      clear hc1 hA
      have i0 : (0 : Int) ≤ (k : Int) := by omega
      have i1 : (k : Int) < (ps.length : Int) := by omega
      have HP : Hid (pkV g (c : Int) d (a, xs, ys) = (pktB a (c : Int) d xs ys && !(a != g))) := rfl
      obtain ⟨A1, c1, e1, _, _, _⟩ := id r1
      obtain ⟨A2, c2, e2, _, _, _⟩ := id r2
      subst e1 e2
      have Z := Blk.new wr 63 #[.int .i64 a, .slice A1 xs.length c1, .slice A2 ys.length c2]
      have Xa := X.alloc (.cells #[.int .i64 a, .slice A1 xs.length c1, .slice A2 ys.length c2] 63)
      have Ba := B.alloc (.cells #[.int .i64 a, .slice A1 xs.length c1, .slice A2 ys.length c2] 63)
      have Ya := Y.alloc (.cells #[.int .i64 a, .slice A1 xs.length c1, .slice A2 ys.length c2] 63)
      have Oa := O.keep ((Bel.refl wr).alloc (.cells #[.int .i64 a, .slice A1 xs.length c1, .slice A2 ys.length c2] 63))
      replace r1 := r1.keep ((Bel.refl wr).alloc (.cells #[.int .i64 a, .slice A1 xs.length c1, .slice A2 ys.length c2] 63))
      replace r2 := r2.keep ((Bel.refl wr).alloc (.cells #[.int .i64 a, .slice A1 xs.length c1, .slice A2 ys.length c2] 63))
      obtain ⟨cxa, _, zxa⟩ := Xa.facts
      obtain ⟨cz, _, zz⟩ := Z.facts
      go_wp2_with fail
      refine (pktI a (c : Int) d _ _ xs ys _ r1 r2).mono ?_
      rintro e w2 ⟨rfl, hb2⟩
      have X2 := hb2.keep Xa
      have Z2 := hb2.keep Z
      have B2 := hb2.keep Ba
      have Y2 := Ya.trans hb2
      have O2 := Oa.keep hb2
      have r1' := r1.keep hb2
      clear cxa cz zz zxa
      obtain ⟨cx2, _, zx2⟩ := X2.facts
      obtain ⟨cz2, _, zz2⟩ := Z2.facts
      cases q1 : pktB a (c : Int) d xs ys
      · have HF := Lib.hid (recoB_all (n := n) (all_fail (p := pkV g (c : Int) d) hx.out (by rw [HP.out, q1]; rfl)))
        clear q1
        go_wp2
        go_ret
        exact ⟨by rw [HF.out]; rfl, Y2⟩
      cases q2 : (a != g)
      case true =>
        have HF := Lib.hid (recoB_all (n := n) (all_fail (p := pkV g (c : Int) d) hx.out (by rw [HP.out, q1, q2]; rfl)))
        clear q1
        go_wp2
        go_ret
        exact ⟨by rw [HF.out]; rfl, Y2⟩
      have HV : Hid (pkV g (c : Int) d (a, xs, ys) = true) := Lib.hid (by rw [HP.out, q1, q2]; rfl)
      clear q1
      have HS := Lib.hid (pref_step hx.out)
      have HN := Lib.hid (inn_step hx.out)
      have HST := Lib.hid (all_step (p := pkV g (c : Int) d) hx.out HB.out HV.out)
      obtain ⟨P, hP⟩ := pref_red HB.out
      have hlen := hP.len_le
      have HPP := Lib.hid hP
      have HRW : Hid (Row c xs) := Lib.hid (pkV_row HV.out)
      clear hP
      dsimp only at *
      generalize insAll ((cofs ps).take k) = m at *
      have zb := B2.lt
      go_wp2_with fail
      refine (insertI (c : Int) o _ m xs c pb (pb + 1) _ P _ B2 O2 (by omega) (Nat.le_refl _) (by omega) r1' HPP.out HRW.out (by omega) (by omega)).mono ?_
      rintro e w3 ⟨o2, rfl, B3, O3, M3⟩
      have X3 := X2.mid M3 (.inl (by omega))
      have Y3 := Y2.mid M3 (by omega)
      rw [← HS.out] at O3
      clear cx2 cz2
      cases q3 : innB m xs
      · have HF : Hid (recoB g (c : Int) d n ps = false) := Lib.hid (recoB_inn (innAll_mono (k := k + 1) (by omega) (by rw [HN.out, q3]; simp)))
        clear q3
        go_wp2
        go_ret
        exact ⟨by rw [HF.out]; rfl, Y3⟩
      have HI2 : Hid (innAll (cofs ps) (k + 1) = true) := Lib.hid (by rw [HN.out, q3, HI.out]; rfl)
      clear q3
      go_wp2
      go_roundg (ps.length - (k + 1))
      case measure => have := HK.out; omega
      case rel => exact ⟨k + 1, _, by omega, by go_num, X3, B3, O3, Y3, HST, HI2⟩
    · obtain rfl : k = ps.length := by omega
      have i1 : ¬ (ps.length : Int) < (ps.length : Int) := by omega
      have HF : Hid (recoB g (c : Int) d n ps = true) := Lib.hid (by rw [HM2.out, all_end HB.out, HI.out]; rfl)
      go_wp2
      go_ret
      exact ⟨by rw [HF.out]; rfl, Y⟩
theorem rankS (v : Value) (m : List (List Int)) (w : World) (hv : RII w v m) (hm : mtxB m = true) :
    Calls Try.prog 49 #[v] w fun e w' => e = .returned (.int .i64 ((redZ m (colN m)).length : Int)) ∧ Bel w w' := by
  go_enter Try.func49, Try.ntmps49
  go_wp2_with fail
  refine (rowRedS v m _ hv hm).mono ?_
  rintro e w1 ⟨r, rfl, O, hb⟩
  obtain ⟨A, c, rfl, _, _⟩ := O.shape
  go_wp2
  go_ret
  exact ⟨rfl, hb⟩
set_option maxHeartbeats 4000000 in
theorem recoS (g s d n : Int) (v : Value) (ps : List Pk) (w : World) (hv : RP w v ps) :
    Calls Try.prog 10 #[.agg #[.int .i64 g, .int .i64 s, .int .i64 d, v, .int .i64 n]] w fun e w' => e = .returned (.bool (recoB g s d n ps)) ∧ Bel w w' := by
  have HM : Hid (recoB g s d n ps = (fmtB g s d && decide (ps.length ≤ 8) && inB n 0 1000000000000 && ps.all (pkV g s d) && innAll (cofs ps) ps.length)) := rfl
  obtain ⟨A, cp, rfl, h2, h3, hA⟩ := id hv
  have X := Blk.new w 29 #[.int .i64 g, .int .i64 s, .int .i64 d, .slice A ps.length cp, .int .i64 n]
  have Y : Bel w (w.alloc (.cells #[.int .i64 g, .int .i64 s, .int .i64 d, .slice A ps.length cp, .int .i64 n] 29)) := (Bel.refl _).alloc _
  obtain ⟨cx, _, zx⟩ := X.facts
  go_enter Try.func10, Try.ntmps10
  go_wp2_with fail
  refine (fmtS g s d _).mono ?_
  rintro e w1 ⟨rfl, rfl⟩
  cases q1 : fmtB g s d
  · go_wp2
    go_ret
    exact ⟨by rw [HM.out, q1]; rfl, Y⟩
  by_cases q2 : 8 < ps.length
  · have q3 : (8 : Int) < (ps.length : Int) := by omega
    have HF := Lib.hid (recoB_len (g := g) (s := s) (d := d) (n := n) (show ¬ ps.length ≤ 8 by omega))
    clear q2
    go_wp2
    go_ret
    exact ⟨by rw [HF.out]; rfl, Y⟩
  have q3 : ¬ (8 : Int) < (ps.length : Int) := by omega
  have H8 : Hid (ps.length ≤ 8) := Lib.hid (by omega)
  clear q2
  go_wp2_with fail
  refine (l1InB n 0 1000000000000 _).mono ?_
  rintro e w1 ⟨rfl, rfl⟩
  cases q4 : inB n 0 1000000000000
  · go_wp2
    go_ret
    exact ⟨by rw [HM.out, q4]; simp, Y⟩
  have HM2 : Hid (recoB g s d n ps = (ps.all (pkV g s d) && innAll (cofs ps) ps.length)) := Lib.hid (by rw [HM.out, q1, q4, decide_eq_true H8.out]; simp)
  obtain ⟨c, hcs, hc8⟩ : ∃ c : Nat, s = (c : Int) ∧ c ≤ 8 := ⟨s.toNat, by have := fmtB_facts q1; omega, by have := fmtB_facts q1; omega⟩
  subst hcs
  clear q1 q4 HM
  have X1 := X.alloc (.cells #[] 59)
  have Y1 := Y.alloc (.cells #[] 59)
  have O1 := (ML.empty (w.alloc (.cells #[.int .i64 g, .int .i64 (c : Int), .int .i64 d, .slice A ps.length cp, .int .i64 n] 29))).low (Nat.zero_le _)
  rw [World.size_alloc] at O1
  go_wp2
  clear cx q3
  go_loopg [3, 4] ps.length (fun f o i wr => ∃ k : Nat, k + f = ps.length ∧ i = .int .i64 k ∧ Blk wr w.heap.size 29 #[.int .i64 g, .int .i64 (c : Int), .int .i64 d, .slice A ps.length cp, .int .i64 n] ∧ ML wr 0 o (cofs (ps.take k)) ∧ (∀ q, o.ownBlock = some q → w.heap.size + 1 ≤ q) ∧ Bel w wr ∧ Hid ((ps.take k).all (pkV g (c : Int) d) = true))
  case atStart => exact ⟨0, by omega, rfl, X1, O1, fun q hq => by simp [Value.ownBlock] at hq; omega, Y1, by show _ = _; simp⟩
  case round =>
    clear X X1 Y Y1 O1 zx
    obtain ⟨k, hk, rfl, X, O, OB, Y, HB⟩ := hrel
    have hk2 : k ≤ ps.length := by omega
    have HK := Lib.hid hk
    clear hk
    obtain ⟨cx, _, zx⟩ := X.facts
    by_cases hlt : k < ps.length
    · obtain ⟨b1, o1, rfl, z1, hc1⟩ := hA (by omega)
      have hx : Hid (ps[k]? = some (ps[k]'hlt)) := List.getElem?_eq_getElem hlt
      obtain ⟨g0, u1, u2, g1, g2, r1, r2⟩ := hc1 k _ hx.out
      generalize ps[k]'hlt = p at *
      obtain ⟨a, xs, ys⟩ := p
      dsimp only at *
      replace g0 := Y.cell1 z1 g0
      replace g1 := Y.cell1 z1 g1
      replace g2 := Y.cell1 z1 g2
      clear hc1 hA
      obtain ⟨A1, c1, e1, _, _, _⟩ := id r1
      obtain ⟨A2, c2, e2, _, _, _⟩ := id r2
      subst e1 e2
      have i0 : (0 : Int) ≤ (k : Int) := by omega
      have i1 : (k : Int) < (ps.length : Int) := by omega
      have HP : Hid (pkV g (c : Int) d (a, xs, ys) = (pktB a (c : Int) d xs ys && !(a != g))) := rfl
      have y1 := Nat.lt_of_lt_of_le z1 Y.size
      have rX0 : wr.cell? ⟨w.heap.size, 0, none⟩ = some (.int .i64 g) := cx 0
      have rX1 : wr.cell? ⟨w.heap.size, 1, none⟩ = some (.int .i64 (c : Int)) := cx 1
      have rX2 : wr.cell? ⟨w.heap.size, 2, none⟩ = some (.int .i64 d) := cx 2
      have rX3 : wr.cell? ⟨w.heap.size, 3, none⟩ = some (.slice (some ⟨b1, o1, none⟩) ps.length cp) := cx 3
      clear cx
      have HCC : Hid (∀ W : World, Bel wr W → Calls Try.prog 48 #[.agg #[.int .i64 a, .slice A1 xs.length c1, .slice A2 ys.length c2], .int .i64 (c : Int), .int .i64 d] W fun e w' => e = .returned (.bool (pktB a (c : Int) d xs ys)) ∧ Bel W w') := Lib.hid (fun W hW => pktS a (c : Int) d _ _ xs ys W ((r1.keep Y).keep hW) ((r2.keep Y).keep hW))
      cases q1 : pktB a (c : Int) d xs ys
      · have HF := Lib.hid (recoB_all (n := n) (all_fail (p := pkV g (c : Int) d) hx.out (by rw [HP.out, q1]; rfl)))
        have HC := HCC
        rw [q1] at HC
        clear q1 HCC
        go_wp2
        have qx0 := Bw.cell rX0 zx
        have qx1 := Bw.cell rX1 zx
        have qx2 := Bw.cell rX2 zx
        have qx3 := Bw.cell rX3 zx
        have qp0 := Bw.cell g0 y1
        have qp1 := Bw.cell g1 y1
        have qp2 := Bw.cell g2 y1
        refine wp_region_bel (by kernel_rfl) (by kernel_rfl) ?_
        repeat (first | go_big_quiet_step (first | (go_at_call 48; exact belQ (HC.out _ (Bw.bel _)))) | quiet_step (first | (go_at_call 48; exact belQ (HC.out _ (Bw.bel _)))))
        refine wpQuiet_nil ?_
        rintro w3 ⟨⟨_, hb3⟩, rfl⟩
        clear qx0 qx1 qx2 qx3 qp0 qp1 qp2
        go_wp2
        go_ret
        exact ⟨by rw [HF.out]; rfl, Y.trans hb3⟩
      cases q2 : (a != g)
      case true =>
        have HF := Lib.hid (recoB_all (n := n) (all_fail (p := pkV g (c : Int) d) hx.out (by rw [HP.out, q1, q2]; rfl)))
        have HC := HCC
        rw [q1] at HC
        clear q1 HCC
        go_wp2
        have qx0 := Bw.cell rX0 zx
        have qx1 := Bw.cell rX1 zx
        have qx2 := Bw.cell rX2 zx
        have qx3 := Bw.cell rX3 zx
        have qp0 := Bw.cell g0 y1
        have qp1 := Bw.cell g1 y1
        have qp2 := Bw.cell g2 y1
        refine wp_region_bel (by kernel_rfl) (by kernel_rfl) ?_
        repeat (first | go_big_quiet_step (first | (go_at_call 48; exact belQ (HC.out _ (Bw.bel _)))) | quiet_step (first | (go_at_call 48; exact belQ (HC.out _ (Bw.bel _)))))
        refine wpQuiet_nil ?_
        rintro w3 ⟨⟨_, hb3⟩, rfl⟩
        clear qx0 qx1 qx2 qx3 qp0 qp1 qp2
        go_wp2
        go_ret
        exact ⟨by rw [HF.out]; rfl, Y.trans hb3⟩
      case false =>
        have HV : Hid (pkV g (c : Int) d (a, xs, ys) = true) := Lib.hid (by rw [HP.out, q1, q2]; rfl)
        have HC := HCC
        rw [q1] at HC
        clear q1 HCC
        have HST := Lib.hid (all_step (p := pkV g (c : Int) d) hx.out HB.out HV.out)
        have HT : Hid (cofs (ps.take k) ++ [xs] = cofs (ps.take (k + 1))) := Lib.hid (by rw [take_snoc hx.out]; simp [cofs])
        have hlen : (cofs (ps.take k)).length ≤ 8 := by rw [cofs_len, List.length_take]; have := H8.out; omega
        go_wp2
        have qx0 := Bw.cell rX0 zx
        have qx1 := Bw.cell rX1 zx
        have qx2 := Bw.cell rX2 zx
        have qx3 := Bw.cell rX3 zx
        have qp0 := Bw.cell g0 y1
        have qp1 := Bw.cell g1 y1
        have qp2 := Bw.cell g2 y1
        refine wp_region_bel (by kernel_rfl) (by kernel_rfl) ?_
        repeat (first | go_big_quiet_step (first | (go_at_call 48; exact belQ (HC.out _ (Bw.bel _)))) | quiet_step (first | (go_at_call 48; exact belQ (HC.out _ (Bw.bel _)))))
        refine wpQuiet_nil ?_
        rintro w3 ⟨⟨_, hb3⟩, rfl⟩
        clear qx0 qx1 qx2 qx3 qp0 qp1 qp2
        have Y3 := Y.trans hb3
        have X3 := hb3.keep X
        have g1' := hb3.cell1 y1 g1
        have rX3' := hb3.cell1 zx rX3
        have O3 := O.keep hb3
        have O4 := O3.keep ((Bel.refl w3).alloc (.cells #[.slice A1 xs.length c1] 59))
        have Y4 := Y3.alloc (.cells #[.slice A1 xs.length c1] 59)
        have X4 := X3.alloc (.cells #[.slice A1 xs.length c1] 59)
        have rx : RIx (w3.alloc (.cells #[.slice A1 xs.length c1] 59)) 0 u3.ownBlock (.slice A1 xs.length c1) xs := r1.rx0 Y4 (fun q hq => by have := OB q hq; omega)
        obtain ⟨Ao, co, eo, _, _⟩ := O.shape
        subst eo
        clear g0 g1 g2 rX0 rX1 rX2 rX3 q2
        go_wp2_with (at_builtin; refine wpList_appR _ rfl _ _ rfl 0 _ _ _ (cofs (ps.take k)) xs rfl rfl O4 ((Blk.new w3 59 _).facts.1 0) rfl rx (by omega) (Nat.zero_le _) ?_)
        intro v5 w5 O5 hG5 ho5
        have Y5 : Bel w w5 := Y4.grown hG5 (fun q hq => by have := OB q hq; omega)
        have X5 := X4.grown hG5 (fun e => by have := OB _ e; omega)
        have OB5 : ∀ q, v5.ownBlock = some q → w.heap.size + 1 ≤ q := fun q hq => by
          rcases ho5 with e | e
          · exact OB q (by rw [← e]; exact hq)
          · rw [e] at hq; injection hq with hq; rw [← hq]; exact Nat.le_trans (show w.heap.size + 1 ≤ w3.heap.size from Nat.lt_of_lt_of_le zx hb3.size) (Nat.le_succ _)
        rw [HT.out] at O5
        clear hG5 ho5
        go_wp2
        go_roundg (ps.length - (k + 1))
        case measure => have := HK.out; omega
        case rel => exact ⟨k + 1, by omega, by go_num, X5, O5, OB5, Y5, HST⟩
    · obtain rfl : k = ps.length := by omega
      have i1 : ¬ (ps.length : Int) < (ps.length : Int) := by omega
      have HA := Lib.hid (all_end HB.out)
      rw [List.take_length] at O
      obtain ⟨hm, he⟩ := rank_cofs (by omega) HA.out H8.out
      have HE : Hid (recoB g (c : Int) d n ps = (((redZ (cofs ps) (colN (cofs ps))).length : Int) == ((cofs ps).length : Int))) := Lib.hid (by rw [HM2.out, HA.out, he]; rfl)
      have HMX := Lib.hid hm
      clear he hm
      have RR := O.reads
      obtain ⟨Ao, co, eo, _, _⟩ := O.shape
      subst eo
      go_wp2_with fail
      refine (rankS _ _ _ RR HMX.out).mono ?_
      rintro e w2 ⟨rfl, hb2⟩
      go_wp2
      go_ret
      exact ⟨by rw [HE.out]; rfl, Y.trans hb2⟩
def rrankZ (g s d n : Int) (ps : List Pk) : Int := if recoB g s d n ps = true then (ps.length : Int) else 0
set_option maxHeartbeats 400000 in
theorem rrankI (g s d n : Int) (v : Value) (ps : List Pk) (w : World) (hv : RP w v ps) :
    Calls Try.prog 15 #[.agg #[.int .i64 g, .int .i64 s, .int .i64 d, v, .int .i64 n]] w fun e w' => e = .returned (.int .i64 (rrankZ g s d n ps)) ∧ Bel w w' := by
  have HZ : Hid (rrankZ g s d n ps = if recoB g s d n ps = true then (ps.length : Int) else 0) := rfl
  generalize rrankZ g s d n ps = z at *
  obtain ⟨A, cp, rfl, h2, h3, hA⟩ := id hv
  have X := Blk.new w 29 #[.int .i64 g, .int .i64 s, .int .i64 d, .slice A ps.length cp, .int .i64 n]
  have Y : Bel w (w.alloc (.cells #[.int .i64 g, .int .i64 s, .int .i64 d, .slice A ps.length cp, .int .i64 n] 29)) := (Bel.refl _).alloc _
  obtain ⟨cx, _, zx⟩ := X.facts
  go_enter Try.func15, Try.ntmps15
  go_wp2_with fail
  refine (recoI g s d n _ ps _ (hv.keep Y)).mono ?_
  rintro e w1 ⟨rfl, hb1⟩
  have X1 := hb1.keep X
  have Y1 := Y.trans hb1
  clear cx
  obtain ⟨cx, _, zx1⟩ := X1.facts
  cases q : recoB g s d n ps
  · go_wp2
    go_ret
    exact ⟨by rw [HZ.out, q]; rfl, Y1⟩
  · go_wp2
    go_ret
    exact ⟨by rw [HZ.out, q]; rfl, Y1⟩
set_option maxHeartbeats 400000 in
theorem rrankS (g s d n : Int) (v : Value) (ps : List Pk) (w : World) (hv : RP w v ps) :
    Calls Try.prog 14 #[.agg #[.int .i64 g, .int .i64 s, .int .i64 d, v, .int .i64 n]] w fun e w' => e = .returned (.int .i64 (rrankZ g s d n ps)) ∧ Bel w w' := by
  have HZ : Hid (rrankZ g s d n ps = if recoB g s d n ps = true then (ps.length : Int) else 0) := rfl
  generalize rrankZ g s d n ps = z at *
  obtain ⟨A, cp, rfl, h2, h3, hA⟩ := id hv
  have X := Blk.new w 29 #[.int .i64 g, .int .i64 s, .int .i64 d, .slice A ps.length cp, .int .i64 n]
  have Y : Bel w (w.alloc (.cells #[.int .i64 g, .int .i64 s, .int .i64 d, .slice A ps.length cp, .int .i64 n] 29)) := (Bel.refl _).alloc _
  obtain ⟨cx, _, zx⟩ := X.facts
  go_enter Try.func14, Try.ntmps14
  go_wp2_with fail
  refine (recoS g s d n _ ps _ (hv.keep Y)).mono ?_
  rintro e w1 ⟨rfl, hb1⟩
  have X1 := hb1.keep X
  have Y1 := Y.trans hb1
  clear cx
  obtain ⟨cx, _, zx1⟩ := X1.facts
  cases q : recoB g s d n ps
  · go_wp2
    go_ret
    exact ⟨by rw [HZ.out, q]; rfl, Y1⟩
  · go_wp2
    go_ret
    exact ⟨by rw [HZ.out, q]; rfl, Y1⟩
end Go.Proofs.Ytjaagabbbnokdaa
