/-
  Slices of packets (one int and two slices of ints each) that can be read. Nothing of the program is run here.
-/
import Derived.Test.YtjaagabbbnokdaaConcat
import Derived.Test.YtjaagabbbnokdaaOpenP
import Derived.Test.YtjaagabbbnokdaaSl3
namespace Go.Proofs.Ytjaagabbbnokdaa
open Go.ChangeShapes Go.WideShapes Go.ChangeAt Go.RowKit
set_option linter.unusedVariables false
set_option maxRecDepth 100000

abbrev Pk : Type := Int × List Int × List Int
/-- The packet p can be read at cell o of block b. -/
def PkAt (w : World) (b o : Nat) (p : Pk) : Prop := w.cell? ⟨b, o, none⟩ = some (.int .i64 p.1) ∧ ∃ u1 u2, w.cell? ⟨b, o + 1, none⟩ = some u1 ∧ w.cell? ⟨b, o + 2, none⟩ = some u2 ∧ RI w u1 p.2.1 ∧ RI w u2 p.2.2
theorem PkAt.keep {w w' : World} {b o : Nat} {p : Pk} (h : PkAt w b o p) (k : Bel w w') (hb : b < w.heap.size) : PkAt w' b o p := by
  obtain ⟨h0, u1, u2, h1, h2, r1, r2⟩ := h
  exact ⟨k.cell1 hb h0, u1, u2, k.cell1 hb h1, k.cell1 hb h2, r1.keep k, r2.keep k⟩
/-- A slice of packets that reads as ps. -/
def RP (w : World) (v : Value) (ps : List Pk) : Prop :=
  ∃ A c, v = .slice A ps.length c ∧ ps.length ≤ c ∧ c ≤ 9223372036854775807 ∧
    (0 < ps.length → ∃ b off, A = some ⟨b, off, none⟩ ∧ b < w.heap.size ∧ ∀ j p, ps[j]? = some p → PkAt w b (off + j * 3) p)
theorem RP.keep {w w' : World} {v : Value} {ps : List Pk} (h : RP w v ps) (k : Bel w w') : RP w' v ps := by
  obtain ⟨A, c, hv, h1, h2, h3⟩ := h
  refine ⟨A, c, hv, h1, h2, fun h0 => ?_⟩
  obtain ⟨b, off, hA, hb, hc⟩ := h3 h0
  exact ⟨b, off, hA, Nat.lt_of_lt_of_le hb k.size, fun j p hp => (hc j p hp).keep k hb⟩
theorem RP.nil (w : World) : RP w (.slice none 0 0) [] := ⟨none, 0, rfl, by simp, by omega, fun h => absurd h (by simp)⟩
/-- The packet p lies at cell o of block b, its slices in memory from lo on. -/
def PkO (w : World) (lo b o : Nat) (p : Pk) : Prop := w.cell? ⟨b, o, none⟩ = some (.int .i64 p.1) ∧ ∃ u1 u2, w.cell? ⟨b, o + 1, none⟩ = some u1 ∧ w.cell? ⟨b, o + 2, none⟩ = some u2 ∧ OI w lo u1 p.2.1 ∧ OI w lo u2 p.2.2
/-- A slice of packets that lies, with its packets' slices, in memory from lo on. -/
def OP (w : World) (lo : Nat) (v : Value) (ps : List Pk) : Prop :=
  ∃ A c, v = .slice A ps.length c ∧ ps.length ≤ c ∧ c ≤ 9223372036854775807 ∧
    (0 < ps.length → ∃ b off, A = some ⟨b, off, none⟩ ∧ lo ≤ b ∧ b < w.heap.size ∧ ∀ j p, ps[j]? = some p → PkO w lo b (off + j * 3) p)
theorem OP.reads {w : World} {lo : Nat} {v : Value} {ps : List Pk} (h : OP w lo v ps) : RP w v ps := by
  obtain ⟨A, c, hv, h1, h2, h3⟩ := h
  refine ⟨A, c, hv, h1, h2, fun h0 => ?_⟩
  obtain ⟨b, off, hA, _, hb, hc⟩ := h3 h0
  refine ⟨b, off, hA, hb, fun j p hp => ?_⟩
  obtain ⟨q0, u1, u2, q1, q2, r1, r2⟩ := hc j p hp
  exact ⟨q0, u1, u2, q1, q2, r1.reads, r2.reads⟩
theorem OP.keep {w w' : World} {lo : Nat} {v : Value} {ps : List Pk} (h : OP w lo v ps) (k : Bel w w') : OP w' lo v ps := by
  obtain ⟨A, c, hv, h1, h2, h3⟩ := h
  refine ⟨A, c, hv, h1, h2, fun h0 => ?_⟩
  obtain ⟨b, off, hA, hl, hb, hc⟩ := h3 h0
  refine ⟨b, off, hA, hl, Nat.lt_of_lt_of_le hb k.size, fun j p hp => ?_⟩
  obtain ⟨q0, u1, u2, q1, q2, r1, r2⟩ := hc j p hp
  exact ⟨k.cell1 hb q0, u1, u2, k.cell1 hb q1, k.cell1 hb q2, r1.keep k, r2.keep k⟩
theorem OP.low {w : World} {lo lo' : Nat} {v : Value} {ps : List Pk} (h : OP w lo v ps) (hl : lo' ≤ lo) : OP w lo' v ps := by
  obtain ⟨A, c, hv, h1, h2, h3⟩ := h
  refine ⟨A, c, hv, h1, h2, fun h0 => ?_⟩
  obtain ⟨b, off, hA, hlo, hb, hc⟩ := h3 h0
  refine ⟨b, off, hA, by omega, hb, fun j p hp => ?_⟩
  obtain ⟨q0, u1, u2, q1, q2, r1, r2⟩ := hc j p hp
  exact ⟨q0, u1, u2, q1, q2, r1.low hl, r2.low hl⟩
theorem OP.setFar {w : World} {lo : Nat} {v : Value} {ps : List Pk} (h : OP w lo v ps) {p : Addr} (hp : p.block < lo) (z : Value) : OP (w.setCell p z) lo v ps := by
  obtain ⟨A, c, hv, h1, h2, h3⟩ := h
  refine ⟨A, c, hv, h1, h2, fun h0 => ?_⟩
  obtain ⟨b, off, hA, hl, hb, hc⟩ := h3 h0
  have hk : ∀ o, (w.setCell p z).cell? ⟨b, o, none⟩ = w.cell? ⟨b, o, none⟩ := fun o => World.cell?_of_block (Below.heap_setCell w p z b (fun e => by omega))
  refine ⟨b, off, hA, hl, by simpa [World.setCell] using hb, fun j q hq => ?_⟩
  obtain ⟨q0, u1, u2, q1, q2, r1, r2⟩ := hc j q hq
  exact ⟨(hk _).trans q0, u1, u2, (hk _).trans q1, (hk _).trans q2, r1.setFar hp z, r2.setFar hp z⟩
def pkN (p : Pk) : Nat := p.2.1.length + p.2.2.length
def szP (ps : List Pk) : Nat := ps.length + ps.foldr (fun p n => pkN p + n) 0
def sumP (ps : List Pk) (k : Nat) : Nat := (ps.take k).foldr (fun p n => pkN p + n) 0
theorem sumP_step {ps : List Pk} {k : Nat} {p : Pk} (h : ps[k]? = some p) : sumP ps (k + 1) = sumP ps k + pkN p := by
  obtain ⟨hk, rfl⟩ := List.getElem?_eq_some_iff.1 h
  unfold sumP
  rw [List.take_succ_eq_append_getElem hk, List.foldr_append]
  generalize ps[k] = q
  have key : ∀ (l : List Pk) (n : Nat), l.foldr (fun p n => pkN p + n) n = l.foldr (fun p n => pkN p + n) 0 + n := by
    intro l
    induction l with
    | nil => intro n; simp
    | cons a l ih => intro n; rw [List.foldr_cons, List.foldr_cons, ih n]; omega
  rw [List.foldr_cons, List.foldr_nil, key]
  omega
theorem szP_eq (ps : List Pk) : szP ps = ps.length + sumP ps ps.length := by unfold szP sumP; rw [List.take_length]
theorem sumP_zero (ps : List Pk) : sumP ps 0 = 0 := rfl
theorem sumP_mono (ps : List Pk) : ∀ k d, sumP ps k ≤ sumP ps (k + d)
  | k, 0 => Nat.le_refl _
  | k, d + 1 => by
    refine Nat.le_trans (sumP_mono ps k d) ?_
    rcases Nat.lt_or_ge (k + d) ps.length with h | h
    · rw [show k + (d + 1) = k + d + 1 from rfl, sumP_step (List.getElem?_eq_getElem h)]; omega
    · unfold sumP
      rw [List.take_of_length_le h, List.take_of_length_le (show ps.length ≤ k + (d + 1) by omega)]
      exact Nat.le_refl _
theorem szP_ge {ps : List Pk} {k : Nat} (h : k ≤ ps.length) : ps.length + sumP ps k ≤ szP ps := by
  rw [szP_eq]
  have := sumP_mono ps k (ps.length - k)
  rw [show k + (ps.length - k) = ps.length by omega] at this
  omega
theorem szP_at {ps : List Pk} {k : Nat} {p : Pk} (h : ps[k]? = some p) : ps.length + sumP ps k + (p.2.1.length + p.2.2.length) ≤ szP ps := by
  have h1 := sumP_step h
  have h2 := szP_ge (ps := ps) (k := k + 1) (List.getElem?_eq_some_iff.1 h).1
  unfold pkN at h1
  omega
end Go.Proofs.Ytjaagabbbnokdaa
