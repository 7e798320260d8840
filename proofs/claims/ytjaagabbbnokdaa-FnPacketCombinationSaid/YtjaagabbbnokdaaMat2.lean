/-
  toIntSS: its contract. Condition: at most 2^20 rows, and at most 2^20 elements a row.
-/
import Derived.Test.YtjaagabbbnokdaaMat1
namespace Go.Proofs.Ytjaagabbbnokdaa
open Go.ChangeShapes Go.WideShapes Go.ChangeAt Go.RowKit
set_option linter.unusedVariables false
set_option maxRecDepth 100000

theorem fillF_congr {cur : Array Value} {f g : Nat → Value} : ∀ {j : Nat}, (∀ i, i < j → f i = g i) → fillF cur f j = fillF cur g j
  | 0, _ => rfl
  | j + 1, h => by simp only [fillF]; rw [fillF_congr (fun i hi => h i (by omega)), h j (by omega)]
theorem fillF_takeV (cur : Array Value) (us : List Value) (hn : us.length ≤ cur.size) :
    (fillF cur (fun i => us.getD i (.slice none 0 0)) us.length).toList.take (us.length * 1) = us := by
  apply List.ext_getElem?
  intro i
  rw [List.getElem?_take, Array.getElem?_toList]
  by_cases h : i < us.length
  · rw [if_pos (by omega), fillF_at _ _ _ _ (by omega), if_pos h, List.getElem?_eq_getElem h]
    simp [List.getD, h]
  · rw [if_neg (by omega), List.getElem?_eq_none (by omega)]
theorem row_info : (Try.prog.info? 59).map (fun i => (i.zero, i.size, i.bytes)) = some (some (.slice none 0 0), 1, 24) := by kernel_rfl
theorem mkRows (n : Nat) (hn : n ≤ 1099511627776) : ∀ w : World, (Instr.makeSlice 34 (.int .i64 (n : Int)) (.int .i64 (n : Int))).run Try.prog w =
    .ok (.slice (some ⟨w.heap.size, 0, none⟩) n n) (w.alloc (.cells (madeCells #[.slice none 0 0] n) 59)) := by
  intro w
  obtain ⟨i0, hi, hz0, hz1, hz2⟩ := info_parts row_info
  have hr := run_make (P := Try.prog) w 34 59 i0 (.slice none 0 0) Try.underlying34 hi hz0 .i64 .i64 n n (by omega) (by omega) (by rw [hz2]; omega) (by omega)
  rw [hz1] at hr
  simp only [Int.toNat_natCast, Nat.mul_one] at hr
  exact hr

/-- The rows made so far: each in a block of its own, none twice, all behind block lo. -/
structure Rws (w : World) (lo : Nat) (us : List Value) (xss : List (List Int)) : Prop where
  row : ∀ (j : Nat) u xs, us[j]? = some u → xss[j]? = some xs → OI w lo u xs
  apart : ∀ (i j : Nat) u u', i ≠ j → us[i]? = some u → us[j]? = some u' → ∀ q, u.ownBlock = some q → u'.ownBlock ≠ some q
  low : ∀ (j : Nat) u, us[j]? = some u → ∀ q, u.ownBlock = some q → lo ≤ q ∧ q < w.heap.size
theorem Rws.nil (w : World) (lo : Nat) (xss : List (List Int)) : Rws w lo [] xss := ⟨fun j u xs h => by simp at h, fun i j u u' _ h => by simp at h, fun j u h => by simp at h⟩
theorem Rws.keep {w w' : World} {lo : Nat} {us : List Value} {xss : List (List Int)} (h : Rws w lo us xss) (k : Bel w w') : Rws w' lo us xss :=
  ⟨fun j u xs h1 h2 => (h.row j u xs h1 h2).keep k, h.apart, fun j u h1 q hq => ⟨(h.low j u h1 q hq).1, Nat.lt_of_lt_of_le (h.low j u h1 q hq).2 k.size⟩⟩
theorem Rws.setFar {w : World} {lo : Nat} {us : List Value} {xss : List (List Int)} (h : Rws w lo us xss) {p : Addr} (hp : p.block < lo) (u : Value) : Rws (w.setCell p u) lo us xss :=
  ⟨fun j u xs h1 h2 => (h.row j u xs h1 h2).setFar hp _, h.apart, fun j u h1 q hq => by have := h.low j u h1 q hq; simpa [World.setCell] using this⟩
theorem Rws.snoc {w w' : World} {lo : Nat} {us : List Value} {xss : List (List Int)} {u : Value} {xs : List Int} (h : Rws w lo us xss) (k : Bel w w') (hl : lo ≤ w.heap.size) (hu : OI w' w.heap.size u xs) (hx : xss[us.length]? = some xs) : Rws w' lo (us ++ [u]) xss := by
  have hk := h.keep k
  have hub := hu.block
  refine ⟨fun j y ys h1 h2 => ?_, fun i j y y' hne h1 h2 q hq hq' => ?_, fun j y h1 q hq => ?_⟩
  · rcases Nat.lt_or_ge j us.length with hj | hj
    · rw [List.getElem?_append_left hj] at h1
      exact hk.row j y ys h1 h2
    · rw [List.getElem?_append_right hj] at h1
      have : j - us.length = 0 := by
        rcases Nat.eq_zero_or_pos (j - us.length) with e | e
        · exact e
        · rw [List.getElem?_eq_none (by simp; omega)] at h1; cases h1
      rw [this] at h1
      simp at h1
      subst h1
      have e : j = us.length := by omega
      rw [e, hx] at h2
      injection h2 with h2
      subst h2
      exact hu.low hl
  · have key : ∀ (i : Nat) y, (us ++ [u])[i]? = some y → (i < us.length ∧ us[i]? = some y) ∨ (i = us.length ∧ y = u) := fun i y h1 => by
      rcases Nat.lt_or_ge i us.length with hj | hj
      · rw [List.getElem?_append_left hj] at h1; exact .inl ⟨hj, h1⟩
      · rw [List.getElem?_append_right hj] at h1
        have : i - us.length = 0 := by
          rcases Nat.eq_zero_or_pos (i - us.length) with e | e
          · exact e
          · rw [List.getElem?_eq_none (by simp; omega)] at h1; cases h1
        rw [this] at h1
        simp at h1
        exact .inr ⟨by omega, h1.symm⟩
    rcases key i y h1 with ⟨a1, a2⟩ | ⟨a1, rfl⟩
    · rcases key j y' h2 with ⟨b1, b2⟩ | ⟨b1, rfl⟩
      · exact h.apart i j y y' hne a2 b2 q hq hq'
      · have := h.low i y a2 q hq
        have := hub q hq'
        omega
    · rcases key j y' h2 with ⟨b1, b2⟩ | ⟨b1, rfl⟩
      · have := h.low j y' b2 q hq'
        have := hub q hq
        omega
      · omega
  · rcases Nat.lt_or_ge j us.length with hj | hj
    · rw [List.getElem?_append_left hj] at h1
      exact hk.low j y h1 q hq
    · rw [List.getElem?_append_right hj] at h1
      have : j - us.length = 0 := by
        rcases Nat.eq_zero_or_pos (j - us.length) with e | e
        · exact e
        · rw [List.getElem?_eq_none (by simp; omega)] at h1; cases h1
      rw [this] at h1
      simp at h1
      subst h1
      have := hub q hq
      omega

set_option maxHeartbeats 1000000 in
theorem toII (v : Value) (xss : List (List Int)) (w : World) (hv : RII w v xss) (hn : xss.length ≤ 1048576) (hr : xss.flatten.length ≤ 1048576) :
    Calls Try.prog 64 #[v] w fun e w' => ∃ v', e = .returned v' ∧ OII w' w.heap.size w'.heap.size v' xss ∧ Bel w w' := by
  obtain ⟨A, c, rfl, h2, h3, hA⟩ := hv
  have hmk := mkRows xss.length (by omega)
  have hcs : (madeCells #[.slice none 0 0] xss.length).size = xss.length := size_madeCells _ _
  generalize madeCells #[.slice none 0 0] xss.length = C at *
  have HC := Lib.hid hcs
  have hcs2 : xss.length ≤ C.size := by omega
  clear hcs
  go_enter Try.func64, Try.ntmps64
  go_wp2
  clear hmk
  go_loopg [4] xss.length (fun f i wr => ∃ us : List Value, us.length + f = xss.length ∧ i = .int .i64 us.length ∧ Blk wr w.heap.size 59 (fillF C (fun i => us.getD i (.slice none 0 0)) us.length) ∧ Rws wr (w.heap.size + 1) us xss ∧ Bel w wr)
  case atStart => exact ⟨[], by simp, rfl, Blk.new w _ _, Rws.nil _ _ _, (Bel.refl _).alloc _⟩
  case round =>
    obtain ⟨us, hj, rfl, hB, hR, hb⟩ := hrel
    have hj2 : us.length ≤ xss.length := by omega
    have HJ := Lib.hid hj
    clear hj
    by_cases hlt : us.length < xss.length
    · obtain ⟨b1, o1, rfl, hb1, hc1⟩ := hA (by omega)
      have hx : Hid (xss[us.length]? = some (xss[us.length]'hlt)) := List.getElem?_eq_getElem hlt
      obtain ⟨u, g1, ru⟩ := hc1 us.length _ hx.out
      have hlx := len_le_flat hx.out
      replace g1 := hb.cell1 hb1 g1
      generalize xss[us.length]'hlt = xs at *
      clear hc1 hA
      have i0 : (0 : Int) ≤ (us.length : Int) := by omega
      have i1 : (us.length : Int) < (xss.length : Int) := by omega
      go_wp2_with fail
      refine (toInts u xs _ (ru.keep hb) (by omega)).mono ?_
      rintro e w1 ⟨r, rfl, Or, hb2⟩
      have hB1 := hb2.keep hB
      have z0 : w.heap.size + 1 ≤ wr.heap.size := hB.lt
      have hR1 := hR.snoc hb2 z0 Or hx.out
      have hY1 := hb.trans hb2
      obtain ⟨Ar, cr, er, _, _, _⟩ := Or.reads
      subst er
      obtain ⟨c1, f1, z1⟩ := hB1.facts
      have r1 : ∃ u, w1.cell? ⟨w.heap.size, us.length, none⟩ = some u := by
        refine ⟨(fillF C (fun i => us.getD i (.slice none 0 0)) us.length)[us.length]'(by rw [fillF_size]; omega), ?_⟩
        rw [c1]; exact Array.getElem?_eq_getElem _
      obtain ⟨u9, r1⟩ := r1
      have f2 := f1 us.length
      have HL : Hid ((us ++ [Value.slice Ar xs.length cr]).length = us.length + 1) := by show _ = _; simp
      clear c1 f1 g1
      go_wp2
      go_roundg (xss.length - (us.length + 1))
      case measure => have := HJ.out; omega
      case rel =>
        refine ⟨us ++ [Value.slice Ar xs.length cr], by rw [HL.out]; omega, by rw [HL.out]; go_num, ?_, hR1.setFar (p := ⟨w.heap.size, us.length, none⟩) (by dsimp only; omega) _, hY1.setCell (p := ⟨w.heap.size, us.length, none⟩) (Nat.le_refl _) _⟩
        have h9 := hB1.set us.length (Value.slice Ar xs.length cr)
        rw [HL.out]
        have e1 : fillF C (fun i => (us ++ [Value.slice Ar xs.length cr]).getD i (.slice none 0 0)) (us.length + 1) = (fillF C (fun i => us.getD i (.slice none 0 0)) us.length).setIfInBounds us.length (Value.slice Ar xs.length cr) := by
          simp only [fillF]
          rw [fillF_congr (g := fun i => us.getD i (.slice none 0 0)) (fun i hi => by simp [List.getD, List.getElem?_append_left hi])]
          simp [List.getD]
        rw [e1]
        exact h9
    · have e : us.length = xss.length := by omega
      have i1 : ¬ (us.length : Int) < (xss.length : Int) := by omega
      have HE := Lib.hid e
      clear e
      go_wp2
      go_ret
      refine ⟨_, rfl, ⟨us, HE.out, ?_, ?_, ?_, hR.apart, ?_⟩, hb⟩
      · refine ⟨by rw [HE.out]; simp, .inr ⟨w.heap.size, xss.length, _, rfl, Nat.le_refl _, hB, Nat.le_refl _, by unfold maxLen; omega, by rw [fillF_size, HC.out]; omega, ?_⟩⟩
        rw [← HE.out]
        exact fillF_takeV C us (by rw [HE.out]; exact hcs2)
      · intro q hq
        have : w.heap.size = q := by simpa [Value.ownBlock] using hq
        subst this
        exact hB.lt
      · intro j u xs h1 h2
        exact ⟨(hR.row j u xs h1 h2).low (by omega), fun q hq => (hR.low j u h1 q hq).2⟩
      · intro j u h1 q hq he
        have h9 := (hR.low j u h1 q hq).1
        have : w.heap.size = q := by simpa [Value.ownBlock] using he
        omega
end Go.Proofs.Ytjaagabbbnokdaa
