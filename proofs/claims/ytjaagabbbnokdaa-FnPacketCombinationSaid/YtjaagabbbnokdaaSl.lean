/-
  Slices of ints: words for reading and owning them, and contracts of the laws' helpers eqIntS, markIntS, heldIntS. Conditions: the numbers that are written stay below 2^62.
-/
import Derived.Test.YtjaagabbbnokdaaWords
import Derived.LoopTactic
import Derived.OwnWalk
import Derived.RegionTactic
import Derived.ChangeAlike
namespace Go.Proofs.Ytjaagabbbnokdaa
open Go.ChangeShapes Go.WideShapes Go.ChangeAt Go.RowKit
set_option linter.unusedVariables false
set_option maxRecDepth 100000

/-- A slice of ints that reads as xs. -/
def RI (w : World) (v : Value) (xs : List Int) : Prop :=
  ∃ A c, v = .slice A xs.length c ∧ xs.length ≤ c ∧ c ≤ 9223372036854775807 ∧
    (0 < xs.length → ∃ b off, A = some ⟨b, off, none⟩ ∧ b < w.heap.size ∧ ∀ j x, xs[j]? = some x → w.cell? ⟨b, off + j, none⟩ = some (.int .i64 x))
theorem RI.keep {w w' : World} {v : Value} {xs : List Int} (h : RI w v xs) (k : Bel w w') : RI w' v xs := by
  obtain ⟨A, c, hv, h1, h2, h3⟩ := h
  refine ⟨A, c, hv, h1, h2, fun h0 => ?_⟩
  obtain ⟨b, off, hA, hb, hc⟩ := h3 h0
  exact ⟨b, off, hA, Nat.lt_of_lt_of_le hb k.size, fun j x hx => (Below.cell (p := ⟨b, off + j, none⟩) k hb).trans (hc j x hx)⟩
theorem RI.nil (w : World) : RI w (.slice none 0 0) [] := ⟨none, 0, rfl, by simp, by omega, fun h => absurd h (by simp)⟩

/-- A slice of ints in a block of its own, from block 'base' on. -/
def OI (w : World) (base : Nat) (v : Value) (xs : List Int) : Prop := w.ownsRow base 3 1 v xs.length (xs.map (Value.int .i64))
theorem OI.nil (w : World) (base : Nat) : OI w base (.slice none 0 0) [] := World.ownsRow_nil _ _ _ _
theorem OI.keep {w w' : World} {base : Nat} {v : Value} {xs : List Int} (h : OI w base v xs) (k : Bel w w') : OI w' base v xs := by
  obtain ⟨hl, h | ⟨g, cap, cur, hv, hb, hh, h1, h2, h3, h4⟩⟩ := h
  · exact ⟨hl, .inl h⟩
  · have hg : g < w.heap.size := Blk.lt hh
    exact ⟨hl, .inr ⟨g, cap, cur, hv, hb, (Below.block k g hg).trans hh, h1, h2, h3, h4⟩⟩
theorem OI.low {w : World} {base base' : Nat} {v : Value} {xs : List Int} (h : OI w base v xs) (hb : base' ≤ base) : OI w base' v xs := Go.Joins.ownsRow_le h hb
theorem OI.reads {w : World} {base : Nat} {v : Value} {xs : List Int} (h : OI w base v xs) : RI w v xs := by
  obtain ⟨hl, ⟨rfl, h0⟩ | ⟨g, cap, cur, rfl, hb, hh, h1, h2, h3, h4⟩⟩ := h
  · have : xs = [] := List.eq_nil_of_length_eq_zero h0
    subst this
    exact RI.nil w
  · refine ⟨some ⟨g, 0, none⟩, cap, rfl, h1, by unfold maxLen at h2; omega, fun _ => ⟨g, 0, rfl, Blk.lt hh, fun j x hx => ?_⟩⟩
    have hj : j < xs.length := (List.getElem?_eq_some_iff.1 hx).1
    rw [Nat.zero_add, (Blk.facts hh).1 j, ← Array.getElem?_toList]
    have h5 : (cur.toList.take (xs.length * 1))[j]? = some (.int .i64 x) := by rw [h4, List.getElem?_map, hx]; rfl
    rw [List.getElem?_take] at h5
    rwa [if_pos (by omega)] at h5
theorem OI.block {w : World} {base : Nat} {v : Value} {xs : List Int} (h : OI w base v xs) : ∀ k, v.ownBlock = some k → base ≤ k ∧ k < w.heap.size := World.ownsRow.lt h
theorem OI.far {w w' : World} {base : Nat} {v : Value} {xs : List Int} {row : Option Nat} (h : OI w base v xs) (hg : w.grownBy w' row) (hne : v.ownBlock = none ∨ v.ownBlock ≠ row) : OI w' base v xs := World.ownsRow.kept h hg hne
theorem RI.far {w w' : World} {v : Value} {xs : List Int} {row : Option Nat} {B : Nat} (h : RI w v xs) (hB : ∀ a n c, v = .slice (some a) n c → a.block < B) (hr : ∀ k, row = some k → B ≤ k) (hg : w.grownBy w' row) : RI w' v xs := by
  obtain ⟨A, c, hv, h1, h2, h3⟩ := h
  refine ⟨A, c, hv, h1, h2, fun h0 => ?_⟩
  obtain ⟨b, off, hA, hb, hc⟩ := h3 h0
  have hlt : b < B := hB ⟨b, off, none⟩ _ _ (by rw [hv, hA])
  refine ⟨b, off, hA, Nat.lt_of_lt_of_le hb hg.size, fun j x hx => ?_⟩
  rw [← hc j x hx]
  exact World.cell?_of_block (hg.block b hb (fun e => by have := hr b e.symm; omega))

/-- The numbers from k on. -/
def marks (k : Int) (n : Nat) : List Int := (List.range n).map fun i : Nat => k + (i : Int)
theorem marks_length (k : Int) (n : Nat) : (marks k n).length = n := by simp [marks]
theorem marks_at (k : Int) (n j : Nat) (h : j < n) : (marks k n)[j]? = some (k + (j : Int)) := by simp [marks, h]

/-- A block's cells behind j marks. -/
def fillTo (cur : Array Value) (k : Int) : Nat → Array Value
  | 0 => cur
  | j + 1 => (fillTo cur k j).setIfInBounds j (.int .i64 (k + (j : Int)))
theorem fillTo_size (cur : Array Value) (k : Int) (j : Nat) : (fillTo cur k j).size = cur.size := by
  induction j with
  | zero => rfl
  | succ j ih => simp [fillTo, ih]
theorem fillTo_at (cur : Array Value) (k : Int) (j i : Nat) (hi : i < cur.size) : (fillTo cur k j)[i]? = if i < j then some (.int .i64 (k + (i : Int))) else cur[i]? := by
  induction j with
  | zero => simp [fillTo]
  | succ j ih =>
    simp only [fillTo, Array.getElem?_setIfInBounds, ih, fillTo_size]
    by_cases h : j = i
    · subst h; simp [hi]
    · rw [if_neg h]
      by_cases h2 : i < j
      · rw [if_pos h2, if_pos (by omega)]
      · rw [if_neg h2, if_neg (by omega)]
theorem fillTo_take (cur : Array Value) (k : Int) (n : Nat) (hn : n ≤ cur.size) : (fillTo cur k n).toList.take (n * 1) = (marks k n).map (Value.int .i64) := by
  apply List.ext_getElem?
  intro i
  rw [List.getElem?_take, List.getElem?_map, Array.getElem?_toList]
  by_cases h : i < n
  · rw [if_pos (by omega), fillTo_at _ _ _ _ (by omega), if_pos h, marks_at _ _ _ h]; rfl
  · rw [if_neg (by omega), List.getElem?_eq_none (by rw [marks_length]; omega)]; rfl

set_option maxHeartbeats 400000 in
theorem eqInts_any (v u : Value) (xs ys : List Int) (w : World) (hv : RI w v xs) (hu : RI w u ys) :
    Calls Try.prog 115 #[v, u] w fun e w' => e = .returned (.bool (decide (xs = ys))) ∧ Bel w w' := by
  obtain ⟨A, c, rfl, h1, h2, hA⟩ := hv
  obtain ⟨B, d, rfl, h3, h4, hB⟩ := hu
  by_cases hlen : xs.length = ys.length
  · have hne : ((xs.length : Int) != (ys.length : Int)) = false := by simp [hlen]
    have hle : xs.length ≤ ys.length := by omega
    have HL := Lib.hid hlen
    clear hlen
    go_enter Try.func115, Try.ntmps115
    go_wp2
    go_loopw [5] (fun i wr => ∃ k : Nat, k ≤ xs.length ∧ i = .int .i64 k ∧ (∃ n, wr = w.drewN n) ∧ Hid (∀ j, j < k → xs[j]? = ys[j]?)) (fun i _ => xs.length - (intOf i).toNat)
    case atStart => exact ⟨0, Nat.zero_le _, rfl, ⟨0, rfl⟩, Lib.hid (fun j hj => absurd hj (by omega))⟩
    case round =>
      obtain ⟨k, hk, rfl, ⟨n, rfl⟩, HK⟩ := hrel
      by_cases hlt : k < xs.length
      · obtain ⟨b1, o1, rfl, _, hc1⟩ := hA (by omega)
        obtain ⟨b2, o2, rfl, _, hc2⟩ := hB (by omega)
        have g1 := hc1 k (xs[k]'hlt) (List.getElem?_eq_getElem hlt)
        have g2 := hc2 k (ys[k]'(by omega)) (List.getElem?_eq_getElem (by omega))
        clear hc1 hc2
        have hx : Hid (xs[k]? = some (xs[k]'hlt)) := List.getElem?_eq_getElem hlt
        have hy : Hid (ys[k]? = some (ys[k]'(by omega))) := List.getElem?_eq_getElem (by omega)
        generalize xs[k]'hlt = x at *
        generalize ys[k]'(by omega) = y at *
        have i0 : (0 : Int) ≤ (k : Int) := by omega
        have i1 : (k : Int) < (xs.length : Int) := by omega
        have i2 : (k : Int) < (ys.length : Int) := by omega
        by_cases hxy : x = y
        · subst hxy
          go_wp2
          go_quiet (fail)
          go_wp2
          go_roundw
          case rel =>
            refine ⟨k + 1, by omega, by go_num, ⟨_, rfl⟩, Lib.hid (fun j hj => ?_)⟩
            by_cases h : j = k
            · subst h; rw [hx.out, hy.out]
            · exact HK.out j (by omega)
          case measure => simp [intOf]; omega
        · have hb : (x != y) = true := by simpa using hxy
          have HX := Lib.hid hxy
          clear hxy
          go_wp2
          go_quiet (fail)
          go_wp2
          go_ret
          have hd : ¬ xs = ys := by
            intro he
            rw [he] at hx
            have := hx.out.symm.trans hy.out
            injection this with this
            exact HX.out this
          exact ⟨by rw [decide_eq_false hd]; rfl, by repeat (first | exact Bel.refl _ | apply Bel.drewN)⟩
      · have i1 : ¬ (k : Int) < (xs.length : Int) := by omega
        go_wp2
        go_ret
        have hd : xs = ys := by
          have hl := HL.out
          apply List.ext_getElem?
          intro j
          by_cases hj : j < k
          · exact HK.out j hj
          · rw [List.getElem?_eq_none (by omega), List.getElem?_eq_none (by omega)]
        exact ⟨by rw [decide_eq_true hd]; rfl, by repeat (first | exact Bel.refl _ | apply Bel.drewN)⟩
  · have hne : ((xs.length : Int) != (ys.length : Int)) = true := by
      rw [bne_iff_ne]; omega
    have HL := Lib.hid hlen
    clear hlen
    go_enter Try.func115, Try.ntmps115
    go_wp2
    go_ret
    have hd : ¬ xs = ys := fun he => HL.out (by rw [he])
    exact ⟨by rw [decide_eq_false hd]; rfl, Bel.refl _⟩

set_option maxHeartbeats 400000 in
theorem heldInts (v : Value) (k : Int) (n : Nat) (w : World) (hv : RI w v (marks k n)) (h0 : 0 ≤ k) (hk : k + n ≤ 4611686018427387904) :
    Calls Try.prog 117 #[v, .int .i64 k] w fun e w' => e = .returned (.int .i64 (k + n)) ∧ w = w' := by
  obtain ⟨A, c, rfl, h1, h2, hA⟩ := hv
  rw [marks_length] at h1 hA ⊢
  go_enter Try.func117, Try.ntmps117
  go_wp2
  go_loop [1, 5] (fun m i => ∃ j : Nat, j ≤ n ∧ i = .int .i64 j ∧ m = .int .i64 (k + j)) (fun _ i => n - (intOf i).toNat)
  case atStart => exact ⟨0, Nat.zero_le _, rfl, by simp⟩
  case round =>
    obtain ⟨j, hj, rfl, rfl⟩ := hrel
    by_cases hlt : j < n
    · obtain ⟨b1, o1, rfl, _, hc1⟩ := hA (by omega)
      have g1 := hc1 j _ (marks_at k n j hlt)
      clear hc1
      have i0 : (0 : Int) ≤ (j : Int) := by omega
      have i1 : (j : Int) < (n : Int) := by omega
      go_wp2
      go_round
      case rel => exact ⟨j + 1, by omega, by go_num, by go_num⟩
      case measure => simp [intOf]; omega
    · obtain rfl : j = n := by omega
      go_wp2
      go_ret
      exact ⟨rfl, rfl⟩

set_option maxHeartbeats 400000 in
theorem markInts (v : Value) (k : Int) (xs : List Int) (base : Nat) (w : World) (h : OI w base v xs) (h0 : 0 ≤ k) (hk : k + xs.length ≤ 4611686018427387904) :
    Calls Try.prog 116 #[v, .int .i64 k] w fun e w' => e = .returned (.int .i64 (k + xs.length)) ∧ OI w' base v (marks k xs.length) ∧ w.grownBy w' v.ownBlock := by
  obtain ⟨hl, ⟨rfl, hn⟩ | ⟨g, cap, cur, rfl, hb, hh, h1, h2, h3, h4⟩⟩ := h
  · have : xs = [] := List.eq_nil_of_length_eq_zero hn
    subst this
    go_enter Try.func116, Try.ntmps116
    go_wp2
    refine wp_loop_rounds 1 ?_
    rw [rounds_succ]
    go_wp2
    go_ret
    exact ⟨by simp, OI.nil _ _, World.grownBy.refl w _⟩
  · clear hl h4
    rw [Nat.mul_one] at h3
    unfold maxLen at h2
    have HH : Hid (Blk w g 3 cur) := hh
    have hgl := Blk.lt hh
    have h3' : cap ≤ cur.size := by omega
    have H3 := Lib.hid h3
    clear hh h3
    generalize xs.length = n at *
    go_enter Try.func116, Try.ntmps116
    go_wp2
    go_loopw [1, 5] (fun m i wr => ∃ j : Nat, j ≤ n ∧ i = .int .i64 j ∧ m = .int .i64 (k + j) ∧ Blk wr g 3 (fillTo cur k j) ∧ w.grownBy wr (some g)) (fun _ i _ => n - (intOf i).toNat)
    case atStart => exact ⟨0, Nat.zero_le _, rfl, by simp, HH.out, World.grownBy.refl w _⟩
    case round =>
      obtain ⟨j, hj, rfl, rfl, hB, hG⟩ := hrel
      by_cases hlt : j < n
      · obtain ⟨c1, f1, z1⟩ := hB.facts
        have r1 : ∃ u, wr.cell? ⟨g, j, none⟩ = some u := by
          refine ⟨(fillTo cur k j)[j]'(by rw [fillTo_size]; omega), ?_⟩
          rw [c1]; exact Array.getElem?_eq_getElem _
        obtain ⟨u, r1⟩ := r1
        have f1 := f1 j
        clear c1
        have i0 : (0 : Int) ≤ (j : Int) := by omega
        have i1 : (j : Int) < (n : Int) := by omega
        go_wp2
        go_roundw
        case rel => exact ⟨j + 1, by omega, by go_num, by go_num, hB.set j _, ⟨hG.os, hG.tape, hG.output, by simpa [World.setCell] using hG.size, fun i hi hne => (Below.heap_setCell _ _ _ _ (fun e => hne (by rw [e]))).trans (hG.block i hi hne)⟩⟩
        case measure => simp [intOf]; omega
      · obtain rfl : j = n := by omega
        go_wp2
        go_ret
        refine ⟨rfl, ?_, hG⟩
        unfold OI
        rw [marks_length]
        exact ⟨by simp [marks], .inr ⟨g, cap, _, rfl, hb, hB, h1, by unfold maxLen; omega, by rw [fillTo_size, H3.out]; omega, fillTo_take cur k j (by omega)⟩⟩
theorem Bel.grown {a w w2 : World} {row : Option Nat} (h : Bel a w) (hg : w.grownBy w2 row) (hr : ∀ k, row = some k → a.heap.size ≤ k) : Bel a w2 := Below.grown h hg h.size hr
theorem Blk.grown {w w2 : World} {g : Nat} {t : TypeId} {cs : Array Value} {row : Option Nat} (h : Blk w g t cs) (hg : w.grownBy w2 row) (hr : row ≠ some g) : Blk w2 g t cs := (hg.block g h.lt (fun e => hr e.symm)).trans h
theorem OI.snoc {w : World} {base : Nat} {v : Value} {xs : List Int} {x : Int} (h : w.ownsRow base 3 1 v (xs.length + 1) (xs.map (Value.int .i64) ++ [.int .i64 x])) : OI w base v (xs ++ [x]) := by
  unfold OI
  simpa using h
theorem int_info : (Try.prog.info? 3).map (fun i => (i.zero, i.size, i.bytes)) = some (some (.int .i64 0), 1, 8) := by kernel_rfl
end Go.Proofs.Ytjaagabbbnokdaa
