/-
  Slices of slices of ints: owning them; contracts of the laws' helpers szIntSS, toIntSS, eqIntSS. Condition of toIntSS: at most 2^20 rows, and at most 2^20 elements a row.
-/
import Derived.Test.YtjaagabbbnokdaaConcat
import Derived.Test.YtjaagabbbnokdaaOwn
import Derived.Test.YtjaagabbbnokdaaBq
import Derived.Deep.RegionHeld3
namespace Go.Proofs.Ytjaagabbbnokdaa
open Go.ChangeShapes Go.WideShapes Go.ChangeAt Go.RowKit
set_option linter.unusedVariables false
set_option maxRecDepth 100000

/-- A slice of slices of ints, all in blocks of their own between lo and hi. -/
def OII (w : World) (lo hi : Nat) (v : Value) (xss : List (List Int)) : Prop :=
  ∃ us : List Value, us.length = xss.length ∧ w.ownsRow lo 59 1 v xss.length us ∧ (∀ q, v.ownBlock = some q → q < hi) ∧ (∀ (j : Nat) u xs, us[j]? = some u → xss[j]? = some xs → OIn w lo hi u xs) ∧
    (∀ (i j : Nat) u u', i ≠ j → us[i]? = some u → us[j]? = some u' → ∀ q, u.ownBlock = some q → u'.ownBlock ≠ some q) ∧ (∀ (j : Nat) u, us[j]? = some u → ∀ q, u.ownBlock = some q → v.ownBlock ≠ some q)
theorem OII.nil (w : World) (lo hi : Nat) : OII w lo hi (.slice none 0 0) [] :=
  ⟨[], rfl, World.ownsRow_nil _ _ _ _, fun q hq => by simp [Value.ownBlock] at hq, fun j u xs h => by simp at h, fun i j u u' _ h => by simp at h, fun j u h => by simp at h⟩
theorem OII.reads {w : World} {lo hi : Nat} {v : Value} {xss : List (List Int)} (h : OII w lo hi v xss) : RII w v xss := by
  obtain ⟨us, hl, ⟨hl2, ⟨rfl, h0⟩ | ⟨g, cap, cur, rfl, hb, hh, h1, h2, h3, h4⟩⟩, hq, hr, _, _⟩ := h
  · have : xss = [] := List.eq_nil_of_length_eq_zero h0
    subst this
    exact RII.nil w
  · refine ⟨some ⟨g, 0, none⟩, cap, rfl, h1, by unfold maxLen at h2; omega, fun _ => ⟨g, 0, rfl, Blk.lt hh, fun j xs hx => ?_⟩⟩
    have hj : j < xss.length := (List.getElem?_eq_some_iff.1 hx).1
    have hju : j < us.length := by omega
    refine ⟨us[j]'hju, ?_, (hr j _ xs (List.getElem?_eq_getElem hju) hx).reads⟩
    rw [Nat.zero_add, (Blk.facts hh).1 j, ← Array.getElem?_toList]
    have h5 : (cur.toList.take (xss.length * 1))[j]? = some (us[j]'hju) := by rw [h4]; exact List.getElem?_eq_getElem hju
    rw [List.getElem?_take] at h5
    rwa [if_pos (by omega)] at h5
theorem ownsRow_loc {w u : World} {lo hi : Nat} {T : TypeId} {k : Nat} {v : Value} {n : Nat} {us : List Value} (h : w.ownsRow lo T k v n us) (hq : ∀ q, v.ownBlock = some q → q < hi)
    (hu : ∀ k, lo ≤ k → k < hi → u.heap[k]? = w.heap[k]?) : u.ownsRow lo T k v n us := by
  obtain ⟨hl2, h0 | ⟨g, cap, cur, rfl, hb, hh, h1, h2, h3, h4⟩⟩ := h
  · exact ⟨hl2, .inl h0⟩
  · exact ⟨hl2, .inr ⟨g, cap, cur, rfl, hb, (hu g hb (hq g rfl)).trans hh, h1, h2, h3, h4⟩⟩
theorem OII.loc {w : World} {lo hi : Nat} {v : Value} {xss : List (List Int)} (h : OII w lo hi v xss) (hl : lo ≤ hi) (hh : hi ≤ w.heap.size) : Loc lo hi (fun u => OII u lo hi v xss) w := by
  refine ⟨hl, hh, fun u hu => ?_⟩
  obtain ⟨us, hl, ho, hq, hr, hd, hv⟩ := h
  exact ⟨us, hl, ownsRow_loc ho hq hu, hq, fun j y xs h1 h2 => ⟨ownsRow_loc (hr j y xs h1 h2).1 (hr j y xs h1 h2).2 hu, (hr j y xs h1 h2).2⟩, hd, hv⟩
theorem OII.wide {w : World} {lo hi lo' hi' : Nat} {v : Value} {xss : List (List Int)} (h : OII w lo hi v xss) (h1 : lo' ≤ lo) (h2 : hi ≤ hi') : OII w lo' hi' v xss := by
  obtain ⟨us, hl, ho, hq, hr, hd, hv⟩ := h
  exact ⟨us, hl, Go.Joins.ownsRow_le ho h1, fun q e => Nat.lt_of_lt_of_le (hq q e) h2, fun j y xs e1 e2 => ⟨Go.Joins.ownsRow_le (hr j y xs e1 e2).1 h1, fun q e => Nat.lt_of_lt_of_le ((hr j y xs e1 e2).2 q e) h2⟩, hd, hv⟩
theorem OII.keep {w w' : World} {lo hi : Nat} {v : Value} {xss : List (List Int)} (h : OII w lo hi v xss) (hh : hi ≤ w.heap.size) (k : Bel w w') : OII w' lo hi v xss := by
  obtain ⟨us, hl, ho, hq, hr, hd, hv⟩ := h
  have hu : ∀ i, lo ≤ i → i < hi → w'.heap[i]? = w.heap[i]? := fun i _ h2 => Below.block k i (Nat.lt_of_lt_of_le h2 hh)
  exact ⟨us, hl, ownsRow_loc ho hq hu, hq, fun j y xs h1 h2 => ⟨ownsRow_loc (hr j y xs h1 h2).1 (hr j y xs h1 h2).2 hu, (hr j y xs h1 h2).2⟩, hd, hv⟩

def szM (xss : List (List Int)) : Nat := xss.length + xss.flatten.length
theorem szM_ge (xss : List (List Int)) (k : Nat) : xss.length + sumL xss k ≤ szM xss := by have := sumL_le xss k; unfold szM; omega
theorem szM_eq (xss : List (List Int)) : szM xss = xss.length + sumL xss xss.length := by unfold szM sumL; simp
theorem sumL_all (xss : List (List Int)) : sumL xss xss.length = xss.flatten.length := by simp [sumL]
theorem len_le_flat {xss : List (List Int)} {k : Nat} {xs : List Int} (h : xss[k]? = some xs) : xs.length ≤ xss.flatten.length := by
  have h1 := sumL_step h
  have h2 := sumL_le xss (k + 1)
  omega

set_option maxHeartbeats 1000000 in
theorem szII_ok (v : Value) (xss : List (List Int)) (l : Int) (w : World) (hv : RII w v xss) (h0 : (szM xss : Int) ≤ l) (h1 : l ≤ 1048576) :
    Calls Try.prog 57 #[v, .int .i64 l] w fun e w' => e = .returned (.int .i64 (l - szM xss)) ∧ w = w' := by
  obtain ⟨A, c, rfl, h2, h3, hA⟩ := hv
  have hz0 := szM_ge xss 0
  have hd : decide (l - (xss.length : Int) < 0) = false := decide_eq_false (by omega)
  go_enter Try.func57, Try.ntmps57
  go_wp2
  go_loopg [1, 5] xss.length (fun f q i wr => ∃ k : Nat, k + f = xss.length ∧ i = .int .i64 k ∧ q = .int .i64 (l - xss.length - sumL xss k) ∧ w = wr)
  case atStart => exact ⟨0, by omega, rfl, by simp [sumL], rfl⟩
  case round =>
    obtain ⟨k, hk, rfl, rfl, rfl⟩ := hrel
    have hk2 : k ≤ xss.length := by omega
    have HK := Lib.hid hk
    clear hk
    have hs := szM_ge xss k
    by_cases hlt : k < xss.length
    · obtain ⟨b1, o1, rfl, _, hc1⟩ := hA (by omega)
      have hx : Hid (xss[k]? = some (xss[k]'hlt)) := List.getElem?_eq_getElem hlt
      obtain ⟨u, g1, hu⟩ := hc1 k _ hx.out
      have hs1 := sumL_step hx.out
      have hs2 := szM_ge xss (k + 1)
      generalize xss[k]'hlt = xs at *
      have HS := Lib.hid hs1
      have hs3 : xss.length + sumL xss k + xs.length ≤ szM xss := by omega
      clear hc1 hA hs1 hs2
      have i0 : (0 : Int) ≤ (k : Int) := by omega
      have i1 : (k : Int) < (xss.length : Int) := by omega
      have hd2 : decide (l - (xss.length : Int) - (sumL xss k : Int) - (xs.length : Int) < 0) = false := decide_eq_false (by omega)
      go_wp2_with fail
      refine (szI_ok u xs _ _ hu (by omega) (by omega)).mono ?_
      rintro e w1 ⟨rfl, rfl⟩
      go_wp2
      go_roundg (xss.length - (k + 1))
      case measure => have := HK.out; omega
      case rel => exact ⟨k + 1, by omega, by go_num, by rw [HS.out]; congr 1; omega, rfl⟩
    · obtain rfl : k = xss.length := by omega
      have i1 : ¬ (xss.length : Int) < (xss.length : Int) := by omega
      have HS := Lib.hid (szM_eq xss)
      go_wp2
      go_ret
      exact ⟨by rw [show l - (xss.length : Int) - (sumL xss xss.length : Int) = l - (szM xss : Int) from by have := HS.out; omega]; rfl, rfl⟩
set_option maxHeartbeats 1000000 in
theorem szII_no (v : Value) (xss : List (List Int)) (l : Int) (w : World) (hv : RII w v xss) (h0 : l < (szM xss : Int)) (h1 : 0 ≤ l) (h4 : l ≤ 1048576) :
    Calls Try.prog 57 #[v, .int .i64 l] w fun e w' => e = .returned (.int .i64 (-1)) ∧ w = w' := by
  obtain ⟨A, c, rfl, h2, h3, hA⟩ := hv
  have hz0 := szM_ge xss 0
  by_cases hb : l - (xss.length : Int) < 0
  · have hd : decide (l - (xss.length : Int) < 0) = true := decide_eq_true hb
    go_enter Try.func57, Try.ntmps57
    go_wp2
    go_ret
    exact ⟨rfl, rfl⟩
  have hd : decide (l - (xss.length : Int) < 0) = false := decide_eq_false hb
  go_enter Try.func57, Try.ntmps57
  go_wp2
  go_loopg [1, 5] xss.length (fun f q i wr => ∃ k : Nat, k + f = xss.length ∧ i = .int .i64 k ∧ q = .int .i64 (l - xss.length - sumL xss k) ∧ 0 ≤ l - xss.length - sumL xss k ∧ w = wr)
  case atStart => exact ⟨0, by omega, rfl, by simp [sumL], by simp [sumL]; omega, rfl⟩
  case round =>
    obtain ⟨k, hk, rfl, rfl, hp, rfl⟩ := hrel
    have hk2 : k ≤ xss.length := by omega
    have HK := Lib.hid hk
    clear hk
    by_cases hlt : k < xss.length
    · obtain ⟨b1, o1, rfl, _, hc1⟩ := hA (by omega)
      have hx : Hid (xss[k]? = some (xss[k]'hlt)) := List.getElem?_eq_getElem hlt
      obtain ⟨u, g1, hu⟩ := hc1 k _ hx.out
      have hs1 := sumL_step hx.out
      generalize xss[k]'hlt = xs at *
      have HS := Lib.hid hs1
      clear hc1 hA hs1
      have i0 : (0 : Int) ≤ (k : Int) := by omega
      have i1 : (k : Int) < (xss.length : Int) := by omega
      by_cases hbb : l - (xss.length : Int) - (sumL xss k : Int) < (xs.length : Int)
      · go_wp2_with fail
        refine (szI_no u xs _ _ hu (by omega) (by omega) (by omega)).mono ?_
        rintro e w1 ⟨rfl, rfl⟩
        go_wp2
        go_ret
        exact ⟨rfl, rfl⟩
      · have hd2 : decide (l - (xss.length : Int) - (sumL xss k : Int) - (xs.length : Int) < 0) = false := decide_eq_false (by omega)
        have HBB := Lib.hid hbb
        clear hbb
        go_wp2_with fail
        refine (szI_ok u xs _ _ hu (by have := HBB.out; omega) (by omega)).mono ?_
        rintro e w1 ⟨rfl, rfl⟩
        go_wp2
        go_roundg (xss.length - (k + 1))
        case measure => have := HK.out; omega
        case rel => exact ⟨k + 1, by omega, by go_num, by rw [HS.out]; congr 1; omega, by rw [HS.out]; have := HBB.out; omega, rfl⟩
    · obtain rfl : k = xss.length := by omega
      have := szM_eq xss
      omega

set_option maxHeartbeats 1000000 in
theorem eqII_same (v u : Value) (xss : List (List Int)) (w : World) (hv : RII w v xss) (hu : RII w u xss) :
    Calls Try.prog 69 #[v, u] w fun e w' => e = .returned (.bool true) ∧ Bel w w' := by
  obtain ⟨A, c, rfl, h1, h2, hA⟩ := hv
  obtain ⟨B, d, rfl, h3, h4, hB⟩ := hu
  go_enter Try.func69, Try.ntmps69
  go_wp2
  go_loopg [5] xss.length (fun f i wr => ∃ k : Nat, k + f = xss.length ∧ i = .int .i64 k ∧ Bel w wr)
  case atStart => exact ⟨0, by omega, rfl, Bel.refl _⟩
  case round =>
    obtain ⟨k, hk, rfl, Y⟩ := hrel
    have hk2 : k ≤ xss.length := by omega
    have HK := Lib.hid hk
    clear hk
    by_cases hlt : k < xss.length
    · obtain ⟨b1, o1, rfl, z1, hc1⟩ := hA (by omega)
      obtain ⟨b2, o2, rfl, z2, hc2⟩ := hB (by omega)
      have hx : Hid (xss[k]? = some (xss[k]'hlt)) := List.getElem?_eq_getElem hlt
      obtain ⟨u1, g1, r1⟩ := hc1 k _ hx.out
      obtain ⟨u2, g2, r2⟩ := hc2 k _ hx.out
      generalize xss[k]'hlt = xs at *
      replace g1 := Y.cell1 z1 g1
      replace g2 := Y.cell1 z2 g2
      have y1 := Nat.lt_of_lt_of_le z1 Y.size
      have y2 := Nat.lt_of_lt_of_le z2 Y.size
      clear hc1 hc2 hA hB
      have i0 : (0 : Int) ≤ (k : Int) := by omega
      have i1 : (k : Int) < (xss.length : Int) := by omega
      go_wp2
      have qq1 := Bw.cell g1 y1
      have qq2 := Bw.cell g2 y2
      refine wp_region_bel (by kernel_rfl) (by kernel_rfl) ?_
      repeat (first | go_big_quiet_step (first | (go_at_call 115; exact belQ (eqInts_same u1 u2 xs _ ((r1.keep Y).keep (Bw.bel _)) ((r2.keep Y).keep (Bw.bel _))))) | quiet_step (first | (go_at_call 115; exact belQ (eqInts_same u1 u2 xs _ ((r1.keep Y).keep (Bw.bel _)) ((r2.keep Y).keep (Bw.bel _))))))
      refine wpQuiet_nil ?_
      rintro _ ⟨⟨w3, hb3⟩, rfl⟩
      clear qq1 qq2
      go_wp2
      go_roundg (xss.length - (k + 1))
      case measure => have := HK.out; omega
      case rel => exact ⟨k + 1, by omega, by go_num, Y.trans hb3⟩
    · obtain rfl : k = xss.length := by omega
      have i1 : ¬ (xss.length : Int) < (xss.length : Int) := by omega
      go_wp2
      go_ret
      exact ⟨rfl, Y⟩
end Go.Proofs.Ytjaagabbbnokdaa
