/-
  Contracts of ActiveGenerations, of the program and of the reference. No condition.
-/
import Derived.Test.YtchodlfkoafeaaaWin3
import Derived.Test.YtchodlfkoafeaaaSl
namespace Go.Proofs.Ytchodlfkoafeaaa
open Go.ChangeShapes Go.WideShapes Go.ChangeAt Go.RowKit
set_option linter.unusedVariables false
set_option maxRecDepth 100000

/-- The active generations among the first k from the base on. -/
def actK (b d : Int) : Nat → List Int
  | 0 => []
  | k + 1 => actK b d k ++ (if (bits .and .i64 (d / 2 ^ k) 1 == 0) = true then [b + (k : Int)] else [])
theorem actK_yes {b d : Int} {k : Nat} (h : (bits .and .i64 (d / 2 ^ k) 1 == 0) = true) : actK b d (k + 1) = actK b d k ++ [b + (k : Int)] := by simp only [actK]; rw [if_pos h]
theorem actK_no {b d : Int} {k : Nat} (h : (bits .and .i64 (d / 2 ^ k) 1 == 0) = false) : actK b d (k + 1) = actK b d k := by simp only [actK]; rw [if_neg (by rw [h]; decide), List.append_nil]
theorem actK_len (b d : Int) (k : Nat) : (actK b d k).length ≤ k := by
  induction k with
  | zero => simp [actK]
  | succ k ih => simp only [actK, List.length_append]; split <;> simp <;> omega
def activeL (b n d t : Int) : List Int := if winB b n d t = true then actK b d (n - b).toNat else []

set_option maxHeartbeats 1000000 in
theorem actI_yes (b n d t : Int) (w : World) (hv : winB b n d t = true) :
    Calls Try.prog 33 #[win b n d t] w fun e w' => ∃ v, e = .returned v ∧ OI w' (w.heap.size + 1) v (actK b d (n - b).toNat) ∧ Bel w w' := by
  obtain ⟨⟨h1, h2, h3, h4, h5, h6⟩, ⟨h7, h8⟩, _⟩ := winB_facts hv
  have h9 : d ≤ 15 := pow_le15 (by omega) h8
  obtain ⟨m, hm⟩ : ∃ m : Nat, (m : Int) = n - b := ⟨(n - b).toNat, by omega⟩
  have hm2 : Hid ((n - b).toNat = m) := by show _ = _; omega
  obtain ⟨i0, hi, hz0, hz1, hz2⟩ := info_parts int_info
  have hmn : b + (m : Int) ≤ n ∧ n ≤ b + (m : Int) := by omega
  clear hm h8
  obtain ⟨m1, m2⟩ := hmn
  go_enter Try.func33, Try.ntmps33
  go_wp2_with fail
  refine (winI_any b n d t _).mono ?_
  rintro e w1 ⟨rfl, hb1⟩
  have B1 := hb1.keep (Blk.new w _ _)
  have hb : Bel w w1 := ((Bel.refl _).alloc _).trans hb1
  obtain ⟨c1, g1, z1⟩ := B1.facts
  have r0 := c1 0
  simp at r0
  rw [hv]
  go_wp2
  clear c1 g1 r0 hb1 hv
  go_loopg [3, 4] m (fun f out g wr => ∃ k : Nat, k + f = m ∧ g = .int .i64 (b + k) ∧ OI wr (w.heap.size + 1) out (actK b d k) ∧ Blk wr w.heap.size 61 #[.int .i64 b, .int .i64 n, .int .i64 d, .int .i64 t] ∧ Bel w wr)
  case atStart => exact ⟨0, by omega, by simp, OI.nil _ _, B1, hb⟩
  case round =>
    clear B1 hb z1
    obtain ⟨k, hk, rfl, hO, B1, hb⟩ := hrel
    obtain ⟨c1, g1, z1⟩ := B1.facts
    have HK := Lib.hid hk
    have hk2 : k ≤ m := by omega
    clear hk
    by_cases hlt : k < m
    · have ek : (b + (k : Int) - b).toNat = k := by omega
      have EK := Lib.hid ek
      clear ek
      have hlt2 : b + (k : Int) < n := by omega
      have hlt3 : decide (b + (k : Int) < n) = true := by simpa using hlt2
      cases hq : (bits .and .i64 (d / 2 ^ k) 1 == 0)
      · have HA := Lib.hid (actK_no (b := b) hq)
        have hq2 : (bits .and .i64 (d / 2 ^ (b + (k : Int) - b).toNat) 1 == 0) = false := by rw [EK.out]; exact hq
        clear hq
        go_wp2
        go_roundg (m - (k + 1))
        case measure => have := HK.out; omega
        case rel => exact ⟨k + 1, by omega, by go_num, by rw [HA.out]; exact hO, B1, hb⟩
      · have HA := Lib.hid (actK_yes (b := b) hq)
        have hq2 : (bits .and .i64 (d / 2 ^ (b + (k : Int) - b).toNat) 1 == 0) = true := by rw [EK.out]; exact hq
        clear hq
        have hlen := actK_len b d k
        go_wp2_with (at_builtin; refine wpList_append_own _ rfl _ _ 55 rfl (w.heap.size + 1) 3 i0 (.int .i64 0) 1 8 Try.underlying55 hi hz0 hz1 hz2 rfl (by decide) _ _ _ rfl (World.ownsRow.alloc hO _) ⟨wr.heap.size, 0, none⟩ 1 1 [.int .i64 (b + k)] rfl rfl ?c1 ?c2 ?c3 ?c4 ?c5 ?_)
        case c1 => exact cell_one_new _ _ _
        case c2 => simp [Value.oneCell']
        case c3 => simp only [maxLen]; omega
        case c4 => omega
        case c5 => simp; omega
        intro v2 w2 hO2 hG _
        have hne : ∀ q, u3.ownBlock = some q → w.heap.size + 1 ≤ q := fun q hq => (hO.block q hq).1
        have B2 := (B1.alloc (.cells #[.int .i64 (b + k)] 3)).grown hG (fun e => by have := hne _ e; omega)
        have hb2 : Bel w w2 := (hb.alloc (.cells #[.int .i64 (b + k)] 3)).grown hG (fun q hq => by have := hne q hq; omega)
        clear hG hne
        go_wp2
        go_roundg (m - (k + 1))
        case measure => have := HK.out; omega
        case rel => exact ⟨k + 1, by omega, by go_num, by rw [HA.out]; exact OI.snoc hO2, B2, hb2⟩
    · have hge : ¬ b + (k : Int) < n := by omega
      have hge2 : decide (b + (k : Int) < n) = false := by simpa using hge
      obtain rfl : k = m := by omega
      go_wp2
      go_ret
      exact ⟨_, rfl, by rw [hm2.out]; exact hO, hb⟩
set_option maxHeartbeats 1000000 in
theorem actI_inv (b n d t : Int) (w : World) (hv : winB b n d t = false) :
    Calls Try.prog 33 #[win b n d t] w fun e w' => ∃ v, e = .returned v ∧ OI w' (w.heap.size + 1) v [] ∧ Bel w w' := by
  go_enter Try.func33, Try.ntmps33
  go_wp2_with fail
  refine (winI_any b n d t _).mono ?_
  rintro e w1 ⟨rfl, hb1⟩
  rw [hv]
  go_wp2
  go_ret
  exact ⟨_, rfl, OI.nil _ _, ((Bel.refl _).alloc _).trans hb1⟩
theorem actI_any (b n d t : Int) (w : World) : Calls Try.prog 33 #[win b n d t] w fun e w' => ∃ v, e = .returned v ∧ OI w' (w.heap.size + 1) v (activeL b n d t) ∧ Bel w w' := by
  unfold activeL
  cases hv : winB b n d t
  · exact actI_inv b n d t w hv
  · exact actI_yes b n d t w hv
theorem activeL_len (b n d t : Int) : (activeL b n d t).length ≤ 4 := by
  unfold activeL
  split
  · rename_i h
    obtain ⟨⟨_, _, _, _, _, _⟩, _, _⟩ := winB_facts h
    have := actK_len b d (n - b).toNat
    omega
  · simp
end Go.Proofs.Ytchodlfkoafeaaa
