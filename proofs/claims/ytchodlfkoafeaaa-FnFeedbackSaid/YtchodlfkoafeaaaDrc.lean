/-
  Draws: l1New, big, at, l5Vector: weak contracts. Condition: at most 2^20 bytes.
-/
import Derived.Test.YtchodlfkoafeaaaDrb
import Derived.Test.YtchodlfkoafeaaaApp
namespace Go.Proofs.Ytchodlfkoafeaaa
open Go.ChangeShapes Go.WideShapes Go.ChangeAt Go.RowKit Go.Joins Go.Deep
set_option linter.unusedVariables false
set_option maxRecDepth 100000

theorem bigL (v : Value) (n : Nat) (w : World) (hv : RB w v n) :
    Calls Try.prog 20 #[v] w fun e w' => e = .returned (.bool (decide ((1048576 : Int) < (n : Int)))) ∧ w = w' := by
  obtain ⟨A, c, rfl, h2, h3, hA⟩ := hv
  go_enter Try.func20, Try.ntmps20
  go_wp2
  go_ret
  exact ⟨rfl, rfl⟩
set_option maxHeartbeats 400000 in
theorem atL (v : Value) (n i : Nat) (w : World) (hv : RB w v n) (hn : n ≤ 1048576) (hi : i ≤ 1048576) :
    Calls Try.prog 38 #[v, .int .i64 (i : Int)] w fun e w' => ∃ x : Int, e = .returned (.int .i64 x) ∧ (0 ≤ x ∧ x ≤ 255) ∧ w = w' := by
  obtain ⟨A, c, rfl, h2, h3, hA⟩ := hv
  go_enter Try.func38, Try.ntmps38
  by_cases hlt : i < n
  · obtain ⟨b, off, rfl, hb, hcl⟩ := hA (by omega)
    obtain ⟨y, hy, hy2⟩ := hcl i hlt
    have i0 : (0 : Int) ≤ (i : Int) := by omega
    have i1 : (i : Int) < (n : Int) := by omega
    clear hcl hA
    go_wp2
    go_ret
    exact ⟨_, rfl, hy2, rfl⟩
  · have i1 : ¬ (i : Int) < (n : Int) := by omega
    have hb := tmod_bd (a := (i : Int) * 31 + (n : Int) * 7) (n := 256) (by omega) (by omega)
    go_wp2
    go_ret
    exact ⟨_, rfl, by omega, rfl⟩
set_option maxHeartbeats 1000000 in
/-- A new cursor. -/
theorem l1NewS (v : Value) (n : Nat) (w : World) (hv : RB w v n) (hn : n ≤ 1048576) :
    Calls Try.prog 56 #[v] w fun e w' => ∃ cb, e = .returned (.pointer (some ⟨cb, 0, none⟩)) ∧ w.heap.size ≤ cb ∧ Cur w' cb ∧ Bel w w' := by
  have hv0 := Lib.hid hv
  obtain ⟨A, c, rfl, h2, h3, hA⟩ := hv
  go_enter Try.func56, Try.ntmps56
  go_wp2
  go_loopg [3, 4] n (fun f h i wr => ∃ (k : Nat) (x : Int), k + f = n ∧ i = .int .i64 k ∧ h = .int .i64 x ∧ wr = w)
  case atStart => exact ⟨0, _, by omega, rfl, rfl, rfl⟩
  case round =>
    obtain ⟨k, x, hk, rfl, rfl, rfl⟩ := hrel
    have hk2 : k ≤ n := by omega
    have HK := Lib.hid hk
    clear hk
    have hfin : Hid (∀ (A' : Option Addr) (y : Int), (.slice A' n c : Value) = .slice A n c → Cur (wr.alloc (.cells #[.slice A' n c, .int .i64 0, .int .i64 y] 106)) wr.heap.size) := Lib.hid (fun A' y e => by
      injection e with e1 _ _
      subst e1
      refine ⟨A', n, c, 0, y, Blk.new wr _ _, by omega, hn, h2, fun h0 => ?_⟩
      obtain ⟨b, off, hA', hb, hcl⟩ := hA h0
      refine ⟨b, off, hA', hb, fun j hj => ?_⟩
      obtain ⟨z, hz, hz2⟩ := hcl j hj
      exact ⟨z, ((Bel.refl wr).alloc _).cell1 hb hz, hz2⟩)
    by_cases hlt : k < n
    · have i0 : (0 : Int) ≤ (k : Int) := by omega
      have i1 : (k : Int) < (n : Int) := by omega
      by_cases h4 : k < 4000
      · have i2 : (k : Int) < 4000 := by omega
        obtain ⟨b, off, rfl, hb, hcl⟩ := hA (by omega)
        obtain ⟨y, hy, hy2⟩ := hcl k hlt
        clear hcl hA hfin
        go_wp2
        go_roundg (n - (k + 1))
        case measure => have := HK.out; omega
        case rel => exact ⟨k + 1, _, by omega, by go_num, rfl, rfl⟩
      · have i2 : ¬ (k : Int) < 4000 := by omega
        clear hA
        go_wp2
        go_ret
        exact ⟨_, rfl, Nat.le_refl _, hfin.out _ _ rfl, (Bel.refl _).alloc _⟩
    · obtain rfl : k = n := by omega
      have i1 : ¬ (k : Int) < (k : Int) := by omega
      clear hA
      go_wp2
      go_ret
      exact ⟨_, rfl, Nat.le_refl _, hfin.out _ _ rfl, (Bel.refl _).alloc _⟩
/-- A block that holds just these numbers. -/
theorem OI.lits {w : World} {base g : Nat} {xs : List Int} (h : Blk w g 3 ((xs.map (Value.int .i64)).toArray)) (hb : base ≤ g) (hn : xs.length ≤ 1099511627776) : OI w base (.slice (some ⟨g, 0, none⟩) xs.length xs.length) xs :=
  ⟨by simp, .inr ⟨g, xs.length, _, rfl, hb, h, Nat.le_refl _, by unfold maxLen; omega, by simp, by rw [Nat.mul_one]; exact List.take_of_length_le (by simp)⟩⟩
theorem l1LitS (cb : Nat) (xs : List Int) (w : World) (hc : Cur w cb) (h0 : 0 < xs.length) (h1 : xs.length ≤ 1000) :
    Calls Try.prog 76 #[.pointer (some ⟨cb, 0, none⟩), .slice (some ⟨w.heap.size, 0, none⟩) xs.length xs.length] (w.alloc (.cells ((xs.map (Value.int .i64)).toArray) 3)) fun e w' => ∃ x : Int, e = .returned (.int .i64 x) ∧ x ∈ xs ∧ Trn cb w w' := by
  have O := OI.lits (Blk.new w 3 ((xs.map (Value.int .i64)).toArray)) (Nat.le_refl _) (by omega)
  have hl := hc.lt
  refine (l1IntS cb _ xs _ (hc.keep ((Bel.refl _).alloc _)) O.reads h0 h1 (fun w' t => (O.trn t hl).reads)).mono ?_
  rintro e w' ⟨x, he, hx, t⟩
  exact ⟨x, he, hx, (Trn.of hc ((Bel.refl _).alloc _)).trans t⟩
def In1018 (xs : List Int) : Prop := ∀ x ∈ xs, 0 ≤ x ∧ x < 1019
theorem In1018.snoc {xs : List Int} {x : Int} (h : In1018 xs) (hx : 0 ≤ x ∧ x < 1019) : In1018 (xs ++ [x]) := fun y hy => by
  rcases List.mem_append.1 hy with h1 | h1
  · exact h y h1
  · rw [List.mem_singleton.1 h1]; exact hx
end Go.Proofs.Ytchodlfkoafeaaa
