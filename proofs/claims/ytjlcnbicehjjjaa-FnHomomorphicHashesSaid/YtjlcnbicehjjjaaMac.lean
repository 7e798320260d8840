/-
  Contracts of KeyedHash and ManifestMAC, of the program and of the reference. Condition: at most 2^21 numbers.
-/
import Derived.Test.YtjlcnbicehjjjaaHsh
namespace Go.Proofs.Ytjlcnbicehjjjaa
open Go.ChangeShapes Go.WideShapes Go.ChangeAt Go.RowKit
set_option linter.unusedVariables false
set_option maxRecDepth 100000

abbrev In64s (xs : List Int) : Prop := ∀ x ∈ xs, -9223372036854775808 ≤ x ∧ x ≤ 9223372036854775807
theorem RI.one {w : World} {g : Nat} {x : Int} (h : Blk w g 3 #[.int .i64 x]) : RI w (.slice (some ⟨g, 0, none⟩) 1 1) [x] :=
  ⟨some ⟨g, 0, none⟩, 1, rfl, Nat.le_refl _, by omega, fun _ => ⟨g, 0, rfl, h.lt, fun j y hj => by
    have hj0 : j = 0 := by
      have := (List.getElem?_eq_some_iff.1 hj).1
      simp at this
      exact this
    subst hj0
    simp at hj
    subst hj
    exact h.facts.1 0⟩⟩
/-- A block that holds just these numbers. -/
theorem OI.lit {w : World} {base g : Nat} {xs : List Int} (h : Blk w g 3 ((xs.map (Value.int .i64)).toArray)) (hb : base ≤ g) (hn : xs.length ≤ 1099511627776) : OI w base (.slice (some ⟨g, 0, none⟩) xs.length xs.length) xs :=
  ⟨by simp, .inr ⟨g, xs.length, _, rfl, hb, h, Nat.le_refl _, by unfold maxLen; omega, by simp, by rw [Nat.mul_one]; exact List.take_of_length_le (by simp)⟩⟩
theorem RII.of {w : World} {g n : Nat} {cs : Array Value} {T : TypeId} {xss : List (List Int)} (h : Blk w g T cs) (hn : n = xss.length) (hc : n ≤ 9223372036854775807) (hr : ∀ (j : Nat) (xs : List Int), xss[j]? = some xs → ∃ u, cs[j]? = some u ∧ RI w u xs) : RII w (.slice (some ⟨g, 0, none⟩) n n) xss := by
  subst hn
  refine ⟨some ⟨g, 0, none⟩, xss.length, rfl, Nat.le_refl _, hc, fun _ => ⟨g, 0, rfl, h.lt, fun j xs hj => ?_⟩⟩
  obtain ⟨u, hu, hr⟩ := hr j xs hj
  exact ⟨u, by rw [Nat.zero_add, h.facts.1]; exact hu, hr⟩

def khZ (key : Int) (xs : List Int) : Int := hsh ([key] ++ xs ++ [key])
set_option maxHeartbeats 1000000 in
theorem khI (key : Int) (v : Value) (xs : List Int) (w : World) (hv : RI w v xs) (hn : xs.length ≤ 2097152) (hk : -9223372036854775808 ≤ key ∧ key ≤ 9223372036854775807) (hb : In64s xs) :
    Calls Try.prog 99 #[.int .i64 key, v] w fun e w' => e = .returned (.int .i64 (khZ key xs)) ∧ Bel w w' := by
  obtain ⟨A, c, rfl, _, _, _⟩ := id hv
  have HB := Lib.hid hb
  clear hb
  have X1 := ((Blk.new w 3 #[.int .i64 key]).alloc (.cells #[.int .i64 key] 3)).alloc (.cells #[.slice (some ⟨w.heap.size, 0, none⟩) 1 1, .slice A xs.length c, .slice (some ⟨w.heap.size + 1, 0, none⟩) 1 1] 22)
  have X2 := (Blk.new2 w (.cells #[.int .i64 key] 3) 3 #[.int .i64 key]).alloc (.cells #[.slice (some ⟨w.heap.size, 0, none⟩) 1 1, .slice A xs.length c, .slice (some ⟨w.heap.size + 1, 0, none⟩) 1 1] 22)
  have X3 := Blk.new3 w (.cells #[.int .i64 key] 3) (.cells #[.int .i64 key] 3) 22 #[.slice (some ⟨w.heap.size, 0, none⟩) 1 1, .slice A xs.length c, .slice (some ⟨w.heap.size + 1, 0, none⟩) 1 1]
  have Y : Bel w (((w.alloc (.cells #[.int .i64 key] 3)).alloc (.cells #[.int .i64 key] 3)).alloc (.cells #[.slice (some ⟨w.heap.size, 0, none⟩) 1 1, .slice A xs.length c, .slice (some ⟨w.heap.size + 1, 0, none⟩) 1 1] 22)) := (((Bel.refl _).alloc _).alloc _).alloc _
  have HV := Lib.hid (hv.keep Y)
  go_enter Try.func99, Try.ntmps99
  go_wp2_with fail
  refine (concatI _ [[key], xs, [key]] _ ?_ (by simp; omega)).mono ?_
  · refine RII.of X3 rfl (by omega) ?_
    intro j ys hj
    match j with
    | 0 => simp at hj; subst hj; exact ⟨_, rfl, RI.one X1⟩
    | 1 => simp at hj; subst hj; exact ⟨_, rfl, HV.out⟩
    | 2 => simp at hj; subst hj; exact ⟨_, rfl, RI.one X2⟩
    | j + 3 => simp at hj
  · rintro e w1 ⟨v1, rfl, O1, hb1⟩
    have e1 : ([[key], xs, [key]] : List (List Int)).flatten = [key] ++ xs ++ [key] := by simp
    rw [e1] at O1
    clear X1 X2 X3 e1
    go_wp2_with fail
    refine (hash1I v1 _ _ O1.reads ?_).mono ?_
    · intro x hx
      have hb := HB.out
      simp at hx
      rcases hx with rfl | hx | rfl
      · exact hk
      · exact hb x hx
      · exact hk
    · rintro e w2 ⟨rfl, rfl⟩
      go_wp2
      go_ret
      exact ⟨rfl, Y.trans hb1⟩
set_option maxHeartbeats 1000000 in
theorem khS (key : Int) (v : Value) (xs : List Int) (w : World) (hv : RI w v xs) (hn : xs.length ≤ 2097152) (hk : -9223372036854775808 ≤ key ∧ key ≤ 9223372036854775807) (hb : In64s xs) :
    Calls Try.prog 96 #[.int .i64 key, v] w fun e w' => e = .returned (.int .i64 (khZ key xs)) ∧ Bel w w' := by
  have HB := Lib.hid hb
  clear hb
  have O0 : OI (w.alloc (.cells #[.int .i64 key] 3)) w.heap.size (.slice (some ⟨w.heap.size, 0, none⟩) 1 1) [key] := OI.lit (xs := [key]) (Blk.new w _ _) (Nat.le_refl _) (by simp)
  have Y0 : Bel w (w.alloc (.cells #[.int .i64 key] 3)) := (Bel.refl _).alloc _
  have HV := Lib.hid (hv.keep Y0)
  go_enter Try.func96, Try.ntmps96
  go_wp2_with (first
    | (at_builtin
       refine wpList_appI _ rfl (.tmp 6) (.tmp 7) rfl w.heap.size _ _ _ _ rfl rfl O0 HV.out (by simp; omega) (by simp) ?_
       intro v1 w1 O1 hG1
       have Y1 : Bel w w1 := Y0.grown hG1 (fun q hq => (O0.block q hq).1)
       have s1 := Y1.size
       clear hG1 O0 Y0 HV
       have R2 : RI (w1.alloc (.cells #[.int .i64 key] 3)) (.slice (some ⟨w1.heap.size, 0, none⟩) 1 1) [key] := RI.one (Blk.new w1 _ _)
       have O2 := O1.keep ((Bel.refl _).alloc (.cells #[.int .i64 key] 3))
       have Y2 := Y1.alloc (.cells #[.int .i64 key] 3))
    | (at_builtin
       refine wpList_appI _ rfl (.tmp 8) (.tmp 10) rfl w.heap.size _ _ _ _ rfl rfl O2 R2 (by simp; omega) (by simp; omega) ?_
       intro v3 w3 O3 hG3
       have Y3 : Bel w w3 := Y2.grown hG3 (fun q hq => (O2.block q hq).1)
       clear hG3 O2 R2)
    | fail)
  refine (hash1S v3 _ _ O3.reads ?_).mono ?_
  · intro x hx
    have hb := HB.out
    simp at hx
    rcases hx with rfl | hx | rfl
    · exact hk
    · exact hb x hx
    · exact hk
  · rintro e w4 ⟨rfl, rfl⟩
    go_wp2
    go_ret
    exact ⟨rfl, Y3⟩
end Go.Proofs.Ytjlcnbicehjjjaa
