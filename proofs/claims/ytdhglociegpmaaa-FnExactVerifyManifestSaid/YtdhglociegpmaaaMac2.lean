/-
  Contracts of ManifestMAC, of the program and of the reference. Condition: at most 2^20 hashes.
-/
import Derived.Test.YtdhglociegpmaaaMac
namespace Go.Proofs.Ytdhglociegpmaaa
open Go.ChangeShapes Go.WideShapes Go.ChangeAt Go.RowKit
set_option linter.unusedVariables false
set_option maxRecDepth 100000

abbrev I64' (x : Int) : Prop := -9223372036854775808 ≤ x ∧ x ≤ 9223372036854775807
def macZ (key a b c d : Int) (xs : List Int) : Int := khZ key ([83, a, b, c, d] ++ xs)
set_option maxHeartbeats 1000000 in
theorem macI (key a b c d m : Int) (v : Value) (xs : List Int) (w : World) (hv : RI w v xs) (hn : xs.length ≤ 1048576) (hk : I64' key) (ha : I64' a) (hb : I64' b) (hc : I64' c) (hd : I64' d) (hx : In64s xs) :
    Calls Try.prog 90 #[.int .i64 key, .agg #[.int .i64 a, .int .i64 b, .int .i64 c, .int .i64 d, v, .int .i64 m]] w fun e w' => e = .returned (.int .i64 (macZ key a b c d xs)) ∧ Bel w w' := by
  obtain ⟨A, cp, rfl, _, _, _⟩ := id hv
  have HX := Lib.hid hx
  have HAB : Hid (I64' a ∧ I64' b ∧ I64' c ∧ I64' d) := ⟨ha, hb, hc, hd⟩
  have HKK := Lib.hid hk
  clear hx ha hb hc hd hk
  have X2 := (Blk.new2 w (.cells #[.int .i64 a, .int .i64 b, .int .i64 c, .int .i64 d, .slice A xs.length cp, .int .i64 m] 42) 3 #[.int .i64 83, .int .i64 a, .int .i64 b, .int .i64 c, .int .i64 d]).alloc (.cells #[.slice (some ⟨w.heap.size + 1, 0, none⟩) 5 5, .slice A xs.length cp] 22)
  have X3 := Blk.new3 w (.cells #[.int .i64 a, .int .i64 b, .int .i64 c, .int .i64 d, .slice A xs.length cp, .int .i64 m] 42) (.cells #[.int .i64 83, .int .i64 a, .int .i64 b, .int .i64 c, .int .i64 d] 3) 22 #[.slice (some ⟨w.heap.size + 1, 0, none⟩) 5 5, .slice A xs.length cp]
  have Y : Bel w (((w.alloc (.cells #[.int .i64 a, .int .i64 b, .int .i64 c, .int .i64 d, .slice A xs.length cp, .int .i64 m] 42)).alloc (.cells #[.int .i64 83, .int .i64 a, .int .i64 b, .int .i64 c, .int .i64 d] 3)).alloc (.cells #[.slice (some ⟨w.heap.size + 1, 0, none⟩) 5 5, .slice A xs.length cp] 22)) := (((Bel.refl _).alloc _).alloc _).alloc _
  have HV := Lib.hid (hv.keep Y)
  go_enter Try.func90, Try.ntmps90
  go_wp2_with fail
  refine (concatI _ [[83, a, b, c, d], xs] _ ?_ (by simp; omega)).mono ?_
  · refine RII.of X3 rfl (by omega) ?_
    intro j ys hj
    match j with
    | 0 => simp at hj; subst hj; exact ⟨_, rfl, (OI.lit (base := 0) (xs := [83, a, b, c, d]) X2 (by omega) (by simp)).reads⟩
    | 1 => simp at hj; subst hj; exact ⟨_, rfl, HV.out⟩
    | j + 2 => simp at hj
  · rintro e w1 ⟨v1, rfl, O1, hb1⟩
    have e1 : ([[83, a, b, c, d], xs] : List (List Int)).flatten = [83, a, b, c, d] ++ xs := by simp
    rw [e1] at O1
    clear X2 X3 e1
    go_wp2_with fail
    refine (khI key v1 _ _ O1.reads (by simp; omega) HKK.out ?_).mono ?_
    · intro x hx2
      have h1 := HX.out
      have h2 := HAB.out
      simp at hx2
      rcases hx2 with rfl | rfl | rfl | rfl | rfl | hx2
      · omega
      · exact h2.1
      · exact h2.2.1
      · exact h2.2.2.1
      · exact h2.2.2.2
      · exact h1 x hx2
    · rintro e w2 ⟨rfl, hb2⟩
      go_wp2
      go_ret
      exact ⟨rfl, (Y.trans hb1).trans hb2⟩
set_option maxHeartbeats 1000000 in
theorem macS (key a b c d m : Int) (v : Value) (xs : List Int) (w : World) (hv : RI w v xs) (hn : xs.length ≤ 1048576) (hk : I64' key) (ha : I64' a) (hb : I64' b) (hc : I64' c) (hd : I64' d) (hx : In64s xs) :
    Calls Try.prog 87 #[.int .i64 key, .agg #[.int .i64 a, .int .i64 b, .int .i64 c, .int .i64 d, v, .int .i64 m]] w fun e w' => e = .returned (.int .i64 (macZ key a b c d xs)) ∧ Bel w w' := by
  obtain ⟨A, cp, rfl, _, _, _⟩ := id hv
  have HX := Lib.hid hx
  have HAB : Hid (I64' a ∧ I64' b ∧ I64' c ∧ I64' d) := ⟨ha, hb, hc, hd⟩
  have HKK := Lib.hid hk
  clear hx ha hb hc hd hk
  have X2 := Blk.new2 w (.cells #[.int .i64 a, .int .i64 b, .int .i64 c, .int .i64 d, .slice A xs.length cp, .int .i64 m] 42) 3 #[.int .i64 83, .int .i64 a, .int .i64 b, .int .i64 c, .int .i64 d]
  have Y : Bel w ((w.alloc (.cells #[.int .i64 a, .int .i64 b, .int .i64 c, .int .i64 d, .slice A xs.length cp, .int .i64 m] 42)).alloc (.cells #[.int .i64 83, .int .i64 a, .int .i64 b, .int .i64 c, .int .i64 d] 3)) := ((Bel.refl _).alloc _).alloc _
  have HV := Lib.hid (hv.keep Y)
  have O0 := OI.lit (base := w.heap.size) (xs := [83, a, b, c, d]) X2 (by omega) (by simp)
  clear X2
  go_enter Try.func87, Try.ntmps87
  go_wp2_with (first
    | (at_builtin
       refine wpList_appI _ rfl _ _ rfl w.heap.size _ _ _ _ rfl rfl O0 HV.out (by simp; omega) (by simp; omega) ?_
       intro v1 w1 O1 hG1
       have Y1 : Bel w w1 := Y.grown hG1 (fun q hq => (O0.block q hq).1)
       clear hG1 O0 Y HV)
    | fail)
  refine (khS key v1 _ _ O1.reads (by simp; omega) HKK.out ?_).mono ?_
  · intro x hx2
    have h1 := HX.out
    have h2 := HAB.out
    simp at hx2
    rcases hx2 with rfl | rfl | rfl | rfl | rfl | hx2
    · omega
    · exact h2.1
    · exact h2.2.1
    · exact h2.2.2.1
    · exact h2.2.2.2
    · exact h1 x hx2
  · rintro e w2 ⟨rfl, hb2⟩
    go_wp2
    go_ret
    exact ⟨rfl, Y1.trans hb2⟩
end Go.Proofs.Ytdhglociegpmaaa
