/-
  VerifyManifest, IsValidKey: contracts of the program's functions and of the reference's. Condition: the numbers are int's, at most 2^20 hashes.
-/
import Derived.Test.YtdhglociegpmaaaMac2
import Derived.Test.YtdhglociegpmaaaMani2
import Derived.Test.YtdhglociegpmaaaBq
namespace Go.Proofs.Ytdhglociegpmaaa
open Go.ChangeShapes Go.WideShapes Go.ChangeAt Go.RowKit
set_option linter.unusedVariables false
set_option maxRecDepth 100000

def verB (key a b c d m : Int) (xs : List Int) : Bool := inB key 1 2147483646 && maniB a b c d m xs && (m == macZ key a b c d xs)
theorem keyOkI (k : Int) (w : World) : Calls Try.prog 88 #[.int .i64 k] w fun e w' => e = .returned (.bool (inB k 1 2147483646)) ∧ w = w' := by
  go_enter Try.func88, Try.ntmps88
  go_wp2_with fail
  refine (inRB _ _ _ _).mono ?_
  rintro e w1 ⟨rfl, rfl⟩
  go_wp2
  go_ret
  exact ⟨rfl, rfl⟩
set_option maxHeartbeats 1000000 in
theorem verI (key a b c d m : Int) (v : Value) (xs : List Int) (w : World) (hv : RI w v xs) (hn : xs.length ≤ 1048576) (hk : I64' key) (ha : I64' a) (hb : I64' b) (hc : I64' c) (hd : I64' d) (hx : In64s xs) :
    Calls Try.prog 30 #[.int .i64 key, .agg #[.int .i64 a, .int .i64 b, .int .i64 c, .int .i64 d, v, .int .i64 m]] w fun e w' => e = .returned (.bool (verB key a b c d m xs)) ∧ Bel w w' := by
  have HM : Hid (verB key a b c d m xs = (inB key 1 2147483646 && maniB a b c d m xs && (m == macZ key a b c d xs))) := rfl
  obtain ⟨A, cp, rfl, _, _, _⟩ := id hv
  have X := Blk.new w 42 #[.int .i64 a, .int .i64 b, .int .i64 c, .int .i64 d, .slice A xs.length cp, .int .i64 m]
  have Y : Bel w (w.alloc (.cells #[.int .i64 a, .int .i64 b, .int .i64 c, .int .i64 d, .slice A xs.length cp, .int .i64 m] 42)) := (Bel.refl _).alloc _
  go_enter Try.func30, Try.ntmps30
  go_wp2
  have KC := Lib.hid (fun W => keyOkI key W)
  have MC := Lib.hid (fun W (h : Bel _ W) => maniI a b c d m _ xs W ((hv.keep Y).keep h))
  have ZC := Lib.hid (fun W (h : Bel _ W) => macI key a b c d m _ xs W ((hv.keep Y).keep h) hn hk ha hb hc hd hx)
  generalize w.alloc (.cells #[.int .i64 a, .int .i64 b, .int .i64 c, .int .i64 d, .slice A xs.length cp, .int .i64 m] 42) = w0 at *
  obtain ⟨cx, _, zx⟩ := X.facts
  have qq0 := Bw.cell (cx 0) zx
  have qq1 := Bw.cell (cx 1) zx
  have qq2 := Bw.cell (cx 2) zx
  have qq3 := Bw.cell (cx 3) zx
  have qq4 := Bw.cell (cx 4) zx
  have qq5 := Bw.cell (cx 5) zx
  clear cx X
  clear hk ha hb hc hd hx
  cases q1 : inB key 1 2147483646
  · rw [q1] at KC HM
    refine wp_region_bel (by kernel_rfl) (by kernel_rfl) ?_
    repeat (first | go_big_quiet_step (first | (go_at_call 88; exact belQ_same (KC.out _))) | quiet_step (first | (go_at_call 88; exact belQ_same (KC.out _))))
    refine wpQuiet_nil ?_
    rintro _ ⟨⟨w3, hb3⟩, rfl⟩
    clear qq0 qq1 qq2 qq3 qq4 qq5
    go_wp2
    go_ret
    exact ⟨by rw [HM.out]; rfl, Y.trans hb3⟩
  · rw [q1] at KC HM
    cases q2 : maniB a b c d m xs
    · rw [q2] at MC HM
      refine wp_region_bel (by kernel_rfl) (by kernel_rfl) ?_
      repeat (first | go_big_quiet_step (first | (go_at_call 88; exact belQ_same (KC.out _)) | (go_at_call 89; exact belQ (MC.out _ (Bw.bel _)))) | quiet_step (first | (go_at_call 88; exact belQ_same (KC.out _)) | (go_at_call 89; exact belQ (MC.out _ (Bw.bel _)))))
      refine wpQuiet_nil ?_
      rintro _ ⟨⟨w3, hb3⟩, rfl⟩
      clear qq0 qq1 qq2 qq3 qq4 qq5
      go_wp2
      go_ret
      exact ⟨by rw [HM.out]; rfl, Y.trans hb3⟩
    · rw [q2] at MC HM
      refine wp_region_bel (by kernel_rfl) (by kernel_rfl) ?_
      repeat (first | go_big_quiet_step (first | (go_at_call 88; exact belQ_same (KC.out _)) | (go_at_call 89; exact belQ (MC.out _ (Bw.bel _))) | (go_at_call 90; exact belQ (ZC.out _ (Bw.bel _)))) | quiet_step (first | (go_at_call 88; exact belQ_same (KC.out _)) | (go_at_call 89; exact belQ (MC.out _ (Bw.bel _))) | (go_at_call 90; exact belQ (ZC.out _ (Bw.bel _)))))
      refine wpQuiet_nil ?_
      rintro _ ⟨⟨w3, hb3⟩, rfl⟩
      clear qq0 qq1 qq2 qq3 qq4 qq5
      go_wp2
      go_ret
      exact ⟨by rw [HM.out]; rfl, Y.trans hb3⟩
theorem keyOkS (k : Int) (w : World) : Calls Try.prog 85 #[.int .i64 k] w fun e w' => e = .returned (.bool (inB k 1 2147483646)) ∧ w = w' := by
  go_enter Try.func85, Try.ntmps85
  go_wp2_with fail
  refine (l1InB _ _ _ _).mono ?_
  rintro e w1 ⟨rfl, rfl⟩
  go_wp2
  go_ret
  exact ⟨rfl, rfl⟩
set_option maxHeartbeats 1000000 in
theorem verS (key a b c d m : Int) (v : Value) (xs : List Int) (w : World) (hv : RI w v xs) (hn : xs.length ≤ 1048576) (hk : I64' key) (ha : I64' a) (hb : I64' b) (hc : I64' c) (hd : I64' d) (hx : In64s xs) :
    Calls Try.prog 28 #[.int .i64 key, .agg #[.int .i64 a, .int .i64 b, .int .i64 c, .int .i64 d, v, .int .i64 m]] w fun e w' => e = .returned (.bool (verB key a b c d m xs)) ∧ Bel w w' := by
  have HM : Hid (verB key a b c d m xs = (inB key 1 2147483646 && maniB a b c d m xs && (m == macZ key a b c d xs))) := rfl
  obtain ⟨A, cp, rfl, _, _, _⟩ := id hv
  have X := Blk.new w 42 #[.int .i64 a, .int .i64 b, .int .i64 c, .int .i64 d, .slice A xs.length cp, .int .i64 m]
  have Y : Bel w (w.alloc (.cells #[.int .i64 a, .int .i64 b, .int .i64 c, .int .i64 d, .slice A xs.length cp, .int .i64 m] 42)) := (Bel.refl _).alloc _
  go_enter Try.func28, Try.ntmps28
  go_wp2
  have KC := Lib.hid (fun W => keyOkS key W)
  have MC := Lib.hid (fun W (h : Bel _ W) => maniS a b c d m _ xs W ((hv.keep Y).keep h))
  have ZC := Lib.hid (fun W (h : Bel _ W) => macS key a b c d m _ xs W ((hv.keep Y).keep h) hn hk ha hb hc hd hx)
  generalize w.alloc (.cells #[.int .i64 a, .int .i64 b, .int .i64 c, .int .i64 d, .slice A xs.length cp, .int .i64 m] 42) = w0 at *
  obtain ⟨cx, _, zx⟩ := X.facts
  have qq0 := Bw.cell (cx 0) zx
  have qq1 := Bw.cell (cx 1) zx
  have qq2 := Bw.cell (cx 2) zx
  have qq3 := Bw.cell (cx 3) zx
  have qq4 := Bw.cell (cx 4) zx
  have qq5 := Bw.cell (cx 5) zx
  clear cx X
  clear hk ha hb hc hd hx
  cases q1 : inB key 1 2147483646
  · rw [q1] at KC HM
    refine wp_region_bel (by kernel_rfl) (by kernel_rfl) ?_
    repeat (first | go_big_quiet_step (first | (go_at_call 85; exact belQ_same (KC.out _))) | quiet_step (first | (go_at_call 85; exact belQ_same (KC.out _))))
    refine wpQuiet_nil ?_
    rintro _ ⟨⟨w3, hb3⟩, rfl⟩
    clear qq0 qq1 qq2 qq3 qq4 qq5
    go_wp2
    go_ret
    exact ⟨by rw [HM.out]; rfl, Y.trans hb3⟩
  · rw [q1] at KC HM
    cases q2 : maniB a b c d m xs
    · rw [q2] at MC HM
      refine wp_region_bel (by kernel_rfl) (by kernel_rfl) ?_
      repeat (first | go_big_quiet_step (first | (go_at_call 85; exact belQ_same (KC.out _)) | (go_at_call 86; exact belQ (MC.out _ (Bw.bel _)))) | quiet_step (first | (go_at_call 85; exact belQ_same (KC.out _)) | (go_at_call 86; exact belQ (MC.out _ (Bw.bel _)))))
      refine wpQuiet_nil ?_
      rintro _ ⟨⟨w3, hb3⟩, rfl⟩
      clear qq0 qq1 qq2 qq3 qq4 qq5
      go_wp2
      go_ret
      exact ⟨by rw [HM.out]; rfl, Y.trans hb3⟩
    · rw [q2] at MC HM
      refine wp_region_bel (by kernel_rfl) (by kernel_rfl) ?_
      repeat (first | go_big_quiet_step (first | (go_at_call 85; exact belQ_same (KC.out _)) | (go_at_call 86; exact belQ (MC.out _ (Bw.bel _))) | (go_at_call 87; exact belQ (ZC.out _ (Bw.bel _)))) | quiet_step (first | (go_at_call 85; exact belQ_same (KC.out _)) | (go_at_call 86; exact belQ (MC.out _ (Bw.bel _))) | (go_at_call 87; exact belQ (ZC.out _ (Bw.bel _)))))
      refine wpQuiet_nil ?_
      rintro _ ⟨⟨w3, hb3⟩, rfl⟩
      clear qq0 qq1 qq2 qq3 qq4 qq5
      go_wp2
      go_ret
      exact ⟨by rw [HM.out]; rfl, Y.trans hb3⟩
end Go.Proofs.Ytdhglociegpmaaa
