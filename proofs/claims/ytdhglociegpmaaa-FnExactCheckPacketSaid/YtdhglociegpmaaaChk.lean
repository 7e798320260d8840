/-
  CheckPacket: contracts of the program's function and of the reference's. No condition.
-/
import Derived.Test.YtdhglociegpmaaaVh
import Derived.Test.YtdhglociegpmaaaBq
namespace Go.Proofs.Ytdhglociegpmaaa
open Go.ChangeShapes Go.WideShapes Go.ChangeAt Go.RowKit
set_option linter.unusedVariables false
set_option maxRecDepth 100000

def chkZ (a b c d m g : Int) (gs hs co pa : List Int) : Int :=
  if (maniB a b c d m hs && hkB gs && !(d != (gs.length : Int)) && pktB g c d co pa) = false then 1 else if (g != b) = true then 2 else if vhB gs hs co pa = false then 3 else 0
set_option maxHeartbeats 4000000 in
theorem chkI (a b c d m g : Int) (vk vh vc vp : Value) (gs hs co pa : List Int) (w : World) (hk : RI w vk gs) (hh : RI w vh hs) (hc : RI w vc co) (hp : RI w vp pa) :
    Calls Try.prog 62 #[.agg #[vk], .agg #[.int .i64 a, .int .i64 b, .int .i64 c, .int .i64 d, vh, .int .i64 m], .agg #[.int .i64 g, vc, vp]] w fun e w' => e = .returned (.int .i64 (chkZ a b c d m g gs hs co pa)) ∧ Bel w w' := by
  have HM : Hid (chkZ a b c d m g gs hs co pa = if (maniB a b c d m hs && hkB gs && !(d != (gs.length : Int)) && pktB g c d co pa) = false then 1 else if (g != b) = true then 2 else if vhB gs hs co pa = false then 3 else 0) := rfl
  obtain ⟨A0, c0, rfl, _, _, _⟩ := id hk
  obtain ⟨A1, c1, rfl, _, _, _⟩ := id hh
  obtain ⟨A2, c2, rfl, _, _, _⟩ := id hc
  obtain ⟨A3, c3, rfl, _, _, _⟩ := id hp
  have X0 := ((Blk.new w 24 #[.slice A0 gs.length c0]).alloc (.cells #[.int .i64 a, .int .i64 b, .int .i64 c, .int .i64 d, .slice A1 hs.length c1, .int .i64 m] 42)).alloc (.cells #[.int .i64 g, .slice A2 co.length c2, .slice A3 pa.length c3] 50)
  have X1 := (Blk.new2 w (.cells #[.slice A0 gs.length c0] 24) 42 #[.int .i64 a, .int .i64 b, .int .i64 c, .int .i64 d, .slice A1 hs.length c1, .int .i64 m]).alloc (.cells #[.int .i64 g, .slice A2 co.length c2, .slice A3 pa.length c3] 50)
  have X2 := Blk.new3 w (.cells #[.slice A0 gs.length c0] 24) (.cells #[.int .i64 a, .int .i64 b, .int .i64 c, .int .i64 d, .slice A1 hs.length c1, .int .i64 m] 42) 50 #[.int .i64 g, .slice A2 co.length c2, .slice A3 pa.length c3]
  have Y : Bel w (((w.alloc (.cells #[.slice A0 gs.length c0] 24)).alloc (.cells #[.int .i64 a, .int .i64 b, .int .i64 c, .int .i64 d, .slice A1 hs.length c1, .int .i64 m] 42)).alloc (.cells #[.int .i64 g, .slice A2 co.length c2, .slice A3 pa.length c3] 50)) := (((Bel.refl _).alloc _).alloc _).alloc _
  go_enter Try.func62, Try.ntmps62
  go_wp2_with fail
  refine (maniI a b c d m _ hs _ (hh.keep Y)).mono ?_
  rintro e w1 ⟨rfl, hb1⟩
  have X0_1 := hb1.keep X0
  have X1_1 := hb1.keep X1
  have X2_1 := hb1.keep X2
  have Y1 := Y.trans hb1
  obtain ⟨cx0, _, _⟩ := X0_1.facts
  obtain ⟨cx1, _, _⟩ := X1_1.facts
  obtain ⟨cx2, _, _⟩ := X2_1.facts
  clear hb1
  cases q1 : maniB a b c d m hs
  · rw [q1] at HM
    go_wp2
    go_ret
    exact ⟨by rw [HM.out]; rfl, Y1⟩
  rw [q1] at HM
  clear q1
  go_wp2_with fail
  refine (hkI _ gs _ (hk.keep Y1)).mono ?_
  rintro e w2 ⟨rfl, hb2⟩
  have X0_2 := hb2.keep X0_1
  have X1_2 := hb2.keep X1_1
  have X2_2 := hb2.keep X2_1
  have Y2 := Y1.trans hb2
  clear cx0 cx1 cx2
  obtain ⟨cx0, _, _⟩ := X0_2.facts
  obtain ⟨cx1, _, _⟩ := X1_2.facts
  obtain ⟨cx2, _, _⟩ := X2_2.facts
  clear hb2
  cases q2 : hkB gs
  · rw [q2] at HM
    go_wp2
    go_ret
    exact ⟨by rw [HM.out]; rfl, Y2⟩
  rw [q2] at HM
  clear q2
  cases q3 : (d != (gs.length : Int))
  case true =>
    rw [q3] at HM
    go_wp2
    go_ret
    exact ⟨by rw [HM.out]; rfl, Y2⟩
  rw [q3] at HM
  go_wp2_with fail
  refine (pktI g c d _ _ co pa _ (hc.keep Y2) (hp.keep Y2)).mono ?_
  rintro e w3 ⟨rfl, hb3⟩
  have X0_3 := hb3.keep X0_2
  have X1_3 := hb3.keep X1_2
  have X2_3 := hb3.keep X2_2
  have Y3 := Y2.trans hb3
  clear cx0 cx1 cx2
  obtain ⟨cx0, _, _⟩ := X0_3.facts
  obtain ⟨cx1, _, _⟩ := X1_3.facts
  obtain ⟨cx2, _, _⟩ := X2_3.facts
  clear hb3
  clear q3
  cases q4 : pktB g c d co pa
  · rw [q4] at HM
    go_wp2
    go_ret
    exact ⟨by rw [HM.out]; rfl, Y3⟩
  rw [q4] at HM
  clear q4
  cases q5 : (g != b)
  case true =>
    rw [q5] at HM
    go_wp2
    go_ret
    exact ⟨by rw [HM.out]; rfl, Y3⟩
  rw [q5] at HM
  go_wp2_with fail
  refine (vhI g _ _ _ _ gs hs co pa _ (hk.keep Y3) (hh.keep Y3) (hc.keep Y3) (hp.keep Y3)).mono ?_
  rintro e w4 ⟨rfl, hb4⟩
  cases q6 : vhB gs hs co pa
  · rw [q6] at HM
    go_wp2
    go_ret
    exact ⟨by rw [HM.out]; rfl, Y3.trans hb4⟩
  · rw [q6] at HM
    go_wp2
    go_ret
    exact ⟨by rw [HM.out]; rfl, Y3.trans hb4⟩
set_option maxHeartbeats 4000000 in
theorem chkS (a b c d m g : Int) (vk vh vc vp : Value) (gs hs co pa : List Int) (w : World) (hk : RI w vk gs) (hh : RI w vh hs) (hc : RI w vc co) (hp : RI w vp pa) :
    Calls Try.prog 61 #[.agg #[vk], .agg #[.int .i64 a, .int .i64 b, .int .i64 c, .int .i64 d, vh, .int .i64 m], .agg #[.int .i64 g, vc, vp]] w fun e w' => e = .returned (.int .i64 (chkZ a b c d m g gs hs co pa)) ∧ Bel w w' := by
  have HM : Hid (chkZ a b c d m g gs hs co pa = if (maniB a b c d m hs && hkB gs && !(d != (gs.length : Int)) && pktB g c d co pa) = false then 1 else if (g != b) = true then 2 else if vhB gs hs co pa = false then 3 else 0) := rfl
  obtain ⟨A0, c0, rfl, _, _, _⟩ := id hk
  obtain ⟨A1, c1, rfl, _, _, _⟩ := id hh
  obtain ⟨A2, c2, rfl, _, _, _⟩ := id hc
  obtain ⟨A3, c3, rfl, _, _, _⟩ := id hp
  have X0 := ((Blk.new w 24 #[.slice A0 gs.length c0]).alloc (.cells #[.int .i64 a, .int .i64 b, .int .i64 c, .int .i64 d, .slice A1 hs.length c1, .int .i64 m] 42)).alloc (.cells #[.int .i64 g, .slice A2 co.length c2, .slice A3 pa.length c3] 50)
  have X1 := (Blk.new2 w (.cells #[.slice A0 gs.length c0] 24) 42 #[.int .i64 a, .int .i64 b, .int .i64 c, .int .i64 d, .slice A1 hs.length c1, .int .i64 m]).alloc (.cells #[.int .i64 g, .slice A2 co.length c2, .slice A3 pa.length c3] 50)
  have X2 := Blk.new3 w (.cells #[.slice A0 gs.length c0] 24) (.cells #[.int .i64 a, .int .i64 b, .int .i64 c, .int .i64 d, .slice A1 hs.length c1, .int .i64 m] 42) 50 #[.int .i64 g, .slice A2 co.length c2, .slice A3 pa.length c3]
  have Y : Bel w (((w.alloc (.cells #[.slice A0 gs.length c0] 24)).alloc (.cells #[.int .i64 a, .int .i64 b, .int .i64 c, .int .i64 d, .slice A1 hs.length c1, .int .i64 m] 42)).alloc (.cells #[.int .i64 g, .slice A2 co.length c2, .slice A3 pa.length c3] 50)) := (((Bel.refl _).alloc _).alloc _).alloc _
  go_enter Try.func61, Try.ntmps61
  go_wp2_with fail
  refine (maniS a b c d m _ hs _ (hh.keep Y)).mono ?_
  rintro e w1 ⟨rfl, hb1⟩
  have X0_1 := hb1.keep X0
  have X1_1 := hb1.keep X1
  have X2_1 := hb1.keep X2
  have Y1 := Y.trans hb1
  obtain ⟨cx0, _, _⟩ := X0_1.facts
  obtain ⟨cx1, _, _⟩ := X1_1.facts
  obtain ⟨cx2, _, _⟩ := X2_1.facts
  clear hb1
  cases q1 : maniB a b c d m hs
  · rw [q1] at HM
    go_wp2
    go_ret
    exact ⟨by rw [HM.out]; rfl, Y1⟩
  rw [q1] at HM
  clear q1
  go_wp2_with fail
  refine (hkS _ gs _ (hk.keep Y1)).mono ?_
  rintro e w2 ⟨rfl, hb2⟩
  have X0_2 := hb2.keep X0_1
  have X1_2 := hb2.keep X1_1
  have X2_2 := hb2.keep X2_1
  have Y2 := Y1.trans hb2
  clear cx0 cx1 cx2
  obtain ⟨cx0, _, _⟩ := X0_2.facts
  obtain ⟨cx1, _, _⟩ := X1_2.facts
  obtain ⟨cx2, _, _⟩ := X2_2.facts
  clear hb2
  cases q2 : hkB gs
  · rw [q2] at HM
    go_wp2
    go_ret
    exact ⟨by rw [HM.out]; rfl, Y2⟩
  rw [q2] at HM
  clear q2
  cases q3 : (d != (gs.length : Int))
  case true =>
    rw [q3] at HM
    go_wp2
    go_ret
    exact ⟨by rw [HM.out]; rfl, Y2⟩
  rw [q3] at HM
  go_wp2_with fail
  refine (pktS g c d _ _ co pa _ (hc.keep Y2) (hp.keep Y2)).mono ?_
  rintro e w3 ⟨rfl, hb3⟩
  have X0_3 := hb3.keep X0_2
  have X1_3 := hb3.keep X1_2
  have X2_3 := hb3.keep X2_2
  have Y3 := Y2.trans hb3
  clear cx0 cx1 cx2
  obtain ⟨cx0, _, _⟩ := X0_3.facts
  obtain ⟨cx1, _, _⟩ := X1_3.facts
  obtain ⟨cx2, _, _⟩ := X2_3.facts
  clear hb3
  clear q3
  cases q4 : pktB g c d co pa
  · rw [q4] at HM
    go_wp2
    go_ret
    exact ⟨by rw [HM.out]; rfl, Y3⟩
  rw [q4] at HM
  clear q4
  cases q5 : (g != b)
  case true =>
    rw [q5] at HM
    go_wp2
    go_ret
    exact ⟨by rw [HM.out]; rfl, Y3⟩
  rw [q5] at HM
  go_wp2_with fail
  refine (vhS g _ _ _ _ gs hs co pa _ (hk.keep Y3) (hh.keep Y3) (hc.keep Y3) (hp.keep Y3)).mono ?_
  rintro e w4 ⟨rfl, hb4⟩
  cases q6 : vhB gs hs co pa
  · rw [q6] at HM
    go_wp2
    go_ret
    exact ⟨by rw [HM.out]; rfl, Y3.trans hb4⟩
  · rw [q6] at HM
    go_wp2
    go_ret
    exact ⟨by rw [HM.out]; rfl, Y3.trans hb4⟩
end Go.Proofs.Ytdhglociegpmaaa
