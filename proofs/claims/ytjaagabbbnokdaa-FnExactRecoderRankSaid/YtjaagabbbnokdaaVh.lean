/-
  VerifyHash, IsValidPacket: contracts of the program's functions and of the reference's. No condition.
-/
import Derived.Test.YtjaagabbbnokdaaHash2
import Derived.Test.YtjaagabbbnokdaaMani2
namespace Go.Proofs.Ytjaagabbbnokdaa
open Go.ChangeShapes Go.WideShapes Go.ChangeAt Go.RowKit
set_option linter.unusedVariables false
set_option maxRecDepth 100000

def vhB (gs hs co pa : List Int) : Bool := (hashZ gs pa != 0) && (hashZ gs pa == combZ hs co)
def pktB (a s d : Int) (co pa : List Int) : Bool := fmtB a s d && ((co.length : Int) == s) && ((pa.length : Int) == d) && vecB co && vecB pa
set_option maxHeartbeats 1000000 in
theorem pktI (a s d : Int) (c p : Value) (co pa : List Int) (w : World) (hc : RI w c co) (hp : RI w p pa) :
    Calls Try.prog 54 #[.agg #[.int .i64 a, c, p], .int .i64 s, .int .i64 d] w fun e w' => e = .returned (.bool (pktB a s d co pa)) ∧ Bel w w' := by
  have HM : Hid (pktB a s d co pa = (fmtB a s d && ((co.length : Int) == s) && ((pa.length : Int) == d) && vecB co && vecB pa)) := rfl
  obtain ⟨A1, c1, rfl, _, _, _⟩ := id hc
  obtain ⟨A2, c2, rfl, _, _, _⟩ := id hp
  have Y : Bel w (w.alloc (.cells #[.int .i64 a, .slice A1 co.length c1, .slice A2 pa.length c2] 63)) := (Bel.refl _).alloc _
  go_enter Try.func54, Try.ntmps54
  go_wp2_with fail
  refine (fmtI _ _ _ _).mono ?_
  rintro e w1 ⟨rfl, rfl⟩
  cases q1 : fmtB a s d
  · go_wp2
    go_ret
    exact ⟨by rw [HM.out, q1]; rfl, Y⟩
  have Q1 := Lib.hid q1
  clear q1
  cases q2 : ((co.length : Int) == s)
  · go_wp2
    go_ret
    exact ⟨by rw [HM.out, Q1.out, q2]; rfl, Y⟩
  cases q3 : ((pa.length : Int) == d)
  · go_wp2
    go_ret
    exact ⟨by rw [HM.out, Q1.out, q2, q3]; rfl, Y⟩
  go_wp2_with fail
  refine (vecI _ co _ (hc.keep Y)).mono ?_
  rintro e w1 ⟨rfl, rfl⟩
  cases q4 : vecB co
  · go_wp2
    go_ret
    exact ⟨by rw [HM.out, Q1.out, q2, q3, q4]; rfl, Y⟩
  go_wp2_with fail
  refine (vecI _ pa _ (hp.keep Y)).mono ?_
  rintro e w1 ⟨rfl, rfl⟩
  go_wp2
  go_ret
  exact ⟨by rw [HM.out, Q1.out, q2, q3, q4]; rfl, Y⟩
set_option maxHeartbeats 1000000 in
theorem pktS (a s d : Int) (c p : Value) (co pa : List Int) (w : World) (hc : RI w c co) (hp : RI w p pa) :
    Calls Try.prog 48 #[.agg #[.int .i64 a, c, p], .int .i64 s, .int .i64 d] w fun e w' => e = .returned (.bool (pktB a s d co pa)) ∧ Bel w w' := by
  have HM : Hid (pktB a s d co pa = (fmtB a s d && ((co.length : Int) == s) && ((pa.length : Int) == d) && vecB co && vecB pa)) := rfl
  obtain ⟨A1, c1, rfl, _, _, _⟩ := id hc
  obtain ⟨A2, c2, rfl, _, _, _⟩ := id hp
  have Y : Bel w (w.alloc (.cells #[.int .i64 a, .slice A1 co.length c1, .slice A2 pa.length c2] 63)) := (Bel.refl _).alloc _
  go_enter Try.func48, Try.ntmps48
  go_wp2_with fail
  refine (l1InB _ _ _ _).mono ?_
  rintro e w1 ⟨rfl, rfl⟩
  cases p1 : inB a 0 1000000000000
  · go_wp2
    go_ret
    exact ⟨by rw [HM.out, fmtB, p1]; rfl, Y⟩
  go_wp2_with fail
  refine (l1InB _ _ _ _).mono ?_
  rintro e w1 ⟨rfl, rfl⟩
  cases p2 : inB s 1 8
  · go_wp2
    go_ret
    exact ⟨by rw [HM.out, fmtB, p1, p2]; rfl, Y⟩
  go_wp2_with fail
  refine (l1InB _ _ _ _).mono ?_
  rintro e w1 ⟨rfl, rfl⟩
  cases p3 : inB d 1 16
  · go_wp2
    go_ret
    exact ⟨by rw [HM.out, fmtB, p1, p2, p3]; rfl, Y⟩
  have q1 : fmtB a s d = true := by rw [fmtB, p1, p2, p3]; rfl
  have Q1 := Lib.hid q1
  clear q1
  cases q2 : ((co.length : Int) == s)
  · go_wp2
    go_ret
    exact ⟨by rw [HM.out, Q1.out, q2]; rfl, Y⟩
  cases q3 : ((pa.length : Int) == d)
  · go_wp2
    go_ret
    exact ⟨by rw [HM.out, Q1.out, q2, q3]; rfl, Y⟩
  go_wp2_with fail
  refine (vecS _ co _ (hc.keep Y)).mono ?_
  rintro e w1 ⟨rfl, rfl⟩
  cases q4 : vecB co
  · go_wp2
    go_ret
    exact ⟨by rw [HM.out, Q1.out, q2, q3, q4]; rfl, Y⟩
  go_wp2_with fail
  refine (vecS _ pa _ (hp.keep Y)).mono ?_
  rintro e w1 ⟨rfl, rfl⟩
  go_wp2
  go_ret
  exact ⟨by rw [HM.out, Q1.out, q2, q3, q4]; rfl, Y⟩
end Go.Proofs.Ytjaagabbbnokdaa
