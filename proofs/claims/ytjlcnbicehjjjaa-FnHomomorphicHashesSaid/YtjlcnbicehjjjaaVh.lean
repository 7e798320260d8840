/-
  VerifyHash, IsValidPacket: contracts of the program's functions and of the reference's. No condition.
-/
import Derived.Test.YtjlcnbicehjjjaaHash2
import Derived.Test.YtjlcnbicehjjjaaMani2
namespace Go.Proofs.Ytjlcnbicehjjjaa
open Go.ChangeShapes Go.WideShapes Go.ChangeAt Go.RowKit
set_option linter.unusedVariables false
set_option maxRecDepth 100000

def vhB (gs hs co pa : List Int) : Bool := (hashZ gs pa != 0) && (hashZ gs pa == combZ hs co)
def pktB (a s d : Int) (co pa : List Int) : Bool := fmtB a s d && ((co.length : Int) == s) && ((pa.length : Int) == d) && vecB co && vecB pa
set_option maxHeartbeats 1000000 in
theorem vhI (a : Int) (v h c p : Value) (gs hs co pa : List Int) (w : World) (hv : RI w v gs) (hh : RI w h hs) (hc : RI w c co) (hp : RI w p pa) :
    Calls Try.prog 34 #[.agg #[v], h, .agg #[.int .i64 a, c, p]] w fun e w' => e = .returned (.bool (vhB gs hs co pa)) ∧ Bel w w' := by
  have HM : Hid (vhB gs hs co pa = ((hashZ gs pa != 0) && (hashZ gs pa == combZ hs co))) := rfl
  have X := Blk.new2 w (.cells #[v] 24) 53 #[.int .i64 a, c, p]
  have Y : Bel w ((w.alloc (.cells #[v] 24)).alloc (.cells #[.int .i64 a, c, p] 53)) := ((Bel.refl _).alloc _).alloc _
  go_enter Try.func34, Try.ntmps34
  go_wp2_with fail
  refine (hashI _ _ gs pa _ (hv.keep Y) (hp.keep Y)).mono ?_
  rintro e w1 ⟨rfl, hb1⟩
  have X1 := hb1.keep X
  have Y1 := Y.trans hb1
  clear X
  obtain ⟨cx, _, _⟩ := X1.facts
  have r1 := cx 1
  simp at r1
  clear cx
  cases q1 : (hashZ gs pa != 0)
  · go_wp2
    go_ret
    exact ⟨by rw [HM.out, q1]; rfl, Y1⟩
  · go_wp2_with fail
    refine (combIB _ _ hs co _ (hh.keep Y1) (hc.keep Y1)).mono ?_
    rintro e w2 ⟨rfl, hb2⟩
    go_wp2
    go_ret
    exact ⟨by rw [HM.out, q1]; rfl, Y1.trans hb2⟩
end Go.Proofs.Ytjlcnbicehjjjaa
