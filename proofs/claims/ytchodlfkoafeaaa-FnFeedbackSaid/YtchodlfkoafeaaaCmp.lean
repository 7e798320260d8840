/-
  Orders: contracts of compareFeedback and compareEdges, of the reference's l17Less and l21Less. No condition.
-/
import Derived.Test.YtchodlfkoafeaaaIdx
namespace Go.Proofs.Ytchodlfkoafeaaa
open Go.ChangeShapes Go.WideShapes Go.ChangeAt Go.RowKit
set_option linter.unusedVariables false
set_option maxRecDepth 100000

def lessFb (f g : Tr) : Bool := decide (f.2.1 < g.2.1 ∨ f.2.1 = g.2.1 ∧ f.1 < g.1)
def compFb (f g : Tr) : Int := orZ (cmpZ f.2.1 g.2.1) (cmpZ f.1 g.1)
theorem compFb_neg (f g : Tr) : decide (0 ≤ compFb f g) = !(lessFb f g) := by
  unfold compFb lessFb orZ cmpZ
  by_cases h1 : f.2.1 < g.2.1
  · simp [h1]
  · by_cases h2 : g.2.1 < f.2.1
    · simp [h1, h2]; omega
    · by_cases h3 : f.1 < g.1
      · simp [h1, h2, h3]; omega
      · by_cases h4 : g.1 < f.1 <;> simp [h1, h2, h3, h4] <;> omega
set_option maxHeartbeats 2000000 in
theorem compFbI (f g : Tr) (w : World) : Calls Try.prog 62 #[.agg #[.int .i64 f.1, .int .i64 f.2.1, .int .i64 f.2.2], .agg #[.int .i64 g.1, .int .i64 g.2.1, .int .i64 g.2.2]] w fun e w' => e = .returned (.int .i64 (compFb f g)) ∧ Bel w w' := by
  obtain ⟨x1, y1, z1⟩ := f
  obtain ⟨x2, y2, z2⟩ := g
  dsimp only
  have HR : Hid (compFb (x1, y1, z1) (x2, y2, z2) = orZ (cmpZ y1 y2) (cmpZ x1 x2)) := rfl
  have X1 := (Blk.new w 43 #[.int .i64 x1, .int .i64 y1, .int .i64 z1]).alloc (.cells #[.int .i64 x2, .int .i64 y2, .int .i64 z2] 43)
  have X2 := Blk.new2 w (.cells #[.int .i64 x1, .int .i64 y1, .int .i64 z1] 43) 43 #[.int .i64 x2, .int .i64 y2, .int .i64 z2]
  have Y : Bel w ((w.alloc (.cells #[.int .i64 x1, .int .i64 y1, .int .i64 z1] 43)).alloc (.cells #[.int .i64 x2, .int .i64 y2, .int .i64 z2] 43)) := ((Bel.refl _).alloc _).alloc _
  go_enter Try.func62, Try.ntmps62
  go_wp2
  generalize (w.alloc (.cells #[.int .i64 x1, .int .i64 y1, .int .i64 z1] 43)).alloc (.cells #[.int .i64 x2, .int .i64 y2, .int .i64 z2] 43) = w0 at *
  obtain ⟨c1, _, l1⟩ := X1.facts
  obtain ⟨c2, _, l2⟩ := X2.facts
  have a0 : w0.cell? ⟨w.heap.size, 1, none⟩ = some (.int .i64 y1) := c1 1
  have a1 : w0.cell? ⟨w.heap.size, 0, none⟩ = some (.int .i64 x1) := c1 0
  have b0 : w0.cell? ⟨w.heap.size + 1, 1, none⟩ = some (.int .i64 y2) := c2 1
  have b1 : w0.cell? ⟨w.heap.size + 1, 0, none⟩ = some (.int .i64 x2) := c2 0
  clear c1 c2 X1 X2
  have n1 : w0.heap.size ≠ w.heap.size := by omega
  have n2 : w0.heap.size ≠ w.heap.size + 1 := by omega
  have n3 : w.heap.size ≠ w0.heap.size := by omega
  have n4 : w.heap.size + 1 ≠ w0.heap.size := by omega
  go_region_held3 (fun w' => w'.cell? ⟨w.heap.size, 1, none⟩ = some (.int .i64 y1) ∧ w'.cell? ⟨w.heap.size, 0, none⟩ = some (.int .i64 x1) ∧ w'.cell? ⟨w.heap.size + 1, 1, none⟩ = some (.int .i64 y2) ∧ w'.cell? ⟨w.heap.size + 1, 0, none⟩ = some (.int .i64 x2))
    (first | go_keep)
    (first | (go_at_call 80; ((with_reducible refine (cmpC _ _ _).mono ?_); rintro e w' ⟨rfl, rfl⟩)) | (go_at_call 79; ((with_reducible refine (orC _ _ _ _ (by first | exact Blk.new _ _ _ | exact (Blk.new _ _ _).drew)).mono ?_); rintro e w' ⟨rfl, rfl⟩)))
  go_wp2
  go_ret
  exact ⟨by rw [HR.out]; rfl, by repeat (first | (with_reducible exact Y) | apply Bel.drew | apply Bel.drewN | apply Bel.alloc)⟩
end Go.Proofs.Ytchodlfkoafeaaa
