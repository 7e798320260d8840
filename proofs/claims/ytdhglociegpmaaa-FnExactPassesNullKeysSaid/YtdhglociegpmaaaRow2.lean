/-
  PacketRow: contract of the reference's function. Condition: at most 2^21 numbers.
-/
import Derived.Test.YtdhglociegpmaaaRow1
import Derived.Deep.RegionHeld3
namespace Go.Proofs.Ytdhglociegpmaaa
open Go.ChangeShapes Go.WideShapes Go.ChangeAt Go.RowKit
set_option linter.unusedVariables false
set_option maxRecDepth 100000

set_option maxHeartbeats 1000000 in
theorem rowS (a : Int) (v u : Value) (xs ys : List Int) (w : World) (hv : RI w v xs) (hu : RI w u ys) (hn : xs.length + ys.length ≤ 2097152) :
    Calls Try.prog 101 #[.agg #[.int .i64 a, v, u]] w fun e w' => ∃ r, e = .returned r ∧ OI w' w.heap.size r (xs ++ ys) ∧ Bel w w' := by
  have X := Blk.new w 50 #[.int .i64 a, v, u]
  have Y : Bel w (w.alloc (.cells #[.int .i64 a, v, u] 50)) := (Bel.refl _).alloc _
  go_enter Try.func101, Try.ntmps101
  go_wp2
  generalize w.alloc (.cells #[.int .i64 a, v, u] 50) = w0 at *
  obtain ⟨cx, _, zx⟩ := X.facts
  have r1 : w0.cell? ⟨w.heap.size, 1, none⟩ = some v := cx 1
  have r2 : w0.cell? ⟨w.heap.size, 2, none⟩ = some u := cx 2
  clear cx
  have Ya := Y.alloc (.cells #[] 3)
  have O0 : OI (w0.alloc (.cells #[] 3)) w0.heap.size (.slice (some ⟨w0.heap.size, 0, none⟩) 0 0) [] := OI.lit (xs := []) (Blk.new w0 _ _) (Nat.le_refl _) (by simp)
  have R0 := hv.keep Ya
  have nx : w0.heap.size ≠ w.heap.size := by omega
  have ny : w.heap.size ≠ w0.heap.size := by omega
  have ra1 : (w0.alloc (.cells #[] 3)).cell? ⟨w.heap.size, 1, none⟩ = some v := (World.cell?_alloc_lt w0 _ ⟨w.heap.size, 1, none⟩ zx).trans r1
  have ra2 : (w0.alloc (.cells #[] 3)).cell? ⟨w.heap.size, 2, none⟩ = some u := (World.cell?_alloc_lt w0 _ ⟨w.heap.size, 2, none⟩ zx).trans r2
  have za : w.heap.size < (w0.alloc (.cells #[] 3)).heap.size := by simp; omega
  go_region_held3 (fun w' => w'.cell? ⟨w.heap.size, 1, none⟩ = some v ∧ w'.cell? ⟨w.heap.size, 2, none⟩ = some u)
    (first | exact ⟨(K1 1).trans ra1, (K1 2).trans ra2⟩ | exact ⟨(K2 1).trans ((K1 1).trans ra1), (K2 2).trans ((K1 2).trans ra2)⟩ | go_keep)
    (first
      | (refine step_appI _ (by rfl) _ _ (by rfl) w0.heap.size _ _ [] xs (by rfl) (by rfl) (by exact O0) (by exact R0) (by simp; omega) (by simp) ?_; intro v1 w1 O1 hG1; have K1 := fun o => World.cell?_of_block (a := ⟨w.heap.size, o, none⟩) (hG1.block w.heap.size za (fun e => by have := (O0.block _ e.symm).1; omega)))
      | (refine step_appI _ (by rfl) _ _ (by rfl) w0.heap.size _ _ _ ys (by rfl) (by rfl) (by exact O1) (by exact hu.keep (Ya.drew.grown hG1 (fun q hq => Nat.le_trans Y.size (O0.block q hq).1))) (by simp; omega) (by exact (Nat.le_trans (by simp) hG1.size)) ?_; intro v2 w2 O2 hG2; have K2 := fun o => World.cell?_of_block (a := ⟨w.heap.size, o, none⟩) (hG2.block w.heap.size (Nat.lt_of_lt_of_le za hG1.size) (fun e => by have := (O1.block _ e.symm).1; omega))))
  have Y1 : Bel w w1 := Ya.drew.grown hG1 (fun q hq => Nat.le_trans Y.size (O0.block q hq).1)
  have Y2 : Bel w w2 := Y1.grown hG2 (fun q hq => Nat.le_trans Y.size (O1.block q hq).1)
  go_wp2
  go_ret
  exact ⟨_, rfl, O2.low Y.size, Y2⟩
end Go.Proofs.Ytdhglociegpmaaa
