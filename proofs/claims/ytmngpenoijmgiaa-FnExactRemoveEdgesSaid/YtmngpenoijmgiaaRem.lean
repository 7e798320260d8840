/-
  RemoveEdges: contracts of the program's function and of the reference's. Condition: at most 2^20 edges.
-/
import Derived.Test.YtmngpenoijmgiaaApp3
import Derived.Test.YtmngpenoijmgiaaHas
import Derived.Deep.RegionLaw
namespace Go.Proofs.Ytmngpenoijmgiaa
open Go.ChangeShapes Go.WideShapes Go.ChangeAt Go.RowKit
set_option linter.unusedVariables false
set_option maxRecDepth 100000

def remF (es : List Int) (fs : List Tr) (k : Nat) : Option Tr := if hasB es (k : Int) = true then none else fs[k]?
def remL (es : List Int) (fs : List Tr) : List Tr := colK (remF es fs) fs.length
theorem remL_len (es : List Int) (fs : List Tr) : (remL es fs).length ≤ fs.length := colK_len _ _

set_option maxHeartbeats 1000000 in
theorem remI (s : Int) (v u0 : Value) (fs : List Tr) (es : List Int) (w : World) (hv : RT w v fs) (he : RI w u0 es) (hn : fs.length ≤ 1048576) :
    Calls Try.prog 35 #[.agg #[.int .i64 s, v], u0] w fun e w' => ∃ r, e = .returned (.agg #[.int .i64 s, r]) ∧ OT 125 w' w.heap.size r (remL es fs) ∧ Bel w w' := by
  obtain ⟨A, c, rfl, h1, h2, hA⟩ := hv
  have X0 := ((Blk.new w 42 #[.int .i64 s, .slice A fs.length c]).alloc (.cells #[.int .i64 0, .slice none 0 0] 42)).alloc (.cells #[.int .i64 s, .slice none 0 0] 42)
  have R0 := (Blk.new2 w (.cells #[.int .i64 s, .slice A fs.length c] 42) 42 #[.int .i64 0, .slice none 0 0]).alloc (.cells #[.int .i64 s, .slice none 0 0] 42)
  have G0 := Blk.new3 w (.cells #[.int .i64 s, .slice A fs.length c] 42) (.cells #[.int .i64 0, .slice none 0 0] 42) 42 #[.int .i64 s, .slice none 0 0]
  have Y0 : Bel w (((w.alloc (.cells #[.int .i64 s, .slice A fs.length c] 42)).alloc (.cells #[.int .i64 0, .slice none 0 0] 42)).alloc (.cells #[.int .i64 s, .slice none 0 0] 42)) := (((Bel.refl _).alloc _).alloc _).alloc _
  go_enter Try.func35, Try.ntmps35
  go_wp2
  go_loopg [14] fs.length (fun f i wr => ∃ (k : Nat) (u : Value), k + f = fs.length ∧ i = .int .i64 k ∧ Blk wr w.heap.size 42 #[.int .i64 s, .slice A fs.length c] ∧ Blk wr (w.heap.size + 1) 42 #[.int .i64 0, .slice none 0 0] ∧ Blk wr (w.heap.size + 2) 42 #[.int .i64 s, u] ∧ OT 125 wr (w.heap.size + 3) u (colK (remF es fs) k) ∧ Bel w wr)
  case atStart => exact ⟨0, _, by omega, rfl, X0, R0, G0, OT.nil _ _ _, Y0⟩
  case round =>
    clear X0 R0 G0 Y0
    obtain ⟨k, u, hk, rfl, X, R, G, O, Y⟩ := hrel
    have hk2 : k ≤ fs.length := by omega
    have HK := Lib.hid hk
    clear hk
    have hlen := colK_len (remF es fs) k
    by_cases hlt : k < fs.length
    · obtain ⟨b1, o1, rfl, z1, hc1⟩ := hA (by omega)
      have hx : Hid (fs[k]? = some (fs[k]'hlt)) := List.getElem?_eq_getElem hlt
      obtain ⟨g1, g2, g3⟩ := hc1 k _ hx
      generalize fs[k]'hlt = x at *
      obtain ⟨x, y, z⟩ := x
      dsimp only at *
      replace g1 := Y.cell1 z1 g1
      replace g2 := Y.cell1 z1 g2
      replace g3 := Y.cell1 z1 g3
      clear hc1 hA
      have i0 : (0 : Int) ≤ (k : Int) := by omega
      have i1 : (k : Int) < (fs.length : Int) := by omega
      go_wp2_with fail
      refine (hasI (k : Int) u0 es _ ((he.keep Y).keep ((Bel.refl _).alloc _))).mono ?_
      rintro e w1 ⟨rfl, rfl⟩
      cases hq : hasB es (k : Int)
      · have HF : Hid (colK (remF es fs) (k + 1) = colK (remF es fs) k ++ [(x, y, z)]) := colK_some (by simp [remF, hx.out, hq])
        clear hq
        obtain ⟨cg, fg, zg⟩ := G.facts
        have rg : wr.cell? ⟨w.heap.size + 2, 1, none⟩ = some u := cg 1
        clear cg fg
        go_wp2_with (at_builtin; refine wpList_appEd _ rfl _ _ rfl (w.heap.size + 3) _ _ _ [(x, y, z)] rfl rfl ((O.keep ((Bel.refl _).alloc _)).keep ((Bel.refl _).alloc _)) (RT.oneAt _ _ (x, y, z) _ (by simp)) (by simp; omega) (by have := Y.size; have := G.lt; simp; omega) ?_)
        intro v2 w2 O2 hG
        rw [← HF.out] at O2
        have hne : ∀ q, u.ownBlock = some q → w.heap.size + 3 ≤ q := fun q hq => (O.block q hq).1
        have Y2 : Bel w w2 := ((Y.alloc _).alloc _).grown hG (fun q hq => by have := hne q hq; omega)
        have X2 := ((X.alloc _).alloc _).grown hG (fun e => by have := hne _ e; omega)
        have R2 := ((R.alloc _).alloc _).grown hG (fun e => by have := hne _ e; omega)
        have G2 := ((G.alloc _).alloc _).grown hG (fun e => by have := hne _ e; omega)
        clear rg zg hG hne
        obtain ⟨cg, fg, zg⟩ := G2.facts
        have rg := cg 1
        have fg := fg 1
        simp at rg
        clear cg
        obtain ⟨Av2, cv2, ev2, _, _, _⟩ := O2.reads
        subst ev2
        go_wp2
        go_roundg (fs.length - (k + 1))
        case measure => have := HK.out; omega
        case rel => exact ⟨k + 1, _, by omega, by go_num, X2.far (by dsimp only; omega) _, R2.far (by dsimp only; omega) _, G2.set 1 _, O2.setFar (p := ⟨w.heap.size + 2, 1, none⟩) (by dsimp only; omega) _, Y2.setCell (p := ⟨w.heap.size + 2, 1, none⟩) (by dsimp only; omega) _⟩
      · have HF : Hid (colK (remF es fs) (k + 1) = colK (remF es fs) k) := colK_none (by simp [remF, hq])
        clear hq
        go_wp2
        go_roundg (fs.length - (k + 1))
        case measure => have := HK.out; omega
        case rel => exact ⟨k + 1, _, by omega, by go_num, X.alloc _, R.alloc _, G.alloc _, by rw [HF.out]; exact O.keep ((Bel.refl _).alloc _), Y.alloc _⟩
    · obtain rfl : k = fs.length := by omega
      have i1 : ¬ (fs.length : Int) < (fs.length : Int) := by omega
      obtain ⟨Au, cu, eu, _, _, _⟩ := O.reads
      subst eu
      obtain ⟨cg, fg, zg⟩ := G.facts
      obtain ⟨cr, fr, zr⟩ := R.facts
      go_wp2
      refine bodyPost_ret (v := .agg #[.int .i64 s, .slice Au (colK (remF es fs) fs.length).length cu]) (by simp [results, Try.results35, go_sem, cr]) rfl ⟨_, rfl, ?_, ?_⟩
      · refine OT.low (base := w.heap.size + 3) ?_ (by omega)
        unfold remL
        repeat (first | (with_reducible exact O) | (refine OT.setFar ?_ (by dsimp only; omega) _))
      · repeat (first | (with_reducible exact Y) | (refine Bel.setCell ?_ (by dsimp only; omega) _))
set_option maxHeartbeats 2000000 in
theorem remS (s : Int) (v u0 : Value) (fs : List Tr) (es : List Int) (w : World) (hv : RT w v fs) (he : RI w u0 es) (hn : fs.length ≤ 1048576) :
    Calls Try.prog 33 #[.agg #[.int .i64 s, v], u0] w fun e w' => ∃ r, e = .returned (.agg #[.int .i64 s, r]) ∧ OT 125 w' w.heap.size r (remL es fs) ∧ Bel w w' := by
  obtain ⟨A, c, rfl, h1, h2, hA⟩ := hv
  have X0 := ((Blk.new w 42 #[.int .i64 s, .slice A fs.length c]).alloc (.cells #[.int .i64 0, .slice none 0 0] 42)).alloc (.cells #[.int .i64 s, .slice none 0 0] 42)
  have R0 := (Blk.new2 w (.cells #[.int .i64 s, .slice A fs.length c] 42) 42 #[.int .i64 0, .slice none 0 0]).alloc (.cells #[.int .i64 s, .slice none 0 0] 42)
  have G0 := Blk.new3 w (.cells #[.int .i64 s, .slice A fs.length c] 42) (.cells #[.int .i64 0, .slice none 0 0] 42) 42 #[.int .i64 s, .slice none 0 0]
  have Y0 : Bel w (((w.alloc (.cells #[.int .i64 s, .slice A fs.length c] 42)).alloc (.cells #[.int .i64 0, .slice none 0 0] 42)).alloc (.cells #[.int .i64 s, .slice none 0 0] 42)) := (((Bel.refl _).alloc _).alloc _).alloc _
  go_enter Try.func33, Try.ntmps33
  go_wp2
  go_loopg [6] fs.length (fun f i wr => ∃ (k : Nat) (u : Value), k + f = fs.length ∧ i = .int .i64 k ∧ Blk wr w.heap.size 42 #[.int .i64 s, .slice A fs.length c] ∧ Blk wr (w.heap.size + 1) 42 #[.int .i64 0, .slice none 0 0] ∧ Blk wr (w.heap.size + 2) 42 #[.int .i64 s, u] ∧ OT 125 wr (w.heap.size + 3) u (colK (remF es fs) k) ∧ Bel w wr)
  case atStart => exact ⟨0, _, by omega, rfl, X0, R0, G0, OT.nil _ _ _, Y0⟩
  case round =>
    clear X0 R0 G0 Y0
    obtain ⟨k, u, hk, rfl, X, R, G, O, Y⟩ := hrel
    have hk2 : k ≤ fs.length := by omega
    have HK := Lib.hid hk
    clear hk
    have hlen := colK_len (remF es fs) k
    obtain ⟨cx, _, zx⟩ := X.facts
    have rx : wr.cell? ⟨w.heap.size, 1, none⟩ = some (.slice A fs.length c) := cx 1
    clear cx
    by_cases hlt : k < fs.length
    · obtain ⟨b1, o1, rfl, z1, hc1⟩ := hA (by omega)
      have hx : Hid (fs[k]? = some (fs[k]'hlt)) := List.getElem?_eq_getElem hlt
      obtain ⟨g1, g2, g3⟩ := hc1 k _ hx
      generalize fs[k]'hlt = x at *
      obtain ⟨x, y, z⟩ := x
      dsimp only at *
      replace g1 := Y.cell1 z1 g1
      replace g2 := Y.cell1 z1 g2
      replace g3 := Y.cell1 z1 g3
      clear hc1 hA
      have i0 : (0 : Int) ≤ (k : Int) := by omega
      have i1 : (k : Int) < (fs.length : Int) := by omega
      go_wp2_with fail
      refine (hasS (k : Int) u0 es _ (he.keep Y)).mono ?_
      rintro e w1 ⟨rfl, rfl⟩
      cases hq : hasB es (k : Int)
      · have HF : Hid (colK (remF es fs) (k + 1) = colK (remF es fs) k ++ [(x, y, z)]) := colK_some (by simp [remF, hx.out, hq])
        clear hq
        obtain ⟨cg, fg, zg⟩ := G.facts
        have rg : wr.cell? ⟨w.heap.size + 2, 1, none⟩ = some u := cg 1
        have fg := fg 1
        clear cg
        go_wp2
        have hne : ∀ q, u.ownBlock = some q → w.heap.size + 3 ≤ q := fun q hq => (O.block q hq).1
        have HNE := Lib.hid hne
        clear hne
        have O1 := O.keep (Bel.refl wr).drew
        have G1 := G.drew
        have zz1 := G1.lt
        go_region_law (refine step_appEd _ (by rfl) _ _ (by rfl) (w.heap.size + 3) _ _ (colK (remF es fs) k) [(x, y, z)] (by rfl) (by rfl) (by exact O1.keep ((Bel.refl _).alloc _)) (by exact RT.oneAt _ _ (x, y, z) _ (by simp)) (by simp; omega) (by simp; omega) ?_; intro v2 w2 O2 hG; rw [← HF.out] at O2; have G2 := (G1.alloc (.cells #[.int .i64 x, .int .i64 y, .int .i64 z] 125)).grown hG (fun e => by have := HNE.out _ e; omega); obtain ⟨Av2, cv2, ev2, _, _, _⟩ := O2.reads; subst ev2; have rg2 := G2.facts.1 1; have fg2 := G2.facts.2.1 1)
        all_goals (
          have Y2 : Bel w w2 := (Y.drew.alloc _).grown hG (fun q hq => by have := HNE.out q hq; omega)
          have X2 := (X.drew.alloc _).grown hG (fun e => by have := HNE.out _ e; omega)
          have R2 := (R.drew.alloc _).grown hG (fun e => by have := HNE.out _ e; omega)
          go_wp2
          go_roundg (fs.length - (k + 1))
          case measure => have := HK.out; omega
          case rel => exact ⟨k + 1, _, by omega, by go_num, X2.far (by dsimp only; omega) _, R2.far (by dsimp only; omega) _, G2.set 1 _, O2.setFar (p := ⟨w.heap.size + 2, 1, none⟩) (by dsimp only; omega) _, Y2.setCell (p := ⟨w.heap.size + 2, 1, none⟩) (by dsimp only; omega) _⟩)
      · have HF : Hid (colK (remF es fs) (k + 1) = colK (remF es fs) k) := colK_none (by simp [remF, hq])
        clear hq
        go_wp2
        go_roundg (fs.length - (k + 1))
        case measure => have := HK.out; omega
        case rel => exact ⟨k + 1, _, by omega, by go_num, X, R, G, by rw [HF.out]; exact O, Y⟩
    · obtain rfl : k = fs.length := by omega
      have i1 : ¬ (fs.length : Int) < (fs.length : Int) := by omega
      obtain ⟨Au, cu, eu, _, _, _⟩ := O.reads
      subst eu
      obtain ⟨cg, fg, zg⟩ := G.facts
      obtain ⟨cr, fr, zr⟩ := R.facts
      go_wp2
      refine bodyPost_ret (v := .agg #[.int .i64 s, .slice Au (colK (remF es fs) fs.length).length cu]) (by simp [results, Try.results33, go_sem, cr]) rfl ⟨_, rfl, ?_, ?_⟩
      · refine OT.low (base := w.heap.size + 3) ?_ (by omega)
        unfold remL
        repeat (first | (with_reducible exact O) | (refine OT.setFar ?_ (by dsimp only; omega) _))
      · repeat (first | (with_reducible exact Y) | (refine Bel.setCell ?_ (by dsimp only; omega) _))
end Go.Proofs.Ytmngpenoijmgiaa
