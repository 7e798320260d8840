/-
  ForgetGeneration: contracts of the program's function and of the reference's. Condition: at most 2^20 entries.
-/
import Derived.Test.YtchodlfkoafeaaaApp3
import Derived.Deep.RegionLaw
import Derived.StillTailTactics
namespace Go.Proofs.Ytchodlfkoafeaaa
open Go.ChangeShapes Go.WideShapes Go.ChangeAt Go.RowKit
set_option linter.unusedVariables false
set_option maxRecDepth 100000

def fgtF (g : Int) (fs : List Tr) (k : Nat) : Option Tr := match fs[k]? with
  | some f => if g < f.2.1 then some f else none
  | none => none
def fgtL (g : Int) (fs : List Tr) : List Tr := colK (fgtF g fs) fs.length
theorem fgtL_len (g : Int) (fs : List Tr) : (fgtL g fs).length ≤ fs.length := colK_len _ _

set_option maxHeartbeats 1000000 in
theorem fgtI (g : Int) (v : Value) (fs : List Tr) (w : World) (hv : RT w v fs) (hn : fs.length ≤ 1048576) :
    Calls Try.prog 29 #[.agg #[v], .int .i64 g] w fun e w' => ∃ r, e = .returned (.agg #[r]) ∧ OT 43 w' w.heap.size r (fgtL g fs) ∧ Bel w w' := by
  obtain ⟨A, c, rfl, h1, h2, hA⟩ := hv
  have X0 := ((Blk.new w 40 #[.slice A fs.length c]).alloc (.cells #[.slice none 0 0] 40)).alloc (.cells #[.slice none 0 0] 40)
  have R0 := (Blk.new2 w (.cells #[.slice A fs.length c] 40) 40 #[.slice none 0 0]).alloc (.cells #[.slice none 0 0] 40)
  have G0 := Blk.new3 w (.cells #[.slice A fs.length c] 40) (.cells #[.slice none 0 0] 40) 40 #[.slice none 0 0]
  have Y0 : Bel w (((w.alloc (.cells #[.slice A fs.length c] 40)).alloc (.cells #[.slice none 0 0] 40)).alloc (.cells #[.slice none 0 0] 40)) := (((Bel.refl _).alloc _).alloc _).alloc _
  go_enter Try.func29, Try.ntmps29
  go_wp2
  go_loopg [11] fs.length (fun f i wr => ∃ (k : Nat) (u : Value), k + f = fs.length ∧ i = .int .i64 k ∧ Blk wr w.heap.size 40 #[.slice A fs.length c] ∧ Blk wr (w.heap.size + 1) 40 #[.slice none 0 0] ∧ Blk wr (w.heap.size + 2) 40 #[u] ∧ OT 43 wr (w.heap.size + 3) u (colK (fgtF g fs) k) ∧ Bel w wr)
  case atStart => exact ⟨0, _, by omega, rfl, X0, R0, G0, OT.nil _ _ _, Y0⟩
  case round =>
    clear X0 R0 G0 Y0
    obtain ⟨k, u, hk, rfl, X, R, G, O, Y⟩ := hrel
    have hk2 : k ≤ fs.length := by omega
    have HK := Lib.hid hk
    clear hk
    have hlen := colK_len (fgtF g fs) k
    by_cases hlt : k < fs.length
    · obtain ⟨b1, o1, rfl, z1, hc1⟩ := hA (by omega)
      have hx : Hid (fs[k]? = some (fs[k]'hlt)) := List.getElem?_eq_getElem hlt
      obtain ⟨g1, g2, g3⟩ := hc1 k _ hx
      generalize fs[k]'hlt = x at *
      obtain ⟨x, y, z⟩ := x
      dsimp only at *
      replace g1 := Y.cell1 z1 g1
      replace g2 := Y.cell1 z1 g2
      replace g3 := Y.cell1 z1 g3
      clear hc1 hA
      have i0 : (0 : Int) ≤ (k : Int) := by omega
      have i1 : (k : Int) < (fs.length : Int) := by omega
      by_cases hq : g < y
      · have HF : Hid (colK (fgtF g fs) (k + 1) = colK (fgtF g fs) k ++ [(x, y, z)]) := colK_some (by simp [fgtF, hx.out, hq])
        obtain ⟨cg, fg, zg⟩ := G.facts
        have rg : wr.cell? ⟨w.heap.size + 2, 0, none⟩ = some u := cg 0
        clear cg fg
        go_wp2_with (at_builtin; refine wpList_appFb _ rfl _ _ rfl (w.heap.size + 3) _ _ _ [(x, y, z)] rfl rfl ((O.keep ((Bel.refl _).alloc _)).keep ((Bel.refl _).alloc _)) (RT.oneAt _ _ (x, y, z) _ (by simp)) (by simp; omega) (by have := Y.size; have := G.lt; simp; omega) ?_)
        intro v2 w2 O2 hG
        rw [← HF.out] at O2
        have hne : ∀ q, u.ownBlock = some q → w.heap.size + 3 ≤ q := fun q hq => (O.block q hq).1
        have Y2 : Bel w w2 := ((Y.alloc _).alloc _).grown hG (fun q hq => by have := hne q hq; omega)
        have X2 := ((X.alloc _).alloc _).grown hG (fun e => by have := hne _ e; omega)
        have R2 := ((R.alloc _).alloc _).grown hG (fun e => by have := hne _ e; omega)
        have G2 := ((G.alloc _).alloc _).grown hG (fun e => by have := hne _ e; omega)
        clear rg zg hG hne
        obtain ⟨cg, fg, zg⟩ := G2.facts
        have rg := cg 0
        have fg := fg 0
        simp at rg
        clear cg
        obtain ⟨Av2, cv2, ev2, _, _, _⟩ := O2.reads
        subst ev2
        go_wp2
        go_roundg (fs.length - (k + 1))
        case measure => have := HK.out; omega
        case rel => exact ⟨k + 1, _, by omega, by go_num, X2.far (by dsimp only; omega) _, R2.far (by dsimp only; omega) _, G2.set 0 _, O2.setFar (p := ⟨w.heap.size + 2, 0, none⟩) (by dsimp only; omega) _, Y2.setCell (p := ⟨w.heap.size + 2, 0, none⟩) (by dsimp only; omega) _⟩
      · have HF : Hid (colK (fgtF g fs) (k + 1) = colK (fgtF g fs) k) := colK_none (by simp [fgtF, hx.out, hq])
        go_wp2
        go_roundg (fs.length - (k + 1))
        case measure => have := HK.out; omega
        case rel => exact ⟨k + 1, _, by omega, by go_num, X.alloc _, R.alloc _, G.alloc _, by rw [HF.out]; exact O.keep ((Bel.refl _).alloc _), Y.alloc _⟩
    · obtain rfl : k = fs.length := by omega
      have i1 : ¬ (fs.length : Int) < (fs.length : Int) := by omega
      obtain ⟨Au, cu, eu, _, _, _⟩ := O.reads
      subst eu
      obtain ⟨cg, fg, zg⟩ := G.facts
      obtain ⟨cr, fr, zr⟩ := R.facts
      have rg := cg 0
      have rr := cr 0
      have fr := fr 0
      simp at rg rr
      clear cg cr
      go_wp2
      refine bodyPost_ret (v := .agg #[.slice Au (colK (fgtF g fs) fs.length).length cu]) (by simp [results, Try.results29, go_sem, rr]) rfl ⟨_, rfl, ?_, ?_⟩
      · exact (O.setFar (by simp) _).low (by omega)
      · exact Y.setCell (by simp) _

end Go.Proofs.Ytchodlfkoafeaaa
