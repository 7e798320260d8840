/-
  EdgesFrom, EdgesTo: contracts of the program's functions and of the reference's. Condition: at most 2^20 edges.
-/
import Derived.Test.YtjlcnbicehjjjaaApp3
import Derived.Test.YtjlcnbicehjjjaaApp
namespace Go.Proofs.Ytjlcnbicehjjjaa
open Go.ChangeShapes Go.WideShapes Go.ChangeAt Go.RowKit
set_option linter.unusedVariables false
set_option maxRecDepth 100000

def edgF (p : Tr → Bool) (fs : List Tr) (k : Nat) : Option Int := match fs[k]? with
  | some f => if p f = true then some (k : Int) else none
  | none => none
def edgL (p : Tr → Bool) (fs : List Tr) : List Int := colK (edgF p fs) fs.length
theorem edgL_len (p : Tr → Bool) (fs : List Tr) : (edgL p fs).length ≤ fs.length := colK_len _ _
/-- A slice of one int that was just made. -/
theorem RI.one (w : World) (T : TypeId) (x : Int) : RI (w.alloc (.cells #[.int .i64 x] T)) (.slice (some ⟨w.heap.size, 0, none⟩) 1 1) [x] := by
  obtain ⟨c, _, z⟩ := (Blk.new w T #[.int .i64 x]).facts
  refine ⟨_, 1, rfl, Nat.le_refl _, by omega, fun _ => ⟨w.heap.size, 0, rfl, z, fun j g hg => ?_⟩⟩
  match j with
  | 0 => simp at hg; subst hg; exact c 0
  | j + 1 => simp at hg

def edFrom (a : Int) (f : Tr) : Bool := f.1 == a
set_option maxHeartbeats 1000000 in
theorem edFromS (s a : Int) (v : Value) (fs : List Tr) (w : World) (hv : RT w v fs) (hn : fs.length ≤ 1048576) :
    Calls Try.prog 86 #[.agg #[.int .i64 s, v], .int .i64 a] w fun e w' => ∃ r, e = .returned r ∧ OI w' w.heap.size r (edgL (edFrom a) fs) ∧ Bel w w' := by
  obtain ⟨A, c, rfl, h1, h2, hA⟩ := hv
  have X0 := (Blk.new w 73 #[.int .i64 s, .slice A fs.length c]).alloc (.cells #[] 3)
  have Y0 : Bel w ((w.alloc (.cells #[.int .i64 s, .slice A fs.length c] 73)).alloc (.cells #[] 3)) := ((Bel.refl _).alloc _).alloc _
  have O0 : OI ((w.alloc (.cells #[.int .i64 s, .slice A fs.length c] 73)).alloc (.cells #[] 3)) (w.heap.size + 1) (.slice (some ⟨w.heap.size + 1, 0, none⟩) 0 0) [] :=
    ⟨rfl, .inr ⟨w.heap.size + 1, 0, #[], rfl, Nat.le_refl _, Blk.new2 w _ _ _, Nat.le_refl _, Nat.zero_le _, rfl, rfl⟩⟩
  go_enter Try.func86, Try.ntmps86
  go_wp2
  go_loopg [5, 6] fs.length (fun f out i wr => ∃ k : Nat, k + f = fs.length ∧ i = .int .i64 k ∧ Blk wr w.heap.size 73 #[.int .i64 s, .slice A fs.length c] ∧ OI wr (w.heap.size + 1) out (colK (edgF (edFrom a) fs) k) ∧ Bel w wr)
  case atStart => exact ⟨0, by omega, rfl, X0, O0, Y0⟩
  case round =>
    clear X0 Y0 O0
    obtain ⟨k, hk, rfl, X, O, Y⟩ := hrel
    have hk2 : k ≤ fs.length := by omega
    have HK := Lib.hid hk
    clear hk
    have hlen := colK_len (edgF (edFrom a) fs) k
    obtain ⟨cx, _, zx⟩ := X.facts
    have rx : wr.cell? ⟨w.heap.size, 1, none⟩ = some (.slice A fs.length c) := cx 1
    clear cx
    by_cases hlt : k < fs.length
    · obtain ⟨b1, o1, rfl, z1, hc1⟩ := hA (by omega)
      have hx : Hid (fs[k]? = some (fs[k]'hlt)) := List.getElem?_eq_getElem hlt
      obtain ⟨g1, g2, g3⟩ := hc1 k _ hx
      generalize fs[k]'hlt = x at *
      obtain ⟨x, y, z⟩ := x
      dsimp only at *
      replace g1 := Y.cell1 z1 g1
      replace g2 := Y.cell1 z1 g2
      clear hc1 hA g3
      have i0 : (0 : Int) ≤ (k : Int) := by omega
      have i1 : (k : Int) < (fs.length : Int) := by omega
      cases hq : (x == a)
      · have HF : Hid (colK (edgF (edFrom a) fs) (k + 1) = colK (edgF (edFrom a) fs) k) := colK_none (by simp [edgF, hx.out, edFrom, hq])
        go_wp2
        go_roundg (fs.length - (k + 1))
        case measure => have := HK.out; omega
        case rel => exact ⟨k + 1, by omega, by go_num, X, by rw [HF.out]; exact O, Y⟩
      · have HF : Hid (colK (edgF (edFrom a) fs) (k + 1) = colK (edgF (edFrom a) fs) k ++ [(k : Int)]) := colK_some (by simp [edgF, hx.out, edFrom, hq])
        go_wp2_with (at_builtin; refine wpList_appI _ rfl _ _ rfl (w.heap.size + 1) _ _ _ [(k : Int)] rfl rfl (O.keep ((Bel.refl _).alloc _)) (RI.one _ _ _) (by simp; omega) (by simp; omega) ?_)
        intro v2 w2 O2 hG
        have hne : ∀ q, u5.ownBlock = some q → w.heap.size + 1 ≤ q := fun q hq => (O.block q hq).1
        have Y2 : Bel w w2 := (Y.alloc _).grown hG (fun q hq => by have := hne q hq; omega)
        have X2 := (X.alloc _).grown hG (fun e => by have := hne _ e; omega)
        clear hG hne
        go_wp2
        go_roundg (fs.length - (k + 1))
        case measure => have := HK.out; omega
        case rel => exact ⟨k + 1, by omega, by go_num, X2, by rw [HF.out]; exact O2, Y2⟩
    · obtain rfl : k = fs.length := by omega
      have i1 : ¬ (fs.length : Int) < (fs.length : Int) := by omega
      go_wp2
      go_ret
      exact ⟨_, rfl, O.low (by omega), Y⟩
def edTo (a : Int) (f : Tr) : Bool := f.2.1 == a
end Go.Proofs.Ytjlcnbicehjjjaa
