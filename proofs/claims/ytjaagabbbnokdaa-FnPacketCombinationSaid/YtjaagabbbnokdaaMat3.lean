/-
  Slices of slices of ints: one word for owning them; EqualMatrices of the program and of the reference. No condition but toM's: at most 2^20 rows and numbers.
-/
import Derived.Test.YtjaagabbbnokdaaMat2
import Derived.Test.YtjaagabbbnokdaaEqI
namespace Go.Proofs.Ytjaagabbbnokdaa
open Go.ChangeShapes Go.WideShapes Go.ChangeAt Go.RowKit
set_option linter.unusedVariables false
set_option maxRecDepth 100000

def OM (w : World) (lo : Nat) (v : Value) (xss : List (List Int)) : Prop := OII w lo w.heap.size v xss
theorem OM.keep {w w' : World} {lo : Nat} {v : Value} {xss : List (List Int)} (h : OM w lo v xss) (k : Bel w w') : OM w' lo v xss := (OII.keep h (Nat.le_refl _) k).wide (Nat.le_refl _) k.size
theorem OM.low {w : World} {base base' : Nat} {v : Value} {xss : List (List Int)} (h : OM w base v xss) (hl : base' ≤ base) : OM w base' v xss := OII.wide h hl (Nat.le_refl _)
theorem OM.reads {w : World} {lo : Nat} {v : Value} {xss : List (List Int)} (h : OM w lo v xss) : RII w v xss := OII.reads h
theorem OM.setFar {w : World} {lo : Nat} {v : Value} {xss : List (List Int)} (h : OM w lo v xss) {p : Addr} (hp : p.block < lo) (u : Value) : OM (w.setCell p u) lo v xss := by
  have hs : (w.setCell p u).heap.size = w.heap.size := by simp [World.setCell]
  unfold OM at *
  rw [hs]
  obtain ⟨us, hl, ho, hq, hr, hd, hv⟩ := h
  have hu : ∀ k, lo ≤ k → k < w.heap.size → (w.setCell p u).heap[k]? = w.heap[k]? := fun k h1 _ => Below.heap_setCell w p u k (by omega)
  exact ⟨us, hl, ownsRow_loc ho hq hu, hq, fun j y xs h1 h2 => ⟨ownsRow_loc (hr j y xs h1 h2).1 (hr j y xs h1 h2).2 hu, (hr j y xs h1 h2).2⟩, hd, hv⟩
theorem OM.loc {w : World} {lo : Nat} {v : Value} {xss : List (List Int)} (h : OM w lo v xss) (hl : lo ≤ w.heap.size) : Loc lo w.heap.size (fun u => OII u lo w.heap.size v xss) w := OII.loc h hl (Nat.le_refl _)
theorem OM.nil (w : World) (lo : Nat) : OM w lo (.slice none 0 0) [] := OII.nil _ _ _
theorem toM (v : Value) (xss : List (List Int)) (w : World) (hv : RII w v xss) (hn : szM xss ≤ 1048576) :
    Calls Try.prog 64 #[v] w fun e w' => ∃ v', e = .returned v' ∧ OM w' w.heap.size v' xss ∧ Bel w w' :=
  toII v xss w hv (by unfold szM at hn; omega) (by unfold szM at hn; omega)

theorem mat_step {xss yss : List (List Int)} {k : Nat} (h : xss.take k = yss.take k) (hk : xss[k]? = yss[k]?) : xss.take (k + 1) = yss.take (k + 1) := by
  rw [List.take_add_one, List.take_add_one, h, hk]

set_option maxHeartbeats 1000000 in
theorem matEqS (v u : Value) (xss yss : List (List Int)) (w : World) (hv : RII w v xss) (hu : RII w u yss) :
    Calls Try.prog 167 #[v, u] w fun e w' => e = .returned (.bool (decide (xss = yss))) ∧ Bel w w' := by
  obtain ⟨A, c, rfl, h1, h2, hA⟩ := hv
  obtain ⟨B, d, rfl, h3, h4, hB⟩ := hu
  by_cases hlen : xss.length = yss.length
  · have hne : ((xss.length : Int) != (yss.length : Int)) = false := by simp [hlen]
    have hle : xss.length ≤ yss.length := by omega
    have HL := Lib.hid hlen
    clear hlen
    go_enter Try.func167, Try.ntmps167
    go_wp2
    go_loopg [5] xss.length (fun f i wr => ∃ k : Nat, k + f = xss.length ∧ i = .int .i64 k ∧ Bel w wr ∧ Hid (xss.take k = yss.take k))
    case atStart => exact ⟨0, by omega, rfl, Bel.refl _, Lib.hid (by simp)⟩
    case round =>
      obtain ⟨k, hk, rfl, Y, HE⟩ := hrel
      have hk2 : k ≤ xss.length := by omega
      have HK := Lib.hid hk
      clear hk
      by_cases hlt : k < xss.length
      · obtain ⟨b1, o1, rfl, z1, hc1⟩ := hA (by omega)
        obtain ⟨b2, o2, rfl, z2, hc2⟩ := hB (by omega)
        have hx : Hid (xss[k]? = some (xss[k]'hlt)) := List.getElem?_eq_getElem hlt
        have hy : Hid (yss[k]? = some (yss[k]'(by omega))) := List.getElem?_eq_getElem (by omega)
        obtain ⟨u1, g1, r1⟩ := hc1 k _ hx.out
        obtain ⟨u2, g2, r2⟩ := hc2 k _ hy.out
        generalize xss[k]'hlt = xs at *
        generalize yss[k]'(by omega) = ys at *
        replace g1 := Y.cell1 z1 g1
        replace g2 := Y.cell1 z2 g2
        have y1 := Nat.lt_of_lt_of_le z1 Y.size
        have y2 := Nat.lt_of_lt_of_le z2 Y.size
        clear hc1 hc2 hA hB
        have i0 : (0 : Int) ≤ (k : Int) := by omega
        have i1 : (k : Int) < (xss.length : Int) := by omega
        have i2 : (k : Int) < (yss.length : Int) := by omega
        go_wp2
        have qq1 := Bw.cell g1 y1
        have qq2 := Bw.cell g2 y2
        refine wp_region_bel (by kernel_rfl) (by kernel_rfl) ?_
        repeat (first | go_big_quiet_step (first | (go_at_call 133; exact belQ (sEqS u1 u2 xs ys _ ((r1.keep Y).keep (Bw.bel _)) ((r2.keep Y).keep (Bw.bel _))))) | quiet_step (first | (go_at_call 133; exact belQ (sEqS u1 u2 xs ys _ ((r1.keep Y).keep (Bw.bel _)) ((r2.keep Y).keep (Bw.bel _))))))
        refine wpQuiet_nil ?_
        rintro _ ⟨⟨w3, hb3⟩, rfl⟩
        clear qq1 qq2
        by_cases hq : xs = ys
        · have hd : decide (xs = ys) = true := decide_eq_true hq
          have HN : Hid (xss.take (k + 1) = yss.take (k + 1)) := mat_step HE.out (by rw [hx.out, hy.out, hq])
          rw [hd]
          clear hq hd
          go_wp2
          go_roundg (xss.length - (k + 1))
          case measure => have := HK.out; omega
          case rel => exact ⟨k + 1, by omega, by go_num, Y.trans hb3, HN⟩
        · have hd : decide (xs = ys) = false := decide_eq_false hq
          have HN : Hid (decide (xss = yss) = false) := decide_eq_false (fun e => hq (by rw [e] at hx; have := hx.out.symm.trans hy.out; injection this))
          rw [hd]
          clear hq hd
          go_wp2
          go_ret
          exact ⟨by rw [HN.out]; rfl, Y.trans hb3⟩
      · obtain rfl : k = xss.length := by omega
        have i1 : ¬ (xss.length : Int) < (xss.length : Int) := by omega
        have HN : Hid (decide (xss = yss) = true) := decide_eq_true (by have h9 := HE.out; rw [List.take_length, HL.out, List.take_length] at h9; exact h9)
        go_wp2
        go_ret
        exact ⟨by rw [HN.out]; rfl, Y⟩
  · have hne : ((xss.length : Int) != (yss.length : Int)) = true := by rw [bne_iff_ne]; omega
    have HN : Hid (decide (xss = yss) = false) := decide_eq_false (fun e => hlen (by rw [e]))
    clear hlen
    go_enter Try.func167, Try.ntmps167
    go_wp2
    go_ret
    exact ⟨by rw [HN.out]; rfl, Bel.refl _⟩

end Go.Proofs.Ytjaagabbbnokdaa
