/-
  l21Reach of the reference: a contract. Conditions: at most 8 nodes, edges and start nodes within the graph.
-/
import Derived.Test.YtjlcnbicehjjjaaTopo1
import Derived.Test.YtjlcnbicehjjjaaTriC
import Derived.Test.YtjlcnbicehjjjaaWords
import Derived.Test.YtjlcnbicehjjjaaVx
import Derived.StillTailTactics
namespace Go.Proofs.Ytjlcnbicehjjjaa
open Go.ChangeShapes Go.WideShapes Go.ChangeAt Go.RowKit
set_option linter.unusedVariables false
set_option maxRecDepth 100000

/-- The edges as pairs of nodes. -/
def prs (fs : List Tr) : Eds := fs.map fun f => (f.1.toNat, f.2.1.toNat)
/-- All edges lie within s nodes. -/
def InG (s : Nat) (fs : List Tr) : Prop := ∀ f ∈ fs, (0 ≤ f.1 ∧ f.1 < (s : Int)) ∧ (0 ≤ f.2.1 ∧ f.2.1 < (s : Int))
theorem prs_lt {s : Nat} {fs : List Tr} (h : InG s fs) : ∀ e ∈ prs fs, e.1 < s ∧ e.2 < s := by
  intro e he
  obtain ⟨f, hf, rfl⟩ := List.mem_map.1 he
  have := h f hf
  constructor <;> dsimp only <;> omega
def bArr (sn : List Bool) : Array Value := (sn.map Value.bool).toArray
theorem bArr_at {sn : List Bool} {i : Nat} (h : i < sn.length) : (bArr sn)[i]? = some (.bool (at_ sn i)) := by
  unfold bArr at_
  simp [List.getD, h]
theorem bArr_set (sn : List Bool) (i : Nat) : (bArr sn).setIfInBounds i (.bool true) = bArr (sn.set i true) := by
  unfold bArr
  apply Array.toList_inj.1
  rw [Array.toList_setIfInBounds, List.map_set]
theorem bArr_made (n : Nat) : madeCells #[.bool false] n = bArr (List.replicate n false) := by
  apply Array.toList_inj.1
  rw [toList_madeCells_one]
  unfold bArr
  simp
theorem bool_info : (Try.prog.info? 4).map (fun i => (i.zero, i.size, i.bytes)) = some (some (.bool false), 1, 1) := by kernel_rfl
theorem mkBools (n : Nat) (hn : n ≤ 1099511627776) : ∀ w : World, (Instr.makeSlice 98 (.int .i64 (n : Int)) (.int .i64 (n : Int))).run Try.prog w =
    .ok (.slice (some ⟨w.heap.size, 0, none⟩) n n) (w.alloc (.cells (bArr (List.replicate n false)) 4)) := by
  intro w
  obtain ⟨i0, hi, hz0, hz1, hz2⟩ := info_parts bool_info
  have hr := run_make (P := Try.prog) w 98 4 i0 (.bool false) Try.underlying98 hi hz0 .i64 .i64 n n (by omega) (by omega) (by rw [hz2]; omega) (by omega)
  rw [hz1] at hr
  simp only [Int.toNat_natCast, Nat.mul_one] at hr
  rw [← bArr_made]
  exact hr
theorem Blk.bset {w : World} {g : Nat} {T : TypeId} {sn : List Bool} (h : Blk w g T (bArr sn)) (i : Nat) : Blk (w.setCell ⟨g, i, none⟩ (.bool true)) g T (bArr (sn.set i true)) := by
  have := h.set i (.bool true)
  rwa [bArr_set] at this
def mark1 (sn : List Bool) (l : List Nat) : List Bool := l.foldl (fun sn x => sn.set x true) sn
theorem mark1_step {sn : List Bool} {l : List Int} {k : Nat} {x : Int} (h : l[k]? = some x) : mark1 sn ((l.take (k + 1)).map Int.toNat) = (mark1 sn ((l.take k).map Int.toNat)).set x.toNat true := by
  unfold mark1
  rw [List.take_add_one, h, List.map_append, List.foldl_append]
  rfl
theorem mark1_len (sn : List Bool) (l : List Nat) : (mark1 sn l).length = sn.length := fold_set_len l sn
theorem rel_step {sn : List Bool} {fs : List Tr} {k : Nat} {f : Tr} (h : fs[k]? = some f) : ((prs fs).take (k + 1)).foldl relax sn = relax (((prs fs).take k).foldl relax sn) (f.1.toNat, f.2.1.toNat) := by
  have h2 : (prs fs)[k]? = some (f.1.toNat, f.2.1.toNat) := by unfold prs; rw [List.getElem?_map, h]; rfl
  rw [List.take_add_one, h2, List.foldl_append]
  rfl
theorem fold_len (F : Eds) (sn : List Bool) : (F.foldl relax sn).length = sn.length := sweep_len F sn
set_option maxHeartbeats 4000000 in
theorem reachS (s : Nat) (v u : Value) (fs : List Tr) (l : List Int) (w : World) (hv : RT w v fs) (hu : RI w u l) (hs : s ≤ 8) (hf : InG s fs) (hl : ∀ x ∈ l, 0 ≤ x ∧ x < (s : Int)) :
    Calls Try.prog 87 #[.agg #[.int .i64 (s : Int), v], u] w fun e w' => ∃ g, e = .returned (.slice (some ⟨g, 0, none⟩) s s) ∧ Blk w' g 4 (bArr (sweeps (prs fs) s (markL s (l.map Int.toNat)))) ∧ Bel w w' := by
  obtain ⟨A, c, rfl, _, _, hA⟩ := id hv
  obtain ⟨B, d, rfl, _, _, hB⟩ := id hu
  have HF := Lib.hid hf
  have HL := Lib.hid hl
  clear hf hl
  have hmk := mkBools s (by omega)
  have X0 := (Blk.new w 73 #[.int .i64 (s : Int), .slice A fs.length c]).alloc (.cells (bArr (List.replicate s false)) 4)
  have G0 := Blk.new2 w (.cells #[.int .i64 (s : Int), .slice A fs.length c] 73) 4 (bArr (List.replicate s false))
  have Y0 : Bel w ((w.alloc (.cells #[.int .i64 (s : Int), .slice A fs.length c] 73)).alloc (.cells (bArr (List.replicate s false)) 4)) := ((Bel.refl _).alloc _).alloc _
  have hrl : (List.replicate s false).length = s := List.length_replicate
  have HM0 : Hid (markL s (l.map Int.toNat) = mark1 (List.replicate s false) ((l.take l.length).map Int.toNat)) := Lib.hid (by rw [List.take_length]; rfl)
  have E0 : mark1 (List.replicate s false) ((l.take 0).map Int.toNat) = List.replicate s false := rfl
  rw [← E0] at G0
  clear E0
  generalize hR : List.replicate s false = R0 at *
  clear hR
  have hc0 : (R0.map Value.bool).toArray = bArr R0 := rfl
  go_enter Try.func87, Try.ntmps87
  go_wp2
  go_loopg [6] l.length (fun f i wr => ∃ k : Nat, k + f = l.length ∧ i = .int .i64 k ∧ Blk wr w.heap.size 73 #[.int .i64 (s : Int), .slice A fs.length c] ∧ Blk wr (w.heap.size + 1) 4 (bArr (mark1 R0 ((l.take k).map Int.toNat))) ∧ Bel w wr)
  case atStart => exact ⟨0, by omega, rfl, X0, G0, Y0⟩
  case round =>
    clear X0 G0 Y0 hmk
    obtain ⟨k, hk, rfl, X, G, Y⟩ := hrel
    have hk2 : k ≤ l.length := by omega
    have HK := Lib.hid hk
    clear hk
    obtain ⟨cx, _, zx⟩ := X.facts
    by_cases hlt : k < l.length
    · obtain ⟨b1, o1, rfl, z1, hc1⟩ := hB (by omega)
      have hx : Hid (l[k]? = some (l[k]'hlt)) := List.getElem?_eq_getElem hlt
      have g1 := Y.cell1 z1 (hc1 k _ hx.out)
      have hxb := HL.out _ (List.getElem_mem hlt)
      generalize l[k]'hlt = x at *
      obtain ⟨x, rfl⟩ := Int.eq_ofNat_of_zero_le hxb.1
      have i0 : (0 : Int) ≤ (k : Int) := by omega
      have i1 : (k : Int) < (l.length : Int) := by omega
      have i2 : (x : Int) < (s : Int) := hxb.2
      have i3 : (0 : Int) ≤ (x : Int) := by omega
      have HS : Hid (mark1 R0 ((l.take (k + 1)).map Int.toNat) = (mark1 R0 ((l.take k).map Int.toNat)).set x true) := Lib.hid (mark1_step hx.out)
      have hsl : (mark1 R0 ((l.take k).map Int.toNat)).length = s := (mark1_len _ _).trans hrl
      obtain ⟨cg, fg, zg⟩ := G.facts
      have r1 := (cg x).trans (bArr_at (by omega))
      have f1 := fg x
      have G2 := G.bset x
      have X2 := X.far (p := ⟨w.heap.size + 1, x, none⟩) (by dsimp only; omega) (.bool true)
      have Y2 := Y.setCell (p := ⟨w.heap.size + 1, x, none⟩) (by dsimp only; omega) (.bool true)
      clear cg fg hc1 hxb hsl
      go_wp2
      go_roundg (l.length - (k + 1))
      case measure => have := HK.out; omega
      case rel => exact ⟨k + 1, by omega, by go_num, X2, by rw [HS.out]; exact G2, Y2⟩
    · have hke : k = l.length := by omega
      have i1 : ¬ (k : Int) < (l.length : Int) := by omega
      have G9 : Blk wr (w.heap.size + 1) 4 (bArr (sweeps (prs fs) 0 (markL s (l.map Int.toNat)))) := by
        show Blk wr _ _ (bArr (markL s (l.map Int.toNat)))
        rw [HM0.out, ← hke]; exact G
      clear G
      have hml : (markL s (l.map Int.toNat)).length = s := markL_len _ _
      obtain ⟨M, hM⟩ : ∃ M, M = markL s (l.map Int.toNat) := ⟨_, rfl⟩
      rw [← hM] at G9 hml
      have HMM := Lib.hid hM
      clear hM
      go_wp2
      clear cx zx
      go_loopg [7] s (fun f i wr => ∃ k : Nat, k + f = s ∧ i = .int .i64 k ∧ Blk wr w.heap.size 73 #[.int .i64 (s : Int), .slice A fs.length c] ∧ Blk wr (w.heap.size + 1) 4 (bArr (sweeps (prs fs) k M)) ∧ Bel w wr)
      case atStart => exact ⟨0, by omega, rfl, X, G9, Y⟩
      case round =>
        clear X G9 Y hke i1
        obtain ⟨r, hr, rfl, X, G, Y⟩ := hrel
        have hr2 : r ≤ s := by omega
        have HR := Lib.hid hr
        clear hr
        obtain ⟨cx, _, zx⟩ := X.facts
        by_cases hlt : r < s
        · have i1 : (r : Int) < (s : Int) := by omega
          have G1 : Blk wr (w.heap.size + 1) 4 (bArr (((prs fs).take 0).foldl relax (sweeps (prs fs) r M))) := G
          have HSW : Hid (sweeps (prs fs) (r + 1) M = ((prs fs).take fs.length).foldl relax (sweeps (prs fs) r M)) := Lib.hid (by rw [List.take_of_length_le (by unfold prs; simp)]; rfl)
          have hsl := (sweeps_len (prs fs) M r).trans hml
          clear G
          generalize sweeps (prs fs) r M = Q at *
          go_wp2
          clear cx zx
          go_loopg [8] fs.length (fun f i wr => ∃ k : Nat, k + f = fs.length ∧ i = .int .i64 k ∧ Blk wr w.heap.size 73 #[.int .i64 (s : Int), .slice A fs.length c] ∧ Blk wr (w.heap.size + 1) 4 (bArr (((prs fs).take k).foldl relax Q)) ∧ Bel w wr)
          case atStart => exact ⟨0, by omega, rfl, X, G1, Y⟩
          case round =>
            clear X G1 Y
            obtain ⟨k, hk, rfl, X, G, Y⟩ := hrel
            have hk2 : k ≤ fs.length := by omega
            have HK2 := Lib.hid hk
            clear hk
            obtain ⟨cx, _, zx⟩ := X.facts
            by_cases hlt2 : k < fs.length
            · obtain ⟨b1, o1, rfl, z1, hc1⟩ := hA (by omega)
              have hx : Hid (fs[k]? = some (fs[k]'hlt2)) := List.getElem?_eq_getElem hlt2
              obtain ⟨g1, g2, _⟩ := hc1 k _ hx.out
              have hfb := HF.out _ (List.getElem_mem hlt2)
              generalize fs[k]'hlt2 = f at *
              obtain ⟨a, b, t⟩ := f
              dsimp only at *
              obtain ⟨a, rfl⟩ := Int.eq_ofNat_of_zero_le hfb.1.1
              obtain ⟨b, rfl⟩ := Int.eq_ofNat_of_zero_le hfb.2.1
              replace g1 := Y.cell1 z1 g1
              replace g2 := Y.cell1 z1 g2
              have j0 : (0 : Int) ≤ (k : Int) := by omega
              have j1 : (k : Int) < (fs.length : Int) := by omega
              have j2 : (0 : Int) ≤ (a : Int) := by omega
              have j3 : (a : Int) < (s : Int) := hfb.1.2
              have j4 : (0 : Int) ≤ (b : Int) := by omega
              have j5 : (b : Int) < (s : Int) := hfb.2.2
              have HST : Hid (((prs fs).take (k + 1)).foldl relax Q = relax (((prs fs).take k).foldl relax Q) (a, b)) := Lib.hid (rel_step hx.out)
              have hql : (((prs fs).take k).foldl relax Q).length = s := (fold_len _ _).trans hsl
              generalize ((prs fs).take k).foldl relax Q = U at *
              obtain ⟨cg, fg, zg⟩ := G.facts
              have r1 := (cg a).trans (bArr_at (by omega))
              have r2 := (cg b).trans (bArr_at (by omega))
              have f2 := fg b
              clear cg fg hc1 hfb hx
              cases hu : at_ U a
              · rw [hu] at r1
                have HST2 : Hid (relax U (a, b) = U) := Lib.hid (by unfold relax; rw [hu]; rfl)
                clear hu
                go_wp2
                go_roundg (fs.length - (k + 1))
                case measure => have := HK2.out; omega
                case rel => exact ⟨k + 1, by omega, by go_num, X, by rw [HST.out, HST2.out]; exact G, Y⟩
              · rw [hu] at r1
                have HST2 : Hid (relax U (a, b) = U.set b true) := Lib.hid (by unfold relax; rw [hu]; rfl)
                have G2 := G.bset b
                have X2 := X.far (p := ⟨w.heap.size + 1, b, none⟩) (by dsimp only; omega) (.bool true)
                have Y2 := Y.setCell (p := ⟨w.heap.size + 1, b, none⟩) (by dsimp only; omega) (.bool true)
                clear hu
                go_wp2
                go_roundg (fs.length - (k + 1))
                case measure => have := HK2.out; omega
                case rel => exact ⟨k + 1, by omega, by go_num, X2, by rw [HST.out, HST2.out]; exact G2, Y2⟩
            · have hke : k = fs.length := by omega
              subst hke
              have j1 : ¬ (fs.length : Int) < (fs.length : Int) := by omega
              go_wp2
              go_roundg (s - (r + 1))
              case measure => have := HR.out; omega
              case rel => exact ⟨r + 1, by omega, by go_num, X, by rw [HSW.out]; exact G, Y⟩
        · have hre : r = s := by omega
          have i1 : ¬ (r : Int) < (s : Int) := by omega
          have G9 : Blk wr (w.heap.size + 1) 4 (bArr (sweeps (prs fs) s M)) := by rw [← hre]; exact G
          clear hre G
          go_wp2
          go_ret
          exact ⟨_, rfl, by rw [← HMM.out]; exact G9, Y⟩
end Go.Proofs.Ytjlcnbicehjjjaa
