/-
  TopologicalOrder and IsAcyclic of the program: contracts. No condition.
-/
import Derived.Test.YtjlcnbicehjjjaaTopo4
namespace Go.Proofs.Ytjlcnbicehjjjaa
open Go.ChangeShapes Go.WideShapes Go.ChangeAt Go.RowKit
set_option linter.unusedVariables false
set_option maxRecDepth 100000

theorem topo_succ (s : Nat) (E : Eds) (f : Nat) (out : List Nat) : topo s E (f + 1) out = match nextN s E out with | none => none | some v => topo s E f (out ++ [v]) := rfl
theorem outI_snoc (out : List Nat) (v : Nat) : outI (out ++ [v]) = outI out ++ [(v : Int)] := by unfold outI; rw [List.map_append]; rfl
set_option maxHeartbeats 4000000 in
theorem topI (s : Int) (v : Value) (fs : List Tr) (w : World) (hv : RT w v fs) :
    Calls Try.prog 49 #[.agg #[.int .i64 s, v]] w fun e w' => ∃ r, e = .returned (.tuple #[r, .bool (acyB s fs)]) ∧ OI w' w.heap.size r (topL s fs) ∧ Bel w w' := by
  have hmf : ∀ (fn : Fn) (first cap : Array Value) (w : World), (Instr.makeFunc fn first cap).run Try.prog w = .ok (.func fn first cap) w := fun _ _ _ _ => rfl
  obtain ⟨A, c, rfl, _, _, _⟩ := id hv
  have X0 := Blk.new w 73 #[.int .i64 s, .slice A fs.length c]
  have Y0 : Bel w (w.alloc (.cells #[.int .i64 s, .slice A fs.length c] 73)) := (Bel.refl _).alloc _
  obtain ⟨cx, _, zx⟩ := X0.facts
  go_enter Try.func49, Try.ntmps49
  go_wp2_with fail
  refine (graphI s _ fs _ (hv.keep Y0)).mono ?_
  rintro e w1 ⟨rfl, hb1⟩
  have X1 := hb1.keep X0
  have Y1 := Y0.trans hb1
  have z1 : w.heap.size + 1 ≤ w1.heap.size := hb1.sz1
  clear cx zx X0 Y0 hb1
  cases hg : graphB s fs
  · have HF := Lib.hid (acy_bad hg)
    have HL := Lib.hid (topL_no hg)
    go_wp2
    refine bodyPost_ret (v := .tuple #[.slice none 0 0, .bool false]) (by simp [results, Try.results49, go_sem]) rfl ⟨_, by rw [HF.out], by rw [HL.out]; exact OI.nil _ _, Y1⟩
  obtain ⟨n, rfl, hn1, hn8, hin, hf20⟩ := graph_in hg
  have HG := Lib.hid hg
  have HI := Lib.hid hin
  clear hg hin
  have K1 := Blk.new w1 22 #[.slice none 0 0]
  have X2 := X1.alloc (.cells #[.slice none 0 0] 22)
  have Y2 := Y1.alloc (.cells #[.slice none 0 0] 22)
  have O2 : OI (w1.alloc (.cells #[.slice none 0 0] 22)) (w1.heap.size + 1) (.slice none 0 0) (outI []) := OI.nil _ _
  have z2 : w1.heap.size + 1 ≤ (w1.alloc (.cells #[.slice none 0 0] 22)).heap.size := by simp
  go_wp2
  generalize (w1.alloc (.cells #[.slice none 0 0] 22)) = w2 at *
  generalize w1.heap.size = gO at *
  go_loopg [5] n (fun f nv wr => ∃ (out : List Nat) (ov : Value), out.length + f = n ∧ Blk wr gO 22 #[ov] ∧ OI wr (gO + 1) ov (outI out) ∧ Blk wr w.heap.size 73 #[.int .i64 (n : Int), .slice A fs.length c] ∧ Bel w wr ∧ Hid (topo n (prs fs) (n - out.length) out = topo n (prs fs) n []) ∧ gO + 1 ≤ wr.heap.size)
  case atStart => exact ⟨[], _, by simp, K1, O2, X2, Y2, Lib.hid rfl, z2⟩
  case round =>
    clear K1 O2 X2 Y2 z2 X1 Y1
    obtain ⟨out, ov, hl, K, O, X, Y, HT, hz⟩ := hrel
    have hol : (outI out).length = out.length := List.length_map _
    have hon : out.length ≤ n := by omega
    obtain ⟨Ao, co, eo, _, _, _⟩ := O.reads
    rw [hol] at eo
    subst eo
    have HL := Lib.hid hl
    have HOL := Lib.hid hol
    obtain ⟨wi, hwi⟩ : ∃ x, x = wr := ⟨_, rfl⟩
    subst hwi
    obtain ⟨cx, _, zx⟩ := X.facts
    obtain ⟨ck, fk, zk⟩ := K.facts
    clear hl hol
    by_cases hlt : out.length < n
    · have i1 : (out.length : Int) < (n : Int) := by omega
      have B0 := Blk.new wi 3 #[.int .i64 ((n : Int) - 1)]
      have Yi : Bel wi (wi.alloc (.cells #[.int .i64 ((n : Int) - 1)] 3)) := (Bel.refl _).alloc _
      have HD0 := nxD_end (prs fs) out n
      have hb0 : (.int .i64 (-1) : Value) = .int .i64 (nxD (prs fs) out n n) := by rw [HD0]
      have HB0 := Lib.hid hb0
      clear HD0 hb0
      go_wp2
      clear cx zx ck fk zk
      go_loopg [5, 6] n (fun f nx p wr => ∃ (j g6 : Nat), j = f ∧ j ≤ n ∧ p = .pointer (some ⟨g6, 0, none⟩) ∧ Blk wr g6 3 #[.int .i64 ((j : Int) - 1)] ∧ nx = .int .i64 (nxD (prs fs) out n j) ∧ Bel wi wr ∧ wi.heap.size ≤ g6)
      case atStart => exact ⟨n, _, rfl, Nat.le_refl _, rfl, B0, HB0.out, Yi, Nat.le_refl _⟩
      case round =>
        clear B0 Yi HB0
        obtain ⟨j, g6, hj, hjn, rfl, B, rfl, Yi, hg6⟩ := hrel
        have HJ := Lib.hid hj
        clear hj
        have K2 := Yi.keep K
        have X2 := Yi.keep X
        obtain ⟨cx, _, zx⟩ := X2.facts
        obtain ⟨ck, fk, zk⟩ := K2.facts
        cases j with
        | zero =>
          obtain ⟨cb, fb, zb⟩ := B.facts
          have hb : wr.cell? ⟨g6, 0, none⟩ = some (.int .i64 (-1)) := cb 0
          clear cb
          obtain ⟨m, hm⟩ : ∃ m, n - out.length = m + 1 := ⟨n - out.length - 1, by omega⟩
          have HT2 : Hid (topo n (prs fs) (m + 1) out = topo n (prs fs) n []) := Lib.hid (by
            have h1 := HT.out
            rwa [hm] at h1)
          have HM := Lib.hid hm
          rw [nxD_zero]
          clear hm
          cases hn : nextN n (prs fs) out with
          | none =>
            have htn : topo n (prs fs) n [] = none := by rw [← HT2.out, topo_succ, hn]
            obtain ⟨h5, h6⟩ := topL_none htn
            have H5 := Lib.hid h5
            have H6 := Lib.hid h6
            clear h5 h6 htn hn
            dsimp only
            go_wp2
            refine bodyPost_ret (v := .tuple #[.slice none 0 0, .bool false]) (by simp [results, Try.results49, go_sem]) rfl ⟨_, by rw [H6.out], by rw [H5.out]; exact OI.nil _ _, Y.trans Yi⟩
          | some x =>
            have HT3 : Hid (topo n (prs fs) m (out ++ [x]) = topo n (prs fs) n []) := Lib.hid (by rw [← HT2.out, topo_succ, hn])
            have hx0 : ¬ (x : Int) < 0 := by omega
            have O3 := O.keep Yi
            have hz3 : gO + 1 ≤ wr.heap.size := Nat.le_trans hz Yi.size
            clear hn
            dsimp only
            go_wp2_with (at_builtin; refine wpList_appI _ rfl _ _ rfl (gO + 1) _ _ (outI out) [(x : Int)] rfl rfl (O3.keep ((Bel.refl _).alloc _)) (RI.lit1 _ _ _) (by rw [HOL.out]; simp only [List.length_cons, List.length_nil]; omega) (by simp; omega) ?_)
            intro v5 w5 O5 hG
            have K5 := (K2.alloc (.cells #[.int .i64 (x : Int)] 3)).grown hG (fun e => by have := (O3.block _ e).1; omega)
            have X5 := (X2.alloc (.cells #[.int .i64 (x : Int)] 3)).grown hG (fun e => by have := (O3.block _ e).1; omega)
            have Y5 : Bel w w5 := ((Y.trans Yi).alloc (.cells #[.int .i64 (x : Int)] 3)).grown hG (fun q hq => by have := (O3.block q hq).1; omega)
            have hz5 : gO + 1 ≤ w5.heap.size := by have := hG.size; rw [World.size_alloc] at this; omega
            have eLT : (outI out ++ [(x : Int)]).length = out.length + 1 := by rw [List.length_append, HOL.out]; rfl
            obtain ⟨A5, c5, e5, _, _, _⟩ := O5.reads
            rw [eLT] at e5
            subst e5
            have K6 : Blk (w5.setCell ⟨gO, 0, none⟩ (.slice A5 (out.length + 1) c5)) gO 22 #[.slice A5 (out.length + 1) c5] := K5.set 0 (.slice A5 (out.length + 1) c5)
            have X6 := X5.far (p := ⟨gO, 0, none⟩) (by dsimp only; omega) (.slice A5 (out.length + 1) c5)
            have Y6 := Y5.setCell (p := ⟨gO, 0, none⟩) (by dsimp only; omega) (.slice A5 (out.length + 1) c5)
            have O6 := O5.setFar (p := ⟨gO, 0, none⟩) (by dsimp only; omega) (.slice A5 (out.length + 1) c5)
            have hz6 : gO + 1 ≤ (w5.setCell ⟨gO, 0, none⟩ (.slice A5 (out.length + 1) c5)).heap.size := by simp [World.setCell]; omega
            obtain ⟨ck5, fk5, zk5⟩ := K5.facts
            have HO6 : Hid (outI (out ++ [x]) = outI out ++ [(x : Int)]) := Lib.hid (outI_snoc out x)
            clear cx zx ck fk zk hG hb fb zb
            go_wp2
            go_roundg m
            case measure => have := HM.out; have := HL.out; omega
            case rel => exact ⟨out ++ [x], _, by rw [List.length_append]; have := HM.out; simp; omega, K6, by rw [HO6.out]; exact O6, X6, Y6, Lib.hid (by rw [show n - (out ++ [x]).length = m by rw [List.length_append]; have := HM.out; simp; omega]; exact HT3.out), hz6⟩
        | succ i =>
          have e1 : (((i + 1 : Nat) : Int) - 1) = (i : Int) := by omega
          rw [e1] at B
          clear e1
          have i2 : (0 : Int) ≤ (i : Int) := by omega
          obtain ⟨cb, fb, zb⟩ := B.facts
          have O3 := O.keep Yi
          have HR := Lib.hid (rdy_eq HI.out out i)
          have HS := Lib.hid (nxD_step (E := prs fs) (out := out) (n := n) (j := i) (by omega))
          go_wp2_with fail
          refine (contI _ fs (waitP (i : Int) (outI out)) ⟨g6, 0, none⟩ ⟨gO, 0, none⟩ _ (hv.keep (Y.trans Yi)) (fun f W hW => waitC (i : Int) (outI out) _ _ _ f W ((hW.keep B).facts.1 0) ((hW.keep K2).facts.1 0) (O3.reads.keep hW) (hW.keep B).lt (hW.keep K2).lt)).mono ?_
          rintro e w3 ⟨rfl, hb3⟩
          have B3 := hb3.keep B
          have K3 := hb3.keep K2
          have X3 := hb3.keep X2
          have Y3 := Yi.trans hb3
          have O4 := O3.keep hb3
          have B4 := Blk.new w3 3 #[.int .i64 ((i : Int) - 1)]
          have Y4 : Bel wi (w3.alloc (.cells #[.int .i64 ((i : Int) - 1)] 3)) := Y3.alloc _
          have hz4 : wi.heap.size ≤ w3.heap.size := Y3.size
          have B4n := Blk.new w3 3 #[.int .i64 (i : Int)]
          clear cx zx ck fk zk cb fb zb
          obtain ⟨cx, _, zx⟩ := X3.facts
          obtain ⟨ck, fk, zk⟩ := K3.facts
          obtain ⟨cb, fb, zb⟩ := B3.facts
          obtain ⟨cn, fn, zn⟩ := B4n.facts
          cases hw : fs.any (waitP (i : Int) (outI out))
          · go_wp2_with fail
            refine (hasI (i : Int) _ (outI out) _ O4.reads).mono ?_
            rintro e w4 ⟨rfl, rfl⟩
            cases hh : hasB (outI out) (i : Int)
            · have HS2 : Hid (nxD (prs fs) out n i = (i : Int)) := Lib.hid (by rw [HS.out, HR.out, hw, hh]; rfl)
              clear hw hh
              go_wp2
              go_roundg i
              case measure => have := HJ.out; omega
              case rel => exact ⟨i, _, rfl, by omega, rfl, B4, by rw [HS2.out], Y4, hz4⟩
            · have HS2 : Hid (nxD (prs fs) out n i = nxD (prs fs) out n (i + 1)) := Lib.hid (by rw [HS.out, HR.out, hw, hh]; rfl)
              clear hw hh
              go_wp2
              go_roundg i
              case measure => have := HJ.out; omega
              case rel => exact ⟨i, _, rfl, by omega, rfl, B4, by rw [HS2.out], Y4, hz4⟩
          · have HS2 : Hid (nxD (prs fs) out n i = nxD (prs fs) out n (i + 1)) := Lib.hid (by rw [HS.out, HR.out, hw]; rfl)
            clear hw
            go_wp2
            go_roundg i
            case measure => have := HJ.out; omega
            case rel => exact ⟨i, _, rfl, by omega, rfl, B4, by rw [HS2.out], Y4, hz4⟩
    · have hon2 : out.length = n := by omega
      have i1 : ¬ (out.length : Int) < (n : Int) := by omega
      have htn : topo n (prs fs) n [] = some out := by
        have h1 := HT.out
        rw [show n - out.length = 0 by omega] at h1
        rw [← h1]; rfl
      obtain ⟨h5, h6⟩ := topL_some HG.out htn
      have H5 := Lib.hid h5
      have H6 := Lib.hid h6
      clear h5 h6 htn hon2
      go_wp2
      refine bodyPost_ret (v := .tuple #[.slice Ao out.length co, .bool true]) (by simp [results, Try.results49, go_sem]) rfl ⟨_, by rw [H6.out], by rw [H5.out]; exact O.low (by omega), Y⟩
theorem acyI (s : Int) (v : Value) (fs : List Tr) (w : World) (hv : RT w v fs) :
    Calls Try.prog 46 #[.agg #[.int .i64 s, v]] w fun e w' => e = .returned (.bool (acyB s fs)) ∧ Bel w w' := by
  obtain ⟨A, c, rfl, _, _, _⟩ := id hv
  have X0 := Blk.new w 73 #[.int .i64 s, .slice A fs.length c]
  have Y0 : Bel w (w.alloc (.cells #[.int .i64 s, .slice A fs.length c] 73)) := (Bel.refl _).alloc _
  obtain ⟨cx, _, zx⟩ := X0.facts
  go_enter Try.func46, Try.ntmps46
  go_wp2_with fail
  refine (topI s _ fs _ (hv.keep Y0)).mono ?_
  rintro e w1 ⟨r, rfl, O, hb1⟩
  go_wp2
  go_ret
  exact ⟨rfl, Y0.trans hb1⟩
end Go.Proofs.Ytjlcnbicehjjjaa
