/-
  Draws of generations: l10Gen: a weak contract (a valid generation that can be read). Condition: a cursor that can be read.
  Draws: DrawHashed: a weak contract (a valid generation, and a key that NewHashKey makes for it). Condition: at most 2^20 bytes.
-/
import Derived.Test.YtjlcnbicehjjjaaGL
import Derived.Test.YtjlcnbicehjjjaaGA
import Derived.Test.YtjlcnbicehjjjaaMl
import Derived.Test.YtjlcnbicehjjjaaNhk
import Derived.Deep.RegionLaw
namespace Go.Proofs.Ytjlcnbicehjjjaa
open Go.ChangeShapes Go.WideShapes Go.ChangeAt Go.RowKit Go.Joins Go.Deep
set_option linter.unusedVariables false
set_option maxRecDepth 100000

theorem RIx.mid {w w' : World} {a b lo : Nat} {ob : Option Nat} {v : Value} {xs : List Int} (h : RIx w lo ob v xs) (m : Mid a b w w') (hl : b ≤ lo) : RIx w' lo ob v xs := by
  obtain ⟨A, c, hv, h1, h2, h3⟩ := h
  refine ⟨A, c, hv, h1, h2, fun h0 => ?_⟩
  obtain ⟨b', off, hA, hl2, hb, hne, hc⟩ := h3 h0
  exact ⟨b', off, hA, hl2, Nat.lt_of_lt_of_le hb m.size, hne, fun j x hx => m.cell hb (.inr (by omega)) (hc j x hx)⟩
theorem ML.mid {w w' : World} {a b lo : Nat} {v : Value} {xss : List (List Int)} (h : ML w lo v xss) (m : Mid a b w w') (hl : b ≤ lo) : ML w' lo v xss := by
  obtain ⟨us, h1, ho, hr⟩ := h
  refine ⟨us, h1, ?_, fun j u xs e1 e2 => (hr j u xs e1 e2).mid m hl⟩
  obtain ⟨hl2, h0 | ⟨g, cap, cur, rfl, hb, hh, h1, h2, h3, h4⟩⟩ := ho
  · exact ⟨hl2, .inl h0⟩
  · exact ⟨hl2, .inr ⟨g, cap, cur, rfl, hb, (m.block g (Blk.lt hh) (.inr (by omega))).trans hh, h1, h2, h3, h4⟩⟩
def Byt (xs : List Int) : Prop := ∀ x ∈ xs, 0 ≤ x ∧ x < 256
theorem Byt.snoc {xs : List Int} {x : Int} (h : Byt xs) (hx : 0 ≤ x ∧ x < 256) : Byt (xs ++ [x]) := fun y hy => by
  rcases List.mem_append.1 hy with h1 | h1
  · exact h y h1
  · rw [List.mem_singleton.1 h1]; exact hx
def Gro (n : Nat) (m : List (List Int)) : Prop := ∀ r ∈ m, r.length = n ∧ Byt r
theorem Gro.snoc {n : Nat} {m : List (List Int)} {r : List Int} (h : Gro n m) (h1 : r.length = n) (h2 : Byt r) : Gro n (m ++ [r]) := fun y hy => by
  rcases List.mem_append.1 hy with h3 | h3
  · exact h y h3
  · rw [List.mem_singleton.1 h3]; exact ⟨h1, h2⟩
theorem inB_yes {x a b : Int} (h1 : a ≤ x) (h2 : x ≤ b) : inB x a b = true := by unfold inB; simp; omega
theorem gro_gnr {a : Int} {n : Nat} {m : List (List Int)} (h : Gro n m) (ha : 0 ≤ a ∧ a ≤ 1000000000000) (hn : 1 ≤ n ∧ n ≤ 16) (hm : 1 ≤ m.length ∧ m.length ≤ 8) : gnrB a m = true := by
  have h0 : m[0]? = some (m[0]'(by omega)) := List.getElem?_eq_getElem (by omega)
  have hc : colN m = n := by rw [← colN_at h0]; exact (h _ (List.getElem_mem _)).1
  unfold gnrB
  rw [hc, inB_yes ha.1 ha.2, inB_yes (show (1 : Int) ≤ (m.length : Int) by omega) (by omega), inB_yes (show (1 : Int) ≤ (n : Int) by omega) (by omega)]
  simp only [Bool.true_and, Bool.and_true]
  refine List.all_eq_true.2 fun r hr => ?_
  obtain ⟨h1, h2⟩ := h r hr
  unfold mrowB vecB
  rw [h1, List.all_eq_true.2 (fun x hx => elB_yes (by have := h2 x hx; omega)), decide_eq_true (by omega)]
  simp
set_option maxHeartbeats 4000000 in
theorem l10GenS (cb : Nat) (w : World) (hc : Cur w cb) :
    Calls Try.prog 70 #[.pointer (some ⟨cb, 0, none⟩)] w fun e w' => ∃ a r m, e = .returned (.agg #[.int .i64 a, r]) ∧ ML w' w.heap.size r m ∧ gnrB a m = true ∧ Trn cb w w' := by
  have hlt0 := hc.lt
  have R0 := Blk.new w 47 #[.int .i64 0, .slice none 0 0]
  have T0 : Trn cb w (w.alloc (.cells #[.int .i64 0, .slice none 0 0] 47)) := Trn.of hc ((Bel.refl _).alloc _)
  go_enter Try.func70, Try.ntmps70
  go_wp2_with fail
  refine (l1BelowS cb 5 _ T0.1 (by omega) (by omega)).mono ?_
  rintro e w1 ⟨id, rfl, hid, t1⟩
  have R1 := R0.trn t1 hlt0
  have T1 := T0.trans t1
  have z1 : w.heap.size + 1 ≤ w1.heap.size := by have := t1.2.size; rw [World.size_alloc] at this; exact this
  have K2 : Blk (w1.alloc (.cells #[.int .i64 id, .slice none 0 0] 47)) w1.heap.size 47 #[.int .i64 id, .slice none 0 0] := Blk.new w1 _ _
  have R2 := R1.alloc (.cells #[.int .i64 id, .slice none 0 0] 47)
  have T2 := T1.then ((Bel.refl w1).alloc (.cells #[.int .i64 id, .slice none 0 0] 47))
  have z2 : w1.heap.size + 1 ≤ (w1.alloc (.cells #[.int .i64 id, .slice none 0 0] 47)).heap.size := by simp
  go_wp2_with fail
  refine (l1BelowS cb 3 _ T2.1 (by omega) (by omega)).mono ?_
  rintro e w3 ⟨n', rfl, ⟨n0, n1⟩, t3⟩
  obtain ⟨n', rfl⟩ := Int.eq_ofNat_of_zero_le n0
  have K3 := K2.trn t3 (by omega)
  have R3 := R2.trn t3 hlt0
  have T3 := T2.trans t3
  have z3 := Nat.le_trans z2 t3.2.size
  go_wp2_with fail
  refine (l1BelowS cb 4 _ T3.1 (by omega) (by omega)).mono ?_
  rintro e w4 ⟨m', rfl, ⟨m0, m1⟩, t4⟩
  obtain ⟨m', rfl⟩ := Int.eq_ofNat_of_zero_le m0
  have K4 := K3.trn t4 (by omega)
  have R4 := R3.trn t4 hlt0
  have T4 := T3.trans t4
  have z4 := Nat.le_trans z3 t4.2.size
  clear K2 K3 R0 R1 R2 R3 T0 T1 T2 T3 t1 t3 t4 z2 z3
  generalize w1.heap.size = gB at *
  have hn3 : n' < 3 := by omega
  have hm4 : m' < 4 := by omega
  clear n0 n1 m0 m1
  go_wp2
  go_loopg [5] (1 + m') (fun f i wr => ∃ (j : Nat) (rows : List (List Int)) (sv : Value), j = f ∧ i = .int .i64 j ∧ Blk wr gB 47 #[.int .i64 id, sv] ∧ Blk wr w.heap.size 47 #[.int .i64 0, .slice none 0 0] ∧ ML wr (gB + 1) sv rows ∧ Gro (1 + n') rows ∧ rows.length + j = 1 + m' ∧ Trn cb w wr ∧ gB + 1 ≤ wr.heap.size)
  case atStart => exact ⟨1 + m', [], _, rfl, by go_num, K4, R4, ML.nil _ _, fun r hr => (by cases hr), by simp, T4, z4⟩
  case round =>
    clear K4 R4 T4 z4
    obtain ⟨j, rows, sv, hj, rfl, K, R, M, G, hl, T, hz⟩ := hrel
    have HJ := Lib.hid hj
    have HG := Lib.hid G
    have HL := Lib.hid hl
    have hrl : rows.length ≤ 4 := by omega
    clear hj G hl
    cases j with
    | zero =>
      obtain ⟨A, c, esv, _, _⟩ := M.shape
      subst esv
      obtain ⟨cr, fr, zr⟩ := R.facts
      obtain ⟨ck, fk, zk⟩ := K.facts
      have HV := Lib.hid (gro_gnr (a := id) HG.out (by omega) (by omega) (by have := HL.out; omega))
      have R9 := (R.set 0 (.int .i64 id)).set 1 (.slice A rows.length c)
      have i1 : ¬ (0 : Int) < ((0 : Nat) : Int) := by omega
      have M9 := (M.mid (Mid.set (lo := w.heap.size) (hi := w.heap.size + 1) wr (p := ⟨w.heap.size, 0, none⟩) (.int .i64 id) (Nat.le_refl _) (by simp)) (by omega)).mid (Mid.set (lo := w.heap.size) (hi := w.heap.size + 1) _ (p := ⟨w.heap.size, 1, none⟩) (.slice A rows.length c) (Nat.le_refl _) (by simp)) (by omega)
      have T9 := (T.set (p := ⟨w.heap.size, 0, none⟩) (.int .i64 id) (Nat.le_refl _) hlt0).set (p := ⟨w.heap.size, 1, none⟩) (.slice A rows.length c) (Nat.le_refl _) hlt0
      go_wp2
      have cr9 := R9.facts.1
      clear cr fr ck fk
      refine bodyPost_ret (v := .agg #[.int .i64 id, .slice A rows.length c]) (by simp [results, Try.results70, go_sem, cr9]) rfl ?_
      first | exact ⟨_, _, _, rfl, M9.low (by omega), HV.out, T9⟩ | exact ⟨_, _, rfl, _, M9.low (by omega), HV.out, T9⟩
    | succ j =>
      have i0 : (0 : Int) < ((j + 1 : Nat) : Int) := by omega
      obtain ⟨wi, hwi⟩ : ∃ x, x = wr := ⟨_, rfl⟩
      subst hwi
      have O0 := OI.empty wi
      have T0 : Trn cb wi (wi.alloc (.cells #[] 3)) := Trn.of T.1 ((Bel.refl _).alloc _)
      go_wp2
      go_loopg [6, 7] (1 + n') (fun f o i wr => ∃ (k : Nat) (xs : List Int), k + f = 1 + n' ∧ i = .int .i64 k ∧ OI wr wi.heap.size o xs ∧ (xs.length = k ∧ Byt xs) ∧ Trn cb wi wr)
      case atStart => exact ⟨0, [], by omega, rfl, O0, ⟨rfl, fun x hx => by cases hx⟩, T0⟩
      case round =>
        clear O0 T0
        obtain ⟨k, xs, hk, rfl, O, ⟨hl, hb⟩, T2⟩ := hrel
        have hk2 : k ≤ 1 + n' := by omega
        have hxl : xs.length ≤ 3 := by omega
        have HK := Lib.hid hk
        have HL2 := Lib.hid hl
        have HB := Lib.hid hb
        have hcr := T.1.lt
        clear hk hl hb
        by_cases hlt : k < 1 + n'
        · have i1 : (k : Int) < 1 + (n' : Int) := by omega
          go_wp2_with fail
          refine (l1BelowS cb 256 _ T2.1 (by omega) (by omega)).mono ?_
          rintro e w2 ⟨y, rfl, hy, t2⟩
          have O2 := O.trn t2 hcr
          have T3 := T2.trans t2
          have HZ2 : Hid (wi.heap.size ≤ w2.heap.size) := Lib.hid T3.2.size
          go_wp2_with (at_builtin; refine wpList_appI _ rfl _ _ rfl wi.heap.size _ _ xs [y] rfl rfl (O2.keep ((Bel.refl _).alloc _)) (RI.lit1 _ _ _) (by simp only [List.length_cons, List.length_nil]; omega) (by have := HZ2.out; simp; omega) ?_)
          intro v3 w3 O3 hG
          have T4 : Trn cb wi w3 := T3.grown O2 hG (Nat.le_refl _) hcr
          go_wp2
          go_roundg (1 + n' - (k + 1))
          case measure => have := HK.out; omega
          case rel => exact ⟨k + 1, xs ++ [y], by omega, by go_num, O3, ⟨by rw [List.length_append, HL2.out]; rfl, HB.out.snoc hy⟩, T4⟩
        · have hke : k = 1 + n' := by omega
          have i1 : ¬ (k : Int) < 1 + (n' : Int) := by omega
          have hj4 : j ≤ 4 := by have := HL.out; omega
          obtain ⟨A, c, esv, _, _⟩ := M.shape
          subst esv
          have K2 := K.trn T2 (by omega)
          have R2 := R.trn T2 hlt0
          have M2 := M.mid T2.2 (by omega)
          have T3 := T.trans T2
          have hzq : wi.heap.size ≤ wr.heap.size := T2.2.size
          have rx := (O.rx (ob := (Value.slice A rows.length c).ownBlock) (fun q hq e => by have h1 := (O.block q hq).1; have h2 := (M.block q e).2; omega)).low hz
          have HLX : Hid (xs.length = 1 + n') := Lib.hid (by rw [HL2.out, hke])
          have eLT : (rows ++ [xs]).length = rows.length + 1 := by simp
          have hMb := Lib.hid (fun q hq => (M2.block q hq).1)
          obtain ⟨Ax, cx, ex, _, _, _⟩ := O.reads
          subst ex
          obtain ⟨ck, fk, zk⟩ := K2.facts
          clear hke
          go_wp2_with (at_builtin; go_loud (refine wpList_appR _ rfl _ _ rfl (gB + 1) _ _ _ rows xs rfl rfl (M2.keep ((Bel.refl _).alloc _)) ((Blk.new wr 22 _).facts.1 0) rfl (rx.keep ((Bel.refl _).alloc _)) (by omega) (by simp; omega) ?_))
          intro v2 w2 M3 hG _
          have K3 := (K2.alloc _).grown hG (fun e => by have := hMb.out _ e; omega)
          have R3 := (R2.alloc _).grown hG (fun e => by have := hMb.out _ e; omega)
          have T4 : Trn cb w w2 := (T3.then ((Bel.refl _).alloc _)).row hG (fun q hq => hMb.out q hq) (by omega) (by omega)
          have hz2 : gB + 1 ≤ w2.heap.size := by have := hG.size; rw [World.size_alloc] at this; omega
          obtain ⟨A3, c3, e3, _, _⟩ := M3.shape
          rw [eLT] at e3
          subst e3
          have K4 : Blk (w2.setCell ⟨gB, 1, none⟩ (.slice A3 (rows.length + 1) c3)) gB 47 #[.int .i64 id, .slice A3 (rows.length + 1) c3] := K3.set 1 _
          have R4 := R3.far (p := ⟨gB, 1, none⟩) (by dsimp only; omega) (.slice A3 (rows.length + 1) c3)
          have M4 := M3.mid (Mid.set (lo := gB) (hi := gB + 1) w2 (p := ⟨gB, 1, none⟩) (.slice A3 (rows.length + 1) c3) (Nat.le_refl _) (by simp)) (Nat.le_refl _)
          have T5 := T4.set (p := ⟨gB, 1, none⟩) (.slice A3 (rows.length + 1) c3) (by dsimp only; omega) (by dsimp only; omega)
          have hz5 : gB + 1 ≤ (w2.setCell ⟨gB, 1, none⟩ (.slice A3 (rows.length + 1) c3)).heap.size := by simp [World.setCell]; omega
          obtain ⟨ck3, fk3, zk3⟩ := K3.facts
          clear ck fk zk
          go_wp2
          go_roundg j
          case measure => have := HJ.out; omega
          case rel => exact ⟨j, rows ++ [xs], _, rfl, by go_num, K4, R4, M4, HG.out.snoc HLX.out HB.out, by rw [eLT]; have := HL.out; omega, T5, hz5⟩
end Go.Proofs.Ytjlcnbicehjjjaa

namespace Go.Proofs.Ytjlcnbicehjjjaa
open Go.ChangeShapes Go.WideShapes Go.ChangeAt Go.RowKit Go.Joins Go.Deep
set_option linter.unusedVariables false
set_option maxRecDepth 100000

set_option maxHeartbeats 4000000 in
theorem drawHdS (v : Value) (n : Nat) (w : World) (hv : RB w v n) (hn : n ≤ 1048576) :
    Calls Try.prog 29 #[v] w fun e w' => ∃ a gv m kv s, e = .returned (.tuple #[.agg #[.int .i64 a, gv], .agg #[kv]]) ∧ RII w' gv m ∧ RI w' kv (nhZ s (colN m : Int)) ∧ gnrB a m = true ∧ Bel w w' := by
  obtain ⟨A0, c0, rfl, _, _, _⟩ := id hv
  have R0 := (Blk.new w 47 #[.int .i64 0, .slice none 0 0]).alloc (.cells #[.slice none 0 0] 24)
  have Q0 := Blk.new2 w (.cells #[.int .i64 0, .slice none 0 0] 47) 24 #[.slice none 0 0]
  have Y0 : Bel w ((w.alloc (.cells #[.int .i64 0, .slice none 0 0] 47)).alloc (.cells #[.slice none 0 0] 24)) := ((Bel.refl _).alloc _).alloc _
  go_enter Try.func29, Try.ntmps29
  go_wp2_with fail
  refine (l1NewS _ n _ (hv.keep Y0) hn).mono ?_
  rintro e w1 ⟨cb, rfl, hcb, C1, hb1⟩
  rw [World.size_alloc, World.size_alloc] at hcb
  have R1 := hb1.keep R0
  have Q1 := hb1.keep Q0
  have Y1 := Y0.trans hb1
  go_wp2_with fail
  refine (l10GenS cb _ C1).mono ?_
  rintro e w2 ⟨a, gv, m, rfl, M2, hg, t2⟩
  have R2 := R1.mid t2.2 (.inl (by omega))
  have Q2 := Q1.mid t2.2 (.inl (by omega))
  have Y2 := Y1.trn t2 (by omega)
  have hl1 := C1.lt
  have hz2 := t2.2.size
  obtain ⟨A, c, eg, _, _⟩ := M2.shape
  subst eg
  have K3 : Blk (w2.alloc (.cells #[.int .i64 a, .slice A m.length c] 47)) w2.heap.size 47 #[.int .i64 a, .slice A m.length c] := Blk.new w2 _ _
  have R3 := R2.alloc (.cells #[.int .i64 a, .slice A m.length c] 47)
  have Q3 := Q2.alloc (.cells #[.int .i64 a, .slice A m.length c] 47)
  have M3 := M2.keep ((Bel.refl w2).alloc (.cells #[.int .i64 a, .slice A m.length c] 47))
  have C3 := t2.1.keep ((Bel.refl w2).alloc (.cells #[.int .i64 a, .slice A m.length c] 47))
  have Y3 := Y2.alloc (.cells #[.int .i64 a, .slice A m.length c] 47)
  have hlo : w.heap.size + 2 < w1.heap.size := by omega
  have HG := Lib.hid hg
  have hm16 : colN m ≤ 16 := (gnrB_facts hg).2.2.1.2
  clear hg R0 Q0 Y0 R1 Q1 Y1 R2 Q2 Y2 M2 hb1 C1
  go_wp2
  generalize (w2.alloc (.cells #[.int .i64 a, .slice A m.length c] 47)) = w3 at *
  have hgB : w1.heap.size ≤ w2.heap.size := hz2
  generalize w2.heap.size = gB at *
  generalize w1.heap.size = lo at *
  have rk0 : w3.cell? ⟨gB, 0, none⟩ = some (.int .i64 a) := K3.facts.1 0
  have rk1 : w3.cell? ⟨gB, 1, none⟩ = some (.slice A m.length c) := K3.facts.1 1
  go_region_law (first
    | (go_simp; go_at_call 71; refine (l1BelowS cb 99 _ (by exact C3.keep ((Bel.refl _).drew)) (by omega) (by omega)).mono ?_; rintro e wT ⟨s, rfl, hs, tT⟩; have KT := (K3.drew).trn tT (by omega); have RT := (R3.drew).mid tT.2 (.inl (by omega)); have QT := (Q3.drew).mid tT.2 (.inl (by omega)); have MT := (M3.keep ((Bel.refl _).drew)).mid tT.2 (by omega); have YT := (Y3.drew).trn tT (by omega); have rk0T : wT.cell? ⟨gB, 0, none⟩ = some (.int .i64 a) := KT.facts.1 0; have rk1T : wT.cell? ⟨gB, 1, none⟩ = some (.slice A m.length c) := KT.facts.1 1)
    | (go_simp; go_at_call 72; refine (colS _ m _ (by exact MT.reads)).mono ?_; rintro e wC ⟨rfl, rfl⟩)
    | (go_simp; go_at_call 10; refine (nhS s (colN m : Int) _ (by omega) (by omega)).mono ?_; rintro e wU ⟨kv, rfl, OU, hbU⟩; obtain ⟨Ak, ck, ek, _, _, _⟩ := OU.reads; subst ek; have KU := hbU.keep KT; have RU := hbU.keep RT; have QU := hbU.keep QT; have MU := MT.keep hbU; have YU := YT.trans hbU; have rk0U : wU.cell? ⟨gB, 0, none⟩ = some (.int .i64 a) := KU.facts.1 0; have rk1U : wU.cell? ⟨gB, 1, none⟩ = some (.slice A m.length c) := KU.facts.1 1; have rr0 := RU.facts.1 0; have rr1 := RU.facts.1 1; have fr0 := RU.facts.2.1 0; have fr1 := RU.facts.2.1 1; have rq0 := QU.facts.1 0; have fq0 := QU.facts.2.1 0))
  all_goals (
    have hloU : lo ≤ wU.heap.size := by have := hbU.size; have := tT.2.size; have h6 : w3.drew.heap.size = w3.heap.size := rfl; have := K3.lt; omega
    have hloT : lo ≤ wT.heap.size := by have := tT.2.size; have h6 : w3.drew.heap.size = w3.heap.size := rfl; have := K3.lt; omega
    have R9 : Blk (((wU.setCell ⟨w.heap.size, 0, none⟩ (.int .i64 a)).setCell ⟨w.heap.size, 1, none⟩ (.slice A m.length c)).setCell ⟨w.heap.size + 1, 0, none⟩ (.slice Ak (nhZ s (colN m : Int)).length ck)) w.heap.size 47 #[.int .i64 a, .slice A m.length c] := (((RU.set 0 (.int .i64 a)).set 1 (.slice A m.length c)).far (p := ⟨w.heap.size + 1, 0, none⟩) (by dsimp only; omega) (.slice Ak (nhZ s (colN m : Int)).length ck))
    have Q9 : Blk (((wU.setCell ⟨w.heap.size, 0, none⟩ (.int .i64 a)).setCell ⟨w.heap.size, 1, none⟩ (.slice A m.length c)).setCell ⟨w.heap.size + 1, 0, none⟩ (.slice Ak (nhZ s (colN m : Int)).length ck)) (w.heap.size + 1) 24 #[.slice Ak (nhZ s (colN m : Int)).length ck] := (((QU.far (p := ⟨w.heap.size, 0, none⟩) (by dsimp only; omega) (.int .i64 a)).far (p := ⟨w.heap.size, 1, none⟩) (by dsimp only; omega) (.slice A m.length c)).set 0 (.slice Ak (nhZ s (colN m : Int)).length ck))
    have M9 := (((MU.mid (Mid.set (lo := w.heap.size) (hi := w.heap.size + 1) _ (p := ⟨w.heap.size, 0, none⟩) (.int .i64 a) (Nat.le_refl _) (by dsimp only; omega)) (by omega)).mid (Mid.set (lo := w.heap.size) (hi := w.heap.size + 1) _ (p := ⟨w.heap.size, 1, none⟩) (.slice A m.length c) (Nat.le_refl _) (by dsimp only; omega)) (by omega)).mid (Mid.set (lo := w.heap.size + 1) (hi := w.heap.size + 2) _ (p := ⟨w.heap.size + 1, 0, none⟩) (.slice Ak (nhZ s (colN m : Int)).length ck) (Nat.le_refl _) (by dsimp only; omega)) (by omega))
    have O9 := (((OU.setFar (p := ⟨w.heap.size, 0, none⟩) (by dsimp only; omega) (.int .i64 a)).setFar (p := ⟨w.heap.size, 1, none⟩) (by dsimp only; omega) (.slice A m.length c)).setFar (p := ⟨w.heap.size + 1, 0, none⟩) (by dsimp only; omega) (.slice Ak (nhZ s (colN m : Int)).length ck))
    have Y9 := (((YU.setCell (p := ⟨w.heap.size, 0, none⟩) (Nat.le_refl _) (.int .i64 a)).setCell (p := ⟨w.heap.size, 1, none⟩) (Nat.le_refl _) (.slice A m.length c)).setCell (p := ⟨w.heap.size + 1, 0, none⟩) (by dsimp only; omega) (.slice Ak (nhZ s (colN m : Int)).length ck))
    clear KT RT QT MT YT KU RU QU MU YU rk0U rk1U rr0 rr1 fr0 fr1 rq0 fq0 rk0T rk1T rk0 rk1 K3 R3 Q3 M3 C3 Y3 OU hbU tT
    generalize (((wU.setCell ⟨w.heap.size, 0, none⟩ (.int .i64 a)).setCell ⟨w.heap.size, 1, none⟩ (.slice A m.length c)).setCell ⟨w.heap.size + 1, 0, none⟩ (.slice Ak (nhZ s (colN m : Int)).length ck)) = W9 at *
    have c9 := R9.facts.1
    have d9 := Q9.facts.1
    go_wp2
    refine bodyPost_ret (v := .tuple #[.agg #[.int .i64 a, .slice A m.length c], .agg #[.slice Ak (nhZ s (colN m : Int)).length ck]]) (by simp [results, Try.results29, go_sem, c9, d9]) rfl ?_
    first | exact ⟨_, _, _, _, _, rfl, M9.reads, O9.reads, HG.out, Y9⟩ | exact ⟨_, _, _, rfl, M9.reads, _, O9.reads, HG.out, Y9⟩ | exact ⟨_, _, rfl, _, M9.reads, _, O9.reads, HG.out, Y9⟩)
end Go.Proofs.Ytjlcnbicehjjjaa
