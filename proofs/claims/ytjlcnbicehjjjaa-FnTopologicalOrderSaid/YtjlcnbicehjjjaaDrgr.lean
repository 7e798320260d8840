/-
  Draws of graphs: l21Graph: a weak contract (a graph that can be read). Condition: a cursor that can be read.
-/
import Derived.Test.YtjlcnbicehjjjaaDrc
import Derived.Test.YtjlcnbicehjjjaaApp3
import Derived.Deep.RegionLaw
namespace Go.Proofs.Ytjlcnbicehjjjaa
open Go.ChangeShapes Go.WideShapes Go.ChangeAt Go.RowKit Go.Joins Go.Deep
set_option linter.unusedVariables false
set_option maxRecDepth 100000

theorem OT.mid {T : TypeId} {w w' : World} {a b base : Nat} {v : Value} {fs : List Tr} (h : OT T w base v fs) (m : Mid a b w w') (hl : b ≤ base) : OT T w' base v fs := by
  obtain ⟨hl2, h0 | ⟨g, cap, cur, rfl, hb, hh, h1, h2, h3, h4⟩⟩ := h
  · exact ⟨hl2, .inl h0⟩
  · exact ⟨hl2, .inr ⟨g, cap, cur, rfl, hb, (m.block g (Blk.lt hh) (.inr (by omega))).trans hh, h1, h2, h3, h4⟩⟩
theorem OT.trn {T : TypeId} {w w' : World} {base cb : Nat} {v : Value} {fs : List Tr} (h : OT T w base v fs) (t : Trn cb w w') (hl : cb < base) : OT T w' base v fs := h.mid t.2 (by omega)
set_option maxHeartbeats 4000000 in
theorem l21GraphS (cb : Nat) (q : Bool) (w : World) (hc : Cur w cb) :
    Calls Try.prog 129 #[.pointer (some ⟨cb, 0, none⟩), .bool q] w fun e w' => ∃ s v fs, e = .returned (.agg #[.int .i64 s, v]) ∧ OT 80 w' w.heap.size v fs ∧ fs.length ≤ 20 ∧ Trn cb w w' := by
  have hlt0 := hc.lt
  have R0 := Blk.new w 73 #[.int .i64 0, .slice none 0 0]
  have T0 : Trn cb w (w.alloc (.cells #[.int .i64 0, .slice none 0 0] 73)) := Trn.of hc ((Bel.refl _).alloc _)
  go_enter Try.func129, Try.ntmps129
  go_wp2_with fail
  refine (l1BelowS cb 5 _ T0.1 (by omega) (by omega)).mono ?_
  rintro e w1 ⟨y, rfl, ⟨y0, y1⟩, t1⟩
  obtain ⟨y, rfl⟩ := Int.eq_ofNat_of_zero_le y0
  have R1 := R0.trn t1 hlt0
  have T1 := T0.trans t1
  have z1 : w.heap.size + 1 ≤ w1.heap.size := by have := t1.2.size; rw [World.size_alloc] at this; exact this
  have K2 : Blk (w1.alloc (.cells #[.int .i64 (2 + (y : Int)), .slice none 0 0] 73)) w1.heap.size 73 #[.int .i64 (2 + (y : Int)), .slice none 0 0] := Blk.new w1 _ _
  have R2 := R1.alloc (.cells #[.int .i64 (2 + (y : Int)), .slice none 0 0] 73)
  have T2 := T1.then ((Bel.refl w1).alloc (.cells #[.int .i64 (2 + (y : Int)), .slice none 0 0] 73))
  have z2 : w1.heap.size + 1 ≤ (w1.alloc (.cells #[.int .i64 (2 + (y : Int)), .slice none 0 0] 73)).heap.size := by simp
  have hy5 : y < 5 := by omega
  clear R0 T0 R1 T1 t1
  go_wp2
  generalize (w1.alloc (.cells #[.int .i64 (2 + (y : Int)), .slice none 0 0] 73)) = w2 at *
  generalize w1.heap.size = gB at *
  go_loopg [6] (2 + y) (fun f i wr => ∃ (a : Nat) (v : Value) (fs : List Tr), a + f = 2 + y ∧ i = .int .i64 a ∧ Blk wr gB 73 #[.int .i64 (2 + (y : Int)), v] ∧ OT 80 wr (gB + 1) v fs ∧ Hid (fs.length ≤ 20) ∧ Blk wr w.heap.size 73 #[.int .i64 0, .slice none 0 0] ∧ Trn cb w wr ∧ gB + 1 ≤ wr.heap.size)
  case atStart => exact ⟨0, _, [], by omega, rfl, K2, OT.nil _ _ _, Lib.hid (by simp), R2, T2, z2⟩
  case round =>
    clear K2 R2 T2 z2
    obtain ⟨a, v, fs, ha, rfl, K, O, HFL, R, T, hz⟩ := hrel
    have ha2 : a ≤ 2 + y := by omega
    have HA := Lib.hid ha
    clear ha
    obtain ⟨A, c, ev, _, _, _⟩ := O.reads
    subst ev
    obtain ⟨ck, fk, zk⟩ := K.facts
    by_cases hlt : a < 2 + y
    · have i1 : (a : Int) < 2 + (y : Int) := by omega
      go_wp2
      clear ck fk zk
      go_loopg [7] (2 + y) (fun f i wr => ∃ (b : Nat) (v : Value) (fs : List Tr), b + f = 2 + y ∧ i = .int .i64 b ∧ Blk wr gB 73 #[.int .i64 (2 + (y : Int)), v] ∧ OT 80 wr (gB + 1) v fs ∧ Hid (fs.length ≤ 20) ∧ Blk wr w.heap.size 73 #[.int .i64 0, .slice none 0 0] ∧ Trn cb w wr ∧ gB + 1 ≤ wr.heap.size)
      case atStart => exact ⟨0, _, fs, by omega, rfl, K, O, HFL, R, T, hz⟩
      case round =>
        clear K O HFL R T hz
        obtain ⟨b, v, fs, hb, rfl, K, O, HFL, R, T, hz⟩ := hrel
        have hb2 : b ≤ 2 + y := by omega
        have HB := Lib.hid hb
        clear hb
        obtain ⟨A, c, ev, _, _, _⟩ := O.reads
        subst ev
        obtain ⟨ck, fk, zk⟩ := K.facts
        by_cases hlb : b < 2 + y
        · have i2 : (b : Int) < 2 + (y : Int) := by omega
          by_cases hab : a = b
          · subst hab
            have e0 : ((a : Int) == (a : Int)) = true := by simp
            go_wp2
            go_roundg (2 + y - (a + 1))
            case measure => have := HB.out; omega
            case rel => exact ⟨a + 1, _, fs, by omega, by go_num, K, O, HFL, R, T, hz⟩
          have e0 : ((a : Int) == (b : Int)) = false := beq_eq_false_iff_ne.2 (by omega)
          have hin : a ≠ b := hab
          clear hab
          rcases Decidable.em (q = true ∧ b < a) with ⟨rfl, hba⟩ | hqb
          · have e1 : (b : Int) < (a : Int) := by omega
            go_wp2
            go_roundg (2 + y - (b + 1))
            case measure => have := HB.out; omega
            case rel => exact ⟨b + 1, _, fs, by omega, by go_num, K, O, HFL, R, T, hz⟩
          by_cases h20 : fs.length < 20
          · have e2 : ¬ (20 : Int) ≤ (fs.length : Int) := by omega
            have hwalk : ∀ q' : Bool, q' = q → (q' = false ∨ ¬ (b : Int) < (a : Int)) := fun q' hq => by
              cases q' with
              | false => exact .inl rfl
              | true => exact .inr (fun h => hqb ⟨hq.symm, by omega⟩)
            have hcase := hwalk q rfl
            clear hwalk hqb
            rcases hcase with rfl | e1
            all_goals (try cases q)
            all_goals (
              go_wp2_with fail
              refine (l1OnceS cb 2 _ T.1 (by omega) (by omega)).mono ?_
              rintro e w3 ⟨x, rfl, t3⟩
              have K3 := K.trn t3 (by omega)
              have O3 := O.trn t3 (by omega)
              have R3 := R.trn t3 hlt0
              have T3 := T.trans t3
              have hz3 : gB + 1 ≤ w3.heap.size := Nat.le_trans hz t3.2.size
              clear ck fk zk K O R T t3 hz
              obtain ⟨ck, fk, zk⟩ := K3.facts
              cases x
              · go_wp2
                go_roundg (2 + y - (b + 1))
                case measure => have := HB.out; omega
                case rel => exact ⟨b + 1, _, fs, by omega, by go_num, K3, O3, HFL, R3, T3, hz3⟩
              · have rk : w3.cell? ⟨gB, 1, none⟩ = some (.slice A fs.length c) := ck 1
                have hOb := Lib.hid (fun q hq => (O3.block q hq).1)
                clear ck fk
                go_wp2
                go_region_law (first
                  | (go_simp; go_at_call 71; refine (l1BelowS cb 3 _ (by exact T3.1.keep ((Bel.refl _).drew)) (by omega) (by omega)).mono ?_; rintro e wT ⟨u, rfl, hu, tT⟩; have hwu : IntKind.i64.wrap (1 + u) = 1 + u := (IntWalk.i64_in _ (by omega)); have KT := (K3.drew).trn tT (by omega); have OT9 := (O3.keep ((Bel.refl _).drew)).trn tT (by omega); have RT9 := (R3.drew).trn tT hlt0; have TT := (T3.then ((Bel.refl _).drew)).trans tT; have rkT : wT.cell? ⟨gB, 1, none⟩ = some (.slice A fs.length c) := KT.facts.1 1; have hzT : gB + 1 ≤ wT.heap.size := (KT.lt); have rkTA := ((Bel.refl wT).alloc (.cells #[.int .i64 (a : Int), .int .i64 (b : Int), .int .i64 (1 + u)] 80)).cell1 KT.lt rkT)
                  | (refine step_appEd _ (by rfl) _ _ (by rfl) (gB + 1) _ _ fs [((a : Int), (b : Int), 1 + u)] (by rfl) (by rfl) (by exact OT9.keep ((Bel.refl _).alloc _)) (by exact RT.one _ _ ((a : Int), (b : Int), 1 + u)) (by simp only [List.length_cons, List.length_nil]; omega) (by simp only [World.size_alloc]; omega) ?_; intro v5 w5 O5 hG; have K5 := (KT.alloc (.cells #[.int .i64 (a : Int), .int .i64 (b : Int), .int .i64 (1 + u)] 80)).grown hG (fun e => by have := hOb.out _ e; omega); have eLT : (fs ++ [((a : Int), (b : Int), 1 + u)]).length = fs.length + 1 := (by simp); obtain ⟨A5, c5, e5, _, _, _⟩ := O5.reads; rw [eLT] at e5; subst e5; have rk5 := K5.facts.1 1; have fk5 := K5.facts.2.1 1))
                all_goals (
                  have R5 := (RT9.alloc (.cells #[.int .i64 (a : Int), .int .i64 (b : Int), .int .i64 (1 + u)] 80)).grown hG (fun e => by have := hOb.out _ e; omega)
                  have T5 : Trn cb w w5 := (TT.then ((Bel.refl _).alloc _)).row hG (fun q hq => hOb.out q hq) (by omega) (by omega)
                  have K6 : Blk (w5.setCell ⟨gB, 1, none⟩ (.slice A5 (fs.length + 1) c5)) gB 73 #[.int .i64 (2 + (y : Int)), .slice A5 (fs.length + 1) c5] := K5.set 1 _
                  have O6 := O5.setFar (p := ⟨gB, 1, none⟩) (by dsimp only; omega) (.slice A5 (fs.length + 1) c5)
                  have R6 := R5.far (p := ⟨gB, 1, none⟩) (by dsimp only; omega) (.slice A5 (fs.length + 1) c5)
                  have T6 := T5.set (p := ⟨gB, 1, none⟩) (.slice A5 (fs.length + 1) c5) (by dsimp only; omega) (by dsimp only; omega)
                  have hz6 : gB + 1 ≤ (w5.setCell ⟨gB, 1, none⟩ (.slice A5 (fs.length + 1) c5)).heap.size := K6.lt
                  have HFL6 : Hid ((fs ++ [((a : Int), (b : Int), 1 + u)]).length ≤ 20) := Lib.hid (by rw [eLT]; omega)
                  clear KT OT9 RT9 TT rkT rkTA hG K5 O5 R5 T5 rk5 fk5 rk eLT
                  go_wp2
                  go_roundg (2 + y - (b + 1))
                  case measure => have := HB.out; omega
                  case rel => exact ⟨b + 1, _, _, by omega, by go_num, K6, O6, HFL6, R6, T6, hz6⟩))
          · have e2 : (20 : Int) ≤ (fs.length : Int) := by omega
            have hcase : q = false ∨ ¬ (b : Int) < (a : Int) := by
              cases q with
              | false => exact .inl rfl
              | true => exact .inr (fun h => hqb ⟨rfl, by omega⟩)
            clear hqb
            rcases hcase with rfl | e1
            all_goals (try cases q)
            all_goals (
              go_wp2
              go_roundg (2 + y - (b + 1))
              case measure => have := HB.out; omega
              case rel => exact ⟨b + 1, _, fs, by omega, by go_num, K, O, HFL, R, T, hz⟩)
        · have hbe : b = 2 + y := by omega
          have i2 : ¬ (b : Int) < 2 + (y : Int) := by omega
          clear hbe
          go_wp2
          go_roundg (2 + y - (a + 1))
          case measure => have := HA.out; omega
          case rel => exact ⟨a + 1, _, fs, by omega, by go_num, K, O, HFL, R, T, hz⟩
    · have i1 : ¬ (a : Int) < 2 + (y : Int) := by omega
      obtain ⟨cr, fr, zr⟩ := R.facts
      have R9 := (R.set 0 (.int .i64 (2 + (y : Int)))).set 1 (.slice A fs.length c)
      have O9 := (O.setFar (p := ⟨w.heap.size, 0, none⟩) (by dsimp only; omega) (.int .i64 (2 + (y : Int)))).setFar (p := ⟨w.heap.size, 1, none⟩) (by dsimp only; omega) (.slice A fs.length c)
      have T9 := (T.set (p := ⟨w.heap.size, 0, none⟩) (.int .i64 (2 + (y : Int))) (Nat.le_refl _) hlt0).set (p := ⟨w.heap.size, 1, none⟩) (.slice A fs.length c) (Nat.le_refl _) hlt0
      go_wp2
      have cr9 := R9.facts.1
      clear cr fr ck fk
      refine bodyPost_ret (v := .agg #[.int .i64 (2 + (y : Int)), .slice A fs.length c]) (by simp [results, Try.results129, go_sem, cr9]) rfl ?_
      first | exact ⟨_, _, fs, rfl, O9.low (by omega), HFL.out, T9⟩ | exact ⟨_, _, rfl, fs, O9.low (by omega), HFL.out, T9⟩
end Go.Proofs.Ytjlcnbicehjjjaa
