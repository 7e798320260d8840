/-
  Draws of vectors and hash keys: l4Group, l5Any, l18Key: weak contracts (what is drawn can be read, its numbers are ints).
-/
import Derived.Test.YtjlcnbicehjjjaaDrc
import Derived.Test.YtjlcnbicehjjjaaNhk
import Derived.Test.YtjlcnbicehjjjaaVx
import Derived.Test.YtjlcnbicehjjjaaFnd
import Derived.Deep.RegionLaw
namespace Go.Proofs.Ytjlcnbicehjjjaa
open Go.ChangeShapes Go.WideShapes Go.ChangeAt Go.RowKit Go.Joins Go.Deep
set_option linter.unusedVariables false
set_option maxRecDepth 100000

theorem OI.ne {w : World} {base gk : Nat} {v : Value} {xs : List Int} {T : TypeId} {cs : Array Value} (h : OI w base v xs) (k : Blk w gk T cs) (hT : T ≠ 3) : ∀ q, v.ownBlock = some q → q ≠ gk := by
  rintro q hq rfl
  obtain ⟨hl, ⟨rfl, h0⟩ | ⟨g, cap, cur, rfl, hb, hh, h1, h2, h3, h4⟩⟩ := h
  · simp [Value.ownBlock] at hq
  · have e : g = q := by simpa [Value.ownBlock] using hq
    subst e
    have k2 : w.heap[g]? = some (.cells cs T (0, 0)) := k
    have h5 : w.heap[g]? = some (.cells cur 3 (0, 0)) := hh
    rw [h5] at k2
    injection k2 with k2
    injection k2 with _ e2 _
    exact hT e2.symm
theorem OI.setFar2 {w : World} {base : Nat} {v : Value} {xs : List Int} (h : OI w base v xs) {p : Addr} (hp : ∀ q, v.ownBlock = some q → q ≠ p.block) (u : Value) : OI (w.setCell p u) base v xs := by
  obtain ⟨hl, h | ⟨g, cap, cur, rfl, hb, hh, h1, h2, h3, h4⟩⟩ := h
  · exact ⟨hl, .inl h⟩
  · exact ⟨hl, .inr ⟨g, cap, cur, rfl, hb, (Below.heap_setCell w p u g (hp g rfl)).trans hh, h1, h2, h3, h4⟩⟩
theorem l1LitS (cb : Nat) (xs : List Int) (w : World) (hc : Cur w cb) (h0 : 0 < xs.length) (h1 : xs.length ≤ 1000) :
    Calls Try.prog 118 #[.pointer (some ⟨cb, 0, none⟩), .slice (some ⟨w.heap.size, 0, none⟩) xs.length xs.length] (w.alloc (.cells ((xs.map (Value.int .i64)).toArray) 3)) fun e w' => ∃ x : Int, e = .returned (.int .i64 x) ∧ x ∈ xs ∧ Trn cb w w' := by
  have O := OI.lit (Blk.new w 3 ((xs.map (Value.int .i64)).toArray)) (Nat.le_refl _) (by omega)
  have hl := hc.lt
  refine (l1IntS cb _ xs _ (hc.keep ((Bel.refl _).alloc _)) O.reads h0 h1 (fun w' t => (O.trn t hl).reads)).mono ?_
  rintro e w' ⟨x, he, hx, t⟩
  exact ⟨x, he, hx, (Trn.of hc ((Bel.refl _).alloc _)).trans t⟩
set_option maxHeartbeats 1000000 in
theorem l4GroupS (cb : Nat) (w : World) (hc : Cur w cb) :
    Calls Try.prog 119 #[.pointer (some ⟨cb, 0, none⟩)] w fun e w' => ∃ x : Int, e = .returned (.int .i64 x) ∧ (-1 ≤ x ∧ x ≤ 2039) ∧ Trn cb w w' := by
  go_enter Try.func119, Try.ntmps119
  go_wp2_with fail
  refine (l1OnceS cb 5 _ hc (by omega) (by omega)).mono ?_
  rintro e w1 ⟨b, rfl, t1⟩
  cases b
  · go_wp2_with fail
    refine (l4ElementS cb _ t1.1).mono ?_
    rintro e w2 ⟨y, rfl, hy, t2⟩
    have HP := Lib.hid (fun w => powS 4 y 2039 w (by omega) (by omega) (by omega) (by omega) (by omega))
    have hb := tmod_bd (a := (4 : Int) ^ y.toNat) (n := 2039) (Int.pow_nonneg (by omega)) (by omega)
    generalize (4 : Int) ^ y.toNat % 2039 = q at *
    go_wp2_with fail
    refine (HP.out _).mono ?_
    rintro e w3 ⟨rfl, rfl⟩
    go_wp2
    go_ret
    exact ⟨_, rfl, by omega, t1.trans t2⟩
  · go_wp2_with fail
    refine (l1LitS cb [-1, 0, 1, 2, 2038, 2039] w1 t1.1 (by decide) (by decide)).mono ?_
    rintro e w2 ⟨y, rfl, hy, t2⟩
    have hb : -1 ≤ y ∧ y ≤ 2039 := by simp at hy; omega
    clear hy
    go_wp2
    go_ret
    exact ⟨_, rfl, hb, t1.trans t2⟩
/-- Small numbers. -/
def Sml (xs : List Int) : Prop := xs.length ≤ 1100 ∧ ∀ x ∈ xs, -1 ≤ x ∧ x ≤ 2039
theorem In1018.sml {xs : List Int} (h : In1018 xs) (hl : xs.length ≤ 1000) : Sml xs := ⟨by omega, fun x hx => by have := h x hx; omega⟩
theorem sml_snoc {xs : List Int} {x : Int} (h : Sml xs) (hl : xs.length ≤ 1099) (hx : -1 ≤ x ∧ x ≤ 2039) : Sml (xs ++ [x]) := ⟨by simp; omega, fun y hy => by
  rcases List.mem_append.1 hy with h1 | h1
  · exact h.2 y h1
  · rw [List.mem_singleton.1 h1]; exact hx⟩
theorem sml_set {xs : List Int} {x : Int} {i : Nat} (h : Sml xs) (hx : -1 ≤ x ∧ x ≤ 2039) : Sml (xs.set i x) := ⟨by rw [List.length_set]; exact h.1, fun y hy => by
  rcases List.mem_or_eq_of_mem_set hy with h1 | h1
  · exact h.2 y h1
  · rw [h1]; exact hx⟩
set_option maxHeartbeats 2000000 in
theorem l5AnyS (cb n : Nat) (w : World) (hc : Cur w cb) (hn : n ≤ 1000) :
    Calls Try.prog 102 #[.pointer (some ⟨cb, 0, none⟩), .int .i64 (n : Int)] w fun e w' => ∃ r xs, e = .returned r ∧ OI w' w.heap.size r xs ∧ Sml xs ∧ Trn cb w w' := by
  have hlt0 := hc.lt
  go_enter Try.func102, Try.ntmps102
  go_wp2_with fail
  refine (l5VectorS cb n _ hc hn).mono ?_
  rintro e w1 ⟨r, xs, rfl, O1, ⟨hl, hb⟩, t1⟩
  have hs := Lib.hid (hb.sml (by omega))
  have hxl : xs.length ≤ 1000 := by omega
  clear hl hb
  go_wp2_with fail
  refine (l1BelowS cb 10 _ t1.1 (by omega) (by omega)).mono ?_
  rintro e w2 ⟨x, rfl, hx, t2⟩
  have O2 := O1.trn t2 hlt0
  have T2 := t1.trans t2
  have HZ2 : Hid (w.heap.size ≤ w2.heap.size) := Lib.hid T2.2.size
  by_cases h0 : x = 0
  · subst h0
    go_wp2_with fail
    refine (l1LitS cb [-1, 0, 1019] w2 T2.1 (by decide) (by decide)).mono ?_
    rintro e w3 ⟨y, rfl, hy, t3⟩
    have hb : -1 ≤ y ∧ y ≤ 2039 := by simp at hy; omega
    have O3 := O2.trn t3 hlt0
    have T3 := T2.trans t3
    have HZ3 : Hid (w.heap.size ≤ w3.heap.size) := Lib.hid T3.2.size
    clear hy
    go_wp2_with (at_builtin; refine wpList_appI _ rfl _ _ rfl w.heap.size _ _ xs [y] rfl rfl (O3.keep ((Bel.refl _).alloc _)) (RI.lit1 _ _ _) (by simp only [List.length_cons, List.length_nil]; omega) (by have := HZ3.out; simp; omega) ?_)
    intro v4 w4 O4 hG
    have T4 : Trn cb w w4 := T3.grown O3 hG (Nat.le_refl _) hlt0
    go_wp2
    go_ret
    exact ⟨_, _, rfl, O4, sml_snoc hs.out (by omega) hb, T4⟩
  by_cases h1 : x = 1
  · subst h1
    go_wp2_with fail
    refine (l1BelowS cb 2 _ T2.1 (by omega) (by omega)).mono ?_
    rintro e w3 ⟨y, rfl, ⟨y0, y1⟩, t3⟩
    obtain ⟨k, rfl⟩ := Int.eq_ofNat_of_zero_le y0
    have T3 := T2.trans t3
    have HZ3 : Hid (w.heap.size ≤ w3.heap.size) := Lib.hid T3.2.size
    have hmk : ∀ W : World, (Instr.makeSlice 22 (.int .i64 (40 + (k : Int))) (.int .i64 (40 + (k : Int)))).run Try.prog W = .ok (.slice (some ⟨W.heap.size, 0, none⟩) (40 + k) (40 + k)) (W.alloc (.cells (madeCells #[.int .i64 0] (40 + k)) 3)) := fun W => mkInts (40 + k) (by omega) W
    have O4 := OI.made w3 (40 + k) (by omega)
    have T4 : Trn cb w (w3.alloc (.cells (madeCells #[.int .i64 0] (40 + k)) 3)) := T3.then ((Bel.refl _).alloc _)
    have HS : Hid (Sml (List.replicate (40 + k) 0)) := Lib.hid ⟨by rw [List.length_replicate]; omega, fun z hz => by rw [(List.mem_replicate.1 hz).2]; omega⟩
    generalize madeCells #[.int .i64 0] (40 + k) = C at *
    go_wp2
    go_ret
    exact ⟨_, _, rfl, O4.low HZ3.out, HS.out, T4⟩
  · have e0 : (x == 0) = false := beq_eq_false_iff_ne.2 h0
    have e1 : (x == 1) = false := beq_eq_false_iff_ne.2 h1
    go_wp2
    go_ret
    exact ⟨_, _, rfl, O2, hs.out, T2⟩
theorem len_nh (s x : Int) : Sml (nhZ s x) := ⟨by have := nhZ_len s x; omega, fun z hz => by
  unfold nhZ at hz
  split at hz
  · unfold nhL at hz
    obtain ⟨i, _, rfl⟩ := List.mem_map.1 hz
    unfold nhX
    have := tmod_bd (a := (4 : Int) ^ (nhE s i).toNat) (n := 2039) (Int.pow_nonneg (by omega)) (by omega)
    omega
  · cases hz⟩
set_option maxHeartbeats 4000000 in
theorem l18KeyS (cb : Nat) (wd : Int) (w : World) (hc : Cur w cb) (hwd : -9223372036854775808 ≤ wd ∧ wd ≤ 9223372036854775807) :
    Calls Try.prog 101 #[.pointer (some ⟨cb, 0, none⟩), .int .i64 wd] w fun e w' => ∃ r xs, e = .returned (.agg #[r]) ∧ OI w' w.heap.size r xs ∧ Sml xs ∧ Trn cb w w' := by
  have hlt0 := hc.lt
  have R0 := Blk.new w 24 #[.slice none 0 0]
  have T0 : Trn cb w (w.alloc (.cells #[.slice none 0 0] 24)) := Trn.of hc ((Bel.refl _).alloc _)
  go_enter Try.func101, Try.ntmps101
  go_wp2_with fail
  refine (l1BelowS cb 99 _ T0.1 (by omega) (by omega)).mono ?_
  rintro e w1 ⟨x, rfl, hx, t1⟩
  have R1 := R0.trn t1 hlt0
  have T1 := T0.trans t1
  go_wp2_with fail
  refine (nhS x wd _ (by omega) hwd).mono ?_
  rintro e w2 ⟨r, rfl, O2, hb2⟩
  have hs2 := Lib.hid (len_nh x wd)
  have hl16 : (nhZ x wd).length ≤ 16 := nhZ_len x wd
  have z1 : w.heap.size + 1 ≤ w1.heap.size := by have := t1.2.size; rw [World.size_alloc] at this; exact this
  have zz2 := hb2.size
  have R2 := hb2.keep R1
  have T2 := T1.then hb2
  have O2l := O2.low z1
  generalize nhZ x wd = xs at *
  obtain ⟨A, c, er, _, _, _⟩ := O2l.reads
  subst er
  have K3 : Blk (w2.alloc (.cells #[.slice A xs.length c] 24)) w2.heap.size 24 #[.slice A xs.length c] := Blk.new w2 _ _
  have T3 := T2.then ((Bel.refl w2).alloc (.cells #[.slice A xs.length c] 24))
  have R3 := R2.alloc (.cells #[.slice A xs.length c] 24)
  have O3 := O2l.keep ((Bel.refl w2).alloc (.cells #[.slice A xs.length c] 24))
  have hOb := Lib.hid (fun q hq => (O2l.block q hq))
  have hgk : w.heap.size + 1 ≤ w2.heap.size := by omega
  go_wp2_with fail
  refine (l1BelowS cb 10 _ T3.1 (by omega) (by omega)).mono ?_
  rintro e w4 ⟨y, rfl, hy, t4⟩
  have R4 := R3.trn t4 hlt0
  have K4 := K3.trn t4 (by omega)
  have O4 := O3.trn t4 (by omega)
  have T4 := T3.trans t4
  clear R0 R1 R2 R3 K3 O2 O2l O3 T0 T1 T2 T3 t4 t1 hb2 z1 zz2
  generalize w2.heap.size = gk at *
  by_cases h0 : y = 0
  · subst h0
    by_cases hz : 0 < xs.length
    · have i0 : (0 : Int) < (xs.length : Int) := by omega
      obtain ⟨ck, fk, zk⟩ := K4.facts
      have rk : w4.cell? ⟨gk, 0, none⟩ = some (.slice A xs.length c) := ck 0
      obtain ⟨g, cap, er, hg1, hg2, _, _, fz, cs⟩ := O4.cells hz
      injection er with er1 er2 er3
      subst er1
      subst er3
      have hne : g < gk := (hOb.out g rfl).2
      clear ck fk fz cs er2
      go_wp2
      go_region_law (first
        | (go_simp; go_at_call 118; refine (l1LitS cb [-1, 0, 1, 2, 2038, 2039] _ (by exact T4.1.keep ((Bel.refl _).drew)) (by decide) (by decide)).mono ?_; rintro e wT ⟨z, rfl, hz9, tT⟩; have KT := (K4.drew).trn tT (by omega); have OT := (O4.keep ((Bel.refl _).drew)).trn tT (by omega); have RT := (R4.drew).trn tT hlt0; have TT := (T4.then ((Bel.refl _).drew)).trans tT; have rkT : wT.cell? ⟨gk, 0, none⟩ = some (.slice (some ⟨g, 0, none⟩) xs.length c) := KT.facts.1 0; obtain ⟨g5, cap5, er5, _, _, _, _, fz5, cs5⟩ := OT.cells hz; injection er5 with er51 er52 er53; injection er51 with er51; injection er51 with er51; subst er51; subst er53; clear er52; have fz0 := fz5 0; have cz0 := cs5 0 _ (getD_at hz)))
      all_goals (
        have hb : -1 ≤ z ∧ z ≤ 2039 := by simp at hz9; omega
        have O6 := OT.store (i := 0) hz z
        have K6 := KT.far (p := ⟨g, 0, none⟩) (by dsimp only; omega) (.int .i64 z)
        have R6 := RT.far (p := ⟨g, 0, none⟩) (by dsimp only; omega) (.int .i64 z)
        have T6 := TT.set (p := ⟨g, 0, none⟩) (.int .i64 z) (by dsimp only; omega) (by dsimp only; omega)
        clear fz5 cs5 KT OT RT TT rkT rk fz0 cz0 hz9 tT zk
        generalize wT.setCell ⟨g, 0, none⟩ (.int .i64 z) = w6 at *
        obtain ⟨cr, fr, zr⟩ := R6.facts
        obtain ⟨ck, fk, zk⟩ := K6.facts
        have O8 := O6.setFar (p := ⟨w.heap.size, 0, none⟩) (by dsimp only; omega) (.slice (some ⟨g, 0, none⟩) xs.length c)
        have T8 := T6.set (p := ⟨w.heap.size, 0, none⟩) (.slice (some ⟨g, 0, none⟩) xs.length c) (Nat.le_refl _) hlt0
        go_wp2
        refine bodyPost_ret (v := .agg #[.slice (some ⟨g, 0, none⟩) xs.length c]) (by simp [results, Try.results101, go_sem, cr]) rfl ⟨_, rfl, _, O8.low (by omega), sml_set hs2.out hb, T8⟩)
    · have i0 : ¬ (0 : Int) < (xs.length : Int) := by omega
      obtain ⟨cr, fr, zr⟩ := R4.facts
      obtain ⟨ck, fk, zk⟩ := K4.facts
      have O8 := O4.setFar (p := ⟨w.heap.size, 0, none⟩) (by dsimp only; omega) (.slice A xs.length c)
      have T8 := T4.set (p := ⟨w.heap.size, 0, none⟩) (.slice A xs.length c) (Nat.le_refl _) hlt0
      go_wp2
      refine bodyPost_ret (v := .agg #[.slice A xs.length c]) (by simp [results, Try.results101, go_sem, cr]) rfl ⟨_, xs, rfl, O8.low (by omega), hs2.out, T8⟩
  have e0 : (y == 0) = false := beq_eq_false_iff_ne.2 h0
  by_cases h1 : y = 1
  · subst h1
    obtain ⟨ck, fk, zk⟩ := K4.facts
    have rk : w4.cell? ⟨gk, 0, none⟩ = some (.slice A xs.length c) := ck 0
    clear ck fk
    go_wp2
    go_region_law (first
      | (go_simp; go_at_call 119; refine (l4GroupS cb _ (by exact T4.1.keep ((Bel.refl _).drew))).mono ?_; rintro e wT ⟨z, rfl, hz9, tT⟩; have KT := (K4.drew).trn tT (by omega); have OT := (O4.keep ((Bel.refl _).drew)).trn tT (by omega); have RT := (R4.drew).trn tT hlt0; have TT := (T4.then ((Bel.refl _).drew)).trans tT; have eLT : (xs ++ [z]).length = xs.length + 1 := (by simp); have rkT : wT.cell? ⟨gk, 0, none⟩ = some (.slice A xs.length c) := KT.facts.1 0; have rkTA := ((Bel.refl wT).alloc (.cells #[.int .i64 z] 3)).cell1 KT.lt rkT)
      | (refine step_appI _ (by rfl) _ _ (by rfl) (w.heap.size + 1) _ _ xs [z] (by rfl) (by rfl) (by exact OT.keep ((Bel.refl _).alloc _)) (by exact RI.lit1 _ _ _) (by simp only [List.length_cons, List.length_nil]; omega) (by simp only [World.size_alloc]; have := RT.lt; omega) ?_; intro v2 w5 O5 hG; have K5 := (KT.alloc (.cells #[.int .i64 z] 3)).grown hG (fun e => by have := (hOb.out _ e).2; omega); have R5 := (RT.alloc (.cells #[.int .i64 z] 3)).grown hG (fun e => by have := (hOb.out _ e).1; omega); have T5 := TT.grown OT hG (by omega) (by omega); obtain ⟨A5, c5, e5, _, _, _⟩ := O5.reads; rw [eLT] at e5; subst e5; have rk5 := K5.facts.1 0; have fk5 := K5.facts.2.1 0))
    all_goals (
      have K6 : Blk (w5.setCell ⟨gk, 0, none⟩ (.slice A5 (xs.length + 1) c5)) gk 24 #[.slice A5 (xs.length + 1) c5] := K5.set 0 _
      have R6 := R5.far (p := ⟨gk, 0, none⟩) (by dsimp only; omega) (.slice A5 (xs.length + 1) c5)
      have T6 := T5.set (p := ⟨gk, 0, none⟩) (.slice A5 (xs.length + 1) c5) (by dsimp only; omega) (by dsimp only; omega)
      have O6 := O5.setFar2 (p := ⟨gk, 0, none⟩) (O5.ne K5 (by decide)) (.slice A5 (xs.length + 1) c5)
      clear K5 R5 O5 T5 rk5 fk5 KT OT RT TT rkT rkTA hG rk zk
      generalize w5.setCell ⟨gk, 0, none⟩ (.slice A5 (xs.length + 1) c5) = w6 at *
      obtain ⟨cr, fr, zr⟩ := R6.facts
      obtain ⟨ck, fk, zk⟩ := K6.facts
      have O8 := O6.setFar (p := ⟨w.heap.size, 0, none⟩) (by dsimp only; omega) (.slice A5 (xs.length + 1) c5)
      have T8 := T6.set (p := ⟨w.heap.size, 0, none⟩) (.slice A5 (xs.length + 1) c5) (Nat.le_refl _) hlt0
      go_wp2
      refine bodyPost_ret (v := .agg #[.slice A5 (xs.length + 1) c5]) (by simp [results, Try.results101, go_sem, cr]) rfl ?_
      first | exact ⟨_, rfl, _, O8.low (by omega), sml_snoc hs2.out (by omega) hz9, T8⟩ | exact ⟨_, _, rfl, O8.low (by omega), sml_snoc hs2.out (by omega) hz9, T8⟩)
  · have e1 : (y == 1) = false := beq_eq_false_iff_ne.2 h1
    obtain ⟨cr, fr, zr⟩ := R4.facts
    obtain ⟨ck, fk, zk⟩ := K4.facts
    have O8 := O4.setFar (p := ⟨w.heap.size, 0, none⟩) (by dsimp only; omega) (.slice A xs.length c)
    have T8 := T4.set (p := ⟨w.heap.size, 0, none⟩) (.slice A xs.length c) (Nat.le_refl _) hlt0
    go_wp2
    refine bodyPost_ret (v := .agg #[.slice A xs.length c]) (by simp [results, Try.results101, go_sem, cr]) rfl ⟨_, xs, rfl, O8.low (by omega), hs2.out, T8⟩
end Go.Proofs.Ytjlcnbicehjjjaa
