/-
  slices.Clone of reports, l17Copy, (*FeedbackTable).record: contracts. Condition: at most 2^20 reports; record: a table in order.
-/
import Derived.Test.YtchodlfkoafeaaaInr
import Derived.Test.YtchodlfkoafeaaaBsg
namespace Go.Proofs.Ytchodlfkoafeaaa
open Go.ChangeShapes Go.WideShapes Go.ChangeAt Go.RowKit Go.Lib Go.Joins Go.Deep
set_option linter.unusedVariables false
set_option maxRecDepth 100000

theorem OT.empty (T : TypeId) (w : World) : OT T (w.alloc (.cells #[] T)) w.heap.size (.slice (some ⟨w.heap.size, 0, none⟩) 0 0) [] :=
  ⟨rfl, .inr ⟨w.heap.size, 0, #[], rfl, Nat.le_refl _, Blk.new w T #[], Nat.le_refl _, by unfold maxLen; omega, rfl, rfl⟩⟩
theorem eqNilT (a : Option Addr) (l c : Nat) (w : World) : (binOp .eql 38 (.slice a l c) (.slice none 0 0)).run Try.prog w = .ok (.bool a.isNone) w := by simp only [binOp]; simp [run_equal_slice_nil w 38 43 a l c Try.underlying38]
set_option maxHeartbeats 1000000 in
theorem cloneT (v : Value) (fs : List Tr) (w : World) (hv : RT w v fs) (hn : fs.length ≤ 1048576) :
    Calls Try.prog 50 #[v] w fun e w' => ∃ r, e = .returned r ∧ OT 43 w' w.heap.size r fs ∧ Bel w w' := by
  obtain ⟨A, c, rfl, h1, h2, hA⟩ := id hv
  cases A with
  | none =>
    have e : fs = [] := by
      cases fs with
      | nil => rfl
      | cons x xs => obtain ⟨b, o, e, _⟩ := hA (by simp); cases e
    subst e
    have q := eqNilT none 0 c w
    go_enter Try.func50, Try.ntmps50
    go_wp2
    go_ret
    exact ⟨_, rfl, OT.nil _ _ _, Bel.refl _⟩
  | some ad =>
    have Y0 : Bel w (w.alloc (.cells #[] 43)) := (Bel.refl _).alloc _
    have hv1 := hv.keep Y0
    have q := eqNilT (some ad) fs.length c w
    go_enter Try.func50, Try.ntmps50
    go_wp2_with (at_builtin; refine wpList_appFb _ rfl _ _ rfl w.heap.size _ _ [] fs rfl rfl (OT.empty _ w) hv1 (by simp only [List.length_nil]; omega) (by simp only [World.size_alloc]; omega) ?_)
    intro v2 w2 O2 hG
    have Y2 : Bel w w2 := Y0.grown hG (fun p hp => ((OT.empty 43 w).block p hp).1)
    go_wp2
    go_ret
    exact ⟨_, rfl, O2, Y2⟩
set_option maxHeartbeats 1000000 in
theorem copyTS (v : Value) (fs : List Tr) (w : World) (hv : RT w v fs) (hn : fs.length ≤ 1048576) :
    Calls Try.prog 47 #[.agg #[v]] w fun e w' => ∃ r, e = .returned (.agg #[r]) ∧ OT 43 w' w.heap.size r fs ∧ Bel w w' := by
  obtain ⟨A, c, rfl, h1, h2, hA⟩ := id hv
  have Y0 : Bel w ((w.alloc (.cells #[.slice A fs.length c] 40)).alloc (.cells #[.slice none 0 0] 40)) := ((Bel.refl _).alloc _).alloc _
  have R0 := Blk.new2 w (.cells #[.slice A fs.length c] 40) 40 #[.slice none 0 0]
  have O0 := OT.empty 43 ((w.alloc (.cells #[.slice A fs.length c] 40)).alloc (.cells #[.slice none 0 0] 40))
  go_enter Try.func47, Try.ntmps47
  go_wp2_with (at_builtin; refine wpList_appFb _ rfl _ _ rfl (w.heap.size + 2) (.slice (some ⟨w.heap.size + 2, 0, none⟩) 0 0) (.slice A fs.length c) [] fs rfl rfl (by have q := O0; simp only [World.size_alloc] at q; exact q) (hv.keep (Y0.alloc _)) (by simp only [List.length_nil]; omega) (by simp only [World.size_alloc]; omega) ?_)
  intro v2 w2 O2 hG
  have Y2 : Bel w w2 := (Y0.alloc (.cells #[] 43)).grown hG (fun q hq => by
    have e : w.heap.size + 2 = q := by simpa [Value.ownBlock] using hq
    omega)
  have R2 := (R0.alloc (.cells #[] 43)).grown hG (fun e => by simp [Value.ownBlock] at e)
  obtain ⟨cr, fr, zr⟩ := R2.facts
  have r0 := cr 0
  have f0 := fr 0
  simp at r0
  obtain ⟨Au, cu, eu, _, _, _⟩ := O2.reads
  subst eu
  clear cr fr
  go_wp2
  have R3 := R2.set 0 (.slice Au fs.length cu)
  obtain ⟨cr, _, _⟩ := R3.facts
  have r3 := cr 0
  simp at r3
  refine bodyPost_ret (v := .agg #[.slice Au fs.length cu]) (by simp [results, Try.results47, go_sem, r3]) rfl ⟨_, rfl, ?_, ?_⟩
  · exact (O2.setFar (p := ⟨w.heap.size + 1, 0, none⟩) (by dsimp only; omega) _).low (by omega)
  · exact Y2.setCell (p := ⟨w.heap.size + 1, 0, none⟩) (by dsimp only; omega) _
theorem OT.ne {w : World} {base gk : Nat} {v : Value} {fs : List Tr} {T0 T : TypeId} {cs : Array Value} (h : OT T0 w base v fs) (k : Blk w gk T cs) (hT : T ≠ T0) : ∀ q, v.ownBlock = some q → q ≠ gk := by
  rintro q hq rfl
  obtain ⟨hl, ⟨rfl, h0⟩ | ⟨g, cap, cur, rfl, hb, hh, h1, h2, h3, h4⟩⟩ := h
  · simp [Value.ownBlock] at hq
  · have e : g = q := by simpa [Value.ownBlock] using hq
    subst e
    have k2 : w.heap[g]? = some (.cells cs T (0, 0)) := k
    have h5 : w.heap[g]? = some (.cells cur T0 (0, 0)) := hh
    rw [h5] at k2
    injection k2 with k2
    injection k2 with _ e2 _
    exact hT e2.symm
theorem OT.setNe {T : TypeId} {w : World} {base : Nat} {v : Value} {fs : List Tr} (h : OT T w base v fs) {p : Addr} (hp : ∀ q, v.ownBlock = some q → q ≠ p.block) (u : Value) : OT T (w.setCell p u) base v fs := by
  obtain ⟨hl, h | ⟨g, cap, cur, rfl, hb, hh, h1, h2, h3, h4⟩⟩ := h
  · exact ⟨hl, .inl h⟩
  · exact ⟨hl, .inr ⟨g, cap, cur, rfl, hb, (Below.heap_setCell w p u g (hp g rfl)).trans hh, h1, h2, h3, h4⟩⟩
theorem Mid.put {lo hi : Nat} {a b : World} (m : Mid lo hi a b) {p : Addr} (u : Value) (h1 : lo ≤ p.block) (h2 : p.block < hi) : Mid lo hi a (b.setCell p u) :=
  ⟨m.os, m.tape, m.output, by have := m.size; simpa [World.setCell] using this, fun i q1 q2 => (Below.heap_setCell b p u i (by omega)).trans (m.block i q1 q2)⟩
theorem flat3_set {a b m u : Int} : ∀ (fs : List Tr) (t : Nat), fs[t]? = some (a, b, m) → flat3 (fs.set t (a, b, u)) = (flat3 fs).set (t * 3 + 2) (.int .i64 u)
  | [], t, h => by simp at h
  | f :: fs, 0, h => by
    simp at h
    subst h
    rfl
  | f :: fs, t + 1, h => by
    have ih := flat3_set (u := u) fs t (by simpa using h)
    rw [List.set_cons_succ]
    show cells3 f ++ flat3 (fs.set t (a, b, u)) = (cells3 f ++ flat3 fs).set ((t + 1) * 3 + 2) (.int .i64 u)
    have h3 : (cells3 f).length = 3 := rfl
    rw [ih, List.set_append, h3, if_neg (by omega), show (t + 1) * 3 + 2 - 3 = t * 3 + 2 by omega]
theorem OT.put3 {T : TypeId} {w : World} {base g cap n t : Nat} {fs : List Tr} {a b m u : Int} (h : OT T w base (.slice (some ⟨g, 0, none⟩) n cap) fs) (ht : fs[t]? = some (a, b, m)) : OT T (w.setCell ⟨g, t * 3 + 2, none⟩ (.int .i64 u)) base (.slice (some ⟨g, 0, none⟩) n cap) (fs.set t (a, b, u)) := by
  obtain ⟨hl, ⟨e, h9⟩ | ⟨g', cap', cur, e, hb, hh, h1, h2, h3, h4⟩⟩ := h
  · cases e
  · injection e with e1 e2 e3
    injection e1 with e1
    injection e1 with e1 _
    subst e1 e2 e3
    have hB : Blk w g T cur := hh
    unfold OT
    rw [flat3_set fs t ht, List.length_set]
    refine ⟨by rw [List.length_set]; exact hl, .inr ⟨g, cap, _, rfl, hb, hB.set (t * 3 + 2) (.int .i64 u), h1, h2, by rw [Array.size_setIfInBounds]; exact h3, ?_⟩⟩
    rw [Array.toList_setIfInBounds, List.take_set, h4]
/-- Recording a report in a table in order. -/
def recL (fs : List Tr) (f : Tr) : List Tr := match fs[tw fs f]? with
  | none => insF fs (tw fs f) f
  | some g => if lessFb f g = true then insF fs (tw fs f) f else fs.set (tw fs f) (g.1, g.2.1, min g.2.2 f.2.2)
theorem recL_ins {fs : List Tr} {f : Tr} (h : bsB fs f = false) : recL fs f = insF fs (tw fs f) f := by
  unfold bsB at h
  unfold recL
  split at h
  · rename_i g hg
    rw [hg]
    have : lessFb f g = true := by simpa using h
    simp [this]
  · rename_i hg
    rw [hg]
theorem recL_set {fs : List Tr} {f : Tr} (h : bsB fs f = true) : ∃ g, fs[tw fs f]? = some g ∧ recL fs f = fs.set (tw fs f) (g.1, g.2.1, min g.2.2 f.2.2) := by
  unfold bsB at h
  unfold recL
  split at h
  · rename_i g hg
    refine ⟨g, hg, ?_⟩
    rw [hg]
    have : lessFb f g = false := by simpa using h
    simp [this]
  · cases h
set_option maxHeartbeats 2000000 in
theorem recI (tb : Nat) (v : Value) (fs : List Tr) (x y z : Int) (lo : Nat) (w : World) (hB : Blk w tb 40 #[v]) (h : OT 43 w lo v fs) (hlo : lo ≤ tb) (hs : Srt fs) (hn : fs.length ≤ 1048576) :
    Calls Try.prog 52 #[.pointer (some ⟨tb, 0, none⟩), .agg #[.int .i64 x, .int .i64 y, .int .i64 z]] w fun e w' => e = .returned (.tuple #[]) ∧ ∃ r, Blk w' tb 40 #[r] ∧ OT 43 w' lo r (recL fs (x, y, z)) ∧ Mid lo w.heap.size w w' := by
  have hne := h.ne hB (by decide)
  have hob := fun q e => (h.block q e)
  have F0 := Blk.new w 43 #[.int .i64 x, .int .i64 y, .int .i64 z]
  have B0 := hB.alloc (.cells #[.int .i64 x, .int .i64 y, .int .i64 z] 43)
  have Y0 : Bel w (w.alloc (.cells #[.int .i64 x, .int .i64 y, .int .i64 z] 43)) := (Bel.refl _).alloc _
  have O0 := h.keep Y0
  have hr1 := h.reads.keep Y0
  have htw := tw_le fs (x, y, z)
  have hbt := hB.lt
  cases hq : bsB fs (x, y, z)
  · have HL := Lib.hid (recL_ins hq)
    have HBS : Hid (∀ W, Bel (w.alloc (.cells #[.int .i64 x, .int .i64 y, .int .i64 z] 43)) W → Calls Try.prog 73 #[v, .agg #[.int .i64 x, .int .i64 y, .int .i64 z], .func (.func 62) #[] #[]] W fun e w' => e = .returned (.tuple #[.int .i64 (tw fs (x, y, z) : Int), .bool false]) ∧ Bel W w') := Lib.hid (fun W hW => by
      have q := bsI v fs x y z W (hr1.keep hW) hs hn
      rwa [hq] at q)
    clear hq hr1
    generalize tw fs (x, y, z) = t at *
    obtain ⟨A, c, rfl, h1, h2, _⟩ := h.reads
    go_enter Try.func52, Try.ntmps52
    go_wp2
    generalize w.alloc (.cells #[.int .i64 x, .int .i64 y, .int .i64 z] 43) = w1 at *
    obtain ⟨cb, _, zb⟩ := B0.facts
    obtain ⟨cf, _, zf⟩ := F0.facts
    have r0 : w1.cell? ⟨tb, 0, none⟩ = some (.slice A fs.length c) := cb 0
    have f0 : w1.cell? ⟨w.heap.size, 0, none⟩ = some (.int .i64 x) := cf 0
    have f1 : w1.cell? ⟨w.heap.size, 1, none⟩ = some (.int .i64 y) := cf 1
    have f2 : w1.cell? ⟨w.heap.size, 2, none⟩ = some (.int .i64 z) := cf 2
    clear cb cf
    have qq0 := Bw.cell r0 zb
    have qq1 := Bw.cell f0 zf
    have qq2 := Bw.cell f1 zf
    have qq3 := Bw.cell f2 zf
    refine wp_region_bel (by kernel_rfl) (by kernel_rfl) ?_
    repeat (first | go_big_quiet_step (first | (go_at_call 73; exact belQ (HBS.out _ (Bw.bel _)))) | quiet_step (first | (go_at_call 73; exact belQ (HBS.out _ (Bw.bel _)))))
    refine wpQuiet_nil ?_
    rintro w2 ⟨⟨w2', hb2⟩, e2⟩
    have e3 : w2 = w2' := e2
    subst e3
    clear e2
    clear qq0 qq1 qq2 qq3 r0 f0 f1 f2 zb zf
    have B2 := hb2.keep B0
    have F2 := hb2.keep F0
    have O2 := O0.keep hb2
    have Y2 := Y0.trans hb2
    obtain ⟨cb, fb, zb⟩ := B2.facts
    obtain ⟨cf, _, zf⟩ := F2.facts
    have r0 : w2.cell? ⟨tb, 0, none⟩ = some (.slice A fs.length c) := cb 0
    have f0 : w2.cell? ⟨w.heap.size, 0, none⟩ = some (.int .i64 x) := cf 0
    have f1 : w2.cell? ⟨w.heap.size, 1, none⟩ = some (.int .i64 y) := cf 1
    have f2 : w2.cell? ⟨w.heap.size, 2, none⟩ = some (.int .i64 z) := cf 2
    have fb0 := fb 0
    clear cb cf fb
    have hs2 : w.heap.size < w2.heap.size := zf
    go_wp2
    have N3 := (Blk.new w2 43 #[.int .i64 x, .int .i64 y, .int .i64 z]).drew
    have B3 := (B2.alloc (.cells #[.int .i64 x, .int .i64 y, .int .i64 z] 43)).drew
    have Y3 := (Y2.alloc (.cells #[.int .i64 x, .int .i64 y, .int .i64 z] 43)).drew
    have O3a := O2.keep ((Bel.refl w2).alloc (.cells #[.int .i64 x, .int .i64 y, .int .i64 z] 43)).drew
    have hz3 : lo ≤ (w2.alloc (.cells #[.int .i64 x, .int .i64 y, .int .i64 z] 43)).drew.heap.size := by
      show lo ≤ (w2.alloc (.cells #[.int .i64 x, .int .i64 y, .int .i64 z] 43)).heap.size
      rw [World.size_alloc]
      omega
    have HN3 : Hid (∀ q, (Value.slice A fs.length c).ownBlock = some q → q ≠ w2.heap.size) := Lib.hid (fun q hq => by have := (hob q hq).2; omega)
    have HNE := Lib.hid hne
    have HOB := Lib.hid hob
    clear hne hob
    have LL := insT _ t _ fs x y z lo _ O3a hz3 hn htw N3 HN3.out
    go_region_law (go_simp; go_at_call 74; refine LL.mono ?_; rintro e w3 ⟨r, rfl, Or, hG⟩; have B4 := B3.grown hG (fun e => HNE.out _ e rfl); obtain ⟨cb4, fb4, zb4⟩ := B4.facts; have r4 := cb4 0; have f4 := fb4 0; simp at r4; clear cb4 fb4; obtain ⟨Ar, cr, er, _, _, _⟩ := Or.reads; subst er)
    all_goals (
      have hn4 := Or.ne B4 (by decide)
      have B5 := B4.set 0 (.slice Ar (insF fs t (x, y, z)).length cr)
      have O5 := Or.setNe (p := ⟨tb, 0, none⟩) hn4 (.slice Ar (insF fs t (x, y, z)).length cr)
      have M5 : Mid lo w.heap.size w (w3.setCell ⟨tb, 0, none⟩ (.slice Ar (insF fs t (x, y, z)).length cr)) := ((Mid.ofBel Y3).trans (Mid.ofGrown hG HOB.out)).put _ hlo hbt
      go_wp2
      (try simp only [Exit.inBlock, Exit.then])
      first
        | refine bodyPost_ret (results_none rfl _ _ _) rfl ?_
        | refine bodyPost_end (results_none rfl _ _ _) rfl ?_
      exact ⟨rfl, _, B5, by rw [HL.out]; exact O5, M5⟩)
  · obtain ⟨g, hg, HL0⟩ := recL_set hq
    obtain ⟨a, b, m⟩ := g
    have HL := Lib.hid HL0
    clear HL0
    have HBS : Hid (∀ W, Bel (w.alloc (.cells #[.int .i64 x, .int .i64 y, .int .i64 z] 43)) W → Calls Try.prog 73 #[v, .agg #[.int .i64 x, .int .i64 y, .int .i64 z], .func (.func 62) #[] #[]] W fun e w' => e = .returned (.tuple #[.int .i64 (tw fs (x, y, z) : Int), .bool true]) ∧ Bel W w') := Lib.hid (fun W hW => by
      have q := bsI v fs x y z W (hr1.keep hW) hs hn
      rwa [hq] at q)
    clear hq hr1
    generalize tw fs (x, y, z) = t at *
    have htl : t < fs.length := (List.getElem?_eq_some_iff.1 hg).1
    obtain ⟨hl2, ⟨rfl, h9⟩ | ⟨g, cap, cur, rfl, hb, hh, h1, h2, h3, h4⟩⟩ := id h
    · omega
    have hgB : Blk w g 43 cur := hh
    have hgt : g ≠ tb := hne g rfl
    have hgs : lo ≤ g ∧ g < w.heap.size := hob g rfl
    obtain ⟨A, c, hv0, _, _, hA⟩ := h.reads
    injection hv0 with e1 _ e2
    subst e1 e2
    obtain ⟨g', o', e3, _, hc⟩ := hA (by omega)
    injection e3 with e3
    injection e3 with e3 e4
    subst e3 e4
    have c2 := (hc t _ hg).2.2
    clear hc hA
    dsimp only at c2
    have c2' := Y0.cell1 hgs.2 c2
    have i0 : (0 : Int) ≤ (t : Int) := by omega
    have i1 : (t : Int) < (fs.length : Int) := by omega
    go_enter Try.func52, Try.ntmps52
    go_wp2
    generalize w.alloc (.cells #[.int .i64 x, .int .i64 y, .int .i64 z] 43) = w1 at *
    obtain ⟨cb, _, zb⟩ := B0.facts
    obtain ⟨cf, _, zf⟩ := F0.facts
    have r0 : w1.cell? ⟨tb, 0, none⟩ = some (.slice (some ⟨g, 0, none⟩) fs.length cap) := cb 0
    have f0 : w1.cell? ⟨w.heap.size, 0, none⟩ = some (.int .i64 x) := cf 0
    have f1 : w1.cell? ⟨w.heap.size, 1, none⟩ = some (.int .i64 y) := cf 1
    have f2 : w1.cell? ⟨w.heap.size, 2, none⟩ = some (.int .i64 z) := cf 2
    clear cb cf
    have qq0 := Bw.cell r0 zb
    have qq1 := Bw.cell f0 zf
    have qq2 := Bw.cell f1 zf
    have qq3 := Bw.cell f2 zf
    refine wp_region_bel (by kernel_rfl) (by kernel_rfl) ?_
    repeat (first | go_big_quiet_step (first | (go_at_call 73; exact belQ (HBS.out _ (Bw.bel _)))) | quiet_step (first | (go_at_call 73; exact belQ (HBS.out _ (Bw.bel _)))))
    refine wpQuiet_nil ?_
    rintro w2 ⟨⟨w2', hb2⟩, e2⟩
    have e3 : w2 = w2' := e2
    subst e3
    clear e2
    clear qq0 qq1 qq2 qq3 r0 f0 f1 f2 zb
    have B2 := hb2.keep B0
    have F2 := hb2.keep F0
    have O2 := O0.keep hb2
    have Y2 := Y0.trans hb2
    have G2 : Blk w2 g 43 cur := (Below.block Y2 g hgs.2).trans hgB
    have zg1 : g < w1.heap.size := Nat.lt_of_lt_of_le hgs.2 (Nat.le_of_lt zf)
    replace c2' := hb2.cell1 zg1 c2'
    clear zf
    obtain ⟨cb, fb, zb⟩ := B2.facts
    obtain ⟨cf, _, zf⟩ := F2.facts
    obtain ⟨cg, fg, zg⟩ := G2.facts
    have r0 : w2.cell? ⟨tb, 0, none⟩ = some (.slice (some ⟨g, 0, none⟩) fs.length cap) := cb 0
    have f2 : w2.cell? ⟨w.heap.size, 2, none⟩ = some (.int .i64 z) := cf 2
    have fg2 := fg (t * 3 + 2)
    rw [Nat.zero_add] at c2'
    clear cb cf fb cg fg
    go_wp2
    go_region_law (fail)
    all_goals (
      have O5 := (O2.put3 (u := min m z) hg).keep (Bel.refl _).drew
      have B5 := (B2.far (p := ⟨g, t * 3 + 2, none⟩) (Ne.symm hgt) (.int .i64 (min m z))).drew
      have M5 : Mid lo w.heap.size w (w2.setCell ⟨g, t * 3 + 2, none⟩ (.int .i64 (min m z))).drew := ((Mid.ofBel Y2).put (p := ⟨g, t * 3 + 2, none⟩) _ hgs.1 hgs.2).trans (Mid.ofBel (Bel.refl _).drew)
      go_wp2
      (try simp only [Exit.inBlock, Exit.then])
      first
        | refine bodyPost_ret (results_none rfl _ _ _) rfl ?_
        | refine bodyPost_end (results_none rfl _ _ _) rfl ?_
      exact ⟨rfl, _, B5, by rw [HL.out]; exact O5, M5⟩)
end Go.Proofs.Ytchodlfkoafeaaa
