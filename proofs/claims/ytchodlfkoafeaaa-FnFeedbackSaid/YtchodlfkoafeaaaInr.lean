/-
  slices.Insert of one report into an owned slice of reports: one contract; slices.Clone of reports. Condition: at most 2^20 reports.
-/
import Derived.Test.YtchodlfkoafeaaaInq
namespace Go.Proofs.Ytchodlfkoafeaaa
open Go.ChangeShapes Go.WideShapes Go.ChangeAt Go.RowKit Go.Lib
set_option linter.unusedVariables false
set_option maxRecDepth 100000

def setArr : Array Value → Nat → List Value → Array Value
  | cs, _, [] => cs
  | cs, o, v :: r => setArr (cs.setIfInBounds o v) (o + 1) r
theorem setArr_size : ∀ (vs : List Value) (cs : Array Value) (o : Nat), (setArr cs o vs).size = cs.size
  | [], _, _ => rfl
  | v :: r, cs, o => by unfold setArr; rw [setArr_size r]; simp
theorem setArr_at : ∀ (vs : List Value) (cs : Array Value) (o k : Nat), k < cs.size → (setArr cs o vs)[k]? = if o ≤ k ∧ k < o + vs.length then vs[k - o]? else cs[k]?
  | [], cs, o, k, hk => by
    unfold setArr
    rw [if_neg (by rintro ⟨h1, h2⟩; rw [List.length_nil] at h2; omega)]
  | v :: r, cs, o, k, hk => by
    unfold setArr
    rw [setArr_at r _ _ _ (by simpa using hk), Array.getElem?_setIfInBounds]
    by_cases h1 : o + 1 ≤ k ∧ k < o + 1 + r.length
    · rw [if_pos h1, if_pos (by simp; omega)]
      obtain ⟨d, rfl⟩ : ∃ d, k = o + 1 + d := ⟨k - o - 1, by omega⟩
      rw [show o + 1 + d - (o + 1) = d by omega, show o + 1 + d - o = d + 1 by omega, List.getElem?_cons_succ]
    · rw [if_neg h1]
      by_cases h2 : o = k
      · subst h2
        simp [hk]
      · rw [if_neg h2, if_neg (by simp; omega)]
theorem Blk.setCells : ∀ (vs : List Value) {w : World} {g : Nat} {t : TypeId} {cs : Array Value} (o : Nat), Blk w g t cs → Blk (w.setCells g o vs) g t (setArr cs o vs)
  | [], _, _, _, _, _, h => h
  | v :: r, _, _, _, _, o, h => Blk.setCells r (o + 1) (h.set o v)
theorem grown_cells : ∀ (vs : List Value) {w wr : World} {g : Nat} (o : Nat), w.grownBy wr (some g) → w.grownBy (wr.setCells g o vs) (some g)
  | [], _, _, _, _, h => h
  | v :: r, _, _, _, o, h => grown_cells r (o + 1) ⟨h.os, h.tape, h.output, by simpa [World.setCell] using h.size, fun j hj hne => (Below.heap_setCell _ _ _ _ (fun e => hne (by rw [e]))).trans (h.block j hj hne)⟩
theorem bel_cells : ∀ (vs : List Value) {w wr : World} {g : Nat} (o : Nat), Bel w wr → w.heap.size ≤ g → Bel w (wr.setCells g o vs)
  | [], _, _, _, _, h, _ => h
  | v :: r, _, _, _, o, h, hg => bel_cells r (o + 1) (h.setCell hg v) hg
theorem bel_grown {w w' : World} {row : Option Nat} (h : Bel w w') : w.grownBy w' row := ⟨Below.os h, Below.tape h, Below.output h, Below.size h, fun i hi _ => Below.block h i hi⟩
theorem ins3_at {α : Type} (us vs : List α) {k : Nat} (hk : k ≤ us.length) (j : Nat) : (us.take k ++ vs ++ us.drop k)[j]? = if j < k then us[j]? else if j < k + vs.length then vs[j - k]? else us[j - vs.length]? := by
  have hl : (us.take k).length = k := by rw [List.length_take]; omega
  by_cases h1 : j < k
  · rw [if_pos h1, List.append_assoc, List.getElem?_append_left (by omega), List.getElem?_take, if_pos h1]
  · rw [if_neg h1]
    by_cases h2 : j < k + vs.length
    · rw [if_pos h2, List.getElem?_append_left (by simp; omega), List.getElem?_append_right (by omega), hl]
    · rw [if_neg h2, List.getElem?_append_right (by simp; omega), List.getElem?_drop]
      congr 1
      simp
      omega
theorem flat3_take : ∀ (fs : List Tr) (i : Nat), flat3 (fs.take i) = (flat3 fs).take (i * 3)
  | [], i => by simp [flat3]
  | f :: fs, 0 => by simp [flat3]
  | f :: fs, i + 1 => by
    have ih := flat3_take fs i
    rw [List.take_succ_cons]
    show cells3 f ++ flat3 (fs.take i) = (cells3 f ++ flat3 fs).take ((i + 1) * 3)
    have h3 : (cells3 f).length = 3 := rfl
    rw [ih, List.take_append, h3, show List.take ((i + 1) * 3) (cells3 f) = cells3 f from List.take_of_length_le (by rw [h3]; omega), show (i + 1) * 3 - 3 = i * 3 by omega]
theorem flat3_drop : ∀ (fs : List Tr) (i : Nat), flat3 (fs.drop i) = (flat3 fs).drop (i * 3)
  | [], i => by simp [flat3]
  | f :: fs, 0 => by simp [flat3]
  | f :: fs, i + 1 => by
    have ih := flat3_drop fs i
    rw [List.drop_succ_cons]
    show flat3 (fs.drop i) = (cells3 f ++ flat3 fs).drop ((i + 1) * 3)
    have h3 : (cells3 f).length = 3 := rfl
    rw [ih, List.drop_append, h3, show List.drop ((i + 1) * 3) (cells3 f) = [] from List.drop_of_length_le (by rw [h3]; omega), show (i + 1) * 3 - 3 = i * 3 by omega]
    rfl
def insF (fs : List Tr) (i : Nat) (f : Tr) : List Tr := fs.take i ++ f :: fs.drop i
theorem insF_len {fs : List Tr} {i : Nat} {f : Tr} (h : i ≤ fs.length) : (insF fs i f).length = fs.length + 1 := by unfold insF; simp; omega
theorem flat3_ins (fs : List Tr) (i : Nat) (f : Tr) : flat3 (insF fs i f) = (flat3 fs).take (i * 3) ++ cells3 f ++ (flat3 fs).drop (i * 3) := by
  unfold insF
  rw [flat3_append, ← flat3_take, ← flat3_drop, List.append_assoc]
  rfl
theorem RT.blk {w : World} {g : Nat} {T : TypeId} {x y z : Int} (h : Blk w g T #[.int .i64 x, .int .i64 y, .int .i64 z]) : RT w (.slice (some ⟨g, 0, none⟩) 1 1) [(x, y, z)] := by
  obtain ⟨c, _, zz⟩ := h.facts
  refine ⟨_, 1, rfl, Nat.le_refl _, by omega, fun _ => ⟨g, 0, rfl, zz, fun j f hf => ?_⟩⟩
  match j with
  | 0 => simp at hf; subst hf; exact ⟨c 0, c 1, c 2⟩
  | j + 1 => simp at hf

set_option maxHeartbeats 2000000 in
theorem insTEnd (v : Value) (vb : Nat) (fs : List Tr) (x y z : Int) (lo : Nat) (w : World) (h : OT 43 w lo v fs) (hlo : lo ≤ w.heap.size) (hn : fs.length ≤ 1048576) (hB : Blk w vb 43 #[.int .i64 x, .int .i64 y, .int .i64 z]) :
    Calls Try.prog 74 #[v, .int .i64 (fs.length : Int), .slice (some ⟨vb, 0, none⟩) 1 1] w fun e w' => ∃ r, e = .returned r ∧ OT 43 w' lo r (insF fs fs.length (x, y, z)) ∧ w.grownBy w' v.ownBlock := by
  have HP : Hid (insF fs fs.length (x, y, z) = fs ++ [(x, y, z)]) := Lib.hid (by unfold insF; rw [List.take_length, List.drop_length])
  obtain ⟨A, cp, e, k1, k2, _⟩ := h.reads
  subst e
  have i0 : (0 : Int) ≤ (fs.length : Int) := by omega
  have i1 : (fs.length : Int) ≤ (fs.length : Int) := by omega
  have i3 : ((fs.length : Int) == (fs.length : Int)) = true := by simp
  rcases Nat.lt_or_eq_of_le k1 with k3 | k3
  · have i2 : ¬ cp = fs.length := by omega
    go_enter Try.func74, Try.ntmps74
    go_wp2_with (at_builtin; refine wpList_appFb _ rfl _ _ rfl lo _ _ fs [(x, y, z)] rfl rfl h (RT.blk hB) (by simp; omega) hlo ?_)
    intro v2 w2 O2 hG
    rw [← HP.out] at O2
    go_wp2
    go_ret
    exact ⟨_, rfl, O2, hG⟩
  · subst k3
    go_enter Try.func74, Try.ntmps74
    go_wp2_with (at_builtin; refine wpList_appFb _ rfl _ _ rfl lo _ _ fs [(x, y, z)] rfl rfl h (RT.blk hB) (by simp; omega) hlo ?_)
    intro v2 w2 O2 hG
    rw [← HP.out] at O2
    go_wp2
    go_ret
    exact ⟨_, rfl, O2, hG⟩
set_option maxHeartbeats 2000000 in
theorem insT (v : Value) (i vb : Nat) (fs : List Tr) (x y z : Int) (lo : Nat) (w : World) (h : OT 43 w lo v fs) (hlo : lo ≤ w.heap.size) (hn : fs.length ≤ 1048576) (hi' : i ≤ fs.length) (hB : Blk w vb 43 #[.int .i64 x, .int .i64 y, .int .i64 z]) (hvb : ∀ q, v.ownBlock = some q → q ≠ vb) :
    Calls Try.prog 74 #[v, .int .i64 (i : Int), .slice (some ⟨vb, 0, none⟩) 1 1] w fun e w' => ∃ r, e = .returned r ∧ OT 43 w' lo r (insF fs i (x, y, z)) ∧ w.grownBy w' v.ownBlock := by
  rcases Nat.lt_or_eq_of_le hi' with hlt | rfl
  · have hfl := flat3_length fs
    obtain ⟨hl2, ⟨rfl, h9⟩ | ⟨g, cap, cur, rfl, hb, hh, h1, h2, h3, h4⟩⟩ := id h
    · omega
    · have hgB : Blk w g 43 cur := hh
      obtain ⟨cg, fg, zg⟩ := hgB.facts
      obtain ⟨us, hus⟩ : ∃ us, us = flat3 fs := ⟨_, rfl⟩
      have hul : us.length = fs.length * 3 := by rw [hus]; exact hfl
      have hgv : vb ≠ g := fun e => hvb g rfl e.symm
      rw [← hus] at h4
      have hcs : ∀ j v, us[j]? = some v → w.cell? ⟨g, 0 + j, none⟩ = some v := fun j y hj => by
        have hju := (List.getElem?_eq_some_iff.1 hj).1
        rw [Nat.zero_add, cg j, ← Array.getElem?_toList]
        have h5 : (cur.toList.take (fs.length * 3))[j]? = some y := by rw [h4]; exact hj
        rw [List.getElem?_take] at h5
        rwa [if_pos (by omega)] at h5
      have hcur : ∀ j, j < us.length → cur[j]? = us[j]? := fun j hj => by
        have := hcs j _ (List.getElem?_eq_getElem hj)
        rw [Nat.zero_add, cg j] at this
        rw [this, List.getElem?_eq_getElem hj]
      have hvs : ∀ j v, (cells3 (x, y, z))[j]? = some v → w.cell? ⟨vb, 0 + j, none⟩ = some v := fun j q hj => by
        have hj3 : j < 3 := (List.getElem?_eq_some_iff.1 hj).1
        rw [Nat.zero_add, hB.facts.1 j, ← hj]
        rcases (by omega : j = 0 ∨ j = 1 ∨ j = 2) with e | e | e <;> subst e <;> rfl
      have one : ∀ v ∈ us, v.oneCell' = true := fun q hq => by
        rw [hus] at hq
        obtain ⟨j, hj⟩ := List.mem_iff_getElem?.1 hq
        obtain ⟨_, _, _, x, rfl⟩ := flat3_cell hj
        rfl
      have oneu : ∀ v ∈ cells3 (x, y, z), v.oneCell' = true := fun q hq => by
        simp [cells3] at hq
        rcases hq with rfl | rfl | rfl <;> rfl
      have hl3 : (cells3 (x, y, z)).length = 1 * 3 := rfl
      by_cases hroom : fs.length + 1 ≤ cap
      · refine (insShift3 g 0 fs.length cap i vb 0 1 1 us (cells3 (x, y, z)) w hlt (by omega) hroom (by unfold maxLen at h2; omega) hgv hul hl3 hcs
          (fun j hj => by rw [Nat.zero_add, cg j, Array.getElem?_eq_getElem (by omega)]; rfl) (fun j _ => fg _) hvs one oneu _ _ _ _ hB.shape hgB.shape (by omega) (hB.facts.2.1 _) (hB.facts.2.1 _)).mono ?_
        rintro e w' ⟨rfl, rfl⟩
        refine ⟨_, rfl, ?_, ?_⟩
        · unfold OT
          rw [insF_len hi', flat3_ins, ← hus]
          refine ⟨by simp [cells3]; omega, .inr ⟨g, cap, _, rfl, hb, Blk.setCells (cells3 (x, y, z)) (0 + i * 3) (Blk.setCells (us.drop (i * 3)) (0 + (i + 1) * 3) hgB.drew), hroom, h2, by rw [setArr_size, setArr_size]; omega, ?_⟩⟩
          apply List.ext_getElem?
          intro j
          rw [List.getElem?_take, Array.getElem?_toList, ins3_at us (cells3 (x, y, z)) (by omega) j, hl3]
          by_cases hj : j < (fs.length + 1) * 3
          · rw [if_pos hj, setArr_at _ _ _ _ (by rw [setArr_size]; omega), hl3]
            by_cases e1 : j < i * 3
            · rw [if_neg (by omega), setArr_at _ _ _ _ (by omega), if_neg (by omega), if_pos e1, hcur j (by omega)]
            · rw [if_neg e1]
              by_cases e2 : j < i * 3 + 1 * 3
              · rw [if_pos (by omega), if_pos e2]
                congr 1
                omega
              · rw [if_neg (by omega), setArr_at _ _ _ _ (by omega), if_pos (by simp; omega), if_neg e2, List.getElem?_drop]
                congr 1
                omega
          · rw [if_neg hj, if_neg (by omega), if_neg (by omega), List.getElem?_eq_none (by omega)]
        · exact grown_cells _ _ (grown_cells _ _ ⟨rfl, rfl, rfl, Nat.le_refl _, fun _ _ _ => rfl⟩)
      · have hGn : fs.length + 1 ≤ grownCap w (fs.length + 1) cap 43 := grownCap_ge w _ _ _
        have hG63 := grownCap_le_maxLen w (fs.length + 1) cap 43 (by unfold maxLen; omega)
        refine (insGrow3 g 0 fs.length cap i vb 0 1 1 us (cells3 (x, y, z)) w hlt (by omega) h1 (by omega) (by omega) hul hl3 hcs hvs one oneu).mono ?_
        rintro e w' ⟨rfl, rfl⟩
        generalize grownCap w (fs.length + 1) cap 43 = G at *
        have hsz : ((us.take (i * 3)).toArray ++ Builtin.zeroCells (Value.agg #[.int .i64 0, .int .i64 0, .int .i64 0]).cells (fs.length + 1 - i) ++ Builtin.zeroCells (Value.agg #[.int .i64 0, .int .i64 0, .int .i64 0]).cells (G - (fs.length + 1))).size = G * 3 := by
          simp [Builtin.zeroCells, Value.cells]
          omega
        have hRat : ∀ j, j < i * 3 → ((us.take (i * 3)).toArray ++ Builtin.zeroCells (Value.agg #[.int .i64 0, .int .i64 0, .int .i64 0]).cells (fs.length + 1 - i) ++ Builtin.zeroCells (Value.agg #[.int .i64 0, .int .i64 0, .int .i64 0]).cells (G - (fs.length + 1)))[j]? = us[j]? := fun j hj => by
          rw [Array.append_assoc, Array.getElem?_append_left (by simp; omega)]
          simp [hj]
        generalize (us.take (i * 3)).toArray ++ Builtin.zeroCells (Value.agg #[.int .i64 0, .int .i64 0, .int .i64 0]).cells (fs.length + 1 - i) ++ Builtin.zeroCells (Value.agg #[.int .i64 0, .int .i64 0, .int .i64 0]).cells (G - (fs.length + 1)) = ROW at *
        have hBel : Bel w ((((w.alloc (.cells ROW 43)).drew.setCells w.heap.size (i * 3) (cells3 (x, y, z))).drew).setCells w.heap.size ((i + 1) * 3) (us.drop (i * 3))) := bel_cells _ _ ((bel_cells (cells3 (x, y, z)) (i * 3) ((Bel.refl w).alloc (.cells ROW 43)).drew (Nat.le_refl _)).drew) (Nat.le_refl _)
        have hNB : Blk ((((w.alloc (.cells ROW 43)).drew.setCells w.heap.size (i * 3) (cells3 (x, y, z))).drew).setCells w.heap.size ((i + 1) * 3) (us.drop (i * 3))) w.heap.size 43 (setArr (setArr ROW (i * 3) (cells3 (x, y, z))) ((i + 1) * 3) (us.drop (i * 3))) := Blk.setCells (us.drop (i * 3)) ((i + 1) * 3) (Blk.drew (Blk.setCells (cells3 (x, y, z)) (i * 3) (Blk.drew (Blk.new w 43 ROW))))
        refine ⟨_, rfl, ?_, bel_grown hBel⟩
        unfold OT
        rw [insF_len hi', flat3_ins, ← hus]
        refine ⟨by simp [cells3]; omega, .inr ⟨w.heap.size, G, _, rfl, by omega, hNB, hGn, hG63, by rw [setArr_size, setArr_size]; omega, ?_⟩⟩
        apply List.ext_getElem?
        intro j
        rw [List.getElem?_take, Array.getElem?_toList, ins3_at us (cells3 (x, y, z)) (by omega) j, hl3]
        by_cases hj : j < (fs.length + 1) * 3
        · rw [if_pos hj, setArr_at _ _ _ _ (by rw [setArr_size]; omega)]
          by_cases e1 : (i + 1) * 3 ≤ j
          · rw [if_pos (by simp; omega), if_neg (by omega), if_neg (by omega), List.getElem?_drop]
            congr 1
            omega
          · rw [if_neg (by simp; omega), setArr_at _ _ _ _ (by omega), hl3]
            by_cases e2 : j < i * 3
            · rw [if_neg (by omega), if_pos e2, hRat j e2]
            · rw [if_pos (by omega), if_neg e2, if_pos (by omega)]
        · rw [if_neg hj, if_neg (by omega), if_neg (by omega), List.getElem?_eq_none (by omega)]
  · exact insTEnd v vb fs x y z lo w h hlo hn hB
end Go.Proofs.Ytchodlfkoafeaaa
