/-
  slices.Insert of one row into an owned slice of slices of ints: one contract. Condition: at most 2^20 rows.
-/
import Derived.Test.YtjaagabbbnokdaaIns
namespace Go.Proofs.Ytjaagabbbnokdaa
open Go.ChangeShapes Go.WideShapes Go.ChangeAt Go.RowKit Go.Lib
set_option linter.unusedVariables false
set_option maxRecDepth 100000

def setArr : Array Value → Nat → List Value → Array Value
  | cs, _, [] => cs
  | cs, o, v :: r => setArr (cs.setIfInBounds o v) (o + 1) r
theorem setArr_size : ∀ (vs : List Value) (cs : Array Value) (o : Nat), (setArr cs o vs).size = cs.size
  | [], _, _ => rfl
  | v :: r, cs, o => by unfold setArr; rw [setArr_size r]; simp
theorem setArr_at : ∀ (vs : List Value) (cs : Array Value) (o k : Nat), k < cs.size → (setArr cs o vs)[k]? = if o ≤ k ∧ k < o + vs.length then vs[k - o]? else cs[k]?
  | [], cs, o, k, hk => by
    unfold setArr
    rw [if_neg (by rintro ⟨h1, h2⟩; rw [List.length_nil] at h2; omega)]
  | v :: r, cs, o, k, hk => by
    unfold setArr
    rw [setArr_at r _ _ _ (by simpa using hk), Array.getElem?_setIfInBounds]
    by_cases h1 : o + 1 ≤ k ∧ k < o + 1 + r.length
    · rw [if_pos h1, if_pos (by simp; omega)]
      obtain ⟨d, rfl⟩ : ∃ d, k = o + 1 + d := ⟨k - o - 1, by omega⟩
      rw [show o + 1 + d - (o + 1) = d by omega, show o + 1 + d - o = d + 1 by omega, List.getElem?_cons_succ]
    · rw [if_neg h1]
      by_cases h2 : o = k
      · subst h2
        simp [hk]
      · rw [if_neg h2, if_neg (by simp; omega)]
theorem Blk.setCells : ∀ (vs : List Value) {w : World} {g : Nat} {t : TypeId} {cs : Array Value} (o : Nat), Blk w g t cs → Blk (w.setCells g o vs) g t (setArr cs o vs)
  | [], _, _, _, _, _, h => h
  | v :: r, _, _, _, _, o, h => Blk.setCells r (o + 1) (h.set o v)
theorem grown_cells : ∀ (vs : List Value) {w wr : World} {g : Nat} (o : Nat), w.grownBy wr (some g) → w.grownBy (wr.setCells g o vs) (some g)
  | [], _, _, _, _, h => h
  | v :: r, _, _, _, o, h => grown_cells r (o + 1) ⟨h.os, h.tape, h.output, by simpa [World.setCell] using h.size, fun j hj hne => (Below.heap_setCell _ _ _ _ (fun e => hne (by rw [e]))).trans (h.block j hj hne)⟩
theorem bel_cells : ∀ (vs : List Value) {w wr : World} {g : Nat} (o : Nat), Bel w wr → w.heap.size ≤ g → Bel w (wr.setCells g o vs)
  | [], _, _, _, _, h, _ => h
  | v :: r, _, _, _, o, h, hg => bel_cells r (o + 1) (h.setCell hg v) hg
theorem bel_grown {w w' : World} {row : Option Nat} (h : Bel w w') : w.grownBy w' row := ⟨Below.os h, Below.tape h, Below.output h, Below.size h, fun i hi _ => Below.block h i hi⟩
theorem ins_at {α : Type} (us : List α) (u : α) {i : Nat} (hi : i ≤ us.length) (j : Nat) : (us.take i ++ u :: us.drop i)[j]? = if j < i then us[j]? else if j = i then some u else us[j - 1]? := by
  have hl : (us.take i).length = i := by rw [List.length_take]; omega
  rcases Nat.lt_trichotomy j i with h1 | h1 | h1
  · rw [if_pos h1, List.getElem?_append_left (by omega), List.getElem?_take, if_pos h1]
  · subst h1
    rw [if_neg (by omega), if_pos rfl, List.getElem?_append_right (by omega), hl]; simp
  · rw [if_neg (by omega), if_neg (by omega), List.getElem?_append_right (by omega), hl]
    obtain ⟨d, rfl⟩ : ∃ d, j = i + 1 + d := ⟨j - i - 1, by omega⟩
    rw [show i + 1 + d - i = d + 1 by omega, List.getElem?_cons_succ, List.getElem?_drop, show i + 1 + d - 1 = i + d by omega]

theorem putM {w w' : World} {lo hi : Nat} {v u r : Value} {us : List Value} {xss : List (List Int)} {xs : List Int} {i : Nat}
    (hl : us.length = xss.length) (hq : ∀ q, v.ownBlock = some q → q < hi) (hr : ∀ (j : Nat) u xs, us[j]? = some u → xss[j]? = some xs → OIn w lo hi u xs)
    (hd : ∀ (i j : Nat) u u', i ≠ j → us[i]? = some u → us[j]? = some u' → ∀ q, u.ownBlock = some q → u'.ownBlock ≠ some q) (hv : ∀ (j : Nat) u, us[j]? = some u → ∀ q, u.ownBlock = some q → v.ownBlock ≠ some q)
    (hu : OI w hi u xs) (hlo : lo ≤ hi) (hhi : hi ≤ w.heap.size) (hg : w.grownBy w' v.ownBlock) (hi' : i ≤ xss.length)
    (hor : w'.ownsRow lo 59 1 r (xss.length + 1) (us.take i ++ u :: us.drop i)) (hro : r.ownBlock = v.ownBlock ∨ r.ownBlock = some w.heap.size) : OM w' lo r (putZ xss i xs) := by
  have hub := hu.block
  have hgs := hg.size
  have hiu : i ≤ us.length := by omega
  have key : ∀ (j : Nat) y, (us.take i ++ u :: us.drop i)[j]? = some y → (∃ j', us[j']? = some y ∧ (putZ xss i xs)[j]? = xss[j']? ∧ ((j < i ∧ j' = j) ∨ (i < j ∧ j' + 1 = j))) ∨ (j = i ∧ y = u ∧ (putZ xss i xs)[j]? = some xs) := fun j y h1 => by
    have e2 : (putZ xss i xs)[j]? = _ := ins_at xss xs hi' j
    rw [ins_at us u hiu j] at h1
    rcases Nat.lt_trichotomy j i with h | h | h
    · rw [if_pos h] at h1 e2; exact .inl ⟨j, h1, e2, .inl ⟨h, rfl⟩⟩
    · rw [if_neg (by omega), if_pos h] at h1 e2; injection h1 with h1; exact .inr ⟨h, h1.symm, e2⟩
    · rw [if_neg (by omega), if_neg (by omega)] at h1 e2; exact .inl ⟨j - 1, h1, e2, .inr ⟨h, by omega⟩⟩
  have old : ∀ (i : Nat) y, us[i]? = some y → ∀ q, y.ownBlock = some q → lo ≤ q ∧ q < hi := fun i y h1 q e => by
    have hlt := (List.getElem?_eq_some_iff.1 h1).1
    have h7 := hr i y _ h1 (rw_get (show i < xss.length by omega))
    exact ⟨(h7.1.block q e).1, h7.2 q e⟩
  have plen : (putZ xss i xs).length = xss.length + 1 := putZ_len hi'
  refine ⟨us.take i ++ u :: us.drop i, by rw [plen]; simp; omega, by rw [plen]; exact hor, fun q e => (World.ownsRow.lt hor q e).2, fun j y ys q1 q2 => ?_, fun a b y y' hne q1 q2 q e1 e2 => ?_, fun j y q1 q e1 e2 => ?_⟩
  · rcases key j y q1 with ⟨j', a1, a2, _⟩ | ⟨_, rfl, a2⟩
    · rw [a2] at q2
      have h7 := hr j' y ys a1 q2
      refine ⟨h7.1.far hg ?_, fun q e => by have := h7.2 q e; omega⟩
      cases hy : y.ownBlock with
      | none => exact .inl rfl
      | some q => exact .inr (fun e => hv j' y a1 q hy e.symm)
    · rw [a2] at q2
      injection q2 with q2
      subst q2
      refine ⟨(hu.low hlo).far hg ?_, fun q e => by have := (hub q e).2; omega⟩
      cases hy : y.ownBlock with
      | none => exact .inl rfl
      | some q => exact .inr (fun e => by have h8 := (hub q hy).1; have h9 := hq q e.symm; omega)
  · rcases key a y q1 with ⟨a', a1, _, a3⟩ | ⟨a3, rfl, _⟩
    · rcases key b y' q2 with ⟨b', b1, _, b3⟩ | ⟨b3, rfl, _⟩
      · exact hd a' b' y y' (by omega) a1 b1 q e1 e2
      · have := (old a' y a1 q e1).2; have := (hub q e2).1; omega
    · rcases key b y' q2 with ⟨b', b1, _, b3⟩ | ⟨b3, rfl, _⟩
      · have := (old b' y' b1 q e2).2; have := (hub q e1).1; omega
      · omega
  · rcases key j y q1 with ⟨j', a1, _, _⟩ | ⟨_, rfl, _⟩
    · rcases hro with h6 | h6
      · rw [h6] at e2; exact hv j' y a1 q e1 e2
      · rw [h6] at e2; injection e2 with e2; have := (old j' y a1 q e1).2; omega
    · rcases hro with h6 | h6
      · rw [h6] at e2; have := hq q e2; have := (hub q e1).1; omega
      · rw [h6] at e2; injection e2 with e2; have := (hub q e1).2; omega

set_option maxHeartbeats 2000000 in
theorem insEnd (v u : Value) (vb : Nat) (xss : List (List Int)) (xs : List Int) (lo hi : Nat) (w : World) (h : OII w lo hi v xss) (hlo : lo ≤ hi) (hhi : hi ≤ w.heap.size) (hn : xss.length ≤ 1048576) (hB : Blk w vb 59 #[u]) (hu : OI w hi u xs) :
    Calls Try.prog 106 #[v, .int .i64 (xss.length : Int), .slice (some ⟨vb, 0, none⟩) 1 1] w fun e w' => ∃ r, e = .returned r ∧ OM w' lo r (putZ xss xss.length xs) ∧ w.grownBy w' v.ownBlock := by
  have HP : Hid (putZ xss xss.length xs = xss ++ [xs]) := Lib.hid (by unfold putZ; rw [List.take_length, List.drop_length])
  have hc : w.cell? ⟨vb, 0, none⟩ = some u := hB.facts.1 0
  obtain ⟨A, cp, e, k1, k2, _⟩ := h.reads
  subst e
  have i0 : (0 : Int) ≤ (xss.length : Int) := by omega
  have i1 : (xss.length : Int) ≤ (xss.length : Int) := by omega
  have i3 : ((xss.length : Int) == (xss.length : Int)) = true := by simp
  rcases Nat.lt_or_eq_of_le k1 with k3 | k3
  · have i2 : ¬ cp = xss.length := by omega
    go_enter Try.func106, Try.ntmps106
    go_wp2_with (at_builtin; refine wpList_appO _ rfl _ _ rfl lo hi _ _ _ xss xs rfl rfl h hlo hhi hc rfl hu (by omega) ?_)
    intro v2 w2 O2 hG ho
    rw [← HP.out] at O2
    go_wp2
    go_ret
    exact ⟨_, rfl, O2, hG⟩
  · subst k3
    go_enter Try.func106, Try.ntmps106
    go_wp2_with (at_builtin; refine wpList_appO _ rfl _ _ rfl lo hi _ _ _ xss xs rfl rfl h hlo hhi hc rfl hu (by omega) ?_)
    intro v2 w2 O2 hG ho
    rw [← HP.out] at O2
    go_wp2
    go_ret
    exact ⟨_, rfl, O2, hG⟩
set_option maxHeartbeats 2000000 in
theorem insM (v u : Value) (i vb : Nat) (xss : List (List Int)) (xs : List Int) (lo hi : Nat) (w : World) (h : OII w lo hi v xss) (hlo : lo ≤ hi) (hhi : hi ≤ w.heap.size) (hn : xss.length ≤ 1048576) (hi' : i ≤ xss.length) (hB : Blk w vb 59 #[u]) (hvb : hi ≤ vb) (hu : OI w hi u xs) :
    Calls Try.prog 106 #[v, .int .i64 (i : Int), .slice (some ⟨vb, 0, none⟩) 1 1] w fun e w' => ∃ r, e = .returned r ∧ OM w' lo r (putZ xss i xs) ∧ w.grownBy w' v.ownBlock := by
  rcases Nat.lt_or_eq_of_le hi' with hlt | rfl
  · obtain ⟨us, hl, ⟨hl2, ⟨rfl, h9⟩ | ⟨g, cap, cur, rfl, hb, hh, h1, h2, h3, h4⟩⟩, hq, hr, hd, hv⟩ := h
    · omega
    · have hgB : Blk w g 59 cur := hh
      obtain ⟨cg, fg, zg⟩ := hgB.facts
      have hcap : cur.size = cap := by omega
      have hgv : vb ≠ g := by have := hq g rfl; omega
      have hcs : ∀ j v, us[j]? = some v → w.cell? ⟨g, 0 + j, none⟩ = some v := fun j y hj => by
        have hju := (List.getElem?_eq_some_iff.1 hj).1
        rw [Nat.zero_add, cg j, ← Array.getElem?_toList]
        have h5 : (cur.toList.take (xss.length * 1))[j]? = some y := by rw [h4]; exact hj
        rw [List.getElem?_take] at h5
        rwa [if_pos (by omega)] at h5
      have hcur : ∀ j, j < us.length → cur[j]? = us[j]? := fun j hj => by
        have := hcs j _ (List.getElem?_eq_getElem hj)
        rw [Nat.zero_add, cg j] at this
        rw [this, List.getElem?_eq_getElem hj]
      have hvs : ∀ j v, [u][j]? = some v → w.cell? ⟨vb, 0 + j, none⟩ = some v := fun j y hj => by
        have e : j = 0 := by
          rcases Nat.eq_zero_or_pos j with e | e
          · exact e
          · rw [List.getElem?_eq_none (by simp; omega)] at hj; cases hj
        subst e
        simp at hj
        subst hj
        exact hB.facts.1 0
      have one : ∀ v ∈ us, v.oneCell' = true := fun y hy => by
        obtain ⟨j, hj⟩ := List.mem_iff_getElem?.1 hy
        have hju := (List.getElem?_eq_some_iff.1 hj).1
        obtain ⟨A, c, e, _⟩ := (hr j y _ hj (rw_get (show j < xss.length by omega))).reads
        rw [e]; rfl
      have oneu : ∀ v ∈ [u], v.oneCell' = true := fun y hy => by
        rw [List.mem_singleton.1 hy]
        obtain ⟨A, c, e, _⟩ := hu.reads
        rw [e]; rfl
      have hlu : us.length = xss.length := hl
      by_cases hroom : xss.length + 1 ≤ cap
      · refine (insShift g 0 xss.length cap i vb 0 1 1 us [u] w hlt (by omega) hroom (by unfold maxLen at h2; omega) hgv hlu rfl hcs
          (fun j hj => by rw [Nat.zero_add, cg j, Array.getElem?_eq_getElem (by omega)]; rfl) (fun j _ => fg _) hvs one oneu _ _ _ _ hB.shape hgB.shape (by omega) (hB.facts.2.1 _) (hB.facts.2.1 _)).mono ?_
        rintro e w' ⟨rfl, rfl⟩
        refine ⟨_, rfl, ?_, ?_⟩
        · refine putM hl hq hr hd hv hu hlo hhi (grown_cells _ _ (grown_cells _ _ ⟨rfl, rfl, rfl, Nat.le_refl _, fun _ _ _ => rfl⟩)) hi' ?_ (.inl rfl)
          refine ⟨by simp; omega, .inr ⟨g, cap, _, rfl, hb, Blk.setCells [u] (0 + i) (Blk.setCells (us.drop i) (0 + (i + 1)) hgB.drew), hroom, h2, by rw [setArr_size, setArr_size]; omega, ?_⟩⟩
          apply List.ext_getElem?
          intro j
          rw [List.getElem?_take, Array.getElem?_toList, ins_at us u (by omega) j]
          by_cases hj : j < (xss.length + 1) * 1
          · rw [if_pos hj, setArr_at _ _ _ _ (by rw [setArr_size]; omega)]
            by_cases e1 : j = i
            · subst e1
              rw [if_pos (by simp), if_neg (by omega), if_pos rfl]; simp
            · rw [if_neg (by simp; omega), setArr_at _ _ _ _ (by omega)]
              rcases Nat.lt_or_ge j i with h5 | h5
              · rw [if_neg (by simp; omega), if_pos h5, hcur j (by omega)]
              · rw [if_pos (by simp; omega), if_neg (by omega), if_neg e1, List.getElem?_drop]
                congr 1
                omega
          · rw [if_neg hj, if_neg (by omega), if_neg (by omega), List.getElem?_eq_none (by omega)]
        · exact grown_cells _ _ (grown_cells _ _ ⟨rfl, rfl, rfl, Nat.le_refl _, fun _ _ _ => rfl⟩)
      · have hGn : xss.length + 1 ≤ grownCap w (xss.length + 1) cap 59 := grownCap_ge w _ _ _
        have hG63 := grownCap_le_maxLen w (xss.length + 1) cap 59 (by unfold maxLen; omega)
        refine (insGrow g 0 xss.length cap i vb 0 1 1 us [u] w hlt (by omega) h1 (by omega) (by omega) hlu rfl hcs hvs one oneu).mono ?_
        rintro e w' ⟨rfl, rfl⟩
        generalize grownCap w (xss.length + 1) cap 59 = G at *
        have hsz : ((us.take i).toArray ++ Builtin.zeroCells (Value.slice none 0 0).cells (xss.length + 1 - i) ++ Builtin.zeroCells (Value.slice none 0 0).cells (G - (xss.length + 1))).size = G := by
          simp [Builtin.zeroCells, Value.cells]
          omega
        have hRat : ∀ j, j < i → ((us.take i).toArray ++ Builtin.zeroCells (Value.slice none 0 0).cells (xss.length + 1 - i) ++ Builtin.zeroCells (Value.slice none 0 0).cells (G - (xss.length + 1)))[j]? = us[j]? := fun j hj => by
          rw [Array.append_assoc, Array.getElem?_append_left (by simp; omega)]
          simp [hj]
        generalize (us.take i).toArray ++ Builtin.zeroCells (Value.slice none 0 0).cells (xss.length + 1 - i) ++ Builtin.zeroCells (Value.slice none 0 0).cells (G - (xss.length + 1)) = ROW at *
        have hBel : Bel w ((((w.alloc (.cells ROW 59)).drew.setCells w.heap.size i [u]).drew).setCells w.heap.size (i + 1) (us.drop i)) := bel_cells _ _ ((bel_cells [u] i ((Bel.refl w).alloc (.cells ROW 59)).drew (Nat.le_refl _)).drew) (Nat.le_refl _)
        have hNB : Blk ((((w.alloc (.cells ROW 59)).drew.setCells w.heap.size i [u]).drew).setCells w.heap.size (i + 1) (us.drop i)) w.heap.size 59 (setArr (setArr ROW i [u]) (i + 1) (us.drop i)) := Blk.setCells (us.drop i) (i + 1) (Blk.drew (Blk.setCells [u] i (Blk.drew (Blk.new w 59 ROW))))
        refine ⟨_, rfl, ?_, bel_grown hBel⟩
        refine putM hl hq hr hd hv hu hlo hhi (bel_grown hBel) hi' ?_ (.inr rfl)
        refine ⟨by simp; omega, .inr ⟨w.heap.size, G, _, rfl, by omega, hNB, hGn, hG63, by rw [setArr_size, setArr_size]; omega, ?_⟩⟩
        apply List.ext_getElem?
        intro j
        rw [List.getElem?_take, Array.getElem?_toList, ins_at us u (by omega) j]
        by_cases hj : j < (xss.length + 1) * 1
        · rw [if_pos hj, setArr_at _ _ _ _ (by rw [setArr_size]; omega)]
          by_cases e1 : i < j
          · rw [if_pos (by simp; omega), if_neg (by omega), if_neg (by omega), List.getElem?_drop]
            congr 1
            omega
          · rw [if_neg (by simp; omega), setArr_at _ _ _ _ (by omega)]
            by_cases e2 : j = i
            · subst e2
              rw [if_pos (by simp), if_neg (by omega), if_pos rfl]; simp
            · rw [if_neg (by simp; omega), if_pos (by omega), hRat j (by omega)]
        · rw [if_neg hj, if_neg (by omega), if_neg (by omega), List.getElem?_eq_none (by omega)]
  · exact insEnd v u vb xss xs lo hi w h hlo hhi hn hB hu
end Go.Proofs.Ytjaagabbbnokdaa
