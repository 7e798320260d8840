/-
  TopologicalOrder and IsAcyclic of the program: contracts. No condition.
-/
import Derived.Test.YtjlcnbicehjjjaaTopo3
import Derived.Test.YtjlcnbicehjjjaaIdx
import Derived.Test.YtjlcnbicehjjjaaHas
import Derived.Test.YtjlcnbicehjjjaaGraph3
namespace Go.Proofs.Ytjlcnbicehjjjaa
open Go.ChangeShapes Go.WideShapes Go.ChangeAt Go.RowKit
set_option linter.unusedVariables false
set_option maxRecDepth 100000

theorem idx_any {α : Type} (p : α → Bool) (fs : List α) : decide (0 ≤ idxZ p fs) = fs.any p := by
  unfold idxZ
  cases h : fs.findIdx? p with
  | none =>
    rw [List.findIdx?_eq_none_iff] at h
    have : fs.any p = false := by
      rw [List.any_eq_false]
      intro x hx
      rw [h x hx]; decide
    rw [this]; decide
  | some i =>
    obtain ⟨hi, hp, _⟩ := List.findIdx?_eq_some_iff_getElem.1 h
    have : fs.any p = true := List.any_eq_true.2 ⟨_, List.getElem_mem hi, hp⟩
    rw [this]
    simp
theorem all_cong {α : Type} {p q : α → Bool} : ∀ {l : List α}, (∀ x ∈ l, p x = q x) → l.all p = l.all q
  | [], _ => rfl
  | x :: l, h => by rw [List.all_cons, List.all_cons, h x List.mem_cons_self, all_cong (fun y hy => h y (List.mem_cons_of_mem _ hy))]
def outI (out : List Nat) : List Int := out.map Int.ofNat
def waitP (v : Int) (out : List Int) (f : Tr) : Bool := (f.2.1 == v) && !(hasB out f.1)
theorem has_out (out : List Nat) (a : Nat) : hasB (outI out) (a : Int) = out.contains a := by
  cases h : out.contains a
  · apply has_none
    intro j _ hj
    unfold outI at hj
    rw [List.getElem?_map] at hj
    cases hx : out[j]? with
    | none => rw [hx] at hj; cases hj
    | some x =>
      rw [hx] at hj
      have e : (x : Int) = (a : Int) := by simpa using hj
      have : x = a := by omega
      subst this
      have := List.mem_of_getElem? hx
      rw [← List.contains_iff_mem] at this
      rw [this] at h
      cases h
  · have hm : a ∈ out := List.contains_iff_mem.1 h
    obtain ⟨j, hj⟩ := List.mem_iff_getElem?.1 hm
    exact has_at (k := j) (by unfold outI; rw [List.getElem?_map, hj]; rfl)
theorem rdy_eq {n : Nat} {fs : List Tr} (h : InG n fs) (out : List Nat) (v : Nat) : rdyB (prs fs) out v = (!(fs.any (waitP (v : Int) (outI out))) && !(hasB (outI out) (v : Int))) := by
  have e : (prs fs).all (fun e => !(e.2 == v) || out.contains e.1) = !(fs.any (waitP (v : Int) (outI out))) := by
    unfold prs
    rw [List.all_map, List.not_any_eq_all_not]
    refine all_cong (fun f hf => ?_)
    obtain ⟨⟨h1, h2⟩, h3, h4⟩ := h f hf
    obtain ⟨x, y, z⟩ := f
    dsimp only at *
    obtain ⟨x, rfl⟩ := Int.eq_ofNat_of_zero_le h1
    obtain ⟨y, rfl⟩ := Int.eq_ofNat_of_zero_le h3
    unfold waitP
    dsimp only [Function.comp]
    rw [has_out, Int.toNat_natCast, Int.toNat_natCast]
    have e2 : ((y : Int) == (v : Int)) = (y == v) := by
      cases hb : y == v
      · have := beq_eq_false_iff_ne.1 hb
        exact beq_eq_false_iff_ne.2 (by omega)
      · have := beq_iff_eq.1 hb
        exact beq_iff_eq.2 (by omega)
    rw [e2]
    cases (y == v) <;> simp
  unfold rdyB
  rw [e, has_out, Bool.and_comm]
/-- The smallest ready node from j on, -1 if there is none. -/
def nxD (E : Eds) (out : List Nat) (n j : Nat) : Int := match (List.range' j (n - j)).find? (rdyB E out) with
  | some v => (v : Int)
  | none => -1
theorem nxD_end (E : Eds) (out : List Nat) (n : Nat) : nxD E out n n = -1 := by unfold nxD; simp
theorem nxD_step {E : Eds} {out : List Nat} {n j : Nat} (h : j < n) : nxD E out n j = if rdyB E out j = true then (j : Int) else nxD E out n (j + 1) := by
  unfold nxD
  have e : n - j = (n - (j + 1)) + 1 := by omega
  rw [e, List.range'_succ, List.find?_cons]
  cases hr : rdyB E out j
  · simp
  · simp
theorem nxD_zero (E : Eds) (out : List Nat) (n : Nat) : nxD E out n 0 = match nextN n E out with | some v => (v : Int) | none => -1 := by
  unfold nxD nextN
  rw [Nat.sub_zero, List.range_eq_range']
def topL (s : Int) (fs : List Tr) : List Int := if graphB s fs = true then outI ((topo s.toNat (prs fs) s.toNat []).getD []) else []
theorem topL_no {s : Int} {fs : List Tr} (h : graphB s fs = false) : topL s fs = [] := by unfold topL; rw [h]; rfl
theorem topL_none {n : Nat} {fs : List Tr} (h : topo n (prs fs) n [] = none) : topL (n : Int) fs = [] ∧ acyB (n : Int) fs = false := by
  unfold topL acyB
  rw [Int.toNat_natCast, h]
  constructor
  · split <;> rfl
  · simp
theorem topL_some {n : Nat} {fs : List Tr} {l : List Nat} (hg : graphB (n : Int) fs = true) (h : topo n (prs fs) n [] = some l) : topL (n : Int) fs = outI l ∧ acyB (n : Int) fs = true := by
  unfold topL acyB
  rw [Int.toNat_natCast, h, hg]
  exact ⟨rfl, rfl⟩
set_option maxHeartbeats 1000000 in
theorem waitC (v : Int) (out : List Int) (ov : Value) (q0 q1 : Addr) (f : Tr) (w : World) (h0 : w.cell? q0 = some (.int .i64 v)) (h1 : w.cell? q1 = some ov) (hr : RI w ov out) (l0 : q0.block < w.heap.size) (l1 : q1.block < w.heap.size) :
    Calls Try.prog 93 #[.agg #[.int .i64 f.1, .int .i64 f.2.1, .int .i64 f.2.2], .pointer (some q0), .pointer (some q1)] w fun e w' => e = .returned (.bool (waitP v out f)) ∧ Bel w w' := by
  obtain ⟨x, y, z⟩ := f
  dsimp only
  obtain ⟨A, c, rfl, _, _, _⟩ := id hr
  have c0 : ∀ o, (w.alloc o).cell? q0 = some (.int .i64 v) := fun o => (World.cell?_alloc_lt w o q0 l0).trans h0
  have c1 : ∀ o, (w.alloc o).cell? q1 = some (.slice A out.length c) := fun o => (World.cell?_alloc_lt w o q1 l1).trans h1
  have Y : Bel w (w.alloc (.cells #[.int .i64 x, .int .i64 y, .int .i64 z] 80)) := (Bel.refl _).alloc _
  clear h0 h1 l0 l1
  cases e1 : (y == v)
  · have HB : Hid (waitP v out (x, y, z) = false) := by show _ = _; simp only [waitP, e1]; rfl
    go_enter Try.func93, Try.ntmps93
    go_wp2
    go_ret
    exact ⟨by rw [HB.out]; rfl, Y⟩
  · have HB : Hid (waitP v out (x, y, z) = !(hasB out x)) := by show _ = _; simp only [waitP, e1]; rfl
    go_enter Try.func93, Try.ntmps93
    go_wp2_with fail
    refine (hasI x _ out _ (hr.keep Y)).mono ?_
    rintro e w1 ⟨rfl, rfl⟩
    go_wp2
    go_ret
    exact ⟨by rw [HB.out]; rfl, Y⟩
theorem contI (v : Value) (fs : List Tr) (p : Tr → Bool) (q0 q1 : Addr) (w : World) (hv : RT w v fs)
    (hcall : ∀ (f : Tr) (W : World), Bel w W → Calls Try.prog 93 #[.agg #[.int .i64 f.1, .int .i64 f.2.1, .int .i64 f.2.2], .pointer (some q0), .pointer (some q1)] W fun e W' => e = .returned (.bool (p f)) ∧ Bel W W') :
    Calls Try.prog 92 #[v, .func (.func 93) #[] #[.pointer (some q0), .pointer (some q1)]] w fun e w' => e = .returned (.bool (fs.any p)) ∧ Bel w w' := by
  have HA := Lib.hid (idx_any p fs)
  go_enter Try.func92, Try.ntmps92
  go_wp2_with fail
  refine (idxEd1 v fs p q0 q1 _ hv hcall).mono ?_
  rintro e w1 ⟨rfl, hb1⟩
  go_wp2
  go_ret
  exact ⟨by rw [← HA.out]; rfl, hb1⟩
end Go.Proofs.Ytjlcnbicehjjjaa
