/-
  append([]int{}, ys...): a copy; nothing that lay is turned. Nothing of the program is run here but the builtin append.
  A region that draws its order, whose last operation waits for all others: the others are walked in every order (with a condition on the world kept behind each), the last one behind them.
  Hashes: contracts of Mod, Hash, KeyedHash, of the program and of the reference. Conditions: a modulus from 1 to 10^12; at most 2^39 numbers.
  Contracts of KeyedHash and ManifestMAC, of the program and of the reference. Condition: at most 2^21 numbers.
  The cursor of the draws: weak contracts of l1Byte, l1Below, l1Once, l1Int (the result is in range, only the cursor's own block turns). No condition beyond a cursor that can be read.
  l1Byte, l1Below, l1Once, l1Int, l4Element: weak contracts. Condition: a cursor that can be read.
  Draws: l1New, big, at, l5Vector: weak contracts. Condition: at most 2^20 bytes.
-/
import Derived.Test.YtjaagabbbnokdaaApp
import Derived.Test.YtjaagabbbnokdaaWords
import Derived.StillTail
import Derived.OrdersHeld
import Derived.Deep.RegionHeld3
import Derived.Test.YtjaagabbbnokdaaConcat
import Derived.Test.YtjaagabbbnokdaaMid
import Derived.Test.YtjaagabbbnokdaaBits
import Derived.Test.YtjaagabbbnokdaaOpenS
import Derived.Test.YtjaagabbbnokdaaMl
import Derived.Deep.QuietTactic
namespace Go.Proofs.Ytjaagabbbnokdaa
open Go.ChangeShapes Go.WideShapes Go.ChangeAt Go.RowKit
set_option linter.unusedVariables false
set_option maxRecDepth 100000

theorem run_cpI (w : World) (base g : Nat) (ty : TypeId) (u : Value) (ys : List Int) (hown : OI w base (.slice (some ⟨g, 0, none⟩) 0 0) []) (hr : RI w u ys) (hbytes : ys.length ≤ 1099511627776) (hbase : base ≤ w.heap.size) :
    ∃ v' w', (Builtin.append_ #[59, 59] ty #[.slice (some ⟨g, 0, none⟩) 0 0, u]).run Try.prog w = .ok v' w' ∧ OI w' base v' ys ∧ Bel w w' := by
  obtain ⟨i0, hi, hz0, hz1, hz2⟩ := info_parts int_info
  obtain ⟨A, c, rfl, h1, h2, h3⟩ := hr
  by_cases hy : ys = []
  · subst hy
    refine ⟨.slice (some ⟨g, 0, none⟩) 0 0, w, ?_, hown, Bel.refl w⟩
    cases A with
    | none => simp [Builtin.append_, run_underlying Try.underlying59, sizeOf, typeInfo, hi, Builtin.lenOf, Builtin.firstCells, storeCells]
    | some ad => simp [Builtin.append_, run_underlying Try.underlying59, sizeOf, typeInfo, hi, Builtin.lenOf, Builtin.firstCells, storeCells, loadCells, loadCellsFrom]
  · have hl : 0 < ys.length := List.length_pos_iff.2 hy
    obtain ⟨b, off, rfl, hb, hc⟩ := h3 hl
    have hcells : ∀ j q, (ys.map (Value.int .i64))[j]? = some q → w.cell? ((⟨b, off, none⟩ : Addr).add j) = some q := by
      intro j q hq
      rw [List.getElem?_map] at hq
      cases hy : ys[j]? with
      | none => rw [hy] at hq; cases hq
      | some y =>
        rw [hy] at hq
        have hq' : Value.int .i64 y = q := by simpa using hq
        rw [add_plain, hc j y hy, hq']
    have hnl : (ys.map (Value.int .i64)).length = ys.length * i0.size := by rw [hz1]; simp
    have hr := run_append_grow (P := Try.prog) w 59 ty 3 i0 (.int .i64 0) Try.underlying59 hi hz0 ⟨g, 0, none⟩ 0 0 [] (by simp) (fun j u h => by simp at h) ⟨b, off, none⟩ ys.length c (ys.map (Value.int .i64)) hnl hcells (by omega) (by omega) (growslice_fits (by omega) (by rw [hz2]; omega))
    refine ⟨_, _, hr, ?_, ((Bel.refl w).drew).alloc _⟩
    have hge := grownCap_ge w (0 + ys.length) 0 3
    have hcm : grownCap w (0 + ys.length) 0 3 ≤ maxLen := grownCap_le_maxLen w (0 + ys.length) 0 3 (by unfold maxLen; omega)
    rw [Nat.zero_add] at hge hcm ⊢
    refine ⟨by simp, .inr ⟨w.heap.size, _, _, rfl, hbase, heap_alloc_new w.drew _, hge, hcm, ?_, ?_⟩⟩
    · simp [size_zeroCells, Value.cells]
      omega
    · simp only [Array.toList_append, List.append_assoc]
      simp
theorem step_cpI {ops : Array Oper} {o : Oper} {a : Act} {K : Act → World → Prop} {Q : Exit → Act → World → Prop} {E : Prop} (w : World) (hgd : o.guard = none) (s x : Operand)
    (ho : o.op = .call { callee := .builtin .append, args := #[s, x], argTypes := #[59, 59] })
    (base g : Nat) (u : Value) (ys : List Int) (hs : a.eval s = .slice (some ⟨g, 0, none⟩) 0 0) (hx : a.eval x = u) (hown : OI w base (.slice (some ⟨g, 0, none⟩) 0 0) []) (hr : RI w u ys) (hbytes : ys.length ≤ 1099511627776) (hbase : base ≤ w.heap.size)
    (h : ∀ v' w', OI w' base v' ys → Bel w w' → K (a.put o.dst v') w') :
    if Region.wanted o (yielded ops a.tmps) = true then Oper.wp Try.prog o a w K Q else E := by
  have hw : Region.wanted o (yielded ops a.tmps) = true := by simp [Region.wanted, hgd]
  rw [if_pos hw]
  obtain ⟨v', w', hrun, h2, h3⟩ := run_cpI w base g o.type u ys hown hr hbytes hbase
  unfold Oper.wp execOp
  simp only [ho, resolve, invoke, builtin, Sem.run_bind, Sem.run_pure, Result.andThen_ok, List.map_toArray, List.map_cons, List.map_nil, hs, hx, hrun]
  exact h v' w' h2 h3
end Go.Proofs.Ytjaagabbbnokdaa

namespace Go.Proofs.Ytjaagabbbnokdaa
set_option linter.unusedVariables false

section
variable {P : Program} {ops : Array Oper} {md : Region.Mode} {S : World → Prop} {Q : Exit → Act → World → Prop}

theorem wpOp_post {Q' : Exit → Act → World → Prop} (hp : ∀ c a w, Q' (.panic c) a w → Q (.panic c) a w) (ho : LetsOut Q' → LetsOut Q) {i : Nat} {K : Act → World → Prop} {a : Act} {w : World}
    (h : wpOp P ops Q' i K a w) : wpOp P ops Q i K a w := by
  unfold wpOp at *
  cases hoi : ops[i]? with
  | none => simpa only [hoi] using h
  | some o =>
    simp only [hoi] at h ⊢
    by_cases hw : Region.wanted o (yielded ops a.tmps) = true
    · rw [if_pos hw] at h ⊢
      refine h.imp (fun h => ?_) (fun h => ⟨h.1, ho h.2⟩)
      unfold Oper.wp at *
      generalize (execOp a.eval o).run P w = r at *
      cases r with
      | ok n w' =>
        cases n <;> simp only [Oper.upon] at h ⊢ <;> first
          | exact h
          | exact Calls.mono h (fun e w'' he => by cases e <;> first | exact he | exact hp _ _ _ he | exact ho he)
      | halt x w' => cases x <;> simp only [Oper.upon] at h ⊢ <;> first | exact h | exact hp _ _ _ h
    · rw [if_neg hw] at h ⊢
      exact h

/-- What follows the head: the rest of the region in the text's order. -/
def headPost (P : Program) (l : List Oper) (n : Nat) (Q : Exit → Act → World → Prop) : Exit → Act → World → Prop
  | .normal, a, w => wpList P l.toArray Q (l.drop n) a w
  | e, a, w => Q e a w

def downB (md : Region.Mode) (ops : Array Oper) : Bool :=
  (List.range ops.size).all fun j => match ops[j]? with
    | some o => o.after.all fun e => !Region.binds md e || decide (e.on < j)
    | none => true
theorem downB_spec (h : downB md ops = true) {j : Nat} {o : Oper} (ho : ops[j]? = some o) : ∀ e ∈ o.after, Region.binds md e = true → e.on < j := by
  intro e he hb
  have hlt : j < ops.size := (Array.getElem?_eq_some_iff.1 ho).1
  have h1 := List.all_eq_true.1 h j (List.mem_range.2 hlt)
  simp only [ho] at h1
  have h2 := Array.all_eq_true_iff_forall_mem.1 h1 e he
  rw [hb] at h2
  simpa using h2

/-- Where nothing may come up, all have come up. -/
theorem all_listed (hd : downB md ops = true) {listed : Array Bool} (hsz : listed.size = ops.size) (hr : Region.ready md ops listed = []) : ∀ j, j < ops.size → listed.getD j true = true := by
  intro j
  induction j using Nat.strongRecOn with
  | _ j ih =>
    intro hj
    cases hl : listed.getD j true with
    | true => rfl
    | false =>
      exfalso
      have ho : ops[j]? = some ops[j] := Array.getElem?_eq_getElem hj
      have : j ∈ Region.ready md ops listed := mem_ready.2 ⟨hl, _, ho, fun e he hb => by
        have hlt := downB_spec hd ho e he hb
        have h1 := ih e.on hlt (by omega)
        have h2 : e.on < listed.size := by omega
        simpa [Array.getD, h2] using h1⟩
      rw [hr] at this
      cases this

theorem cut_last {l : List Oper} {n : Nat} (hd : downB md l.toArray = true) (hs : Region.sinkB md l.toArray n = true) (hc : Region.chainB md l.toArray n = true) (hn : n + 1 = l.length) :
    ∀ (fuel : Nat) (listed : Array Bool) (a : Act) (w : World), HeadInv md l.toArray n listed →
      wpAny P md l.toArray (headPost P l n Q) fuel (listed.setIfInBounds n true) a w → wpAny P md l.toArray Q (fuel + 1) listed a w := by
  have hn' : n + 1 = l.toArray.size := by simpa using hn
  have hP : ∀ c a w, headPost P l n Q (.panic c) a w → Q (.panic c) a w := fun _ _ _ h => h
  have hO : LetsOut (headPost P l n Q) → LetsOut Q := fun ⟨a, w, h⟩ => ⟨a, w, h⟩
  -- the last operation, behind all others
  have last : ∀ (fuel : Nat) (listed : Array Bool) (a : Act) (w : World), HeadInv md l.toArray n listed → Region.ready md l.toArray (listed.setIfInBounds n true) = [] →
      headPost P l n Q .normal a w → wpOp P l.toArray Q n (wpAny P md l.toArray Q fuel (listed.setIfInBounds n true)) a w := by
    intro fuel listed a w inv hr h
    have hlt : n < l.length := by omega
    have e1 : l.drop n = [l[n]] := by
      rw [List.drop_eq_getElem_cons hlt, List.drop_of_length_le (by omega)]
    have h1 : wpList P l.toArray Q [l[n]] a w := by rw [← e1]; exact h
    have ho : l.toArray[n]? = some l[n] := by simp [hlt]
    unfold wpOp
    simp only [ho]
    simp only [wpList] at h1
    by_cases hw : Region.wanted l[n] (yielded l.toArray a.tmps) = true
    · rw [if_pos hw] at h1 ⊢
      refine h1.imp (Oper.wp_mono fun a w q => ?_) id
      cases fuel with
      | zero => exact ⟨hr, q⟩
      | succ fuel => exact ⟨fun _ => q, fun i hi => by rw [hr] at hi; cases hi⟩
    · rw [if_neg hw] at h1 ⊢
      cases fuel with
      | zero => exact ⟨hr, h1⟩
      | succ fuel => exact ⟨fun _ => h1, fun i hi => by rw [hr] at hi; cases hi⟩
  have nun : ∀ listed : Array Bool, HeadInv md l.toArray n listed → Region.ready md l.toArray listed ≠ [] := by
    intro listed inv hr
    have h1 := all_listed hd inv.size hr n (by omega)
    rw [inv.tail n (Nat.le_refl _) (by omega)] at h1
    cases h1
  -- if the last may come up, all others have come up
  have only : ∀ listed : Array Bool, HeadInv md l.toArray n listed → n ∈ Region.ready md l.toArray listed → Region.ready md l.toArray (listed.setIfInBounds n true) = [] := by
    intro listed inv hr
    rw [List.eq_nil_iff_forall_not_mem]
    intro j hj
    obtain ⟨hun, o, ho, _⟩ := mem_ready.1 hj
    have hjlt : j < l.toArray.size := (Array.getElem?_eq_some_iff.1 ho).1
    by_cases hjn : n = j
    · subst hjn
      have h9 : n < listed.size := by rw [inv.size]; omega
      simp [h9] at hun
    · rw [getD_set_ne true hjn] at hun
      exact tail_waits hs hc (by omega) inv _ j rfl (by omega) hun n (Nat.le_refl _) hr
  intro fuel
  induction fuel with
  | zero =>
    intro listed a w inv h
    refine ⟨fun hr => absurd hr (nun listed inv), fun i hi => ?_⟩
    have hin : i = n := by
      by_cases hin : i = n
      · exact hin
      · have := ready_mono hi hin
        rw [h.1] at this
        cases this
    subst hin
    exact last 0 listed a w inv h.1 h.2
  | succ fuel ih =>
    intro listed a w inv h
    refine ⟨fun hr => absurd hr (nun listed inv), fun i hi => ?_⟩
    by_cases hin : i = n
    · subst hin
      have hr := only listed inv hi
      exact last (fuel + 1) listed a w inv hr (h.1 hr)
    · have h1 := h.2 i (ready_mono hi hin)
      have hilt : i < n := by
        obtain ⟨_, o, ho, _⟩ := mem_ready.1 hi
        have := (Array.getElem?_eq_some_iff.1 ho).1
        omega
      refine wpOp_mono (fun a' w' h2 => ih (listed.setIfInBounds i true) a' w' (inv.set hi hilt) ?_) (wpOp_post hP hO h1)
      rw [Array.setIfInBounds_comm _ _ hin]
      exact h2

def lastB (md : Region.Mode) (l : List Oper) (n : Nat) : Bool :=
  decide (n + 1 = l.length) && downB md l.toArray && Region.sinkB md l.toArray n && Region.chainB md l.toArray n

theorem wp_region_last {id : Nat} {a : Act} {w : World} {l : List Oper} (n : Nat) (S : World → Prop) (hm : P.follows .mixedOrders = true) (hB : lastB .any l n = true) (hS : S w.drew)
    (h : S w.drew → wpAnyH P .any l.toArray (headPost P l n Q) S n ((Array.replicate (n + 1) false).setIfInBounds n true) a w.drew) : (Code.region id l.toArray true).wp P Q a w := by
  simp only [lastB, Bool.and_eq_true, decide_eq_true_eq] at hB
  obtain ⟨⟨⟨hn, hd⟩, hs⟩, hc⟩ := hB
  refine wp_region_any hm ?_
  have hz : l.toArray.size = n + 1 := by simp [hn]
  rw [hz]
  refine cut_last hd hs hc hn n _ a _ ⟨by simp [hn], fun j oj _ hl => (by rw [getD_replicate_false] at hl; cases hl), fun t ht htl => getD_in (by simpa [hn] using htl) (getD_replicate_false _ _)⟩ ?_
  exact wpAny_of_held _ _ _ _ (h hS)
end
end Go.Proofs.Ytjaagabbbnokdaa

namespace Go.Proofs.Ytjaagabbbnokdaa
open Go.ChangeShapes Go.WideShapes Go.ChangeAt Go.RowKit
set_option linter.unusedVariables false
set_option maxRecDepth 100000

theorem tmod_emod (p q : Int) (hq : 1 ≤ q) : (p.tmod q + q) % q = p % q ∧ -q < p.tmod q ∧ p.tmod q < q := by
  have h1 : p.tmod q < q := Int.tmod_lt_of_pos p (by omega)
  have h2 : -q < p.tmod q := by
    rcases Int.le_total 0 p with hp | hp
    · have := Int.tmod_nonneg q hp; omega
    · have h3 : (-p).tmod q < q := Int.tmod_lt_of_pos (-p) (by omega)
      rw [Int.neg_tmod] at h3
      omega
  refine ⟨?_, h2, h1⟩
  rw [Int.add_emod_right]
  have h4 := Int.mul_tdiv_add_tmod p q
  conv => rhs; rw [← h4]
  rw [Int.add_comm, Int.add_mul_emod_self_left]

/-- The hash of a list of numbers. -/
def hshS (s v : Int) : Int := (s * 1000003 + v % 2147483647 + 13) % 2147483647
def hsh (xs : List Int) : Int := xs.foldl hshS 11
theorem hsh_bd (xs : List Int) : 0 ≤ hsh xs ∧ hsh xs < 2147483647 := by
  have key : ∀ (ys : List Int) (s : Int), 0 ≤ s ∧ s < 2147483647 → 0 ≤ ys.foldl hshS s ∧ ys.foldl hshS s < 2147483647 := by
    intro ys
    induction ys with
    | nil => intro s h; exact h
    | cons y ys ih => intro s h; exact ih _ ⟨Int.emod_nonneg _ (by decide), Int.emod_lt_of_pos _ (by decide)⟩
  exact key xs 11 (by decide)
theorem hsh_step {xs : List Int} {k : Nat} {x : Int} (h : xs[k]? = some x) : hsh (xs.take (k + 1)) = (hsh (xs.take k) * 1000003 + x % 2147483647 + 13) % 2147483647 := by
  obtain ⟨hk, rfl⟩ := List.getElem?_eq_some_iff.1 h
  unfold hsh
  rw [List.take_succ_eq_append_getElem hk, List.foldl_append]
  rfl
set_option maxHeartbeats 400000 in
theorem modS (p q : Int) (w : World) (h1 : 1 ≤ q) (h2 : q ≤ 1000000000000) (hp : -9223372036854775808 ≤ p) (hp2 : p ≤ 9223372036854775807) :
    Calls Try.prog 177 #[.int .i64 p, .int .i64 q] w fun e w' => e = .returned (.int .i64 (p % q)) ∧ w = w' := by
  obtain ⟨k1, k2, k3⟩ := tmod_emod p q h1
  have K1 := Lib.hid k1
  clear k1
  have k4 : 0 ≤ p.tmod q + q := by omega
  go_enter Try.func177, Try.ntmps177
  go_wp2_with fail
  refine (l1In_yes _ _ _ _ (by omega) (by omega)).mono ?_
  rintro e w1 ⟨rfl, rfl⟩
  go_wp2
  go_ret
  exact ⟨by rw [← K1.out]; rfl, rfl⟩
set_option maxHeartbeats 1000000 in
theorem hash1S (v : Value) (xs : List Int) (w : World) (hv : RI w v xs) (hb : ∀ x ∈ xs, -9223372036854775808 ≤ x ∧ x ≤ 9223372036854775807) :
    Calls Try.prog 176 #[v] w fun e w' => e = .returned (.int .i64 (hsh xs)) ∧ w = w' := by
  obtain ⟨A, c, rfl, h2, h3, hA⟩ := hv
  have HB := Lib.hid hb
  clear hb
  go_enter Try.func176, Try.ntmps176
  go_wp2
  go_loopg [3, 4] xs.length (fun f m i wr => ∃ k : Nat, k + f = xs.length ∧ i = .int .i64 k ∧ m = .int .i64 (hsh (xs.take k)) ∧ wr = w)
  case atStart => exact ⟨0, by omega, rfl, rfl, rfl⟩
  case round =>
    obtain ⟨k, hk, rfl, rfl, rfl⟩ := hrel
    have hk2 : k ≤ xs.length := by omega
    have HK := Lib.hid hk
    clear hk
    by_cases hlt : k < xs.length
    · obtain ⟨b1, o1, rfl, z1, hc1⟩ := hA (by omega)
      have hx : xs[k]? = some (xs[k]'hlt) := List.getElem?_eq_getElem hlt
      have g1 := hc1 k _ hx
      have HS := Lib.hid (hsh_step hx)
      obtain ⟨m1, m2⟩ := HB.out _ (List.getElem_mem hlt)
      obtain ⟨q1, q2⟩ := hsh_bd (xs.take k)
      clear hc1 hA hx
      generalize xs[k]'hlt = x at *
      generalize hsh (xs.take k) = s at *
      have i0 : (0 : Int) ≤ (k : Int) := by omega
      have i1 : (k : Int) < (xs.length : Int) := by omega
      go_wp2_with fail
      refine (modS x 2147483647 _ (by omega) (by omega) m1 m2).mono ?_
      rintro e w1 ⟨rfl, rfl⟩
      have u1 : 0 ≤ x % 2147483647 := Int.emod_nonneg _ (by omega)
      have u2 : x % 2147483647 < 2147483647 := Int.emod_lt_of_pos _ (by omega)
      generalize x % 2147483647 = y at *
      go_wp2
      go_roundg (xs.length - (k + 1))
      case measure => have := HK.out; omega
      case rel => exact ⟨k + 1, by omega, by go_num, by rw [HS.out], rfl⟩
    · obtain rfl : k = xs.length := by omega
      have i1 : ¬ (xs.length : Int) < (xs.length : Int) := by omega
      go_wp2
      go_ret
      exact ⟨rfl, rfl⟩
end Go.Proofs.Ytjaagabbbnokdaa

namespace Go.Proofs.Ytjaagabbbnokdaa
open Go.ChangeShapes Go.WideShapes Go.ChangeAt Go.RowKit
set_option linter.unusedVariables false
set_option maxRecDepth 100000

abbrev In64s (xs : List Int) : Prop := ∀ x ∈ xs, -9223372036854775808 ≤ x ∧ x ≤ 9223372036854775807
theorem RI.one {w : World} {g : Nat} {x : Int} (h : Blk w g 3 #[.int .i64 x]) : RI w (.slice (some ⟨g, 0, none⟩) 1 1) [x] :=
  ⟨some ⟨g, 0, none⟩, 1, rfl, Nat.le_refl _, by omega, fun _ => ⟨g, 0, rfl, h.lt, fun j y hj => by
    have hj0 : j = 0 := by
      have := (List.getElem?_eq_some_iff.1 hj).1
      simp at this
      exact this
    subst hj0
    simp at hj
    subst hj
    exact h.facts.1 0⟩⟩
/-- A block that holds just these numbers. -/
theorem OI.lit {w : World} {base g : Nat} {xs : List Int} (h : Blk w g 3 ((xs.map (Value.int .i64)).toArray)) (hb : base ≤ g) (hn : xs.length ≤ 1099511627776) : OI w base (.slice (some ⟨g, 0, none⟩) xs.length xs.length) xs :=
  ⟨by simp, .inr ⟨g, xs.length, _, rfl, hb, h, Nat.le_refl _, by unfold maxLen; omega, by simp, by rw [Nat.mul_one]; exact List.take_of_length_le (by simp)⟩⟩
theorem RII.of {w : World} {g n : Nat} {cs : Array Value} {T : TypeId} {xss : List (List Int)} (h : Blk w g T cs) (hn : n = xss.length) (hc : n ≤ 9223372036854775807) (hr : ∀ (j : Nat) (xs : List Int), xss[j]? = some xs → ∃ u, cs[j]? = some u ∧ RI w u xs) : RII w (.slice (some ⟨g, 0, none⟩) n n) xss := by
  subst hn
  refine ⟨some ⟨g, 0, none⟩, xss.length, rfl, Nat.le_refl _, hc, fun _ => ⟨g, 0, rfl, h.lt, fun j xs hj => ?_⟩⟩
  obtain ⟨u, hu, hr⟩ := hr j xs hj
  exact ⟨u, by rw [Nat.zero_add, h.facts.1]; exact hu, hr⟩

def khZ (key : Int) (xs : List Int) : Int := hsh ([key] ++ xs ++ [key])
set_option maxHeartbeats 1000000 in
theorem khS (key : Int) (v : Value) (xs : List Int) (w : World) (hv : RI w v xs) (hn : xs.length ≤ 2097152) (hk : -9223372036854775808 ≤ key ∧ key ≤ 9223372036854775807) (hb : In64s xs) :
    Calls Try.prog 173 #[.int .i64 key, v] w fun e w' => e = .returned (.int .i64 (khZ key xs)) ∧ Bel w w' := by
  have HB := Lib.hid hb
  clear hb
  have O0 : OI (w.alloc (.cells #[.int .i64 key] 3)) w.heap.size (.slice (some ⟨w.heap.size, 0, none⟩) 1 1) [key] := OI.lit (xs := [key]) (Blk.new w _ _) (Nat.le_refl _) (by simp)
  have Y0 : Bel w (w.alloc (.cells #[.int .i64 key] 3)) := (Bel.refl _).alloc _
  have HV := Lib.hid (hv.keep Y0)
  go_enter Try.func173, Try.ntmps173
  go_wp2_with (first
    | (at_builtin
       refine wpList_appI _ rfl (.tmp 6) (.tmp 7) rfl w.heap.size _ _ _ _ rfl rfl O0 HV.out (by simp; omega) (by simp) ?_
       intro v1 w1 O1 hG1
       have Y1 : Bel w w1 := Y0.grown hG1 (fun q hq => (O0.block q hq).1)
       have s1 := Y1.size
       clear hG1 O0 Y0 HV
       have R2 : RI (w1.alloc (.cells #[.int .i64 key] 3)) (.slice (some ⟨w1.heap.size, 0, none⟩) 1 1) [key] := RI.one (Blk.new w1 _ _)
       have O2 := O1.keep ((Bel.refl _).alloc (.cells #[.int .i64 key] 3))
       have Y2 := Y1.alloc (.cells #[.int .i64 key] 3))
    | (at_builtin
       refine wpList_appI _ rfl (.tmp 8) (.tmp 10) rfl w.heap.size _ _ _ _ rfl rfl O2 R2 (by simp; omega) (by simp; omega) ?_
       intro v3 w3 O3 hG3
       have Y3 : Bel w w3 := Y2.grown hG3 (fun q hq => (O2.block q hq).1)
       clear hG3 O2 R2)
    | fail)
  refine (hash1S v3 _ _ O3.reads ?_).mono ?_
  · intro x hx
    have hb := HB.out
    simp at hx
    rcases hx with rfl | hx | rfl
    · exact hk
    · exact hb x hx
    · exact hk
  · rintro e w4 ⟨rfl, rfl⟩
    go_wp2
    go_ret
    exact ⟨rfl, Y3⟩
end Go.Proofs.Ytjaagabbbnokdaa

namespace Go.Proofs.Ytjaagabbbnokdaa
open Go.ChangeShapes Go.WideShapes Go.ChangeAt Go.RowKit Go.Joins Go.Deep
set_option linter.unusedVariables false
set_option maxRecDepth 100000

theorem mask (n : Int) (k : Nat) (m : Int) (h1 : (BitVec.ofInt 64 m).toNat = 2 ^ k - 1) (hk : k ≤ 62) : 0 ≤ bits .and .i64 n m ∧ bits .and .i64 n m ≤ 2 ^ k - 1 := by
  have key : (BitVec.ofInt 64 n &&& BitVec.ofInt 64 m).toNat = (n % ((2 ^ 64 : Nat) : Int)).toNat % 2 ^ k := by
    rw [BitVec.toNat_and, BitVec.toNat_ofInt, h1, Nat.and_two_pow_sub_one_eq_mod]
  show 0 ≤ IntKind.i64.wrap ((BitVec.ofInt 64 n &&& BitVec.ofInt 64 m).toNat : Nat) ∧ IntKind.i64.wrap ((BitVec.ofInt 64 n &&& BitVec.ofInt 64 m).toNat : Nat) ≤ 2 ^ k - 1
  rw [key, IntKind.wrap_i64]
  have h2 : (n % ((2 ^ 64 : Nat) : Int)).toNat % 2 ^ k < 2 ^ k := Nat.mod_lt _ (Nat.two_pow_pos k)
  have h3 : 2 ^ k ≤ 2 ^ 62 := Nat.pow_le_pow_right (by decide) hk
  have h4 : (2 : Int) ^ k = ((2 ^ k : Nat) : Int) := by simp
  rw [h4]
  generalize (n % ((2 ^ 64 : Nat) : Int)).toNat % 2 ^ k = a at *
  generalize 2 ^ k = b at *
  omega
theorem and255 (n : Int) : 0 ≤ bits .and .i64 n 255 ∧ bits .and .i64 n 255 ≤ 255 := mask n 8 255 (by decide) (by decide)
theorem and30 (n : Int) : 0 ≤ bits .and .i64 n 1073741823 ∧ bits .and .i64 n 1073741823 ≤ 1073741823 := mask n 30 1073741823 (by decide) (by decide)

/-- A slice of bytes that can be read. -/
def RB (w : World) (v : Value) (n : Nat) : Prop :=
  ∃ A c, v = .slice A n c ∧ n ≤ c ∧ c ≤ 9223372036854775807 ∧ (0 < n → ∃ b off, A = some ⟨b, off, none⟩ ∧ b < w.heap.size ∧ ∀ j, j < n → ∃ x : Int, w.cell? ⟨b, off + j, none⟩ = some (.int .u8 x) ∧ 0 ≤ x ∧ x ≤ 255)
theorem RB.keep {w w' : World} {v : Value} {n : Nat} (h : RB w v n) (k : Bel w w') : RB w' v n := by
  obtain ⟨A, c, hv, h1, h2, h3⟩ := h
  refine ⟨A, c, hv, h1, h2, fun h0 => ?_⟩
  obtain ⟨b, off, hA, hb, hc⟩ := h3 h0
  refine ⟨b, off, hA, Nat.lt_of_lt_of_le hb k.size, fun j hj => ?_⟩
  obtain ⟨x, hx, hx2⟩ := hc j hj
  exact ⟨x, k.cell1 hb hx, hx2⟩
theorem bounds_u8 {n : Int} (h : (Lit.int .u8 n).wf = true) : 0 ≤ n ∧ n ≤ 255 := by
  simp [Lit.wf, IntKind.min, IntKind.max, IntKind.signed, IntKind.bits] at h
  omega
def IsBytes (W : World) (v : Value) (n : Nat) : Prop := RB W v n
section
variable {H : Type} {enc : TypeId × Value → H} {w : World} {base : Nat} {spare : Nat → Bool} {held : Bool} {r : Reach} {b0 : Nat} {v : Value} {d : DataW H} {p : List MemPlace}
theorem readBytes {fuel : Nat} {cs : List Value} {y : DataW H × List MemPlace} (h : DataW.trod enc Try.prog w base spare held fuel 57 cs = some y) : ∃ v n, cs = [v] ∧ IsBytes w v n := by
  rcases Go.ChangeShapes.open_ints Try.underlying57 Try.underlying5 (by kernel_rfl) h with ⟨hcs, _⟩ | ⟨a, l, c, zs, hcs, _, hl, hm, hz, _, hcell, hwz⟩
  · exact ⟨_, 0, hcs, none, 0, rfl, Nat.le_refl _, by omega, fun h0 => absurd h0 (by omega)⟩
  · have hlz : l ≤ zs.length := by rw [hz]; split <;> omega
    refine ⟨_, l, hcs, ⟨some a, c, rfl, hl, by unfold maxLen at hm; omega, fun h0 => ?_⟩⟩
    obtain ⟨b, off, rfl, hc⟩ := ints_at hcell (by omega)
    refine ⟨b, off, rfl, World.block_lt_of_cell? w _ (hc 0 (by omega)), fun j hj => ⟨zs.getD j 0, hc j (by omega), ?_⟩⟩
    have hmem : zs.getD j 0 ∈ zs := by
      have : zs[j]? = some (zs[j]'(by omega)) := List.getElem?_eq_getElem (by omega)
      simp [List.getD, this]
    exact bounds_u8 (hwz _ hmem)
theorem openBytes (hv : Value.okWide Try.prog w r b0 57 v) (h : DataW.Trod enc Try.prog w base spare held 57 v d p) : ∃ n, IsBytes w v n := by
  obtain ⟨a, l, c, rfl⟩ := okWide_slice Try.underlying57 hv
  obtain ⟨fuel, hf⟩ := h
  obtain ⟨u, xs, hu, hx⟩ := readBytes hf
  simp [Value.cells] at hu
  subst hu
  exact ⟨xs, hx⟩
end
/-- A cursor lies in block cb. -/
def Cur (w : World) (cb : Nat) : Prop :=
  ∃ (A : Option Addr) (n c i : Nat) (h : Int), Blk w cb 134 #[.slice A n c, .int .i64 (i : Int), .int .i64 h] ∧ i ≤ n ∧ n ≤ 1048576 ∧ n ≤ c ∧
    (0 < n → ∃ b off, A = some ⟨b, off, none⟩ ∧ b < cb ∧ ∀ j, j < n → ∃ x : Int, w.cell? ⟨b, off + j, none⟩ = some (.int .u8 x) ∧ 0 ≤ x ∧ x ≤ 255)
theorem Cur.lt {w : World} {cb : Nat} (h : Cur w cb) : cb < w.heap.size := by
  obtain ⟨_, _, _, _, _, X, _⟩ := h
  exact X.lt
theorem Mid.cell {lo hi : Nat} {w w' : World} (m : Mid lo hi w w') {b o : Nat} {x : Value} (hb : b < w.heap.size) (hg : b < lo ∨ hi ≤ b) (hc : w.cell? ⟨b, o, none⟩ = some x) : w'.cell? ⟨b, o, none⟩ = some x := by
  have h := m.block b hb hg
  unfold World.cell? at *
  dsimp only at *
  rw [h]
  exact hc
theorem Cur.of {w w' : World} {cb n c i : Nat} {A : Option Addr} {h : Int} (X : Blk w' cb 134 #[.slice A n c, .int .i64 (i : Int), .int .i64 h]) (h1 : i ≤ n) (h2 : n ≤ 1048576) (h3 : n ≤ c) (m : Mid cb (cb + 1) w w') (hl : cb < w.heap.size)
    (h4 : 0 < n → ∃ b off, A = some ⟨b, off, none⟩ ∧ b < cb ∧ ∀ j, j < n → ∃ x : Int, w.cell? ⟨b, off + j, none⟩ = some (.int .u8 x) ∧ 0 ≤ x ∧ x ≤ 255) : Cur w' cb := by
  refine ⟨A, n, c, i, h, X, h1, h2, h3, fun h0 => ?_⟩
  obtain ⟨b, off, hA, hb, hc⟩ := h4 h0
  refine ⟨b, off, hA, hb, fun j hj => ?_⟩
  obtain ⟨y, hy, hy2⟩ := hc j hj
  exact ⟨y, m.cell (by omega) (.inl (by omega)) hy, hy2⟩
/-- Only other blocks from lo on turned. -/
theorem Cur.mid {lo hi cb : Nat} {w w' : World} (h : Cur w cb) (m : Mid lo hi w w') (hl : cb < lo) : Cur w' cb := by
  have hlt := h.lt
  obtain ⟨A, n, c, i, x, X, h1, h2, h3, h4⟩ := h
  refine ⟨A, n, c, i, x, X.mid m (.inl hl), h1, h2, h3, fun h0 => ?_⟩
  obtain ⟨b, off, hA, hb, hc⟩ := h4 h0
  refine ⟨b, off, hA, hb, fun j hj => ?_⟩
  obtain ⟨y, hy, hy2⟩ := hc j hj
  exact ⟨y, m.cell (by omega) (.inl (by omega)) hy, hy2⟩
theorem Cur.keep {cb : Nat} {w w' : World} (h : Cur w cb) (k : Bel w w') : Cur w' cb := h.mid (Mid.ofBel (lo := cb + 1) (hi := cb + 1) k) (by omega)
theorem Mid.set {lo hi : Nat} (w : World) {p : Addr} (u : Value) (h : lo ≤ p.block) (h2 : p.block < hi) : Mid lo hi w (w.setCell p u) := by
  refine ⟨rfl, rfl, rfl, by simp [World.setCell], fun k hk ho => Below.heap_setCell w p u k (by omega)⟩
/-- Drawn: the cursor stays one, only its block has turned. -/
def Trn (cb : Nat) (w w' : World) : Prop := Cur w' cb ∧ Mid cb (cb + 1) w w'
theorem Trn.trans {cb : Nat} {a b c : World} (h : Trn cb a b) (k : Trn cb b c) : Trn cb a c := ⟨k.1, h.2.trans k.2⟩
theorem Trn.then {cb : Nat} {a b c : World} (h : Trn cb a b) (k : Bel b c) : Trn cb a c := ⟨h.1.keep k, h.2.trans (Mid.ofBel k)⟩
theorem Trn.of {cb : Nat} {a b : World} (h : Cur a cb) (k : Bel a b) : Trn cb a b := ⟨h.keep k, Mid.ofBel k⟩
theorem Bel.trn {a w w' : World} {cb : Nat} (h : Bel a w) (t : Trn cb w w') (hl : a.heap.size ≤ cb) : Bel a w' := h.mid t.2 hl
theorem OI.trn {w w' : World} {base cb : Nat} {v : Value} {xs : List Int} (h : OI w base v xs) (t : Trn cb w w') (hl : cb < base) : OI w' base v xs :=
  h.mid t.2 (fun q hq => .inr (by have := (h.block q hq).1; omega))
theorem Blk.trn {w w' : World} {g cb : Nat} {T : TypeId} {cs : Array Value} (h : Blk w g T cs) (t : Trn cb w w') (hl : cb < g) : Blk w' g T cs := h.mid t.2 (.inr (by omega))
/-- Blocks from base on turn, where base lies behind the first world and the cursor. -/
theorem Trn.row {cb base : Nat} {a w w' : World} {row : Option Nat} (t : Trn cb a w) (hG : w.grownBy w' row) (hr : ∀ q, row = some q → base ≤ q) (hb : a.heap.size ≤ base) (hl : cb < base) : Trn cb a w' := by
  have m : Mid base (w'.heap.size + base + 1) w w' := ⟨hG.os, hG.tape, hG.output, hG.size, fun i hi ho => hG.block i hi (fun e => by have := hr i e.symm; have := hG.size; omega)⟩
  exact ⟨t.1.mid m hl, ⟨hG.os.trans t.2.os, hG.tape.trans t.2.tape, hG.output.trans t.2.output, Nat.le_trans t.2.size hG.size, fun k hk ho => (hG.block k (Nat.lt_of_lt_of_le hk t.2.size) (fun e => by have := hr k e.symm; omega)).trans (t.2.block k hk ho)⟩⟩
/-- An append to a slice of its own behind the cursor. -/
theorem Trn.grown {cb base : Nat} {a w w' : World} {o : Obj} {v : Value} {xs : List Int} (t : Trn cb a w) (O : OI w base v xs) (hG : (w.alloc o).grownBy w' v.ownBlock) (hb : a.heap.size ≤ base) (hl : cb < base) : Trn cb a w' :=
  (t.then ((Bel.refl w).alloc o)).row hG (fun q hq => (O.block q hq).1) hb hl
/-- A store into a block behind the first world and the cursor. -/
theorem Trn.set {cb : Nat} {a w : World} {p : Addr} (t : Trn cb a w) (u : Value) (hb : a.heap.size ≤ p.block) (hl : cb < p.block) : Trn cb a (w.setCell p u) := by
  have m : Mid p.block (p.block + 1) w (w.setCell p u) := Mid.set w u (Nat.le_refl _) (by omega)
  exact ⟨t.1.mid m hl, ⟨m.os.trans t.2.os, m.tape.trans t.2.tape, m.output.trans t.2.output, Nat.le_trans t.2.size m.size, fun k hk ho => (m.block k (Nat.lt_of_lt_of_le hk t.2.size) (.inl (by omega))).trans (t.2.block k hk ho)⟩⟩
theorem Cur.setH {cb : Nat} {w : World} (h : Cur w cb) (x : Int) : Cur (w.setCell ⟨cb, 2, none⟩ (.int .i64 x)) cb := by
  have hlt := h.lt
  obtain ⟨A, n, c, i, y, X, h1, h2, h3, h4⟩ := h
  refine ⟨A, n, c, i, x, X.set 2 _, h1, h2, h3, fun h0 => ?_⟩
  obtain ⟨b, off, hA, hb, hc⟩ := h4 h0
  refine ⟨b, off, hA, hb, fun j hj => ?_⟩
  obtain ⟨z, hz, hz2⟩ := hc j hj
  exact ⟨z, (Mid.set (lo := cb) (hi := cb + 1) w (p := ⟨cb, 2, none⟩) _ (Nat.le_refl _) (by simp)).cell (by omega) (.inl hb) hz, hz2⟩
end Go.Proofs.Ytjaagabbbnokdaa

namespace Go.Proofs.Ytjaagabbbnokdaa
open Go.ChangeShapes Go.WideShapes Go.ChangeAt Go.RowKit Go.Joins Go.Deep
set_option linter.unusedVariables false
set_option maxRecDepth 100000

set_option maxHeartbeats 1000000 in
theorem l1ByteS (cb : Nat) (w : World) (hc : Cur w cb) :
    Calls Try.prog 125 #[.pointer (some ⟨cb, 0, none⟩)] w fun e w' => ∃ x : Int, e = .returned (.int .i64 x) ∧ (0 ≤ x ∧ x ≤ 255) ∧ Trn cb w w' := by
  obtain ⟨A, n, c, i, h, X, hi, hn, hnc, hA⟩ := id hc
  obtain ⟨cx, fx, zx⟩ := X.facts
  go_enter Try.func125, Try.ntmps125
  go_wp2
  obtain ⟨g, hg⟩ : ∃ g, g = wrap64 (wrap64 (h * 6364136223846793005) + 1442695040888963407) := ⟨_, rfl⟩
  rw [← hg]
  have X2 : Blk (w.setCell ⟨cb, 2, none⟩ (.int .i64 g)) cb 134 #[.slice A n c, .int .i64 (i : Int), .int .i64 g] := X.set 2 (.int .i64 g)
  have M2 : Mid cb (cb + 1) w (w.setCell ⟨cb, 2, none⟩ (.int .i64 g)) := Mid.set w _ (Nat.le_refl _) (by simp)
  have C2 := hc.setH g
  generalize w.setCell ⟨cb, 2, none⟩ (.int .i64 g) = w2 at *
  clear hg cx fx
  obtain ⟨cx, fx, zx2⟩ := X2.facts
  have r0 : w2.cell? ⟨cb, 0, none⟩ = some (.slice A n c) := cx 0
  have r1 : w2.cell? ⟨cb, 1, none⟩ = some (.int .i64 (i : Int)) := cx 1
  have r2 : w2.cell? ⟨cb, 2, none⟩ = some (.int .i64 g) := cx 2
  clear cx
  by_cases hlt : i < n
  · have HA := Lib.hid hA
    obtain ⟨b, off, rfl, hb, hcl⟩ := hA (by omega)
    obtain ⟨y, hy, hy2⟩ := hcl i hlt
    have g1 := M2.cell (Nat.lt_trans hb zx) (.inl hb) hy
    have i0 : (0 : Int) ≤ (i : Int) := by omega
    have i1 : (i : Int) < (n : Int) := by omega
    have g2 : w2.cell? ⟨b, off + i, none⟩ = some (.int .u8 y) := g1
    have KT : ∀ N : Nat, Trn cb w ((w2.drewN N).setCell ⟨cb, 1, none⟩ (.int .i64 ((i : Int) + 1))) := fun N => by
      have M3 : Mid cb (cb + 1) w ((w2.drewN N).setCell ⟨cb, 1, none⟩ (.int .i64 ((i : Int) + 1))) := M2.trans ((Mid.ofBel ((Bel.refl _).drewN N)).trans (Mid.set _ _ (Nat.le_refl _) (by simp)))
      exact ⟨Cur.of (i := i + 1) ((X2.drewN N).set 1 (.int .i64 ((i : Int) + 1))) (by omega) hn hnc M3 zx HA.out, M3⟩
    clear hcl hA hy g1
    go_quiet (fail)
    go_wp2
    go_quiet (fail)
    go_wp2
    go_quiet (fail)
    go_wp2
    go_ret
    exact ⟨_, rfl, and255 _, (KT _).1, (KT _).2⟩
  · have i1 : ¬ (i : Int) < (n : Int) := by omega
    go_quiet (fail)
    go_wp2
    go_quiet (fail)
    go_wp2
    go_ret
    exact ⟨_, rfl, and255 _, C2.keep (((Bel.refl _).drewN _).drewN _), M2.trans (Mid.ofBel (((Bel.refl _).drewN _).drewN _))⟩
theorem trnQ {P : Program} {f : FuncId} {args : Array Value} {cb : Nat} {w0 w : World} {R : Int → Prop} (h : Calls P f args w fun e w' => ∃ x : Int, e = .returned (.int .i64 x) ∧ R x ∧ Trn cb w w') (t : Trn cb w0 w) :
    Calls P f args w fun e w' => ∃ x : Int, e = .returned (.int .i64 x) ∧ R x ∧ Trn cb w0 w' :=
  h.mono fun _ _ ⟨x, he, hr, k⟩ => ⟨x, he, hr, t.trans k⟩
theorem tmod_bd {a n : Int} (h0 : 0 ≤ a) (hn : 0 < n) : 0 ≤ a % n ∧ a % n < n := ⟨Int.emod_nonneg _ (by omega), Int.emod_lt_of_pos _ hn⟩
set_option maxHeartbeats 1000000 in
/-- A number below n. -/
theorem l1BelowS (cb : Nat) (n : Int) (w : World) (hc : Cur w cb) (hn : 0 < n) (hn2 : n ≤ 1048576) :
    Calls Try.prog 79 #[.pointer (some ⟨cb, 0, none⟩), .int .i64 n] w fun e w' => ∃ x : Int, e = .returned (.int .i64 x) ∧ (0 ≤ x ∧ x < n) ∧ Trn cb w w' := by
  have n0 : ¬ n ≤ 0 := by omega
  go_enter Try.func79, Try.ntmps79
  by_cases h : n ≤ 256
  · go_wp2_with fail
    refine (l1ByteS cb _ hc).mono ?_
    rintro e w1 ⟨x, rfl, ⟨x0, x1⟩, t1⟩
    have hb := tmod_bd x0 hn
    go_wp2
    go_ret
    exact ⟨_, rfl, hb, t1⟩
  · go_wp2_with fail
    refine (l1ByteS cb _ hc).mono ?_
    rintro e w1 ⟨x, rfl, ⟨x0, x1⟩, t1⟩
    go_wp2_with fail
    refine (l1ByteS cb _ t1.1).mono ?_
    rintro e w2 ⟨y, rfl, ⟨y0, y1⟩, t2⟩
    go_wp2_with fail
    refine (l1ByteS cb _ t2.1).mono ?_
    rintro e w3 ⟨z, rfl, ⟨z0, z1⟩, t3⟩
    have hb := tmod_bd (a := x * 65536 + y * 256 + z) (by omega) hn
    go_wp2
    go_ret
    exact ⟨_, rfl, hb, (t1.trans t2).trans t3⟩
/-- A number below n, 0 where n is not above 0. -/
theorem l1Below0 (cb : Nat) (n : Int) (w : World) (hc : Cur w cb) (hn : n ≤ 0) :
    Calls Try.prog 79 #[.pointer (some ⟨cb, 0, none⟩), .int .i64 n] w fun e w' => ∃ x : Int, e = .returned (.int .i64 x) ∧ x = 0 ∧ Trn cb w w' := by
  go_enter Try.func79, Try.ntmps79
  go_wp2
  go_ret
  exact ⟨0, rfl, rfl, hc, Mid.refl _ _ _⟩
theorem l1OnceS (cb : Nat) (n : Int) (w : World) (hc : Cur w cb) (hn : 0 < n) (hn2 : n ≤ 1048576) :
    Calls Try.prog 81 #[.pointer (some ⟨cb, 0, none⟩), .int .i64 n] w fun e w' => ∃ x : Bool, e = .returned (.bool x) ∧ Trn cb w w' := by
  go_enter Try.func81, Try.ntmps81
  go_wp2_with fail
  refine (l1BelowS cb n _ hc hn hn2).mono ?_
  rintro e w1 ⟨x, rfl, hx, t1⟩
  go_wp2
  go_ret
  exact ⟨_, rfl, t1⟩
theorem l4ElementS (cb : Nat) (w : World) (hc : Cur w cb) :
    Calls Try.prog 127 #[.pointer (some ⟨cb, 0, none⟩)] w fun e w' => ∃ x : Int, e = .returned (.int .i64 x) ∧ (0 ≤ x ∧ x < 1019) ∧ Trn cb w w' := by
  go_enter Try.func127, Try.ntmps127
  go_wp2_with fail
  refine (l1BelowS cb 1019 _ hc (by omega) (by omega)).mono ?_
  rintro e w1 ⟨x, rfl, hx, t1⟩
  go_wp2
  go_ret
  exact ⟨_, rfl, hx, t1⟩
set_option maxHeartbeats 1000000 in
theorem l1IntS (cb : Nat) (v : Value) (xs : List Int) (w : World) (hc : Cur w cb) (hv : RI w v xs) (h0 : 0 < xs.length) (h1 : xs.length ≤ 1000) (hb : ∀ w', Trn cb w w' → RI w' v xs) :
    Calls Try.prog 126 #[.pointer (some ⟨cb, 0, none⟩), v] w fun e w' => ∃ x : Int, e = .returned (.int .i64 x) ∧ x ∈ xs ∧ Trn cb w w' := by
  obtain ⟨A, c, rfl, h2, h3, hA⟩ := id hv
  go_enter Try.func126, Try.ntmps126
  go_wp2_with fail
  refine (l1BelowS cb (xs.length : Int) _ hc (by omega) (by omega)).mono ?_
  rintro e w1 ⟨x, rfl, ⟨x0, x1⟩, t1⟩
  obtain ⟨k, rfl⟩ := Int.eq_ofNat_of_zero_le x0
  obtain ⟨A2, c2, e2, _, _, hA2⟩ := hb w1 t1
  injection e2 with e21 e22 e23
  subst e21
  subst e23
  obtain ⟨b, off, rfl, z1, hcl⟩ := hA2 h0
  have hk : k < xs.length := by omega
  have g1 := hcl k _ (List.getElem?_eq_getElem hk)
  have hm := List.getElem_mem hk
  generalize xs[k]'hk = y at *
  clear hcl hA hA2
  go_wp2
  go_ret
  exact ⟨_, rfl, hm, t1⟩
end Go.Proofs.Ytjaagabbbnokdaa

namespace Go.Proofs.Ytjaagabbbnokdaa
open Go.ChangeShapes Go.WideShapes Go.ChangeAt Go.RowKit Go.Joins Go.Deep
set_option linter.unusedVariables false
set_option maxRecDepth 100000

theorem bigL (v : Value) (n : Nat) (w : World) (hv : RB w v n) :
    Calls Try.prog 31 #[v] w fun e w' => e = .returned (.bool (decide ((1048576 : Int) < (n : Int)))) ∧ w = w' := by
  obtain ⟨A, c, rfl, h2, h3, hA⟩ := hv
  go_enter Try.func31, Try.ntmps31
  go_wp2
  go_ret
  exact ⟨rfl, rfl⟩
set_option maxHeartbeats 400000 in
theorem atL (v : Value) (n i : Nat) (w : World) (hv : RB w v n) (hn : n ≤ 1048576) (hi : i ≤ 1048576) :
    Calls Try.prog 37 #[v, .int .i64 (i : Int)] w fun e w' => ∃ x : Int, e = .returned (.int .i64 x) ∧ (0 ≤ x ∧ x ≤ 255) ∧ w = w' := by
  obtain ⟨A, c, rfl, h2, h3, hA⟩ := hv
  go_enter Try.func37, Try.ntmps37
  by_cases hlt : i < n
  · obtain ⟨b, off, rfl, hb, hcl⟩ := hA (by omega)
    obtain ⟨y, hy, hy2⟩ := hcl i hlt
    have i0 : (0 : Int) ≤ (i : Int) := by omega
    have i1 : (i : Int) < (n : Int) := by omega
    clear hcl hA
    go_wp2
    go_ret
    exact ⟨_, rfl, hy2, rfl⟩
  · have i1 : ¬ (i : Int) < (n : Int) := by omega
    have hb := tmod_bd (a := (i : Int) * 31 + (n : Int) * 7) (n := 256) (by omega) (by omega)
    go_wp2
    go_ret
    exact ⟨_, rfl, by omega, rfl⟩
set_option maxHeartbeats 1000000 in
/-- A new cursor. -/
theorem l1NewS (v : Value) (n : Nat) (w : World) (hv : RB w v n) (hn : n ≤ 1048576) :
    Calls Try.prog 77 #[v] w fun e w' => ∃ cb, e = .returned (.pointer (some ⟨cb, 0, none⟩)) ∧ w.heap.size ≤ cb ∧ Cur w' cb ∧ Bel w w' := by
  have hv0 := Lib.hid hv
  obtain ⟨A, c, rfl, h2, h3, hA⟩ := hv
  go_enter Try.func77, Try.ntmps77
  go_wp2
  go_loopg [3, 4] n (fun f h i wr => ∃ (k : Nat) (x : Int), k + f = n ∧ i = .int .i64 k ∧ h = .int .i64 x ∧ wr = w)
  case atStart => exact ⟨0, _, by omega, rfl, rfl, rfl⟩
  case round =>
    obtain ⟨k, x, hk, rfl, rfl, rfl⟩ := hrel
    have hk2 : k ≤ n := by omega
    have HK := Lib.hid hk
    clear hk
    have hfin : Hid (∀ (A' : Option Addr) (y : Int), (.slice A' n c : Value) = .slice A n c → Cur (wr.alloc (.cells #[.slice A' n c, .int .i64 0, .int .i64 y] 134)) wr.heap.size) := Lib.hid (fun A' y e => by
      injection e with e1 _ _
      subst e1
      refine ⟨A', n, c, 0, y, Blk.new wr _ _, by omega, hn, h2, fun h0 => ?_⟩
      obtain ⟨b, off, hA', hb, hcl⟩ := hA h0
      refine ⟨b, off, hA', hb, fun j hj => ?_⟩
      obtain ⟨z, hz, hz2⟩ := hcl j hj
      exact ⟨z, ((Bel.refl wr).alloc _).cell1 hb hz, hz2⟩)
    by_cases hlt : k < n
    · have i0 : (0 : Int) ≤ (k : Int) := by omega
      have i1 : (k : Int) < (n : Int) := by omega
      by_cases h4 : k < 4000
      · have i2 : (k : Int) < 4000 := by omega
        obtain ⟨b, off, rfl, hb, hcl⟩ := hA (by omega)
        obtain ⟨y, hy, hy2⟩ := hcl k hlt
        clear hcl hA hfin
        go_wp2
        go_roundg (n - (k + 1))
        case measure => have := HK.out; omega
        case rel => exact ⟨k + 1, _, by omega, by go_num, rfl, rfl⟩
      · have i2 : ¬ (k : Int) < 4000 := by omega
        clear hA
        go_wp2
        go_ret
        exact ⟨_, rfl, Nat.le_refl _, hfin.out _ _ rfl, (Bel.refl _).alloc _⟩
    · obtain rfl : k = n := by omega
      have i1 : ¬ (k : Int) < (k : Int) := by omega
      clear hA
      go_wp2
      go_ret
      exact ⟨_, rfl, Nat.le_refl _, hfin.out _ _ rfl, (Bel.refl _).alloc _⟩
/-- A block that holds just these numbers. -/
theorem OI.lits {w : World} {base g : Nat} {xs : List Int} (h : Blk w g 3 ((xs.map (Value.int .i64)).toArray)) (hb : base ≤ g) (hn : xs.length ≤ 1099511627776) : OI w base (.slice (some ⟨g, 0, none⟩) xs.length xs.length) xs :=
  ⟨by simp, .inr ⟨g, xs.length, _, rfl, hb, h, Nat.le_refl _, by unfold maxLen; omega, by simp, by rw [Nat.mul_one]; exact List.take_of_length_le (by simp)⟩⟩
theorem l1LitS (cb : Nat) (xs : List Int) (w : World) (hc : Cur w cb) (h0 : 0 < xs.length) (h1 : xs.length ≤ 1000) :
    Calls Try.prog 126 #[.pointer (some ⟨cb, 0, none⟩), .slice (some ⟨w.heap.size, 0, none⟩) xs.length xs.length] (w.alloc (.cells ((xs.map (Value.int .i64)).toArray) 3)) fun e w' => ∃ x : Int, e = .returned (.int .i64 x) ∧ x ∈ xs ∧ Trn cb w w' := by
  have O := OI.lits (Blk.new w 3 ((xs.map (Value.int .i64)).toArray)) (Nat.le_refl _) (by omega)
  have hl := hc.lt
  refine (l1IntS cb _ xs _ (hc.keep ((Bel.refl _).alloc _)) O.reads h0 h1 (fun w' t => (O.trn t hl).reads)).mono ?_
  rintro e w' ⟨x, he, hx, t⟩
  exact ⟨x, he, hx, (Trn.of hc ((Bel.refl _).alloc _)).trans t⟩
def In1018 (xs : List Int) : Prop := ∀ x ∈ xs, 0 ≤ x ∧ x < 1019
theorem In1018.snoc {xs : List Int} {x : Int} (h : In1018 xs) (hx : 0 ≤ x ∧ x < 1019) : In1018 (xs ++ [x]) := fun y hy => by
  rcases List.mem_append.1 hy with h1 | h1
  · exact h y h1
  · rw [List.mem_singleton.1 h1]; exact hx
set_option maxHeartbeats 2000000 in
theorem l5VectorS (cb n : Nat) (w : World) (hc : Cur w cb) (hn : n ≤ 1000) :
    Calls Try.prog 84 #[.pointer (some ⟨cb, 0, none⟩), .int .i64 (n : Int)] w fun e w' => ∃ r xs, e = .returned r ∧ OI w' w.heap.size r xs ∧ (xs.length = n ∧ In1018 xs) ∧ Trn cb w w' := by
  have hlt0 := hc.lt
  have O0 := OI.empty w
  have T0 : Trn cb w (w.alloc (.cells #[] 3)) := Trn.of hc ((Bel.refl _).alloc _)
  go_enter Try.func84, Try.ntmps84
  go_wp2
  go_loopg [5, 6] n (fun f o i wr => ∃ (k : Nat) (xs : List Int), k + f = n ∧ i = .int .i64 k ∧ OI wr w.heap.size o xs ∧ (xs.length = k ∧ In1018 xs) ∧ Trn cb w wr)
  case atStart => exact ⟨0, [], by omega, rfl, O0, ⟨rfl, fun x hx => by cases hx⟩, T0⟩
  case round =>
    clear O0 T0
    obtain ⟨k, xs, hk, rfl, O, ⟨hl, hb⟩, T⟩ := hrel
    have hk2 : k ≤ n := by omega
    have hxl : xs.length ≤ 1000 := by omega
    have HK := Lib.hid hk
    have HL := Lib.hid hl
    have HB := Lib.hid hb
    clear hk hl hb
    by_cases hlt : k < n
    · have i0 : (0 : Int) ≤ (k : Int) := by omega
      have i1 : (k : Int) < (n : Int) := by omega
      go_wp2_with fail
      refine (l1OnceS cb 3 _ T.1 (by omega) (by omega)).mono ?_
      rintro e w1 ⟨x, rfl, t1⟩
      have O1 := O.trn t1 hlt0
      have T1 := T.trans t1
      have HZ : Hid (w.heap.size ≤ w1.heap.size) := Lib.hid T1.2.size
      cases x
      · go_wp2_with fail
        refine (l4ElementS cb _ T1.1).mono ?_
        rintro e w2 ⟨y, rfl, hy, t2⟩
        have O2 := O1.trn t2 hlt0
        have T2 := T1.trans t2
        have HZ2 : Hid (w.heap.size ≤ w2.heap.size) := Lib.hid T2.2.size
        go_wp2_with (at_builtin; refine wpList_appI _ rfl _ _ rfl w.heap.size _ _ xs [y] rfl rfl (O2.keep ((Bel.refl _).alloc _)) (RI.lit1 _ _ _) (by simp only [List.length_cons, List.length_nil]; omega) (by have := HZ2.out; simp; omega) ?_)
        intro v3 w3 O3 hG
        have T3 : Trn cb w w3 := T2.grown O2 hG (Nat.le_refl _) hlt0
        go_wp2
        go_roundg (n - (k + 1))
        case measure => have := HK.out; omega
        case rel => exact ⟨k + 1, xs ++ [y], by omega, by go_num, O3, ⟨by rw [List.length_append, HL.out]; rfl, HB.out.snoc hy⟩, T3⟩
      · go_wp2_with (at_builtin; refine wpList_appI _ rfl _ _ rfl w.heap.size _ _ xs [0] rfl rfl (O1.keep ((Bel.refl _).alloc _)) (RI.lit1 _ _ _) (by simp only [List.length_cons, List.length_nil]; omega) (by have := HZ.out; simp; omega) ?_)
        intro v3 w3 O3 hG
        have T3 : Trn cb w w3 := T1.grown O1 hG (Nat.le_refl _) hlt0
        go_wp2
        go_roundg (n - (k + 1))
        case measure => have := HK.out; omega
        case rel => exact ⟨k + 1, xs ++ [0], by omega, by go_num, O3, ⟨by rw [List.length_append, HL.out]; rfl, HB.out.snoc (by omega)⟩, T3⟩
    · obtain rfl : k = n := by omega
      have i1 : ¬ (k : Int) < (k : Int) := by omega
      go_wp2
      go_ret
      exact ⟨_, rfl, xs, O, ⟨HL.out, HB.out⟩, T⟩
end Go.Proofs.Ytjaagabbbnokdaa
