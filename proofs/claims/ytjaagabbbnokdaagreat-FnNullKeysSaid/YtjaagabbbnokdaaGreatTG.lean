/-
  A region that draws its order, whose last operation waits for all others: the others are walked in every order (with a condition on the world kept behind each), the last one behind them.
  A store outside of the blocks that a fact speaks of.
-/
import Derived.Test.YtjaagabbbnokdaaGreatWords
import Derived.StillTail
import Derived.OrdersHeld
import Derived.Deep.RegionHeld3
import Derived.Test.YtjaagabbbnokdaaGreatOwn
namespace Go.Proofs.YtjaagabbbnokdaaGreat
set_option linter.unusedVariables false

section
variable {P : Program} {ops : Array Oper} {md : Region.Mode} {S : World → Prop} {Q : Exit → Act → World → Prop}

theorem wpOp_post {Q' : Exit → Act → World → Prop} (hp : ∀ c a w, Q' (.panic c) a w → Q (.panic c) a w) (ho : LetsOut Q' → LetsOut Q) {i : Nat} {K : Act → World → Prop} {a : Act} {w : World}
    (h : wpOp P ops Q' i K a w) : wpOp P ops Q i K a w := by
  unfold wpOp at *
  cases hoi : ops[i]? with
  | none => simpa only [hoi] using h
  | some o =>
    simp only [hoi] at h ⊢
    by_cases hw : Region.wanted o (yielded ops a.tmps) = true
    · rw [if_pos hw] at h ⊢
      refine h.imp (fun h => ?_) (fun h => ⟨h.1, ho h.2⟩)
      unfold Oper.wp at *
      generalize (execOp a.eval o).run P w = r at *
      cases r with
      | ok n w' =>
        cases n <;> simp only [Oper.upon] at h ⊢ <;> first
          | exact h
          | exact Calls.mono h (fun e w'' he => by cases e <;> first | exact he | exact hp _ _ _ he | exact ho he)
      | halt x w' => cases x <;> simp only [Oper.upon] at h ⊢ <;> first | exact h | exact hp _ _ _ h
    · rw [if_neg hw] at h ⊢
      exact h

/-- What follows the head: the rest of the region in the text's order. -/
def headPost (P : Program) (l : List Oper) (n : Nat) (Q : Exit → Act → World → Prop) : Exit → Act → World → Prop
  | .normal, a, w => wpList P l.toArray Q (l.drop n) a w
  | e, a, w => Q e a w

def downB (md : Region.Mode) (ops : Array Oper) : Bool :=
  (List.range ops.size).all fun j => match ops[j]? with
    | some o => o.after.all fun e => !Region.binds md e || decide (e.on < j)
    | none => true
theorem downB_spec (h : downB md ops = true) {j : Nat} {o : Oper} (ho : ops[j]? = some o) : ∀ e ∈ o.after, Region.binds md e = true → e.on < j := by
  intro e he hb
  have hlt : j < ops.size := (Array.getElem?_eq_some_iff.1 ho).1
  have h1 := List.all_eq_true.1 h j (List.mem_range.2 hlt)
  simp only [ho] at h1
  have h2 := Array.all_eq_true_iff_forall_mem.1 h1 e he
  rw [hb] at h2
  simpa using h2

/-- Where nothing may come up, all have come up. -/
theorem all_listed (hd : downB md ops = true) {listed : Array Bool} (hsz : listed.size = ops.size) (hr : Region.ready md ops listed = []) : ∀ j, j < ops.size → listed.getD j true = true := by
  intro j
  induction j using Nat.strongRecOn with
  | _ j ih =>
    intro hj
    cases hl : listed.getD j true with
    | true => rfl
    | false =>
      exfalso
      have ho : ops[j]? = some ops[j] := Array.getElem?_eq_getElem hj
      have : j ∈ Region.ready md ops listed := mem_ready.2 ⟨hl, _, ho, fun e he hb => by
        have hlt := downB_spec hd ho e he hb
        have h1 := ih e.on hlt (by omega)
        have h2 : e.on < listed.size := by omega
        simpa [Array.getD, h2] using h1⟩
      rw [hr] at this
      cases this

theorem cut_last {l : List Oper} {n : Nat} (hd : downB md l.toArray = true) (hs : Region.sinkB md l.toArray n = true) (hc : Region.chainB md l.toArray n = true) (hn : n + 1 = l.length) :
    ∀ (fuel : Nat) (listed : Array Bool) (a : Act) (w : World), HeadInv md l.toArray n listed →
      wpAny P md l.toArray (headPost P l n Q) fuel (listed.setIfInBounds n true) a w → wpAny P md l.toArray Q (fuel + 1) listed a w := by
  have hn' : n + 1 = l.toArray.size := by simpa using hn
  have hP : ∀ c a w, headPost P l n Q (.panic c) a w → Q (.panic c) a w := fun _ _ _ h => h
  have hO : LetsOut (headPost P l n Q) → LetsOut Q := fun ⟨a, w, h⟩ => ⟨a, w, h⟩
  -- the last operation, behind all others
  have last : ∀ (fuel : Nat) (listed : Array Bool) (a : Act) (w : World), HeadInv md l.toArray n listed → Region.ready md l.toArray (listed.setIfInBounds n true) = [] →
      headPost P l n Q .normal a w → wpOp P l.toArray Q n (wpAny P md l.toArray Q fuel (listed.setIfInBounds n true)) a w := by
    intro fuel listed a w inv hr h
    have hlt : n < l.length := by omega
    have e1 : l.drop n = [l[n]] := by
      rw [List.drop_eq_getElem_cons hlt, List.drop_of_length_le (by omega)]
    have h1 : wpList P l.toArray Q [l[n]] a w := by rw [← e1]; exact h
    have ho : l.toArray[n]? = some l[n] := by simp [hlt]
    unfold wpOp
    simp only [ho]
    simp only [wpList] at h1
    by_cases hw : Region.wanted l[n] (yielded l.toArray a.tmps) = true
    · rw [if_pos hw] at h1 ⊢
      refine h1.imp (Oper.wp_mono fun a w q => ?_) id
      cases fuel with
      | zero => exact ⟨hr, q⟩
      | succ fuel => exact ⟨fun _ => q, fun i hi => by rw [hr] at hi; cases hi⟩
    · rw [if_neg hw] at h1 ⊢
      cases fuel with
      | zero => exact ⟨hr, h1⟩
      | succ fuel => exact ⟨fun _ => h1, fun i hi => by rw [hr] at hi; cases hi⟩
  have nun : ∀ listed : Array Bool, HeadInv md l.toArray n listed → Region.ready md l.toArray listed ≠ [] := by
    intro listed inv hr
    have h1 := all_listed hd inv.size hr n (by omega)
    rw [inv.tail n (Nat.le_refl _) (by omega)] at h1
    cases h1
  -- if the last may come up, all others have come up
  have only : ∀ listed : Array Bool, HeadInv md l.toArray n listed → n ∈ Region.ready md l.toArray listed → Region.ready md l.toArray (listed.setIfInBounds n true) = [] := by
    intro listed inv hr
    rw [List.eq_nil_iff_forall_not_mem]
    intro j hj
    obtain ⟨hun, o, ho, _⟩ := mem_ready.1 hj
    have hjlt : j < l.toArray.size := (Array.getElem?_eq_some_iff.1 ho).1
    by_cases hjn : n = j
    · subst hjn
      have h9 : n < listed.size := by rw [inv.size]; omega
      simp [h9] at hun
    · rw [getD_set_ne true hjn] at hun
      exact tail_waits hs hc (by omega) inv _ j rfl (by omega) hun n (Nat.le_refl _) hr
  intro fuel
  induction fuel with
  | zero =>
    intro listed a w inv h
    refine ⟨fun hr => absurd hr (nun listed inv), fun i hi => ?_⟩
    have hin : i = n := by
      by_cases hin : i = n
      · exact hin
      · have := ready_mono hi hin
        rw [h.1] at this
        cases this
    subst hin
    exact last 0 listed a w inv h.1 h.2
  | succ fuel ih =>
    intro listed a w inv h
    refine ⟨fun hr => absurd hr (nun listed inv), fun i hi => ?_⟩
    by_cases hin : i = n
    · subst hin
      have hr := only listed inv hi
      exact last (fuel + 1) listed a w inv hr (h.1 hr)
    · have h1 := h.2 i (ready_mono hi hin)
      have hilt : i < n := by
        obtain ⟨_, o, ho, _⟩ := mem_ready.1 hi
        have := (Array.getElem?_eq_some_iff.1 ho).1
        omega
      refine wpOp_mono (fun a' w' h2 => ih (listed.setIfInBounds i true) a' w' (inv.set hi hilt) ?_) (wpOp_post hP hO h1)
      rw [Array.setIfInBounds_comm _ _ hin]
      exact h2

def lastB (md : Region.Mode) (l : List Oper) (n : Nat) : Bool :=
  decide (n + 1 = l.length) && downB md l.toArray && Region.sinkB md l.toArray n && Region.chainB md l.toArray n

theorem wp_region_last {id : Nat} {a : Act} {w : World} {l : List Oper} (n : Nat) (S : World → Prop) (hm : P.follows .mixedOrders = true) (hB : lastB .any l n = true) (hS : S w.drew)
    (h : S w.drew → wpAnyH P .any l.toArray (headPost P l n Q) S n ((Array.replicate (n + 1) false).setIfInBounds n true) a w.drew) : (Code.region id l.toArray true).wp P Q a w := by
  simp only [lastB, Bool.and_eq_true, decide_eq_true_eq] at hB
  obtain ⟨⟨⟨hn, hd⟩, hs⟩, hc⟩ := hB
  refine wp_region_any hm ?_
  have hz : l.toArray.size = n + 1 := by simp [hn]
  rw [hz]
  refine cut_last hd hs hc hn n _ a _ ⟨by simp [hn], fun j oj _ hl => (by rw [getD_replicate_false] at hl; cases hl), fun t ht htl => getD_in (by simpa [hn] using htl) (getD_replicate_false _ _)⟩ ?_
  exact wpAny_of_held _ _ _ _ (h hS)
end
end Go.Proofs.YtjaagabbbnokdaaGreat

namespace Go.Proofs.YtjaagabbbnokdaaGreat
open Go.RowKit

theorem Loc.store {lo hi : Nat} {P : World → Prop} {w : World} (h : Loc lo hi P w) {p : Addr} (u : Value) (hp : p.block < lo ∨ hi ≤ p.block) : Loc lo hi P (w.setCell p u) := by
  refine h.mid (lo' := p.block) (hi' := p.block + 1) ⟨rfl, rfl, rfl, by simp [World.setCell], fun k hk ho => Below.heap_setCell w p u k (by omega)⟩ (by omega)
end Go.Proofs.YtjaagabbbnokdaaGreat
