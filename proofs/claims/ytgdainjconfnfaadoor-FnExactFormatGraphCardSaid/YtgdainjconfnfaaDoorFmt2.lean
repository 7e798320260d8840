/-
  Contracts of FormatGraph, of the program and of the reference: the text fmtZ. The program's call of the library's numeral needs its table of powers.
-/
import Derived.Test.YtgdainjconfnfaaDoorFmt1
import Derived.Test.YtgdainjconfnfaaDoorTriC
import Derived.Test.YtgdainjconfnfaaDoorBq
import Derived.Test.YtgdainjconfnfaaDoorOpenT
import Derived.Test.YtgdainjconfnfaaDoorShelf
namespace Go.Proofs.YtgdainjconfnfaaDoor
open Go.ChangeShapes Go.WideShapes Go.ChangeAt Go.RowKit Go.Sort
set_option linter.unusedVariables false
set_option maxRecDepth 100000

/-- The library's table of powers of ten lies as its text says. -/
def Tb (w : World) : Prop := Lib.TabIs Tryd.prog w "internal/strconv.uint64pow10" .u64 Lib.pow10Tab
theorem Tb.keep {w w' : World} (h : Tb w) (b : Bel w w') : Tb w' := by
  unfold Tb Lib.TabIs World.var? at *
  cases hg : Program.globalNamed Tryd.prog "internal/strconv.uint64pow10" with
  | none => rw [hg] at h; simp at h
  | some g =>
    rw [hg] at h
    simp only [Option.bind_some] at h ⊢
    have hl : g < w.heap.size := by
      rcases Nat.lt_or_ge g w.heap.size with h' | h'
      · exact h'
      · rw [Array.getElem?_eq_none h'] at h; cases h
    rw [b.below.block g hl]
    exact h
theorem belGrow (w : World) (os : Array Obj) : Bel w (grow w os) := ⟨rfl, rfl, rfl, by rw [size_grow]; exact Nat.le_add_right _ _, fun k h => heap_grow_old w os h⟩
theorem fmtII (n : Int) (w : World) (h0 : -9223372036854775808 ≤ n) (h1 : n ≤ 9223372036854775807) (ht : Tb w) :
    Calls Tryd.prog 12 #[.int .i64 n] w fun e w' => e = .returned (.string ⟨(Lib.itoa n).toArray⟩) ∧ Bel w w' := by
  have HT := Lib.hid ht
  clear ht
  go_enter Tryd.func12, Tryd.ntmps12
  go_wp2_with fail
  refine (Tryd.strconv_Itoa n h0 h1 w HT.out).mono ?_
  rintro e w1 ⟨rfl, k, os, rfl⟩
  go_wp2
  go_ret
  exact ⟨rfl, ((Bel.refl w).drewN k).trans (belGrow _ _)⟩

def edL (f : Tr) : List UInt8 := 32 :: (Lib.itoa f.1 ++ 62 :: (Lib.itoa f.2.1 ++ 42 :: Lib.itoa f.2.2))
def fmtZ (s : Int) (fs : List Tr) : List UInt8 := Lib.itoa s ++ fs.flatMap edL
theorem fmtZ_nil (s : Int) : fmtZ s [] = Lib.itoa s := by simp [fmtZ]
theorem fmtZ_step {s : Int} {fs : List Tr} {k : Nat} {f : Tr} (h : fs[k]? = some f) : fmtZ s (fs.take (k + 1)) = fmtZ s (fs.take k) ++ edL f := by
  rw [List.take_add_one, h]
  simp [fmtZ]
theorem catS (acc : List UInt8) (x y z : Int) : (⟨acc.toArray⟩ : ByteArray) ++ ⟨#[32]⟩ ++ ⟨(Lib.itoa x).toArray⟩ ++ ⟨#[62]⟩ ++ ⟨(Lib.itoa y).toArray⟩ ++ ⟨#[42]⟩ ++ ⟨(Lib.itoa z).toArray⟩ = ⟨(acc ++ edL (x, y, z)).toArray⟩ := by
  apply ByteArray.ext
  simp [ByteArray.data_append, edL]
theorem catI (acc : List UInt8) (x y z : Int) : (⟨acc.toArray⟩ : ByteArray) ++ (⟨#[32]⟩ ++ ⟨(Lib.itoa x).toArray⟩ ++ ⟨#[62]⟩ ++ ⟨(Lib.itoa y).toArray⟩ ++ ⟨#[42]⟩ ++ ⟨(Lib.itoa z).toArray⟩) = ⟨(acc ++ edL (x, y, z)).toArray⟩ := by
  apply ByteArray.ext
  simp [ByteArray.data_append, edL]
theorem itL {n : Int} (h : I64 n) : (Lib.itoa n).length ≤ 21 := Lib.itoa_length_le n h.1 h.2
theorem edL_len {f : Tr} (h : I64 f.1 ∧ I64 f.2.1 ∧ I64 f.2.2) : (edL f).length ≤ 66 := by
  have h1 := itL h.1
  have h2 := itL h.2.1
  have h3 := itL h.2.2
  unfold edL
  simp only [List.length_cons, List.length_append]
  omega
theorem fmtZ_len {s : Int} (hs : I64 s) : ∀ {fs : List Tr}, (∀ f ∈ fs, I64 f.1 ∧ I64 f.2.1 ∧ I64 f.2.2) → (fmtZ s fs).length ≤ 21 + 66 * fs.length := by
  intro fs h
  have hf : ∀ l : List Tr, (∀ f ∈ l, I64 f.1 ∧ I64 f.2.1 ∧ I64 f.2.2) → (l.flatMap edL).length ≤ 66 * l.length := by
    intro l
    induction l with
    | nil => intro _; simp
    | cons x l ih =>
      intro h
      have h1 := edL_len (h x (by simp))
      have h2 := ih (fun f hf => h f (by simp [hf]))
      rw [List.flatMap_cons, List.length_append, List.length_cons]
      omega
  have h1 := itL hs
  have h2 := hf fs h
  unfold fmtZ
  rw [List.length_append]
  omega
theorem take_rng {fs : List Tr} {P : Tr → Prop} (h : ∀ f ∈ fs, P f) (k : Nat) : ∀ f ∈ fs.take k, P f := fun f hf => h f (List.mem_of_mem_take hf)

set_option maxHeartbeats 2000000 in
theorem fmtGS (s : Int) (v : Value) (fs : List Tr) (w : World) (hv : RT w v fs) (hs : I64 s) (hr : ∀ f ∈ fs, I64 f.1 ∧ I64 f.2.1 ∧ I64 f.2.2) (hn : fs.length ≤ 1048576) :
    Calls Tryd.prog 5 #[.agg #[.int .i64 s, v]] w fun e w' => e = .returned (.string ⟨(fmtZ s fs).toArray⟩) ∧ Bel w w' := by
  obtain ⟨A, c, rfl, h1, h2, hA⟩ := hv
  go_enter Tryd.func5, Tryd.ntmps5
  go_wp2_with fail
  refine (fmtIS s _ hs.1 hs.2).mono ?_
  rintro e w1 ⟨rfl, hb1⟩
  have X := hb1.keep (Blk.new w 29 #[.int .i64 s, .slice A fs.length c])
  have Y : Bel w w1 := ((Bel.refl _).alloc _).trans hb1
  clear hb1
  go_wp2
  go_loopg [3, 4] fs.length (fun f a i wr => ∃ k : Nat, k + f = fs.length ∧ i = .int .i64 k ∧ a = .string ⟨(fmtZ s (fs.take k)).toArray⟩ ∧ Blk wr w.heap.size 29 #[.int .i64 s, .slice A fs.length c] ∧ Bel w wr)
  case atStart => exact ⟨0, by omega, rfl, by rw [List.take_zero, fmtZ_nil], X, Y⟩
  case round =>
    clear X Y
    obtain ⟨k, hk, rfl, rfl, X, Y⟩ := hrel
    have hk2 : k ≤ fs.length := by omega
    have HK := Lib.hid hk
    clear hk
    obtain ⟨cx0, _, zx0⟩ := X.facts
    have xx0 := cx0 1
    simp at xx0
    clear cx0
    by_cases hlt : k < fs.length
    · obtain ⟨b1, o1, rfl, z1, hc1⟩ := hA (by omega)
      have hx : Hid (fs[k]? = some (fs[k]'hlt)) := List.getElem?_eq_getElem hlt
      obtain ⟨g1, g2, g3⟩ := hc1 k _ hx
      obtain ⟨r1, r2, r3⟩ := hr _ (List.getElem_mem hlt)
      have HS : Hid (fmtZ s (fs.take (k + 1)) = fmtZ s (fs.take k) ++ edL (fs[k]'hlt)) := Lib.hid (fmtZ_step hx.out)
      have HL := fmtZ_len hs (take_rng hr k)
      have HL2 : (fmtZ s (fs.take k)).length ≤ 100000000 := by
        have := List.length_take_le k fs
        omega
      clear HL
      generalize fmtZ s (fs.take k) = acc at *
      generalize fs[k]'hlt = x at *
      obtain ⟨x, y, z⟩ := x
      dsimp only at *
      replace g1 := Y.cell1 z1 g1
      replace g2 := Y.cell1 z1 g2
      replace g3 := Y.cell1 z1 g3
      have zz1 := Nat.lt_of_lt_of_le z1 Y.size
      have i0 : (0 : Int) ≤ (k : Int) := by omega
      have i1 : (k : Int) < (fs.length : Int) := by omega
      have l1 := itL r1
      have l2 := itL r2
      have l3 := itL r3
      have R1 := Lib.hid r1
      have R2 := Lib.hid r2
      have R3 := Lib.hid r3
      have HR := Lib.hid hr
      clear hc1 hA r1 r2 r3 hr
      go_wp2_with fail
      have qq0 := Bw.cell g1 zz1
      have qq1 := Bw.cell g2 zz1
      have qq2 := Bw.cell g3 zz1
      have qq3 := Bw.cell xx0 zx0
      refine wp_region_bel (by kernel_rfl) (by kernel_rfl) ?_
      repeat (first | go_big_quiet_step (first | ((with_reducible exact belQ (fmtIS x _ R1.out.1 R1.out.2))) | ((with_reducible exact belQ (fmtIS y _ R2.out.1 R2.out.2))) | ((with_reducible exact belQ (fmtIS z _ R3.out.1 R3.out.2)))) | quiet_step (first | ((with_reducible exact belQ (fmtIS x _ R1.out.1 R1.out.2))) | ((with_reducible exact belQ (fmtIS y _ R2.out.1 R2.out.2))) | ((with_reducible exact belQ (fmtIS z _ R3.out.1 R3.out.2)))))
      refine wpQuiet_nil ?_
      rintro _ ⟨⟨w3, hb3⟩, rfl⟩
      clear qq0 qq1 qq2 qq3
      go_wp2
      go_roundg (fs.length - (k + 1))
      case measure => have := HK.out; omega
      case rel => exact ⟨k + 1, by omega, by go_num, by rw [HS.out]; exact congrArg Value.string (catS _ _ _ _), hb3.keep X, Y.trans hb3⟩
    · obtain rfl : k = fs.length := by omega
      have i1 : ¬ (fs.length : Int) < (fs.length : Int) := by omega
      go_wp2
      go_ret
      exact ⟨rfl, Y⟩
set_option maxHeartbeats 2000000 in
theorem fmtGI (s : Int) (v : Value) (fs : List Tr) (w : World) (hv : RT w v fs) (hs : I64 s) (hr : ∀ f ∈ fs, I64 f.1 ∧ I64 f.2.1 ∧ I64 f.2.2) (hn : fs.length ≤ 1048576) (ht : Tb w) :
    Calls Tryd.prog 7 #[.agg #[.int .i64 s, v]] w fun e w' => e = .returned (.string ⟨(fmtZ s fs).toArray⟩) ∧ Bel w w' := by
  have HT := Lib.hid ht
  clear ht
  obtain ⟨A, c, rfl, h1, h2, hA⟩ := hv
  go_enter Tryd.func7, Tryd.ntmps7
  go_wp2_with fail
  refine (fmtII s _ hs.1 hs.2 (HT.out.keep ((Bel.refl _).alloc _))).mono ?_
  rintro e w1 ⟨rfl, hb1⟩
  have X := hb1.keep (Blk.new w 29 #[.int .i64 s, .slice A fs.length c])
  have Y : Bel w w1 := ((Bel.refl _).alloc _).trans hb1
  clear hb1
  obtain ⟨cx0, _, zx0⟩ := X.facts
  have xx0 := cx0 1
  simp at xx0
  clear cx0
  go_wp2
  clear xx0 zx0
  go_loopg [3, 12] fs.length (fun f a i wr => ∃ k : Nat, k + f = fs.length ∧ i = .int .i64 k ∧ a = .string ⟨(fmtZ s (fs.take k)).toArray⟩ ∧ Bel w wr)
  case atStart => exact ⟨0, by omega, rfl, by rw [List.take_zero, fmtZ_nil], Y⟩
  case round =>
    clear X Y
    obtain ⟨k, hk, rfl, rfl, Y⟩ := hrel
    have hk2 : k ≤ fs.length := by omega
    have HK := Lib.hid hk
    clear hk
    by_cases hlt : k < fs.length
    · obtain ⟨b1, o1, rfl, z1, hc1⟩ := hA (by omega)
      have hx : Hid (fs[k]? = some (fs[k]'hlt)) := List.getElem?_eq_getElem hlt
      obtain ⟨g1, g2, g3⟩ := hc1 k _ hx
      obtain ⟨r1, r2, r3⟩ := hr _ (List.getElem_mem hlt)
      have HS : Hid (fmtZ s (fs.take (k + 1)) = fmtZ s (fs.take k) ++ edL (fs[k]'hlt)) := Lib.hid (fmtZ_step hx.out)
      have HL := fmtZ_len hs (take_rng hr k)
      have HL2 : (fmtZ s (fs.take k)).length ≤ 100000000 := by
        have := List.length_take_le k fs
        omega
      clear HL
      generalize fmtZ s (fs.take k) = acc at *
      generalize fs[k]'hlt = x at *
      obtain ⟨x, y, z⟩ := x
      dsimp only at *
      replace g1 := Y.cell1 z1 g1
      replace g2 := Y.cell1 z1 g2
      replace g3 := Y.cell1 z1 g3
      have i0 : (0 : Int) ≤ (k : Int) := by omega
      have i1 : (k : Int) < (fs.length : Int) := by omega
      have l1 := itL r1
      have l2 := itL r2
      have l3 := itL r3
      have R1 := Lib.hid r1
      have R2 := Lib.hid r2
      have R3 := Lib.hid r3
      have HR := Lib.hid hr
      clear hc1 hA r1 r2 r3 hr
      go_wp2_with fail
      have F2 := Blk.new wr 36 #[.int .i64 x, .int .i64 y, .int .i64 z]
      have Y2 := Y.alloc (.cells #[.int .i64 x, .int .i64 y, .int .i64 z] 36)
      clear g1 g2 g3 Y
      generalize wr.alloc (.cells #[.int .i64 x, .int .i64 y, .int .i64 z] 36) = w2 at *
      generalize wr.heap.size = G at *
      obtain ⟨cf, _, zf⟩ := F2.facts
      have f0 : w2.cell? ⟨G, 0, none⟩ = some (.int .i64 x) := cf 0
      have f1 : w2.cell? ⟨G, 1, none⟩ = some (.int .i64 y) := cf 1
      have f2 : w2.cell? ⟨G, 2, none⟩ = some (.int .i64 z) := cf 2
      clear cf F2
      have qq0 := Bw.cell f0 zf
      have qq1 := Bw.cell f1 zf
      have qq2 := Bw.cell f2 zf
      have qt : Hid (∀ q : Bw w2, Tb q.w) := Lib.hid fun q => HT.out.keep (Y2.trans q.bel)
      refine wp_region_bel (by kernel_rfl) (by kernel_rfl) ?_
      repeat (first | go_big_quiet_step (first | ((with_reducible exact belQ (fmtII x _ R1.out.1 R1.out.2 (qt.out _)))) | ((with_reducible exact belQ (fmtII y _ R2.out.1 R2.out.2 (qt.out _)))) | ((with_reducible exact belQ (fmtII z _ R3.out.1 R3.out.2 (qt.out _))))) | quiet_step (first | ((with_reducible exact belQ (fmtII x _ R1.out.1 R1.out.2 (qt.out _)))) | ((with_reducible exact belQ (fmtII y _ R2.out.1 R2.out.2 (qt.out _)))) | ((with_reducible exact belQ (fmtII z _ R3.out.1 R3.out.2 (qt.out _))))))
      refine wpQuiet_nil ?_
      rintro _ ⟨⟨w3, hb3⟩, rfl⟩
      clear qq0 qq1 qq2
      go_wp2
      go_roundg (fs.length - (k + 1))
      case measure => have := HK.out; omega
      case rel => exact ⟨k + 1, by omega, by go_num, by rw [HS.out]; exact congrArg Value.string (catI _ _ _ _), Y2.trans hb3⟩
    · obtain rfl : k = fs.length := by omega
      have i1 : ¬ (fs.length : Int) < (fs.length : Int) := by omega
      go_wp2
      go_ret
      exact ⟨rfl, Y⟩
end Go.Proofs.YtgdainjconfnfaaDoor
