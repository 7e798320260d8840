/-
  impl.RecordFeedback: a contract. Condition: at most 2^20 reports.
-/
import Derived.Test.YtchodlfkoafeaaaRcf
namespace Go.Proofs.Ytchodlfkoafeaaa
open Go.ChangeShapes Go.WideShapes Go.ChangeAt Go.RowKit Go.Lib Go.Joins Go.Deep
set_option linter.unusedVariables false
set_option maxRecDepth 100000

def recZ (fs : List Tr) (f : Tr) : List Tr := if tabB fs && fbB f.1 f.2.1 f.2.2 then recL fs f else fs
theorem insF_len2 {fs : List Tr} {f : Tr} : (recL fs f).length ≤ fs.length + 1 := by
  unfold recL
  split
  · rw [insF_len (tw_le _ _)]; omega
  · split
    · rw [insF_len (tw_le _ _)]; omega
    · simp
theorem recZ_len (fs : List Tr) (f : Tr) : (recZ fs f).length ≤ fs.length + 1 := by
  unfold recZ
  split
  · exact insF_len2
  · omega
set_option maxHeartbeats 2000000 in
theorem recfI (v : Value) (fs : List Tr) (x y z : Int) (w : World) (hv : RT w v fs) (hn : fs.length ≤ 1048576) :
    Calls Try.prog 16 #[.agg #[v], .agg #[.int .i64 x, .int .i64 y, .int .i64 z]] w fun e w' => ∃ r, e = .returned (.agg #[r]) ∧ OT 43 w' w.heap.size r (recZ fs (x, y, z)) ∧ Bel w w' := by
  obtain ⟨A, c, rfl, h1, h2, _⟩ := id hv
  have X0 := ((Blk.new w 40 #[.slice A fs.length c]).alloc (.cells #[.int .i64 x, .int .i64 y, .int .i64 z] 43)).alloc (.cells #[.slice none 0 0] 40)
  have F0 := (Blk.new2 w (.cells #[.slice A fs.length c] 40) 43 #[.int .i64 x, .int .i64 y, .int .i64 z]).alloc (.cells #[.slice none 0 0] 40)
  have R0 := Blk.new3 w (.cells #[.slice A fs.length c] 40) (.cells #[.int .i64 x, .int .i64 y, .int .i64 z] 43) 40 #[.slice none 0 0]
  have Y0 : Bel w (((w.alloc (.cells #[.slice A fs.length c] 40)).alloc (.cells #[.int .i64 x, .int .i64 y, .int .i64 z] 43)).alloc (.cells #[.slice none 0 0] 40)) := (((Bel.refl _).alloc _).alloc _).alloc _
  have hr1 := hv.keep Y0
  go_enter Try.func16, Try.ntmps16
  go_wp2_with fail
  refine (cloneT _ fs _ hr1 hn).mono ?_
  rintro e w1 ⟨r1, rfl, O1, b1⟩
  have X1 := b1.keep X0
  have F1 := b1.keep F0
  have R1 := b1.keep R0
  have Y1 := Y0.trans b1
  have hz1 := b1.size
  simp only [World.size_alloc] at O1 hz1
  clear X0 F0 R0 Y0 b1 hr1
  obtain ⟨A1, c1, e1, _, _, _⟩ := O1.reads
  subst e1
  have X2 := X1.alloc (.cells #[.slice A1 fs.length c1] 40)
  have F2 := F1.alloc (.cells #[.slice A1 fs.length c1] 40)
  have R2 := R1.alloc (.cells #[.slice A1 fs.length c1] 40)
  have Y2 := Y1.alloc (.cells #[.slice A1 fs.length c1] 40)
  have O2 := O1.keep ((Bel.refl w1).alloc (.cells #[.slice A1 fs.length c1] 40))
  have K2 := Blk.new w1 40 #[.slice A1 fs.length c1]
  clear X1 F1 R1 Y1 O1
  obtain ⟨cx, _, zx⟩ := X2.facts
  obtain ⟨cf, _, zf⟩ := F2.facts
  have x0 := cx 0
  have f0 := cf 0
  have f1 := cf 1
  have f2 := cf 2
  clear cx cf
  simp at x0 f0 f1 f2
  go_wp2_with fail
  generalize w1.alloc (.cells #[.slice A1 fs.length c1] 40) = w2 at *
  refine (tabI _ fs _ (hv.keep Y2)).mono ?_
  rintro e w3 ⟨rfl, b3⟩
  have X3 := b3.keep X2
  have F3 := b3.keep F2
  have R3 := b3.keep R2
  have K3 := b3.keep K2
  have O3 := O2.keep b3
  have Y3 := Y2.trans b3
  have hk3 := K3.lt
  clear X2 F2 R2 K2 O2 Y2 b3 x0 f0 f1 f2 zx zf
  have hne3 := O3.ne K3 (by decide)
  cases hT : tabB fs
  · have HZ : Hid (recZ fs (x, y, z) = fs) := Lib.hid (by unfold recZ; rw [hT]; rfl)
    clear hT
    obtain ⟨ck, _, zk⟩ := K3.facts
    obtain ⟨cr, fr, zr⟩ := R3.facts
    go_wp2
    have R5 := R3.set 0 (.slice A1 fs.length c1)
    have r5 := R5.facts.1
    clear ck cr fr
    refine bodyPost_ret (v := .agg #[.slice A1 fs.length c1]) (by simp [results, Try.results16, go_sem, r5]) rfl ⟨_, rfl, ?_, ?_⟩
    · rw [HZ.out]
      exact (O3.setFar (p := ⟨w.heap.size + 2, 0, none⟩) (by dsimp only; omega) _).low (by omega)
    · exact Y3.setCell (p := ⟨w.heap.size + 2, 0, none⟩) (by dsimp only; omega) _
  have HS := Lib.hid (tab_srt hT)
  obtain ⟨cf, _, zf⟩ := F3.facts
  have f0 := cf 0
  have f1 := cf 1
  have f2 := cf 2
  simp at f0 f1 f2
  clear cf
  have HT := Lib.hid hT
  clear hT
  go_wp2_with fail
  refine (fbI_lit x y z _ _ rfl).mono ?_
  rintro e w4 ⟨rfl, b4⟩
  have F4 := b4.keep F3
  have R4 := b4.keep R3
  have K4 := b4.keep K3
  have O4 := O3.keep b4
  have Y4 := Y3.trans b4
  clear X3 F3 R3 K3 O3 Y3 b4 f0 f1 f2 zf hk3
  cases hV : fbB x y z
  · have HZ : Hid (recZ fs (x, y, z) = fs) := Lib.hid (by unfold recZ; rw [HT.out]; simp only [hV]; rfl)
    clear hV
    obtain ⟨ck, _, zk⟩ := K4.facts
    obtain ⟨cr, fr, zr⟩ := R4.facts
    go_wp2
    have R5 := R4.set 0 (.slice A1 fs.length c1)
    have r5 := R5.facts.1
    clear ck cr fr
    refine bodyPost_ret (v := .agg #[.slice A1 fs.length c1]) (by simp [results, Try.results16, go_sem, r5]) rfl ⟨_, rfl, ?_, ?_⟩
    · rw [HZ.out]
      exact (O4.setFar (p := ⟨w.heap.size + 2, 0, none⟩) (by dsimp only; omega) _).low (by omega)
    · exact Y4.setCell (p := ⟨w.heap.size + 2, 0, none⟩) (by dsimp only; omega) _
  have HZ : Hid (recZ fs (x, y, z) = recL fs (x, y, z)) := Lib.hid (by unfold recZ; rw [HT.out]; simp only [hV]; rfl)
  clear hV
  obtain ⟨cf, _, zf⟩ := F4.facts
  have f0 := cf 0
  have f1 := cf 1
  have f2 := cf 2
  simp at f0 f1 f2
  clear cf
  go_wp2_with fail
  refine (recI w1.heap.size _ fs x y z (w.heap.size + 1 + 1 + 1) _ K4 O4 hz1 HS.out hn).mono ?_
  rintro e w5 ⟨rfl, r, K5, O5, M5⟩
  have R5 := R4.mid M5 (.inl (by omega))
  have Y5 := Y4.mid M5 (by omega)
  rw [← HZ.out] at O5
  clear F4 R4 K4 O4 Y4 M5 f0 f1 f2 zf
  obtain ⟨Ar, cr, er, _, _, _⟩ := O5.reads
  subst er
  obtain ⟨ck, _, zk⟩ := K5.facts
  obtain ⟨cr5, fr5, zr5⟩ := R5.facts
  go_wp2
  have R6 := R5.set 0 (.slice Ar (recZ fs (x, y, z)).length cr)
  have r6 := R6.facts.1
  clear ck cr5 fr5
  refine bodyPost_ret (v := .agg #[.slice Ar (recZ fs (x, y, z)).length cr]) (by simp [results, Try.results16, go_sem, r6]) rfl ⟨_, rfl, ?_, ?_⟩
  · exact (O5.setFar (p := ⟨w.heap.size + 2, 0, none⟩) (by dsimp only; omega) _).low (by omega)
  · exact Y5.setCell (p := ⟨w.heap.size + 2, 0, none⟩) (by dsimp only; omega) _
end Go.Proofs.Ytchodlfkoafeaaa
