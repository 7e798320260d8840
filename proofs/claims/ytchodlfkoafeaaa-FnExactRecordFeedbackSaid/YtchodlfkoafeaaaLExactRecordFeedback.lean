/-
  FnExactRecordFeedback: for every table and report the program's RecordFeedback returns what the reference's returns, in memory of its own, and leaves its arguments alone. No condition.
-/
import Derived.Test.YtchodlfkoafeaaaOpenT
import Derived.Test.YtchodlfkoafeaaaKFbt
import Derived.Test.YtchodlfkoafeaaaRch
import Derived.Test.YtchodlfkoafeaaaOwn
import Derived.Test.YtchodlfkoafeaaaBoxr
import Derived.Deep.RegionHeld3
namespace Go.Proofs.Ytchodlfkoafeaaa.fnExactRecordFeedback
open Go.ChangeShapes Go.WideShapes Go.ChangeAt Go.RowKit
set_option linter.unusedVariables false
set_option maxRecDepth 100000

set_option maxHeartbeats 4000000 in
theorem walk (w : World) (v0 : Value) (x0 : List Tr) (f0 : IsFbt w v0 x0) (v1 : Value) (x1 : Int × Int × Int) (f1 : IsFb w v1 x1) :
    Calls Try.prog 4 #[v0, v1] w fun e w' => e = .returned (.bool true) ∧ Below w.heap.size w w' := by
  obtain ⟨p0v, rfl, hp0v, kp0v⟩ := f0
  obtain ⟨p1a, p1b, p1c⟩ := x1
  obtain ⟨rfl, b1⟩ := f1
  dsimp only at *
  rcases Or.symm (Decidable.em ((x0.length : Int) ≤ 1048576)) with z0 | z0
  · go_enter Try.func4, Try.ntmps4
    go_wp2_with fail
    refine (szFbt_no p0v x0 (1048576) _ (hp0v.keep (((Bel.refl _).alloc _).alloc _)) (by omega) (by omega) (by omega)).mono ?_
    rintro e wz ⟨rfl, hbz⟩
    go_wp2
    go_ret
    exact ⟨rfl, (((Bel.refl _).alloc _).alloc _).trans hbz⟩
  have dz0 : decide (1048576 - ((x0.length : Int)) < 0) = false := by simp; omega
  have np0v : x0.length ≤ 1048576 := by omega
  have nD : (recZ x0 (p1a, p1b, p1c)).length ≤ 2097152 := by have := recZ_len x0 (p1a, p1b, p1c); omega
  obtain ⟨D, hD⟩ : ∃ D, D = recZ x0 (p1a, p1b, p1c) := ⟨_, rfl⟩
  rw [← hD] at nD
  have HD := Lib.hid hD.symm
  clear hD
  go_enter Try.func4, Try.ntmps4
  go_wp2_with fail
  refine (szFbt_ok p0v x0 (1048576) _ (hp0v.keep (((Bel.refl _).alloc _).alloc _)) (by omega) (by omega)).mono ?_
  rintro e w1 ⟨rfl, hb1⟩
  have X0_1 := hb1.keep ((Blk.new w _ _).alloc _)
  have X1_1 := hb1.keep (Blk.new2 w _ _ _)
  have Y1 : Bel w w1 := (((Bel.refl _).alloc _).alloc _).trans hb1
  have s1 : Hid (w.heap.size + 2 ≤ w1.heap.size) := Lib.hid hb1.sz2
  clear hb1
  obtain ⟨cc0, _, _⟩ := X0_1.facts
  obtain ⟨cc1, _, _⟩ := X1_1.facts
  clear cc0 cc1
  go_upto_region 5 with fail
  obtain ⟨hcX01, _, hzX01⟩ := X0_1.facts
  have rX01o0 : w1.cell? ⟨w.heap.size, 0, none⟩ = some (p0v) := hcX01 0
  clear hcX01
  obtain ⟨hcX11, _, hzX11⟩ := X1_1.facts
  have rX11o0 : w1.cell? ⟨w.heap.size + 1, 0, none⟩ = some (.int .i64 p1a) := hcX11 0
  have rX11o1 : w1.cell? ⟨w.heap.size + 1, 1, none⟩ = some (.int .i64 p1b) := hcX11 1
  have rX11o2 : w1.cell? ⟨w.heap.size + 1, 2, none⟩ = some (.int .i64 p1c) := hcX11 2
  clear hcX11
  have HSW : ∀ W, Bel w1 W → W.cell? ⟨w.heap.size, 0, none⟩ = some (p0v) ∧ W.cell? ⟨w.heap.size + 1, 0, none⟩ = some (.int .i64 p1a) ∧ W.cell? ⟨w.heap.size + 1, 1, none⟩ = some (.int .i64 p1b) ∧ W.cell? ⟨w.heap.size + 1, 2, none⟩ = some (.int .i64 p1c) := fun W b => ⟨b.cell1 hzX01 rX01o0, b.cell1 hzX11 rX11o0, b.cell1 hzX11 rX11o1, b.cell1 hzX11 rX11o2⟩
  clear rX01o0 rX11o0 rX11o1 rX11o2
  go_cut [6] from 18 to 22 (fun ss wx => ∃ (bb : Nat) (rr : Value) (lo hi : Nat), ss = .pointer (some ⟨bb, 0, none⟩) ∧ Blk wx bb 40 #[rr] ∧ Loc lo hi (fun u => OTn 43 u lo hi rr D) wx ∧ Hid (w1.heap.size ≤ lo ∧ w1.heap.size ≤ bb ∧ bb < wx.heap.size ∧ (bb < lo ∨ hi ≤ bb) ∧ hi ≤ wx.heap.size ∧ lo ≤ hi) ∧ Bel w1 wx)
  case first =>
    have Yc := Y1
    refine wp_region_noPanic ?_
    refine wp_region_last 6 (fun W => W.cell? ⟨w.heap.size, 0, none⟩ = some (p0v) ∧ W.cell? ⟨w.heap.size + 1, 0, none⟩ = some (.int .i64 p1a) ∧ W.cell? ⟨w.heap.size + 1, 1, none⟩ = some (.int .i64 p1b) ∧ W.cell? ⟨w.heap.size + 1, 2, none⟩ = some (.int .i64 p1c)) (by kernel_rfl) (by kernel_rfl) (HSW _ (Bel.refl _).drew) (fun hHeld => ?_)
    refine' wpAnyH_take (i := 0) (oi := _) (v := _) ?hi1 (by kernel_rfl) (by kernel_rfl) (by kernel_rfl) (fun _ _ _ h => h) (Or.inl ⟨?hw1, ?hy1⟩) (by assumption) ?rest1
    case hi1 => simp only [List.getElem?_toArray, List.getElem?_cons_zero]; rfl
    case hw1 => rfl
    case hy1 =>
      intro W hSW
      try dsimp only at hSW
      go_simp
      try with_reducible rfl
    simp only [Act.put, List.setIfInBounds_toArray, List.set_cons_zero, List.set_cons_succ]
    refine' wpAnyH_take (i := 2) (oi := _) (v := _) ?hi2 (by kernel_rfl) (by kernel_rfl) (by kernel_rfl) (fun _ _ _ h => h) (Or.inl ⟨?hw2, ?hy2⟩) (by assumption) ?rest2
    case hi2 => simp only [List.getElem?_toArray, List.getElem?_cons_succ, List.getElem?_cons_zero]; rfl
    case hw2 => rfl
    case hy2 =>
      intro W hSW
      try dsimp only at hSW
      go_simp
      try with_reducible rfl
    simp only [Act.put, List.setIfInBounds_toArray, List.set_cons_zero, List.set_cons_succ]
    have B0 := (Bel.refl w1).drew
    refine wpAnyH_ready (rs := [1, 5]) (by kernel_rfl) (by simp) ?_
    refine' AllReadyH.cons (o := _) ?ho4 (fun K hK => ?step4) ?more4
    case ho4 => simp only [List.getElem?_toArray, List.getElem?_cons_succ, List.getElem?_cons_zero]; rfl
    case step4 =>
      go_simp
      go_at_call 14
      with_reducible refine (toFbt p0v x0 _ (hp0v.keep (Yc.trans B0)) np0v).mono ?_
      rintro e wT ⟨tp, rfl, Otp, hT⟩
      try go_wp2_with fail
      have B3 := B0.trans hT
      refine hK.out _ _ ?hS4 (fun hHeld => ?_)
      case hS4 => exact HSW _ B3
      clear hK K
      try simp only [Act.put, List.setIfInBounds_toArray, List.set_cons_zero, List.set_cons_succ]
      refine wpAnyH_ready (rs := [3, 5]) (by kernel_rfl) (by simp) ?_
      refine' AllReadyH.cons (o := _) ?ho6 (fun K hK => ?step6) ?more6
      case ho6 => simp only [List.getElem?_toArray, List.getElem?_cons_succ, List.getElem?_cons_zero]; rfl
      case step6 =>
        go_simp
        go_at_call 15
        with_reducible refine (toFb1 p1a p1b p1c _).mono ?_
        rintro e wF ⟨rfl, hF⟩
        try go_wp2_with fail
        have B5 := B3.trans hF
        refine hK.out _ _ ?hS6 (fun hHeld => ?_)
        case hS6 => exact HSW _ B5
        clear hK K
        try simp only [Act.put, List.setIfInBounds_toArray, List.set_cons_zero, List.set_cons_succ]
        refine wpAnyH_ready (rs := [4, 5]) (by kernel_rfl) (by simp) ?_
        refine' AllReadyH.cons (o := _) ?ho8 (fun K hK => ?step8) ?more8
        case ho8 => simp only [List.getElem?_toArray, List.getElem?_cons_succ, List.getElem?_cons_zero]; rfl
        case step8 =>
          go_simp
          go_at_call 13
          with_reducible refine (recfS _ x0 p1a p1b p1c _ (((Otp.reads).keep hF)) np0v).mono ?_
          rintro e wR ⟨rr, rfl, Or, hR⟩
          rw [HD.out] at Or
          obtain ⟨Aq, cq, eq, _, _, _⟩ := Or.reads
          subst eq
          have LR := Or.loc hR.size
          try go_wp2_with fail
          have B7 := B5.trans hR
          refine hK.out _ _ ?hS8 (fun hHeld => ?_)
          case hS8 => exact HSW _ B7
          clear hK K
          try simp only [Act.put, List.setIfInBounds_toArray, List.set_cons_zero, List.set_cons_succ]
          refine wpAnyH_ready (rs := [5]) (by kernel_rfl) (by simp) ?_
          refine' AllReadyH.cons (o := _) ?ho10 (fun K hK => ?step10) ?more10
          case ho10 => simp only [List.getElem?_toArray, List.getElem?_cons_succ, List.getElem?_cons_zero]; rfl
          case step10 =>
            go_simp
            have B9 := B7.alloc (.cells #[.slice none 0 0] 40)
            have K9 := (Blk.new wR 40 #[.slice none 0 0])
            refine hK.out _ _ ?hS10 (fun hHeld => ?_)
            case hS10 => exact HSW _ B9
            clear hK K
            try simp only [Act.put, List.setIfInBounds_toArray, List.set_cons_zero, List.set_cons_succ]
            refine wpAnyH_done (by kernel_rfl) ?_ _
            simp only [headPost, List.drop_succ_cons, List.drop_zero]
            obtain ⟨ck, fk, zk⟩ := K9.facts
            have KZ := Blk.new wR 40 #[(.slice Aq D.length cq)]
            have LZ := LR.keep ((Bel.refl _).alloc (.cells #[(.slice Aq D.length cq)] 40))
            have YZ := B7.alloc (.cells #[(.slice Aq D.length cq)] 40)
            clear hHeld HSW
            go_wp2_with fail
            refine NoPanic.normal ?_
            try go_wp2_with fail
            go_meet
            exact ⟨_, _, _, _, rfl, KZ, LZ, Lib.hid ⟨B5.size, B7.size, KZ.lt, (.inr (Nat.le_refl _)), LZ.2.1, LZ.1⟩, YZ⟩
          exact AllReadyH.nil
        refine' AllReadyH.cons (o := _) ?ho11 (fun K hK => ?step11) ?more11
        case ho11 => simp only [List.getElem?_toArray, List.getElem?_cons_succ, List.getElem?_cons_zero]; rfl
        case step11 =>
          go_simp
          have B7 := B5.alloc (.cells #[.slice none 0 0] 40)
          have K7 := (Blk.new wF 40 #[.slice none 0 0])
          refine hK.out _ _ ?hS11 (fun hHeld => ?_)
          case hS11 => exact HSW _ B7
          clear hK K
          try simp only [Act.put, List.setIfInBounds_toArray, List.set_cons_zero, List.set_cons_succ]
          refine wpAnyH_ready (rs := [4]) (by kernel_rfl) (by simp) ?_
          refine' AllReadyH.cons (o := _) ?ho13 (fun K hK => ?step13) ?more13
          case ho13 => simp only [List.getElem?_toArray, List.getElem?_cons_succ, List.getElem?_cons_zero]; rfl
          case step13 =>
            go_simp
            go_at_call 13
            with_reducible refine (recfS _ x0 p1a p1b p1c _ ((((Otp.reads).keep hF).keep ((Bel.refl _).alloc _))) np0v).mono ?_
            rintro e wR ⟨rr, rfl, Or, hR⟩
            rw [HD.out] at Or
            obtain ⟨Aq, cq, eq, _, _, _⟩ := Or.reads
            subst eq
            have LR := Or.loc hR.size
            have zb := K7.lt
            try go_wp2_with fail
            have B12 := B7.trans hR
            have K12 := hR.keep K7
            refine hK.out _ _ ?hS13 (fun hHeld => ?_)
            case hS13 => exact HSW _ B12
            clear hK K
            try simp only [Act.put, List.setIfInBounds_toArray, List.set_cons_zero, List.set_cons_succ]
            refine wpAnyH_done (by kernel_rfl) ?_ _
            simp only [headPost, List.drop_succ_cons, List.drop_zero]
            obtain ⟨ck, fk, zk⟩ := K12.facts
            have KZ := K12.set 0 (.slice Aq D.length cq)
            have LZ := LR.store (p := ⟨wF.heap.size, 0, none⟩) (.slice Aq D.length cq) (.inl zb)
            have YZ := B12.setCell (p := ⟨wF.heap.size, 0, none⟩) (B5.size) (.slice Aq D.length cq)
            clear hHeld HSW
            go_wp2_with fail
            refine NoPanic.normal ?_
            try go_wp2_with fail
            go_meet
            exact ⟨_, _, _, _, rfl, KZ, LZ, Lib.hid ⟨B7.size, B5.size, KZ.lt, (.inl zb), LZ.2.1, LZ.1⟩, YZ⟩
          exact AllReadyH.nil
        exact AllReadyH.nil
      refine' AllReadyH.cons (o := _) ?ho14 (fun K hK => ?step14) ?more14
      case ho14 => simp only [List.getElem?_toArray, List.getElem?_cons_succ, List.getElem?_cons_zero]; rfl
      case step14 =>
        go_simp
        have B5 := B3.alloc (.cells #[.slice none 0 0] 40)
        have K5 := (Blk.new wT 40 #[.slice none 0 0])
        refine hK.out _ _ ?hS14 (fun hHeld => ?_)
        case hS14 => exact HSW _ B5
        clear hK K
        try simp only [Act.put, List.setIfInBounds_toArray, List.set_cons_zero, List.set_cons_succ]
        refine wpAnyH_ready (rs := [3]) (by kernel_rfl) (by simp) ?_
        refine' AllReadyH.cons (o := _) ?ho16 (fun K hK => ?step16) ?more16
        case ho16 => simp only [List.getElem?_toArray, List.getElem?_cons_succ, List.getElem?_cons_zero]; rfl
        case step16 =>
          go_simp
          go_at_call 15
          with_reducible refine (toFb1 p1a p1b p1c _).mono ?_
          rintro e wF ⟨rfl, hF⟩
          try go_wp2_with fail
          have B15 := B5.trans hF
          have K15 := hF.keep K5
          refine hK.out _ _ ?hS16 (fun hHeld => ?_)
          case hS16 => exact HSW _ B15
          clear hK K
          try simp only [Act.put, List.setIfInBounds_toArray, List.set_cons_zero, List.set_cons_succ]
          refine wpAnyH_ready (rs := [4]) (by kernel_rfl) (by simp) ?_
          refine' AllReadyH.cons (o := _) ?ho18 (fun K hK => ?step18) ?more18
          case ho18 => simp only [List.getElem?_toArray, List.getElem?_cons_succ, List.getElem?_cons_zero]; rfl
          case step18 =>
            go_simp
            go_at_call 13
            with_reducible refine (recfS _ x0 p1a p1b p1c _ ((((Otp.reads).keep ((Bel.refl _).alloc _)).keep hF)) np0v).mono ?_
            rintro e wR ⟨rr, rfl, Or, hR⟩
            rw [HD.out] at Or
            obtain ⟨Aq, cq, eq, _, _, _⟩ := Or.reads
            subst eq
            have LR := Or.loc hR.size
            have zb := K15.lt
            try go_wp2_with fail
            have B17 := B15.trans hR
            have K17 := hR.keep K15
            refine hK.out _ _ ?hS18 (fun hHeld => ?_)
            case hS18 => exact HSW _ B17
            clear hK K
            try simp only [Act.put, List.setIfInBounds_toArray, List.set_cons_zero, List.set_cons_succ]
            refine wpAnyH_done (by kernel_rfl) ?_ _
            simp only [headPost, List.drop_succ_cons, List.drop_zero]
            obtain ⟨ck, fk, zk⟩ := K17.facts
            have KZ := K17.set 0 (.slice Aq D.length cq)
            have LZ := LR.store (p := ⟨wT.heap.size, 0, none⟩) (.slice Aq D.length cq) (.inl zb)
            have YZ := B17.setCell (p := ⟨wT.heap.size, 0, none⟩) (B3.size) (.slice Aq D.length cq)
            clear hHeld HSW
            go_wp2_with fail
            refine NoPanic.normal ?_
            try go_wp2_with fail
            go_meet
            exact ⟨_, _, _, _, rfl, KZ, LZ, Lib.hid ⟨B15.size, B3.size, KZ.lt, (.inl zb), LZ.2.1, LZ.1⟩, YZ⟩
          exact AllReadyH.nil
        exact AllReadyH.nil
      exact AllReadyH.nil
    refine' AllReadyH.cons (o := _) ?ho19 (fun K hK => ?step19) ?more19
    case ho19 => simp only [List.getElem?_toArray, List.getElem?_cons_succ, List.getElem?_cons_zero]; rfl
    case step19 =>
      go_simp
      have B3 := ((Bel.refl w1).alloc (.cells #[.slice none 0 0] 40)).drew
      have K3 := (Blk.new w1 40 #[.slice none 0 0]).drew
      refine hK.out _ _ ?hS19 (fun hHeld => ?_)
      case hS19 => exact HSW _ B3
      clear hK K
      try simp only [Act.put, List.setIfInBounds_toArray, List.set_cons_zero, List.set_cons_succ]
      refine wpAnyH_ready (rs := [1]) (by kernel_rfl) (by simp) ?_
      refine' AllReadyH.cons (o := _) ?ho21 (fun K hK => ?step21) ?more21
      case ho21 => simp only [List.getElem?_toArray, List.getElem?_cons_succ, List.getElem?_cons_zero]; rfl
      case step21 =>
        go_simp
        go_at_call 14
        with_reducible refine (toFbt p0v x0 _ (hp0v.keep (Yc.trans B3)) np0v).mono ?_
        rintro e wT ⟨tp, rfl, Otp, hT⟩
        try go_wp2_with fail
        have B20 := B3.trans hT
        have K20 := hT.keep K3
        refine hK.out _ _ ?hS21 (fun hHeld => ?_)
        case hS21 => exact HSW _ B20
        clear hK K
        try simp only [Act.put, List.setIfInBounds_toArray, List.set_cons_zero, List.set_cons_succ]
        refine wpAnyH_ready (rs := [3]) (by kernel_rfl) (by simp) ?_
        refine' AllReadyH.cons (o := _) ?ho23 (fun K hK => ?step23) ?more23
        case ho23 => simp only [List.getElem?_toArray, List.getElem?_cons_succ, List.getElem?_cons_zero]; rfl
        case step23 =>
          go_simp
          go_at_call 15
          with_reducible refine (toFb1 p1a p1b p1c _).mono ?_
          rintro e wF ⟨rfl, hF⟩
          try go_wp2_with fail
          have B22 := B20.trans hF
          have K22 := hF.keep K20
          refine hK.out _ _ ?hS23 (fun hHeld => ?_)
          case hS23 => exact HSW _ B22
          clear hK K
          try simp only [Act.put, List.setIfInBounds_toArray, List.set_cons_zero, List.set_cons_succ]
          refine wpAnyH_ready (rs := [4]) (by kernel_rfl) (by simp) ?_
          refine' AllReadyH.cons (o := _) ?ho25 (fun K hK => ?step25) ?more25
          case ho25 => simp only [List.getElem?_toArray, List.getElem?_cons_succ, List.getElem?_cons_zero]; rfl
          case step25 =>
            go_simp
            go_at_call 13
            with_reducible refine (recfS _ x0 p1a p1b p1c _ (((Otp.reads).keep hF)) np0v).mono ?_
            rintro e wR ⟨rr, rfl, Or, hR⟩
            rw [HD.out] at Or
            obtain ⟨Aq, cq, eq, _, _, _⟩ := Or.reads
            subst eq
            have LR := Or.loc hR.size
            have zb := K22.lt
            try go_wp2_with fail
            have B24 := B22.trans hR
            have K24 := hR.keep K22
            refine hK.out _ _ ?hS25 (fun hHeld => ?_)
            case hS25 => exact HSW _ B24
            clear hK K
            try simp only [Act.put, List.setIfInBounds_toArray, List.set_cons_zero, List.set_cons_succ]
            refine wpAnyH_done (by kernel_rfl) ?_ _
            simp only [headPost, List.drop_succ_cons, List.drop_zero]
            obtain ⟨ck, fk, zk⟩ := K24.facts
            have KZ := K24.set 0 (.slice Aq D.length cq)
            have LZ := LR.store (p := ⟨w1.heap.size, 0, none⟩) (.slice Aq D.length cq) (.inl zb)
            have YZ := B24.setCell (p := ⟨w1.heap.size, 0, none⟩) (Nat.le_refl _) (.slice Aq D.length cq)
            clear hHeld HSW
            go_wp2_with fail
            refine NoPanic.normal ?_
            try go_wp2_with fail
            go_meet
            exact ⟨_, _, _, _, rfl, KZ, LZ, Lib.hid ⟨B22.size, Nat.le_refl _, KZ.lt, (.inl zb), LZ.2.1, LZ.1⟩, YZ⟩
          exact AllReadyH.nil
        exact AllReadyH.nil
      exact AllReadyH.nil
    exact AllReadyH.nil
  case rest =>
    obtain ⟨bs, rs, los, his, rfl, Gs_a, Ns, HBs, hbR⟩ := hcut
    clear HSW
    obtain ⟨w2, hw2⟩ : ∃ x, x = wc := ⟨_, rfl⟩
    subst hw2
    have X0_2 := hbR.keep X0_1
    have X1_2 := hbR.keep X1_1
    have Y2 : Bel w w2 := Y1.trans hbR
    have s2 : Hid (w1.heap.size + 0 ≤ w2.heap.size) := Lib.hid hbR.sz0
    clear hbR
    obtain ⟨Ars, crs, ers, _, _, _⟩ := Ns.out.reads
    subst ers
    obtain ⟨ccX0, _, _⟩ := X0_2.facts
    go_wp2_with fail
    refine (toFbt p0v x0 _ (hp0v.keep Y2) np0v).mono ?_
    rintro e w3 ⟨tp0v, rfl, Op0vt, hb3⟩
    clear ccX0
    have X0_3 := hb3.keep X0_2
    have X1_3 := hb3.keep X1_2
    have Gs_3 := hb3.keep Gs_a
    have Y3 : Bel w w3 := Y2.trans hb3
    have Ns_3 := Ns.keep hb3
    have s3 : Hid (w2.heap.size + 0 ≤ w3.heap.size) := Lib.hid hb3.sz0
    have M0t := Op0vt.loc (hb3.size)
    obtain ⟨Atp0v, ctp0v, etp0v, _, _, _⟩ := Op0vt.reads
    subst etp0v
    have Z0_a := Blk.new w3 40 #[(.slice Atp0v x0.length ctp0v)]
    have X0_Z0 := X0_3.alloc (.cells #[(.slice Atp0v x0.length ctp0v)] 40)
    have X1_Z0 := X1_3.alloc (.cells #[(.slice Atp0v x0.length ctp0v)] 40)
    have Gs_Z0 := Gs_3.alloc (.cells #[(.slice Atp0v x0.length ctp0v)] 40)
    have YZ0 := Y3.alloc (.cells #[(.slice Atp0v x0.length ctp0v)] 40)
    have Ns_Z0 := Ns_3.keep ((Bel.refl _).alloc (.cells #[(.slice Atp0v x0.length ctp0v)] 40))
    have M0t_Z0 := M0t.keep ((Bel.refl _).alloc (.cells #[(.slice Atp0v x0.length ctp0v)] 40))
    go_upto_region 7 with fail
    obtain ⟨w4, hw4⟩ : ∃ x, x = (w3.alloc (.cells #[(.slice Atp0v x0.length ctp0v)] 40)) := ⟨_, rfl⟩
    have s4 : Hid (w3.heap.size + 1 ≤ w4.heap.size) := Lib.hid (by rw [hw4]; simp only [World.size_alloc]; omega)
    rw [← hw4] at X0_Z0 X1_Z0 Gs_Z0 Z0_a Ns_Z0 M0t_Z0 YZ0 ⊢
    clear hw4
    obtain ⟨hcZ0a, _, hzZ0a⟩ := Z0_a.facts
    have rZ0ao0 : w4.cell? ⟨w3.heap.size, 0, none⟩ = some ((.slice Atp0v x0.length ctp0v)) := hcZ0a 0
    clear hcZ0a
    obtain ⟨hcX1Z0, _, hzX1Z0⟩ := X1_Z0.facts
    have rX1Z0o0 : w4.cell? ⟨w.heap.size + 1, 0, none⟩ = some (.int .i64 p1a) := hcX1Z0 0
    have rX1Z0o1 : w4.cell? ⟨w.heap.size + 1, 1, none⟩ = some (.int .i64 p1b) := hcX1Z0 1
    have rX1Z0o2 : w4.cell? ⟨w.heap.size + 1, 2, none⟩ = some (.int .i64 p1c) := hcX1Z0 2
    clear hcX1Z0
    have HSW : ∀ W, Bel w4 W → W.cell? ⟨w3.heap.size, 0, none⟩ = some ((.slice Atp0v x0.length ctp0v)) ∧ W.cell? ⟨w.heap.size + 1, 0, none⟩ = some (.int .i64 p1a) ∧ W.cell? ⟨w.heap.size + 1, 1, none⟩ = some (.int .i64 p1b) ∧ W.cell? ⟨w.heap.size + 1, 2, none⟩ = some (.int .i64 p1c) := fun W b => ⟨b.cell1 hzZ0a rZ0ao0, b.cell1 hzX1Z0 rX1Z0o0, b.cell1 hzX1Z0 rX1Z0o1, b.cell1 hzX1Z0 rX1Z0o2⟩
    clear rZ0ao0 rX1Z0o0 rX1Z0o1 rX1Z0o2
    go_cut [8] from 25 to 28 (fun ss wx => ∃ (bb : Nat) (rr : Value) (lo hi : Nat), ss = .pointer (some ⟨bb, 0, none⟩) ∧ Blk wx bb 40 #[rr] ∧ Loc lo hi (fun u => OTn 43 u lo hi rr D) wx ∧ Hid (w4.heap.size ≤ lo ∧ w4.heap.size ≤ bb ∧ bb < wx.heap.size ∧ (bb < lo ∨ hi ≤ bb) ∧ hi ≤ wx.heap.size ∧ lo ≤ hi) ∧ Bel w4 wx)
    case first =>
      have Yc := YZ0
      refine wp_region_noPanic ?_
      refine wp_region_last 5 (fun W => W.cell? ⟨w3.heap.size, 0, none⟩ = some ((.slice Atp0v x0.length ctp0v)) ∧ W.cell? ⟨w.heap.size + 1, 0, none⟩ = some (.int .i64 p1a) ∧ W.cell? ⟨w.heap.size + 1, 1, none⟩ = some (.int .i64 p1b) ∧ W.cell? ⟨w.heap.size + 1, 2, none⟩ = some (.int .i64 p1c)) (by kernel_rfl) (by kernel_rfl) (HSW _ (Bel.refl _).drew) (fun hHeld => ?_)
      refine' wpAnyH_take (i := 0) (oi := _) (v := _) ?hi26 (by kernel_rfl) (by kernel_rfl) (by kernel_rfl) (fun _ _ _ h => h) (Or.inl ⟨?hw26, ?hy26⟩) (by assumption) ?rest26
      case hi26 => simp only [List.getElem?_toArray, List.getElem?_cons_zero]; rfl
      case hw26 => rfl
      case hy26 =>
        intro W hSW
        try dsimp only at hSW
        go_simp
        try with_reducible rfl
      simp only [Act.put, List.setIfInBounds_toArray, List.set_cons_zero, List.set_cons_succ]
      refine' wpAnyH_take (i := 1) (oi := _) (v := _) ?hi27 (by kernel_rfl) (by kernel_rfl) (by kernel_rfl) (fun _ _ _ h => h) (Or.inl ⟨?hw27, ?hy27⟩) (by assumption) ?rest27
      case hi27 => simp only [List.getElem?_toArray, List.getElem?_cons_succ, List.getElem?_cons_zero]; rfl
      case hw27 => rfl
      case hy27 =>
        intro W hSW
        try dsimp only at hSW
        go_simp
        try with_reducible rfl
      simp only [Act.put, List.setIfInBounds_toArray, List.set_cons_zero, List.set_cons_succ]
      have B0 := (Bel.refl w4).drew
      refine wpAnyH_ready (rs := [2, 4]) (by kernel_rfl) (by simp) ?_
      refine' AllReadyH.cons (o := _) ?ho29 (fun K hK => ?step29) ?more29
      case ho29 => simp only [List.getElem?_toArray, List.getElem?_cons_succ, List.getElem?_cons_zero]; rfl
      case step29 =>
        go_simp
        go_at_call 15
        with_reducible refine (toFb1 p1a p1b p1c _).mono ?_
        rintro e wF ⟨rfl, hF⟩
        try go_wp2_with fail
        have B28 := B0.trans hF
        refine hK.out _ _ ?hS29 (fun hHeld => ?_)
        case hS29 => exact HSW _ B28
        clear hK K
        try simp only [Act.put, List.setIfInBounds_toArray, List.set_cons_zero, List.set_cons_succ]
        refine wpAnyH_ready (rs := [3, 4]) (by kernel_rfl) (by simp) ?_
        refine' AllReadyH.cons (o := _) ?ho31 (fun K hK => ?step31) ?more31
        case ho31 => simp only [List.getElem?_toArray, List.getElem?_cons_succ, List.getElem?_cons_zero]; rfl
        case step31 =>
          go_simp
          go_at_call 16
          with_reducible refine (recfI _ x0 p1a p1b p1c _ (((M0t_Z0.out.reads).keep B28)) np0v).mono ?_
          rintro e wR ⟨rr, rfl, Or, hR⟩
          rw [HD.out] at Or
          obtain ⟨Aq, cq, eq, _, _, _⟩ := Or.reads
          subst eq
          have LR := Or.loc hR.size
          try go_wp2_with fail
          have B30 := B28.trans hR
          refine hK.out _ _ ?hS31 (fun hHeld => ?_)
          case hS31 => exact HSW _ B30
          clear hK K
          try simp only [Act.put, List.setIfInBounds_toArray, List.set_cons_zero, List.set_cons_succ]
          refine wpAnyH_ready (rs := [4]) (by kernel_rfl) (by simp) ?_
          refine' AllReadyH.cons (o := _) ?ho33 (fun K hK => ?step33) ?more33
          case ho33 => simp only [List.getElem?_toArray, List.getElem?_cons_succ, List.getElem?_cons_zero]; rfl
          case step33 =>
            go_simp
            have B32 := B30.alloc (.cells #[.slice none 0 0] 40)
            have K32 := (Blk.new wR 40 #[.slice none 0 0])
            refine hK.out _ _ ?hS33 (fun hHeld => ?_)
            case hS33 => exact HSW _ B32
            clear hK K
            try simp only [Act.put, List.setIfInBounds_toArray, List.set_cons_zero, List.set_cons_succ]
            refine wpAnyH_done (by kernel_rfl) ?_ _
            simp only [headPost, List.drop_succ_cons, List.drop_zero]
            obtain ⟨ck, fk, zk⟩ := K32.facts
            have KZ := Blk.new wR 40 #[(.slice Aq D.length cq)]
            have LZ := LR.keep ((Bel.refl _).alloc (.cells #[(.slice Aq D.length cq)] 40))
            have YZ := B30.alloc (.cells #[(.slice Aq D.length cq)] 40)
            clear hHeld HSW
            go_wp2_with fail
            refine NoPanic.normal ?_
            try go_wp2_with fail
            go_meet
            exact ⟨_, _, _, _, rfl, KZ, LZ, Lib.hid ⟨B28.size, B30.size, KZ.lt, (.inr (Nat.le_refl _)), LZ.2.1, LZ.1⟩, YZ⟩
          exact AllReadyH.nil
        refine' AllReadyH.cons (o := _) ?ho34 (fun K hK => ?step34) ?more34
        case ho34 => simp only [List.getElem?_toArray, List.getElem?_cons_succ, List.getElem?_cons_zero]; rfl
        case step34 =>
          go_simp
          have B30 := B28.alloc (.cells #[.slice none 0 0] 40)
          have K30 := (Blk.new wF 40 #[.slice none 0 0])
          refine hK.out _ _ ?hS34 (fun hHeld => ?_)
          case hS34 => exact HSW _ B30
          clear hK K
          try simp only [Act.put, List.setIfInBounds_toArray, List.set_cons_zero, List.set_cons_succ]
          refine wpAnyH_ready (rs := [3]) (by kernel_rfl) (by simp) ?_
          refine' AllReadyH.cons (o := _) ?ho36 (fun K hK => ?step36) ?more36
          case ho36 => simp only [List.getElem?_toArray, List.getElem?_cons_succ, List.getElem?_cons_zero]; rfl
          case step36 =>
            go_simp
            go_at_call 16
            with_reducible refine (recfI _ x0 p1a p1b p1c _ (((M0t_Z0.out.reads).keep B30)) np0v).mono ?_
            rintro e wR ⟨rr, rfl, Or, hR⟩
            rw [HD.out] at Or
            obtain ⟨Aq, cq, eq, _, _, _⟩ := Or.reads
            subst eq
            have LR := Or.loc hR.size
            have zb := K30.lt
            try go_wp2_with fail
            have B35 := B30.trans hR
            have K35 := hR.keep K30
            refine hK.out _ _ ?hS36 (fun hHeld => ?_)
            case hS36 => exact HSW _ B35
            clear hK K
            try simp only [Act.put, List.setIfInBounds_toArray, List.set_cons_zero, List.set_cons_succ]
            refine wpAnyH_done (by kernel_rfl) ?_ _
            simp only [headPost, List.drop_succ_cons, List.drop_zero]
            obtain ⟨ck, fk, zk⟩ := K35.facts
            have KZ := K35.set 0 (.slice Aq D.length cq)
            have LZ := LR.store (p := ⟨wF.heap.size, 0, none⟩) (.slice Aq D.length cq) (.inl zb)
            have YZ := B35.setCell (p := ⟨wF.heap.size, 0, none⟩) (B28.size) (.slice Aq D.length cq)
            clear hHeld HSW
            go_wp2_with fail
            refine NoPanic.normal ?_
            try go_wp2_with fail
            go_meet
            exact ⟨_, _, _, _, rfl, KZ, LZ, Lib.hid ⟨B30.size, B28.size, KZ.lt, (.inl zb), LZ.2.1, LZ.1⟩, YZ⟩
          exact AllReadyH.nil
        exact AllReadyH.nil
      refine' AllReadyH.cons (o := _) ?ho37 (fun K hK => ?step37) ?more37
      case ho37 => simp only [List.getElem?_toArray, List.getElem?_cons_succ, List.getElem?_cons_zero]; rfl
      case step37 =>
        go_simp
        have B28 := ((Bel.refl w4).alloc (.cells #[.slice none 0 0] 40)).drew
        have K28 := (Blk.new w4 40 #[.slice none 0 0]).drew
        refine hK.out _ _ ?hS37 (fun hHeld => ?_)
        case hS37 => exact HSW _ B28
        clear hK K
        try simp only [Act.put, List.setIfInBounds_toArray, List.set_cons_zero, List.set_cons_succ]
        refine wpAnyH_ready (rs := [2]) (by kernel_rfl) (by simp) ?_
        refine' AllReadyH.cons (o := _) ?ho39 (fun K hK => ?step39) ?more39
        case ho39 => simp only [List.getElem?_toArray, List.getElem?_cons_succ, List.getElem?_cons_zero]; rfl
        case step39 =>
          go_simp
          go_at_call 15
          with_reducible refine (toFb1 p1a p1b p1c _).mono ?_
          rintro e wF ⟨rfl, hF⟩
          try go_wp2_with fail
          have B38 := B28.trans hF
          have K38 := hF.keep K28
          refine hK.out _ _ ?hS39 (fun hHeld => ?_)
          case hS39 => exact HSW _ B38
          clear hK K
          try simp only [Act.put, List.setIfInBounds_toArray, List.set_cons_zero, List.set_cons_succ]
          refine wpAnyH_ready (rs := [3]) (by kernel_rfl) (by simp) ?_
          refine' AllReadyH.cons (o := _) ?ho41 (fun K hK => ?step41) ?more41
          case ho41 => simp only [List.getElem?_toArray, List.getElem?_cons_succ, List.getElem?_cons_zero]; rfl
          case step41 =>
            go_simp
            go_at_call 16
            with_reducible refine (recfI _ x0 p1a p1b p1c _ (((M0t_Z0.out.reads).keep B38)) np0v).mono ?_
            rintro e wR ⟨rr, rfl, Or, hR⟩
            rw [HD.out] at Or
            obtain ⟨Aq, cq, eq, _, _, _⟩ := Or.reads
            subst eq
            have LR := Or.loc hR.size
            have zb := K38.lt
            try go_wp2_with fail
            have B40 := B38.trans hR
            have K40 := hR.keep K38
            refine hK.out _ _ ?hS41 (fun hHeld => ?_)
            case hS41 => exact HSW _ B40
            clear hK K
            try simp only [Act.put, List.setIfInBounds_toArray, List.set_cons_zero, List.set_cons_succ]
            refine wpAnyH_done (by kernel_rfl) ?_ _
            simp only [headPost, List.drop_succ_cons, List.drop_zero]
            obtain ⟨ck, fk, zk⟩ := K40.facts
            have KZ := K40.set 0 (.slice Aq D.length cq)
            have LZ := LR.store (p := ⟨w4.heap.size, 0, none⟩) (.slice Aq D.length cq) (.inl zb)
            have YZ := B40.setCell (p := ⟨w4.heap.size, 0, none⟩) (Nat.le_refl _) (.slice Aq D.length cq)
            clear hHeld HSW
            go_wp2_with fail
            refine NoPanic.normal ?_
            try go_wp2_with fail
            go_meet
            exact ⟨_, _, _, _, rfl, KZ, LZ, Lib.hid ⟨B38.size, Nat.le_refl _, KZ.lt, (.inl zb), LZ.2.1, LZ.1⟩, YZ⟩
          exact AllReadyH.nil
        exact AllReadyH.nil
      exact AllReadyH.nil
    case rest =>
      obtain ⟨bg, rg, log, hig, rfl, Gg_a, Ng, HBg, hbR⟩ := hcut
      clear HSW
      obtain ⟨w5, hw5⟩ : ∃ x, x = wc := ⟨_, rfl⟩
      subst hw5
      have X0_5 := hbR.keep X0_Z0
      have X1_5 := hbR.keep X1_Z0
      have Gs_5 := hbR.keep Gs_Z0
      have Z0_5 := hbR.keep Z0_a
      have Y5 : Bel w w5 := YZ0.trans hbR
      have Ns_5 := Ns_Z0.keep hbR
      have M0t_5 := M0t_Z0.keep hbR
      have s5 : Hid (w4.heap.size + 0 ≤ w5.heap.size) := Lib.hid hbR.sz0
      clear hbR
      obtain ⟨Arg, crg, erg, _, _, _⟩ := Ng.out.reads
      subst erg
      obtain ⟨ccGg, _, _⟩ := Gg_a.facts
      obtain ⟨ccGs, _, _⟩ := Gs_5.facts
      go_wp2_with fail
      refine (eqFbt_same  _ (D) _ _ (Ng.out.reads) (Ns_5.out.reads)).mono ?_
      rintro e w6 ⟨rfl, hb6⟩
      clear ccGg ccGs
      have X0_6 := hb6.keep X0_5
      have X1_6 := hb6.keep X1_5
      have Gs_6 := hb6.keep Gs_5
      have Z0_6 := hb6.keep Z0_5
      have Gg_6 := hb6.keep Gg_a
      have Y6 : Bel w w6 := Y5.trans hb6
      have Ns_6 := Ns_5.keep hb6
      have M0t_6 := M0t_5.keep hb6
      have Ng_6 := Ng.keep hb6
      have s6 : Hid (w5.heap.size + 0 ≤ w6.heap.size) := Lib.hid hb6.sz0
      obtain ⟨hcX06, _, hzX06⟩ := X0_6.facts
      have rX06o0 : w6.cell? ⟨w.heap.size, 0, none⟩ = some (p0v) := hcX06 0
      clear hcX06
      obtain ⟨hcZ06, _, hzZ06⟩ := Z0_6.facts
      have rZ06o0 : w6.cell? ⟨w3.heap.size, 0, none⟩ = some ((.slice Atp0v x0.length ctp0v)) := hcZ06 0
      clear hcZ06
      have Yd := Y6.drew
      go_wp2_with fail
      go_region_held3 (fun w' => w'.cell? ⟨w.heap.size, 0, none⟩ = some (p0v) ∧ w'.cell? ⟨w3.heap.size, 0, none⟩ = some ((.slice Atp0v x0.length ctp0v))) (first | exact ⟨hbT.cell1 hzX06 rX06o0, hbT.cell1 hzZ06 rZ06o0⟩ | exact ⟨hbE.cell1 (Nat.lt_of_lt_of_le hzX06 hbT.size) (hbT.cell1 hzX06 rX06o0), hbE.cell1 (Nat.lt_of_lt_of_le hzZ06 hbT.size) (hbT.cell1 hzZ06 rZ06o0)⟩ | go_keep) (first | (go_at_call 14; ((with_reducible refine (toFbt p0v x0 _ (by exact hp0v.keep Yd) np0v).mono ?_); rintro e wT ⟨qp0v, rfl, Op0vq, hbT⟩)) | (go_at_call 17; ((with_reducible refine (eqFbt_same  _ x0 _ _ (by exact (M0t_6.out.reads).keep (((Bel.refl _).drew).trans hbT)) (by exact Op0vq.reads)).mono ?_); rintro e wE ⟨rfl, hbE⟩)))
      have hbR := (((Bel.refl w6).drew).trans hbT).trans hbE
      clear rX06o0 rZ06o0 Yd
      obtain ⟨w7, hw7⟩ : ∃ x, x = wE := ⟨_, rfl⟩
      subst hw7
      have X0_7 := hbR.keep X0_6
      have X1_7 := hbR.keep X1_6
      have Gs_7 := hbR.keep Gs_6
      have Z0_7 := hbR.keep Z0_6
      have Gg_7 := hbR.keep Gg_6
      have Y7 : Bel w w7 := Y6.trans hbR
      have Ns_7 := Ns_6.keep hbR
      have M0t_7 := M0t_6.keep hbR
      have Ng_7 := Ng_6.keep hbR
      have s7 : Hid (w6.heap.size + 0 ≤ w7.heap.size) := Lib.hid hbR.sz0
      clear hbR hbT hbE
      obtain ⟨ccZ0, _, _⟩ := Z0_7.facts
      go_wp2_with fail
      refine (mkFbt  _ _ x0 _ _ _ M0t_7 (by omega) (by omega)).mono ?_
      rintro e w8 ⟨rfl, _, m8⟩
      clear ccZ0
      have X0_8 := X0_7.mid m8 (by have as1 := s1.out; have as2 := s2.out; have aHBs := HBs.out; have as3 := s3.out; have as4 := s4.out; have as5 := s5.out; have aHBg := HBg.out; have as6 := s6.out; have as7 := s7.out; (try simp only [World.size_alloc]); omega)
      have X1_8 := X1_7.mid m8 (by have as1 := s1.out; have as2 := s2.out; have aHBs := HBs.out; have as3 := s3.out; have as4 := s4.out; have as5 := s5.out; have aHBg := HBg.out; have as6 := s6.out; have as7 := s7.out; (try simp only [World.size_alloc]); omega)
      have Gs_8 := Gs_7.mid m8 (by have as1 := s1.out; have as2 := s2.out; have aHBs := HBs.out; have as3 := s3.out; have as4 := s4.out; have as5 := s5.out; have aHBg := HBg.out; have as6 := s6.out; have as7 := s7.out; (try simp only [World.size_alloc]); omega)
      have Z0_8 := Z0_7.mid m8 (by have as1 := s1.out; have as2 := s2.out; have aHBs := HBs.out; have as3 := s3.out; have as4 := s4.out; have as5 := s5.out; have aHBg := HBg.out; have as6 := s6.out; have as7 := s7.out; (try simp only [World.size_alloc]); omega)
      have Gg_8 := Gg_7.mid m8 (by have as1 := s1.out; have as2 := s2.out; have aHBs := HBs.out; have as3 := s3.out; have as4 := s4.out; have as5 := s5.out; have aHBg := HBg.out; have as6 := s6.out; have as7 := s7.out; (try simp only [World.size_alloc]); omega)
      have Y8 : Bel w w8 := Y7.mid m8 (by have as1 := s1.out; have as2 := s2.out; have aHBs := HBs.out; have as3 := s3.out; have as4 := s4.out; have as5 := s5.out; have aHBg := HBg.out; have as6 := s6.out; have as7 := s7.out; (try simp only [World.size_alloc]); omega)
      have Ns_8 := Ns_7.mid m8 (by have as1 := s1.out; have as2 := s2.out; have aHBs := HBs.out; have as3 := s3.out; have as4 := s4.out; have as5 := s5.out; have aHBg := HBg.out; have as6 := s6.out; have as7 := s7.out; (try simp only [World.size_alloc]); omega)
      have Ng_8 := Ng_7.mid m8 (by have as1 := s1.out; have as2 := s2.out; have aHBs := HBs.out; have as3 := s3.out; have as4 := s4.out; have as5 := s5.out; have aHBg := HBg.out; have as6 := s6.out; have as7 := s7.out; (try simp only [World.size_alloc]); omega)
      have s8 : Hid (w7.heap.size + 0 ≤ w8.heap.size) := Lib.hid m8.sz0
      have qk : decide ((1 + ((x0.length * 3 : Nat) : Int)) < 0) = false := decide_eq_false (by omega)
      obtain ⟨ccGg, _, _⟩ := Gg_8.facts
      obtain ⟨ccGs, _, _⟩ := Gs_8.facts
      go_wp2_with fail
      refine (eqFbt_same  _ (D) _ _ (Ng_8.out.reads) (Ns_8.out.reads)).mono ?_
      rintro e w9 ⟨rfl, hb9⟩
      clear ccGg ccGs
      have X0_9 := hb9.keep X0_8
      have X1_9 := hb9.keep X1_8
      have Gs_9 := hb9.keep Gs_8
      have Z0_9 := hb9.keep Z0_8
      have Gg_9 := hb9.keep Gg_8
      have Y9 : Bel w w9 := Y8.trans hb9
      have Ns_9 := Ns_8.keep hb9
      have Ng_9 := Ng_8.keep hb9
      have s9 : Hid (w8.heap.size + 0 ≤ w9.heap.size) := Lib.hid hb9.sz0
      obtain ⟨ccGg, _, _⟩ := Gg_9.facts
      go_wp2_with fail
      refine (mkFbt  _ 1 (D) _ _ _ Ng_9 (by omega) (by omega)).mono ?_
      rintro e w10 ⟨rfl, Lm, m10⟩
      clear ccGg
      have X0_10 := X0_9.mid m10 (by have as1 := s1.out; have as2 := s2.out; have aHBs := HBs.out; have as3 := s3.out; have as4 := s4.out; have as5 := s5.out; have aHBg := HBg.out; have as6 := s6.out; have as7 := s7.out; have as8 := s8.out; have as9 := s9.out; (try simp only [World.size_alloc]); omega)
      have X1_10 := X1_9.mid m10 (by have as1 := s1.out; have as2 := s2.out; have aHBs := HBs.out; have as3 := s3.out; have as4 := s4.out; have as5 := s5.out; have aHBg := HBg.out; have as6 := s6.out; have as7 := s7.out; have as8 := s8.out; have as9 := s9.out; (try simp only [World.size_alloc]); omega)
      have Gs_10 := Gs_9.mid m10 (by have as1 := s1.out; have as2 := s2.out; have aHBs := HBs.out; have as3 := s3.out; have as4 := s4.out; have as5 := s5.out; have aHBg := HBg.out; have as6 := s6.out; have as7 := s7.out; have as8 := s8.out; have as9 := s9.out; (try simp only [World.size_alloc]); omega)
      have Z0_10 := Z0_9.mid m10 (by have as1 := s1.out; have as2 := s2.out; have aHBs := HBs.out; have as3 := s3.out; have as4 := s4.out; have as5 := s5.out; have aHBg := HBg.out; have as6 := s6.out; have as7 := s7.out; have as8 := s8.out; have as9 := s9.out; (try simp only [World.size_alloc]); omega)
      have Gg_10 := Gg_9.mid m10 (by have as1 := s1.out; have as2 := s2.out; have aHBs := HBs.out; have as3 := s3.out; have as4 := s4.out; have as5 := s5.out; have aHBg := HBg.out; have as6 := s6.out; have as7 := s7.out; have as8 := s8.out; have as9 := s9.out; (try simp only [World.size_alloc]); omega)
      have Y10 : Bel w w10 := Y9.mid m10 (by have as1 := s1.out; have as2 := s2.out; have aHBs := HBs.out; have as3 := s3.out; have as4 := s4.out; have as5 := s5.out; have aHBg := HBg.out; have as6 := s6.out; have as7 := s7.out; have as8 := s8.out; have as9 := s9.out; (try simp only [World.size_alloc]); omega)
      have Ns_10 := Ns_9.mid m10 (by have as1 := s1.out; have as2 := s2.out; have aHBs := HBs.out; have as3 := s3.out; have as4 := s4.out; have as5 := s5.out; have aHBg := HBg.out; have as6 := s6.out; have as7 := s7.out; have as8 := s8.out; have as9 := s9.out; (try simp only [World.size_alloc]); omega)
      have s10 : Hid (w9.heap.size + 0 ≤ w10.heap.size) := Lib.hid m10.sz0
      have qm : decide (1 + ((((D).length * 3 : Nat) : Nat) : Int) < 0) = false := decide_eq_false (by omega)
      obtain ⟨ccGg, _, _⟩ := Gg_10.facts
      go_wp2_with fail
      refine (hdFbt  _ 1 (D).length _ (Lm.out.reads) (by omega) (by omega)).mono ?_
      rintro e w11 ⟨rfl, hb11⟩
      clear ccGg
      have X0_11 := hb11.keep X0_10
      have X1_11 := hb11.keep X1_10
      have Gs_11 := hb11.keep Gs_10
      have Z0_11 := hb11.keep Z0_10
      have Gg_11 := hb11.keep Gg_10
      have Y11 : Bel w w11 := Y10.trans hb11
      have Ns_11 := Ns_10.keep hb11
      have Lm_11 := Lm.keep hb11
      have s11 : Hid (w10.heap.size + 0 ≤ w11.heap.size) := Lib.hid hb11.sz0
      go_upto_region 24 with fail
      obtain ⟨hcX011, _, hzX011⟩ := X0_11.facts
      have rX011o0 : w11.cell? ⟨w.heap.size, 0, none⟩ = some (p0v) := hcX011 0
      clear hcX011
      obtain ⟨hcX111, _, hzX111⟩ := X1_11.facts
      have rX111o0 : w11.cell? ⟨w.heap.size + 1, 0, none⟩ = some (.int .i64 p1a) := hcX111 0
      have rX111o1 : w11.cell? ⟨w.heap.size + 1, 1, none⟩ = some (.int .i64 p1b) := hcX111 1
      have rX111o2 : w11.cell? ⟨w.heap.size + 1, 2, none⟩ = some (.int .i64 p1c) := hcX111 2
      clear hcX111
      have HSW : ∀ W, Bel w11 W → W.cell? ⟨w.heap.size, 0, none⟩ = some (p0v) ∧ W.cell? ⟨w.heap.size + 1, 0, none⟩ = some (.int .i64 p1a) ∧ W.cell? ⟨w.heap.size + 1, 1, none⟩ = some (.int .i64 p1b) ∧ W.cell? ⟨w.heap.size + 1, 2, none⟩ = some (.int .i64 p1c) := fun W b => ⟨b.cell1 hzX011 rX011o0, b.cell1 hzX111 rX111o0, b.cell1 hzX111 rX111o1, b.cell1 hzX111 rX111o2⟩
      clear rX011o0 rX111o0 rX111o1 rX111o2
      go_cut [12] from 60 to 64 (fun ss wx => ∃ (bb : Nat) (rr : Value) (lo hi : Nat), ss = .pointer (some ⟨bb, 0, none⟩) ∧ Blk wx bb 40 #[rr] ∧ Loc lo hi (fun u => OTn 43 u lo hi rr D) wx ∧ Hid (w11.heap.size ≤ lo ∧ w11.heap.size ≤ bb ∧ bb < wx.heap.size ∧ (bb < lo ∨ hi ≤ bb) ∧ hi ≤ wx.heap.size ∧ lo ≤ hi) ∧ Bel w11 wx)
      case first =>
        have Yc := Y11
        refine wp_region_noPanic ?_
        refine wp_region_last 6 (fun W => W.cell? ⟨w.heap.size, 0, none⟩ = some (p0v) ∧ W.cell? ⟨w.heap.size + 1, 0, none⟩ = some (.int .i64 p1a) ∧ W.cell? ⟨w.heap.size + 1, 1, none⟩ = some (.int .i64 p1b) ∧ W.cell? ⟨w.heap.size + 1, 2, none⟩ = some (.int .i64 p1c)) (by kernel_rfl) (by kernel_rfl) (HSW _ (Bel.refl _).drew) (fun hHeld => ?_)
        refine' wpAnyH_take (i := 0) (oi := _) (v := _) ?hi42 (by kernel_rfl) (by kernel_rfl) (by kernel_rfl) (fun _ _ _ h => h) (Or.inl ⟨?hw42, ?hy42⟩) (by assumption) ?rest42
        case hi42 => simp only [List.getElem?_toArray, List.getElem?_cons_zero]; rfl
        case hw42 => rfl
        case hy42 =>
          intro W hSW
          try dsimp only at hSW
          go_simp
          try with_reducible rfl
        simp only [Act.put, List.setIfInBounds_toArray, List.set_cons_zero, List.set_cons_succ]
        refine' wpAnyH_take (i := 2) (oi := _) (v := _) ?hi43 (by kernel_rfl) (by kernel_rfl) (by kernel_rfl) (fun _ _ _ h => h) (Or.inl ⟨?hw43, ?hy43⟩) (by assumption) ?rest43
        case hi43 => simp only [List.getElem?_toArray, List.getElem?_cons_succ, List.getElem?_cons_zero]; rfl
        case hw43 => rfl
        case hy43 =>
          intro W hSW
          try dsimp only at hSW
          go_simp
          try with_reducible rfl
        simp only [Act.put, List.setIfInBounds_toArray, List.set_cons_zero, List.set_cons_succ]
        have B0 := (Bel.refl w11).drew
        refine wpAnyH_ready (rs := [1, 5]) (by kernel_rfl) (by simp) ?_
        refine' AllReadyH.cons (o := _) ?ho45 (fun K hK => ?step45) ?more45
        case ho45 => simp only [List.getElem?_toArray, List.getElem?_cons_succ, List.getElem?_cons_zero]; rfl
        case step45 =>
          go_simp
          go_at_call 14
          with_reducible refine (toFbt p0v x0 _ (hp0v.keep (Yc.trans B0)) np0v).mono ?_
          rintro e wT ⟨tp, rfl, Otp, hT⟩
          try go_wp2_with fail
          have B44 := B0.trans hT
          refine hK.out _ _ ?hS45 (fun hHeld => ?_)
          case hS45 => exact HSW _ B44
          clear hK K
          try simp only [Act.put, List.setIfInBounds_toArray, List.set_cons_zero, List.set_cons_succ]
          refine wpAnyH_ready (rs := [3, 5]) (by kernel_rfl) (by simp) ?_
          refine' AllReadyH.cons (o := _) ?ho47 (fun K hK => ?step47) ?more47
          case ho47 => simp only [List.getElem?_toArray, List.getElem?_cons_succ, List.getElem?_cons_zero]; rfl
          case step47 =>
            go_simp
            go_at_call 15
            with_reducible refine (toFb1 p1a p1b p1c _).mono ?_
            rintro e wF ⟨rfl, hF⟩
            try go_wp2_with fail
            have B46 := B44.trans hF
            refine hK.out _ _ ?hS47 (fun hHeld => ?_)
            case hS47 => exact HSW _ B46
            clear hK K
            try simp only [Act.put, List.setIfInBounds_toArray, List.set_cons_zero, List.set_cons_succ]
            refine wpAnyH_ready (rs := [4, 5]) (by kernel_rfl) (by simp) ?_
            refine' AllReadyH.cons (o := _) ?ho49 (fun K hK => ?step49) ?more49
            case ho49 => simp only [List.getElem?_toArray, List.getElem?_cons_succ, List.getElem?_cons_zero]; rfl
            case step49 =>
              go_simp
              go_at_call 16
              with_reducible refine (recfI _ x0 p1a p1b p1c _ (((Otp.reads).keep hF)) np0v).mono ?_
              rintro e wR ⟨rr, rfl, Or, hR⟩
              rw [HD.out] at Or
              obtain ⟨Aq, cq, eq, _, _, _⟩ := Or.reads
              subst eq
              have LR := Or.loc hR.size
              try go_wp2_with fail
              have B48 := B46.trans hR
              refine hK.out _ _ ?hS49 (fun hHeld => ?_)
              case hS49 => exact HSW _ B48
              clear hK K
              try simp only [Act.put, List.setIfInBounds_toArray, List.set_cons_zero, List.set_cons_succ]
              refine wpAnyH_ready (rs := [5]) (by kernel_rfl) (by simp) ?_
              refine' AllReadyH.cons (o := _) ?ho51 (fun K hK => ?step51) ?more51
              case ho51 => simp only [List.getElem?_toArray, List.getElem?_cons_succ, List.getElem?_cons_zero]; rfl
              case step51 =>
                go_simp
                have B50 := B48.alloc (.cells #[.slice none 0 0] 40)
                have K50 := (Blk.new wR 40 #[.slice none 0 0])
                refine hK.out _ _ ?hS51 (fun hHeld => ?_)
                case hS51 => exact HSW _ B50
                clear hK K
                try simp only [Act.put, List.setIfInBounds_toArray, List.set_cons_zero, List.set_cons_succ]
                refine wpAnyH_done (by kernel_rfl) ?_ _
                simp only [headPost, List.drop_succ_cons, List.drop_zero]
                obtain ⟨ck, fk, zk⟩ := K50.facts
                have KZ := Blk.new wR 40 #[(.slice Aq D.length cq)]
                have LZ := LR.keep ((Bel.refl _).alloc (.cells #[(.slice Aq D.length cq)] 40))
                have YZ := B48.alloc (.cells #[(.slice Aq D.length cq)] 40)
                clear hHeld HSW
                go_wp2_with fail
                refine NoPanic.normal ?_
                try go_wp2_with fail
                go_meet
                exact ⟨_, _, _, _, rfl, KZ, LZ, Lib.hid ⟨B46.size, B48.size, KZ.lt, (.inr (Nat.le_refl _)), LZ.2.1, LZ.1⟩, YZ⟩
              exact AllReadyH.nil
            refine' AllReadyH.cons (o := _) ?ho52 (fun K hK => ?step52) ?more52
            case ho52 => simp only [List.getElem?_toArray, List.getElem?_cons_succ, List.getElem?_cons_zero]; rfl
            case step52 =>
              go_simp
              have B48 := B46.alloc (.cells #[.slice none 0 0] 40)
              have K48 := (Blk.new wF 40 #[.slice none 0 0])
              refine hK.out _ _ ?hS52 (fun hHeld => ?_)
              case hS52 => exact HSW _ B48
              clear hK K
              try simp only [Act.put, List.setIfInBounds_toArray, List.set_cons_zero, List.set_cons_succ]
              refine wpAnyH_ready (rs := [4]) (by kernel_rfl) (by simp) ?_
              refine' AllReadyH.cons (o := _) ?ho54 (fun K hK => ?step54) ?more54
              case ho54 => simp only [List.getElem?_toArray, List.getElem?_cons_succ, List.getElem?_cons_zero]; rfl
              case step54 =>
                go_simp
                go_at_call 16
                with_reducible refine (recfI _ x0 p1a p1b p1c _ ((((Otp.reads).keep hF).keep ((Bel.refl _).alloc _))) np0v).mono ?_
                rintro e wR ⟨rr, rfl, Or, hR⟩
                rw [HD.out] at Or
                obtain ⟨Aq, cq, eq, _, _, _⟩ := Or.reads
                subst eq
                have LR := Or.loc hR.size
                have zb := K48.lt
                try go_wp2_with fail
                have B53 := B48.trans hR
                have K53 := hR.keep K48
                refine hK.out _ _ ?hS54 (fun hHeld => ?_)
                case hS54 => exact HSW _ B53
                clear hK K
                try simp only [Act.put, List.setIfInBounds_toArray, List.set_cons_zero, List.set_cons_succ]
                refine wpAnyH_done (by kernel_rfl) ?_ _
                simp only [headPost, List.drop_succ_cons, List.drop_zero]
                obtain ⟨ck, fk, zk⟩ := K53.facts
                have KZ := K53.set 0 (.slice Aq D.length cq)
                have LZ := LR.store (p := ⟨wF.heap.size, 0, none⟩) (.slice Aq D.length cq) (.inl zb)
                have YZ := B53.setCell (p := ⟨wF.heap.size, 0, none⟩) (B46.size) (.slice Aq D.length cq)
                clear hHeld HSW
                go_wp2_with fail
                refine NoPanic.normal ?_
                try go_wp2_with fail
                go_meet
                exact ⟨_, _, _, _, rfl, KZ, LZ, Lib.hid ⟨B48.size, B46.size, KZ.lt, (.inl zb), LZ.2.1, LZ.1⟩, YZ⟩
              exact AllReadyH.nil
            exact AllReadyH.nil
          refine' AllReadyH.cons (o := _) ?ho55 (fun K hK => ?step55) ?more55
          case ho55 => simp only [List.getElem?_toArray, List.getElem?_cons_succ, List.getElem?_cons_zero]; rfl
          case step55 =>
            go_simp
            have B46 := B44.alloc (.cells #[.slice none 0 0] 40)
            have K46 := (Blk.new wT 40 #[.slice none 0 0])
            refine hK.out _ _ ?hS55 (fun hHeld => ?_)
            case hS55 => exact HSW _ B46
            clear hK K
            try simp only [Act.put, List.setIfInBounds_toArray, List.set_cons_zero, List.set_cons_succ]
            refine wpAnyH_ready (rs := [3]) (by kernel_rfl) (by simp) ?_
            refine' AllReadyH.cons (o := _) ?ho57 (fun K hK => ?step57) ?more57
            case ho57 => simp only [List.getElem?_toArray, List.getElem?_cons_succ, List.getElem?_cons_zero]; rfl
            case step57 =>
              go_simp
              go_at_call 15
              with_reducible refine (toFb1 p1a p1b p1c _).mono ?_
              rintro e wF ⟨rfl, hF⟩
              try go_wp2_with fail
              have B56 := B46.trans hF
              have K56 := hF.keep K46
              refine hK.out _ _ ?hS57 (fun hHeld => ?_)
              case hS57 => exact HSW _ B56
              clear hK K
              try simp only [Act.put, List.setIfInBounds_toArray, List.set_cons_zero, List.set_cons_succ]
              refine wpAnyH_ready (rs := [4]) (by kernel_rfl) (by simp) ?_
              refine' AllReadyH.cons (o := _) ?ho59 (fun K hK => ?step59) ?more59
              case ho59 => simp only [List.getElem?_toArray, List.getElem?_cons_succ, List.getElem?_cons_zero]; rfl
              case step59 =>
                go_simp
                go_at_call 16
                with_reducible refine (recfI _ x0 p1a p1b p1c _ ((((Otp.reads).keep ((Bel.refl _).alloc _)).keep hF)) np0v).mono ?_
                rintro e wR ⟨rr, rfl, Or, hR⟩
                rw [HD.out] at Or
                obtain ⟨Aq, cq, eq, _, _, _⟩ := Or.reads
                subst eq
                have LR := Or.loc hR.size
                have zb := K56.lt
                try go_wp2_with fail
                have B58 := B56.trans hR
                have K58 := hR.keep K56
                refine hK.out _ _ ?hS59 (fun hHeld => ?_)
                case hS59 => exact HSW _ B58
                clear hK K
                try simp only [Act.put, List.setIfInBounds_toArray, List.set_cons_zero, List.set_cons_succ]
                refine wpAnyH_done (by kernel_rfl) ?_ _
                simp only [headPost, List.drop_succ_cons, List.drop_zero]
                obtain ⟨ck, fk, zk⟩ := K58.facts
                have KZ := K58.set 0 (.slice Aq D.length cq)
                have LZ := LR.store (p := ⟨wT.heap.size, 0, none⟩) (.slice Aq D.length cq) (.inl zb)
                have YZ := B58.setCell (p := ⟨wT.heap.size, 0, none⟩) (B44.size) (.slice Aq D.length cq)
                clear hHeld HSW
                go_wp2_with fail
                refine NoPanic.normal ?_
                try go_wp2_with fail
                go_meet
                exact ⟨_, _, _, _, rfl, KZ, LZ, Lib.hid ⟨B56.size, B44.size, KZ.lt, (.inl zb), LZ.2.1, LZ.1⟩, YZ⟩
              exact AllReadyH.nil
            exact AllReadyH.nil
          exact AllReadyH.nil
        refine' AllReadyH.cons (o := _) ?ho60 (fun K hK => ?step60) ?more60
        case ho60 => simp only [List.getElem?_toArray, List.getElem?_cons_succ, List.getElem?_cons_zero]; rfl
        case step60 =>
          go_simp
          have B44 := ((Bel.refl w11).alloc (.cells #[.slice none 0 0] 40)).drew
          have K44 := (Blk.new w11 40 #[.slice none 0 0]).drew
          refine hK.out _ _ ?hS60 (fun hHeld => ?_)
          case hS60 => exact HSW _ B44
          clear hK K
          try simp only [Act.put, List.setIfInBounds_toArray, List.set_cons_zero, List.set_cons_succ]
          refine wpAnyH_ready (rs := [1]) (by kernel_rfl) (by simp) ?_
          refine' AllReadyH.cons (o := _) ?ho62 (fun K hK => ?step62) ?more62
          case ho62 => simp only [List.getElem?_toArray, List.getElem?_cons_succ, List.getElem?_cons_zero]; rfl
          case step62 =>
            go_simp
            go_at_call 14
            with_reducible refine (toFbt p0v x0 _ (hp0v.keep (Yc.trans B44)) np0v).mono ?_
            rintro e wT ⟨tp, rfl, Otp, hT⟩
            try go_wp2_with fail
            have B61 := B44.trans hT
            have K61 := hT.keep K44
            refine hK.out _ _ ?hS62 (fun hHeld => ?_)
            case hS62 => exact HSW _ B61
            clear hK K
            try simp only [Act.put, List.setIfInBounds_toArray, List.set_cons_zero, List.set_cons_succ]
            refine wpAnyH_ready (rs := [3]) (by kernel_rfl) (by simp) ?_
            refine' AllReadyH.cons (o := _) ?ho64 (fun K hK => ?step64) ?more64
            case ho64 => simp only [List.getElem?_toArray, List.getElem?_cons_succ, List.getElem?_cons_zero]; rfl
            case step64 =>
              go_simp
              go_at_call 15
              with_reducible refine (toFb1 p1a p1b p1c _).mono ?_
              rintro e wF ⟨rfl, hF⟩
              try go_wp2_with fail
              have B63 := B61.trans hF
              have K63 := hF.keep K61
              refine hK.out _ _ ?hS64 (fun hHeld => ?_)
              case hS64 => exact HSW _ B63
              clear hK K
              try simp only [Act.put, List.setIfInBounds_toArray, List.set_cons_zero, List.set_cons_succ]
              refine wpAnyH_ready (rs := [4]) (by kernel_rfl) (by simp) ?_
              refine' AllReadyH.cons (o := _) ?ho66 (fun K hK => ?step66) ?more66
              case ho66 => simp only [List.getElem?_toArray, List.getElem?_cons_succ, List.getElem?_cons_zero]; rfl
              case step66 =>
                go_simp
                go_at_call 16
                with_reducible refine (recfI _ x0 p1a p1b p1c _ (((Otp.reads).keep hF)) np0v).mono ?_
                rintro e wR ⟨rr, rfl, Or, hR⟩
                rw [HD.out] at Or
                obtain ⟨Aq, cq, eq, _, _, _⟩ := Or.reads
                subst eq
                have LR := Or.loc hR.size
                have zb := K63.lt
                try go_wp2_with fail
                have B65 := B63.trans hR
                have K65 := hR.keep K63
                refine hK.out _ _ ?hS66 (fun hHeld => ?_)
                case hS66 => exact HSW _ B65
                clear hK K
                try simp only [Act.put, List.setIfInBounds_toArray, List.set_cons_zero, List.set_cons_succ]
                refine wpAnyH_done (by kernel_rfl) ?_ _
                simp only [headPost, List.drop_succ_cons, List.drop_zero]
                obtain ⟨ck, fk, zk⟩ := K65.facts
                have KZ := K65.set 0 (.slice Aq D.length cq)
                have LZ := LR.store (p := ⟨w11.heap.size, 0, none⟩) (.slice Aq D.length cq) (.inl zb)
                have YZ := B65.setCell (p := ⟨w11.heap.size, 0, none⟩) (Nat.le_refl _) (.slice Aq D.length cq)
                clear hHeld HSW
                go_wp2_with fail
                refine NoPanic.normal ?_
                try go_wp2_with fail
                go_meet
                exact ⟨_, _, _, _, rfl, KZ, LZ, Lib.hid ⟨B63.size, Nat.le_refl _, KZ.lt, (.inl zb), LZ.2.1, LZ.1⟩, YZ⟩
              exact AllReadyH.nil
            exact AllReadyH.nil
          exact AllReadyH.nil
        exact AllReadyH.nil
      case rest =>
        obtain ⟨bh, rh, loh, hih, rfl, Gh_a, Nh, HBh, hbR⟩ := hcut
        clear HSW
        obtain ⟨w12, hw12⟩ : ∃ x, x = wc := ⟨_, rfl⟩
        subst hw12
        have X0_12 := hbR.keep X0_11
        have X1_12 := hbR.keep X1_11
        have Gs_12 := hbR.keep Gs_11
        have Z0_12 := hbR.keep Z0_11
        have Gg_12 := hbR.keep Gg_11
        have Y12 : Bel w w12 := Y11.trans hbR
        have Ns_12 := Ns_11.keep hbR
        have Lm_12 := Lm_11.keep hbR
        have s12 : Hid (w11.heap.size + 0 ≤ w12.heap.size) := Lib.hid hbR.sz0
        clear hbR
        obtain ⟨Arh, crh, erh, _, _, _⟩ := Nh.out.reads
        subst erh
        obtain ⟨ccGh, _, _⟩ := Gh_a.facts
        obtain ⟨ccGs, _, _⟩ := Gs_12.facts
        go_wp2_with fail
        refine (eqFbt_same  _ (D) _ _ (Nh.out.reads) (Ns_12.out.reads)).mono ?_
        rintro e w13 ⟨rfl, hb13⟩
        clear ccGh ccGs
        have X0_13 := hb13.keep X0_12
        have X1_13 := hb13.keep X1_12
        have Gs_13 := hb13.keep Gs_12
        have Z0_13 := hb13.keep Z0_12
        have Gg_13 := hb13.keep Gg_12
        have Gh_13 := hb13.keep Gh_a
        have Y13 : Bel w w13 := Y12.trans hb13
        have Ns_13 := Ns_12.keep hb13
        have Lm_13 := Lm_12.keep hb13
        have Nh_13 := Nh.keep hb13
        have s13 : Hid (w12.heap.size + 0 ≤ w13.heap.size) := Lib.hid hb13.sz0
        obtain ⟨ccGg, _, _⟩ := Gg_13.facts
        go_wp2_with fail
        refine (hdFbt  _ 1 (D).length _ (Lm_13.out.reads) (by omega) (by omega)).mono ?_
        rintro e w14 ⟨rfl, hb14⟩
        clear ccGg
        have X0_14 := hb14.keep X0_13
        have X1_14 := hb14.keep X1_13
        have Gs_14 := hb14.keep Gs_13
        have Z0_14 := hb14.keep Z0_13
        have Gg_14 := hb14.keep Gg_13
        have Gh_14 := hb14.keep Gh_13
        have Y14 : Bel w w14 := Y13.trans hb14
        have Ns_14 := Ns_13.keep hb14
        have Lm_14 := Lm_13.keep hb14
        have Nh_14 := Nh_13.keep hb14
        have s14 : Hid (w13.heap.size + 0 ≤ w14.heap.size) := Lib.hid hb14.sz0
        go_wp2
        go_ret
        exact ⟨rfl, Y14⟩

set_option maxRecDepth 100000 in
theorem lifted (os : Os) (started : os.Started) (H : Type) (enc : TypeId × Value → H) :
    ReturnsInHanded {} Try.checked os 4 .any (Rows.fnExactRecordFeedbackSpec.pre6 enc Try.prog Try.f4 Rows.fnExactRecordFeedbackRow.domain false) (Rows.fnExactRecordFeedbackSpec.post enc Try.prog Try.f4 false true false false) := by
  refine returnsInHanded_of_change (C := Try.checked) own started (by kernel_rfl) Try.func4
    (ChangeSpec.witness6 (enc := enc) (C := Try.checked) false ⟨#[], #[.agg #[.slice none 0 0], .agg #[.int .i64 0, .int .i64 0, .int .i64 0]], []⟩ 8 (by kernel_rfl) (by kernel_rfl) (by kernel_rfl) (by kernel_rfl)) ?_
  intro W base args ds gs before hval0 hW hcnd _
  have hval : ∀ (j : Nat) t v, Try.f4.params[j]? = some t → args[j]? = some v → Value.okWide Try.prog W .any base t v := hval0
  have hW' := hW
  obtain ⟨p, q, hA0, hV, rfl, hfz, hnd⟩ := hW
  have hA : DataW.TrodAll enc Try.prog W 0 (fun _ => true) true Try.f4.params.toList args.toList ds p := hA0
  rw [Try.params4] at hA hval
  obtain ⟨v0, vs0, d0, ds0, p0, q0, hargs, rfl, rfl, h0, r0⟩ := trodAll_cons hA
  obtain ⟨v1, vs1, d1, ds1, p1, q1, rfl, rfl, rfl, h1, r1⟩ := trodAll_cons r0
  obtain ⟨rfl, rfl, rfl⟩ := trodAll_nil r1
  obtain rfl : args = #[v0, v1] := by cases args; simp_all
  obtain ⟨rfl, rfl⟩ := trodVars_none hV
  have k0 := h0
  have lt0 : ∀ x ∈ p0, x.block < W.heap.size := by obtain ⟨m, hm⟩ := k0; exact DataW.trod_lt m _ _ _ hm
  obtain ⟨x0, f0⟩ := openFbt (hval 0 34 v0 rfl rfl) h0
  have k1 := h1
  have lt1 : ∀ x ∈ p1, x.block < W.heap.size := by obtain ⟨m, hm⟩ := k1; exact DataW.trod_lt m _ _ _ hm
  obtain ⟨x1, f1⟩ := openFb (hval 1 36 v1 rfl rfl) h1
  clear hA0 hval0
  refine (walk W v0 x0 f0 v1 x1 f1).mono fun e W' ⟨he, bel⟩ => ?_
  subst he
  exact ⟨_, rfl, _, _, _, [], _, [], hW', trodAll_mk1 (shut_bool Try.underlying4 _), (trodAll_cons_mk (Below.trod laidOut (by kernel_rfl) (of_decide_eq_true (by kernel_rfl)) k0 bel lt0) (trodAll_cons_mk (Below.trod laidOut (by kernel_rfl) (of_decide_eq_true (by kernel_rfl)) k1 bel lt1) trodAll_mk0)), rfl, bel.frame _, fun h => by cases h⟩

theorem over : Rows.fnExactRecordFeedbackRow.holds Try.pinned (OpenSpec.ofChange Rows.fnExactRecordFeedbackSpec) :=
  OpenClaim.holds_of_wide 4 Try.f4 rfl rfl rfl rfl rfl rfl rfl ⟨rfl, rfl, rfl, rfl, rfl⟩ rfl rfl rfl rfl rfl (by kernel_rfl) Try.func4 (by kernel_rfl)
    (of_decide_eq_true (by kernel_rfl)) (by unfold Func.isWrapper; first | (rw [if_pos (by decide +kernel)]; kernel_rfl) | (rw [if_neg (by decide +kernel)]; exact ⟨rfl, rfl⟩))
    (fun os started H enc _ => lifted os started H enc)

theorem proved : Rows.FnExactRecordFeedbackSaid := over
#print axioms proved
end Go.Proofs.Ytchodlfkoafeaaa.fnExactRecordFeedback
