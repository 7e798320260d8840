/-
  Windows: the plain law: a start adds one active generation, a finish takes one away, and a window that can neither start nor finish is finished. Nothing of the program is run here.
-/
import Derived.Test.YtchodlfkoafeaaaWin5
namespace Go.Proofs.Ytchodlfkoafeaaa
open Go.ChangeShapes Go.WideShapes Go.ChangeAt Go.RowKit
set_option linter.unusedVariables false
set_option maxRecDepth 100000

theorem actK_shift (b d : Int) : ∀ k, actK b d k = (actK 0 d k).map (fun x => b + x)
  | 0 => rfl
  | k + 1 => by
    simp only [actK]
    rw [actK_shift b d k, List.map_append]
    split
    · simp
    · simp
theorem slide_shift : ∀ (f : Nat) (b d : Int), slide f b d = (b + (slide f 0 d).1, (slide f 0 d).2)
  | 0, b, d => by simp [slide]
  | f + 1, b, d => by
    by_cases h : d % 2 = 1
    · rw [slide_odd f b d h, slide_odd f 0 d h, slide_shift f (b + 1), slide_shift f (0 + 1)]
      simp only [Int.add_assoc, Int.zero_add]
    · rw [slide_even _ b d h, slide_even _ 0 d h]; simp
theorem bit_and (x : Int) : (bits .and .i64 x 1 == 0) = (x % 2 == 0) := by rw [and1]
theorem actK_mem {d x : Int} : ∀ {k : Nat}, x ∈ actK 0 d k → ∃ j : Nat, j < k ∧ x = (j : Int) ∧ d / 2 ^ j % 2 = 0
  | 0, h => by simp [actK] at h
  | k + 1, h => by
    simp only [actK] at h
    rcases List.mem_append.1 h with h | h
    · obtain ⟨j, h1, h2, h3⟩ := actK_mem h
      exact ⟨j, by omega, h2, h3⟩
    · split at h
      · rename_i hb
        rw [bit_and] at hb
        have e := List.mem_singleton.1 h
        exact ⟨k, by omega, by omega, by simpa using hb⟩
      · cases h
theorem winB_mk {b n d t : Int} (h : 0 ≤ t ∧ t ≤ 60 ∧ 0 ≤ b ∧ b ≤ n ∧ n ≤ t ∧ n - b ≤ 4 ∧ 0 ≤ d ∧ d ≤ 2 ^ (n - b).toNat - 1) (h2 : d % 2 = 0) : winB b n d t = true := by
  rw [winB_in h, bit_and, h2]; rfl
theorem winB_all {b n d t : Int} (h : winB b n d t = true) : (0 ≤ t ∧ t ≤ 60 ∧ 0 ≤ b ∧ b ≤ n ∧ n ≤ t ∧ n - b ≤ 4) ∧ (0 ≤ d ∧ d ≤ 2 ^ (n - b).toNat - 1) ∧ d % 2 = 0 := by
  obtain ⟨h1, h2, h3⟩ := winB_facts h
  rw [bit_and] at h3
  exact ⟨h1, h2, by simpa using h3⟩
theorem act_yes {b n d t : Int} (h : winB b n d t = true) : activeL b n d t = actK b d (n - b).toNat := if_pos h
theorem win_start {b n d t : Int} (hv : winB b n d t = true) (h1 : n ≠ t) (h2 : n - b ≠ 4) : winB b (n + 1) d t = true ∧ activeL b (n + 1) d t = activeL b n d t ++ [n] := by
  obtain ⟨⟨a1, a2, a3, a4, a5, a6⟩, ⟨a7, a8⟩, a9⟩ := winB_all hv
  obtain ⟨k, hk⟩ : ∃ k : Nat, n - b = (k : Int) := Int.eq_ofNat_of_zero_le (by omega)
  have hk1 : (n + 1 - b).toNat = k + 1 := by omega
  rw [show (n - b).toNat = k by omega] at a8
  have hp : (2 : Int) ^ (k + 1) = 2 ^ k * 2 := Int.pow_succ _ _
  have hp0 : (0 : Int) < 2 ^ k := Int.pow_pos (by omega)
  have hv2 : winB b (n + 1) d t = true := winB_mk ⟨a1, a2, a3, by omega, by omega, by omega, a7, by rw [hk1, hp]; omega⟩ a9
  refine ⟨hv2, ?_⟩
  rw [act_yes hv2, act_yes hv, hk1, show (n - b).toNat = k by omega]
  have hb : (bits .and .i64 (d / 2 ^ k) 1 == 0) = true := by
    rw [bit_and, Int.ediv_eq_zero_of_lt a7 (by omega)]; rfl
  rw [actK_yes hb, show b + (k : Int) = n by omega]
theorem fin_chk : ∀ k : Fin 5, ∀ d : Fin 16, ∀ j : Fin 4, (d.val < 2 ^ k.val ∧ d.val % 2 = 0 ∧ j.val < k.val ∧ d.val / 2 ^ j.val % 2 = 0) →
    0 ≤ (slide 4 0 (orB (d.val : Int) j.val)).1 ∧ (slide 4 0 (orB (d.val : Int) j.val)).1 ≤ (k.val : Int) ∧ 0 ≤ (slide 4 0 (orB (d.val : Int) j.val)).2 ∧ (slide 4 0 (orB (d.val : Int) j.val)).2 ≤ 2 ^ ((k.val : Int) - (slide 4 0 (orB (d.val : Int) j.val)).1).toNat - 1 ∧
      (slide 4 0 (orB (d.val : Int) j.val)).2 % 2 = 0 ∧ (actK 0 (slide 4 0 (orB (d.val : Int) j.val)).2 ((k.val : Int) - (slide 4 0 (orB (d.val : Int) j.val)).1).toNat).length + 1 = (actK 0 (d.val : Int) k.val).length := by decide +kernel
theorem one_chk : ∀ k : Fin 5, ∀ d : Fin 16, d.val % 2 = 0 → 0 < k.val → 0 < (actK 0 (d.val : Int) k.val).length := by decide +kernel
theorem win_fin {b n d t g : Int} (hv : winB b n d t = true) (hg : g ∈ activeL b n d t) : ∃ b' d', endV b n d t g = win b' n d' t ∧ winB b' n d' t = true ∧ (activeL b' n d' t).length + 1 = (activeL b n d t).length := by
  obtain ⟨⟨a1, a2, a3, a4, a5, a6⟩, ⟨a7, a8⟩, a9⟩ := winB_all hv
  obtain ⟨k, hk⟩ : ∃ k : Nat, n - b = (k : Int) := Int.eq_ofNat_of_zero_le (by omega)
  have ek : (n - b).toNat = k := by omega
  have hk4 : k ≤ 4 := by omega
  rw [ek] at a8
  have h15 : d ≤ 15 := pow_le15 hk4 a8
  obtain ⟨D, rfl⟩ := Int.eq_ofNat_of_zero_le a7
  rw [act_yes hv, ek] at hg ⊢
  rw [actK_shift] at hg
  obtain ⟨x, hx, hxg⟩ := List.mem_map.1 hg
  obtain ⟨j, hj, rfl, hb⟩ := actK_mem hx
  have hD : D < 2 ^ k := by
    have : ((2 ^ k : Nat) : Int) = (2 : Int) ^ k := by simp
    omega
  have hb2 : D / 2 ^ j % 2 = 0 := by
    have h9 : ((D / 2 ^ j % 2 : Nat) : Int) = (D : Int) / 2 ^ j % 2 := by simp
    have h10 := h9.trans hb
    generalize D / 2 ^ j % 2 = z at h10
    omega
  have h := fin_chk ⟨k, by omega⟩ ⟨D, by omega⟩ ⟨j, by omega⟩ ⟨hD, by show D % 2 = 0; omega, hj, hb2⟩
  have eg : (g - b).toNat = j := by omega
  have ee : endV b n (D : Int) t g = win (slide 4 b (orB (D : Int) j)).1 n (slide 4 b (orB (D : Int) j)).2 t := by
    unfold endV
    rw [if_pos ⟨hv, by omega, by omega⟩, eg]
  rw [slide_shift] at ee
  dsimp only at h ee
  generalize (slide 4 0 (orB (D : Int) j)).1 = s at *
  generalize (slide 4 0 (orB (D : Int) j)).2 = D' at *
  obtain ⟨q1, q2, q3, q4, q5, q6⟩ := h
  have es : (n - (b + s)).toNat = ((k : Int) - s).toNat := by omega
  have hv2 : winB (b + s) n D' t = true := winB_mk ⟨a1, a2, by omega, by omega, a5, by omega, q3, by rw [es]; exact q4⟩ q5
  refine ⟨_, _, ee, hv2, ?_⟩
  rw [act_yes hv2, es, actK_shift, List.length_map, actK_shift b, List.length_map]
  exact q6
theorem win_none {b n d t : Int} (hv : winB b n d t = true) (ha : (activeL b n d t).length = 0) : b = n := by
  obtain ⟨⟨a1, a2, a3, a4, a5, a6⟩, ⟨a7, a8⟩, a9⟩ := winB_all hv
  obtain ⟨k, hk⟩ : ∃ k : Nat, n - b = (k : Int) := Int.eq_ofNat_of_zero_le (by omega)
  have ek : (n - b).toNat = k := by omega
  rw [ek] at a8
  have h15 : d ≤ 15 := pow_le15 (by omega) a8
  obtain ⟨D, rfl⟩ := Int.eq_ofNat_of_zero_le a7
  rw [act_yes hv, ek, actK_shift, List.length_map] at ha
  have h := one_chk ⟨k, by omega⟩ ⟨D, by omega⟩ (by show D % 2 = 0; omega)
  dsimp only at h
  omega
theorem win_lt {b n d t g : Int} (hv : winB b n d t = true) (hg : g ∈ activeL b n d t) : b ≤ g ∧ g < n := by
  obtain ⟨⟨a1, a2, a3, a4, a5, a6⟩, _, _⟩ := winB_all hv
  rw [act_yes hv, actK_shift] at hg
  obtain ⟨x, hx, hxg⟩ := List.mem_map.1 hg
  obtain ⟨j, hj, rfl, _⟩ := actK_mem hx
  omega
theorem startB_iff {b n d t : Int} (hv : winB b n d t = true) : startB b n d t = true ↔ (n ≠ t ∧ n - b ≠ 4) := by
  unfold startB
  rw [hv]
  simp
theorem act_no {b n d t : Int} (h : winB b n d t = false) : activeL b n d t = [] := by unfold activeL; rw [h]; rfl
theorem nextZ_in {xs : List Int} {i : Nat} {x : Int} (h : xs[i]? = some x) : nextZ xs (i : Int) = x ∧ nextZ xs ((i : Int) + (xs.length : Int)) = x := by
  have hi := (List.getElem?_eq_some_iff.1 h).1
  have e1 : ((i : Int) % (xs.length : Int)).toNat = i := by rw [Int.emod_eq_of_lt (by omega) (by omega)]; omega
  have e2 : (((i : Int) + (xs.length : Int)) % (xs.length : Int)).toNat = i := by rw [Int.add_emod_right, Int.emod_eq_of_lt (by omega) (by omega)]; omega
  unfold nextZ
  rw [if_neg (by omega), if_neg (by omega), e1, e2, h]
  exact ⟨rfl, rfl⟩
theorem nextZ_nil (q : Int) : nextZ [] q = -1 := by unfold nextZ; rw [if_pos (.inl rfl)]
set_option maxHeartbeats 1000000 in
theorem hasL (v : Value) (xs : List Int) (y : Int) (w : World) (hv : RI w v xs) :
    Calls Try.prog 35 #[v, .int .i64 y] w fun e w' => e = .returned (.bool (decide (y ∈ xs))) ∧ w = w' := by
  obtain ⟨A, c, rfl, h2, h3, hA⟩ := hv
  go_enter Try.func35, Try.ntmps35
  go_wp2
  go_loopg [5] xs.length (fun f i wr => ∃ k : Nat, k + f = xs.length ∧ i = .int .i64 k ∧ wr = w ∧ Hid (∀ z ∈ xs.take k, z ≠ y))
  case atStart => exact ⟨0, by omega, rfl, rfl, Lib.hid (by simp)⟩
  case round =>
    obtain ⟨k, hk, rfl, rfl, HN⟩ := hrel
    have hk2 : k ≤ xs.length := by omega
    have HK := Lib.hid hk
    clear hk
    by_cases hlt : k < xs.length
    · obtain ⟨b1, o1, rfl, _, hc1⟩ := hA (by omega)
      have hx : Hid (xs[k]? = some (xs[k]'hlt)) := List.getElem?_eq_getElem hlt
      have g1 := hc1 k _ hx.out
      have i0 : (0 : Int) ≤ (k : Int) := by omega
      have i1 : (k : Int) < (xs.length : Int) := by omega
      clear hc1 hA
      generalize xs[k]'hlt = x at *
      by_cases hxy : x = y
      · subst hxy
        have HF : Hid (decide (x ∈ xs) = true) := Lib.hid (decide_eq_true (List.mem_of_getElem? hx.out))
        go_wp2
        go_ret
        exact ⟨by rw [HF.out]; rfl, rfl⟩
      · have e0 : (x == y) = false := beq_eq_false_iff_ne.2 hxy
        have HF : Hid (∀ z ∈ xs.take (k + 1), z ≠ y) := Lib.hid (by
          intro z hz
          rw [List.take_add_one, hx.out] at hz
          rcases List.mem_append.1 hz with h | h
          · exact HN.out z h
          · have h' : z = x := by simpa using h
            rw [h']; exact hxy)
        clear hxy
        go_wp2
        go_roundg (xs.length - (k + 1))
        case measure => have := HK.out; omega
        case rel => exact ⟨k + 1, by omega, by go_num, rfl, HF⟩
    · have hke : k = xs.length := by omega
      subst hke
      have i1 : ¬ (xs.length : Int) < (xs.length : Int) := by omega
      have HF : Hid (decide (y ∈ xs) = false) := Lib.hid (decide_eq_false (fun h => HN.out y (by rw [List.take_length]; exact h) rfl))
      go_wp2
      go_ret
      exact ⟨by rw [HF.out]; rfl, rfl⟩
end Go.Proofs.Ytchodlfkoafeaaa
