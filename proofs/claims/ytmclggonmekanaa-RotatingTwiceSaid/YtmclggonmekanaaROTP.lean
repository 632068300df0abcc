/- Plain laws of rotation: what undoes it, what adds up. No program. Conditions: those of each lemma. -/
import Derived.Test.YtmclggonmekanaaGLAW
set_option linter.unusedVariables false
set_option linter.unusedSimpArgs false
namespace Go.Proofs.Ytmclggonmekanaa
theorem rotE_zero {x y : Arr} (h : rotE x y = 0) : rightS x = 0 ∧ rightS y = 0 ∧ x.kind = 1 ∧ x.shape.length ≤ 1 ∧ x.nums.length ≤ y.shape.length := by
  unfold rotE at h
  split at h
  · omega
  · rename_i h1
    split at h
    · omega
    · split at h
      · omega
      · split at h
        · omega
        · rename_i h2 h3 h4
          refine ⟨?_, ?_, by omega, by omega, by omega⟩
          · by_cases e : rightS x = 0
            · exact e
            · exact absurd (Or.inl e) h1
          · by_cases e : rightS y = 0
            · exact e
            · exact absurd (Or.inr e) h1
theorem rotE_of {x y : Arr} (h1 : rightS x = 0) (h2 : rightS y = 0) (h3 : x.kind = 1) (h4 : x.shape.length ≤ 1) (h5 : x.nums.length ≤ y.shape.length) : rotE x y = 0 := by
  unfold rotE
  rw [if_neg (by simp [h1, h2]), if_neg (by simp [h3]), if_neg (by omega), if_neg (by omega)]
theorem rotS_mov {x y : Arr} (h : rotE x y = 0) : rotS x y = movS (rotF x.nums y.shape) y := if_pos h
def negL (l : List Int) : List Int := l.map fun d => 0 - d
theorem negL_len (l : List Int) : (negL l).length = l.length := by simp [negL]
theorem negL_getD (l : List Int) (j : Nat) : (negL l).getD j 0 = -(l.getD j 0) := by
  unfold negL
  by_cases h : j < l.length
  · simp [h]
  · simp [h]
theorem rotF_neg (xs s : List Int) : undo (rotF xs s) (rotF (negL xs) s) s := fun j n hj h0 h1 => by
  unfold rotF
  rw [negL_len]
  split
  · rfl
  · rw [negL_getD]
    simp only [Int.toNat_natCast]
    rw [Int.emod_add_emod, show n + -(xs.getD j 0) + xs.getD j 0 = n by omega]
    exact Int.emod_eq_of_lt h0 h1
theorem rotF_neg' (xs s : List Int) : undo (rotF (negL xs) s) (rotF xs s) s := fun j n hj h0 h1 => by
  unfold rotF
  rw [negL_len]
  split
  · rfl
  · rw [negL_getD]
    simp only [Int.toNat_natCast]
    rw [Int.emod_add_emod, show n + xs.getD j 0 + -(xs.getD j 0) = n by omega]
    exact Int.emod_eq_of_lt h0 h1
theorem rot_right {x y : Arr} (h : rotE x y = 0) : rightS (rotS x y) = 0 := by
  rw [rotS_mov h]
  exact movS_right (rotE_zero h).2.1 (rotF_keeps _ _) (rotF_keeps _ _) (rotF_neg _ _) (rotF_neg' _ _)
theorem rot_shape {x y : Arr} (h : rotE x y = 0) : (rotS x y).shape = y.shape := by rw [rotS_mov h]; rfl
def negA (x : Arr) : Arr := .mk 1 x.shape (negL x.nums) []
theorem negA_right {x : Arr} (h : rightS x = 0) (hk : x.kind = 1) : rightS (negA x) = 0 := by
  obtain ⟨hfm, han, _⟩ := chk_ok h
  obtain ⟨_, _, ⟨h3, _⟩ | ⟨h3, hn, h0⟩⟩ := right_ok h
  · omega
  unfold rightS negA
  rw [chk_mk, negL_len]
  rw [hk, h0] at hfm
  have hany : (negL x.nums).any (fun d => !elemB 1 d) = false := by
    rw [List.any_eq_false] at han ⊢
    intro d hd
    obtain ⟨e, he, rfl⟩ := List.mem_map.1 hd
    have := han e he
    simp [elemB, hk, numB] at this ⊢
    omega
  simp only [List.length_nil]
  rw [hfm, if_neg (by simp), if_neg (by simp [hany])]
  simp only [chkL, chkEnd]
  have := form_len hfm
  rw [if_neg (by omega)]
theorem rot_back {x y : Arr} (h : rotE x y = 0) : rotE (negA x) (rotS x y) = 0 ∧ rotS (negA x) (rotS x y) = y := by
  obtain ⟨h1, h2, h3, h4, h5⟩ := rotE_zero h
  have e : rotE (negA x) (rotS x y) = 0 := rotE_of (negA_right h1 h3) (rot_right h) rfl h4 (by rw [rot_shape h]; show (negL x.nums).length ≤ _; rw [negL_len]; exact h5)
  refine ⟨e, ?_⟩
  rw [rotS_mov e, rot_shape h, rotS_mov h, movS_mov h2 (rotF_keeps _ _)]
  exact movS_id h2 (rotF_neg _ _)
/-! ### one axis -/
theorem vec1_right {m : Int} (h1 : -4611686018427387903 ≤ m) (h2 : m ≤ 4611686018427387903) : rightS (.mk 1 [1] [m] []) = 0 := by
  unfold rightS
  rw [chk_mk]
  have hf : formE 1 [1] 1 0 = 0 := by decide
  simp only [List.length_cons, List.length_nil, Nat.zero_add]
  rw [hf, if_neg (by simp), if_neg (by simp [elemB, numB]; omega)]
  simp only [chkL, chkEnd]
  rw [if_neg (by omega)]
theorem rotF_one (m : Int) (s : List Int) (j : Nat) (n : Int) : rotF [m] s j n = if j = 0 then (n + m) % s.getD 0 0 else n := by
  unfold rotF
  by_cases e : j = 0
  · subst e; simp
  · rw [if_pos (by simp; omega), if_neg e]
theorem rot_one {m : Int} {y : Arr} (h1 : -4611686018427387903 ≤ m) (h2 : m ≤ 4611686018427387903) (hy : rightS y = 0) (hs : 0 < y.shape.length) : rotE (.mk 1 [1] [m] []) y = 0 :=
  rotE_of (vec1_right h1 h2) hy rfl (by simp [Arr.shape]) (by simp [Arr.nums]; omega)
theorem rot_add {m n : Int} {y : Arr} (a1 : -1152921504606846976 ≤ m) (a2 : m ≤ 1152921504606846976) (b1 : -1152921504606846976 ≤ n) (b2 : n ≤ 1152921504606846976) (hy : rightS y = 0) (hs : 0 < y.shape.length) :
    rotE (.mk 1 [1] [n] []) (rotS (.mk 1 [1] [m] []) y) = 0 ∧ rotS (.mk 1 [1] [n] []) (rotS (.mk 1 [1] [m] []) y) = rotS (.mk 1 [1] [m + n] []) y := by
  have e1 := rot_one (m := m) (by omega) (by omega) hy hs
  have e2 := rot_one (m := n) (y := rotS (.mk 1 [1] [m] []) y) (by omega) (by omega) (rot_right e1) (by rw [rot_shape e1]; exact hs)
  have e3 := rot_one (m := m + n) (by omega) (by omega) hy hs
  refine ⟨e2, ?_⟩
  rw [rotS_mov e2, rot_shape e1, rotS_mov e1, rotS_mov e3, movS_mov hy (rotF_keeps _ _)]
  refine movS_congr hy fun j k hj h0 h1 => ?_
  simp only [Arr.nums]
  rw [rotF_one, rotF_one, rotF_one]
  by_cases e : j = 0
  · rw [if_pos e, if_pos e, if_pos e, Int.emod_add_emod, show k + n + m = k + (m + n) by omega]
  · rw [if_neg e, if_neg e, if_neg e]
theorem rot_rev {m : Int} {y : Arr} (a1 : -1152921504606846976 ≤ m) (a2 : m ≤ 1152921504606846976) (hy : rightS y = 0) (hs : 0 < y.shape.length) :
    rotE (.mk 1 [1] [0 - m] []) (revS y) = 0 ∧ revS (rotS (.mk 1 [1] [m] []) y) = rotS (.mk 1 [1] [0 - m] []) (revS y) := by
  have e1 := rot_one (m := m) (by omega) (by omega) hy hs
  have e2 := rot_one (m := 0 - m) (y := revS y) (by omega) (by omega) (revS_right hy) (by rw [revS_shape hy]; exact hs)
  refine ⟨e2, ?_⟩
  rw [revS_mov (rot_right e1), rot_shape e1, rotS_mov e1, movS_mov hy (revF_keeps _), rotS_mov e2, revS_shape hy, revS_mov hy, movS_mov hy (rotF_keeps _ _)]
  refine movS_congr hy fun j k hj h0 h1 => ?_
  simp only [Arr.nums]
  rw [rotF_one, rotF_one]
  by_cases e : j = 0
  · subst e
    rw [if_pos rfl, if_pos rfl]
    unfold revF
    simp only [Int.natCast_zero, if_true]
    have hd : 0 < y.shape.getD 0 0 := by omega
    generalize y.shape.getD 0 0 = d at *
    have q1 := Int.emod_nonneg (k + (0 - m)) (show d ≠ 0 by omega)
    have q2 := Int.emod_lt_of_pos (k + (0 - m)) hd
    have q3 := Int.mul_ediv_add_emod (k + (0 - m)) d
    generalize (k + (0 - m)) % d = a at *
    generalize (k + (0 - m)) / d = b at *
    have e4 : d - 1 - k + m = (d - 1 - a) + d * (-b) := by rw [Int.mul_neg]; omega
    rw [e4, Int.add_mul_emod_self_left]
    exact Int.emod_eq_of_lt (by omega) (by omega)
  · rw [if_neg e, if_neg e]
end Go.Proofs.Ytmclggonmekanaa
