/- What is undone, and what Iota counts: plain lemmas. No program. Conditions: those of each lemma. -/
import Derived.Test.YtkbbdlibamcilaaC17I
import Derived.Test.YtkbbdlibamcilaaC17D
set_option linter.unusedVariables false
set_option linter.unusedSimpArgs false
namespace Go.Proofs.Ytkbbdlibamcilaa
theorem box_back {y : Arr} (h : encE y = 0) : encS y = boxA y ∧ disE (boxA y) = 0 ∧ disS (boxA y) = y := by
  have h1 : rightS y = 0 := by
    by_cases c : rightS y = 0
    · exact c
    · rw [encE, if_pos c] at h; cases h
  have hs : encS y = validS (boxA y) := if_pos h
  have h2 : rightS (boxA y) = 0 := by
    by_cases c : rightS (boxA y) = 0
    · exact c
    · rw [encE, if_neg (by simp [h1]), validS_no c, if_pos (by decide)] at h; cases h
  have hd : disE (boxA y) = 0 := by
    unfold disE
    rw [if_neg (by simp [h2]), if_neg (by simp [boxA, Arr.kind]), if_neg (by simp [boxA, Arr.items])]
  refine ⟨by rw [hs, validS_yes h2], hd, ?_⟩
  unfold disS
  rw [if_neg (by simp [hd]), if_neg (by simp [boxA, Arr.kind])]
  rfl
theorem tur_back {y : Arr} (h : turE 2 1 y = 0) : turS 2 1 y = turA 1 y ∧ turE 1 2 (turA 1 y) = 0 ∧ turS 1 2 (turA 1 y) = y := by
  have h1 : rightS y = 0 := by
    by_cases c : rightS y = 0
    · exact c
    · rw [turE, if_pos c] at h; cases h
  have h2 : y.kind = 2 := by
    by_cases c : y.kind = 2
    · exact c
    · rw [turE, if_neg (by simp [h1]), if_pos c] at h; cases h
  have hb : turA 2 (turA 1 y) = y := by
    cases y with
    | mk k s n l => simp only [Arr.kind] at h2; subst h2; rfl
  have he : turE 1 2 (turA 1 y) = 0 := by
    unfold turE
    rw [if_neg (by simp [ord_right h1 h2]), if_neg (by simp [turA, Arr.kind]), hb, if_neg (by simp [h1])]
  exact ⟨if_pos h, he, by unfold turS; rw [if_pos he, hb]⟩
theorem rngL_mem {n : Nat} {x : Int} (h : x ∈ rngL n) : 0 ≤ x ∧ x < n := by
  unfold rngL at h
  rw [List.mem_map] at h
  obtain ⟨k, hk, rfl⟩ := h
  rw [List.mem_range] at hk
  omega
theorem cnt_nn {s : List Int} (h : shapeB s = true) : 0 ≤ cnt s := by
  unfold cnt
  split
  · omega
  · exact Int.le_of_lt (prodNZ_pos (shapeB_iff.1 h).2.1)
theorem iot_right {y : Arr} (h : ndE y = 0) : rightS (iotS y) = 0 := by
  obtain ⟨h1, h2, h3, h4⟩ := ndE_zero h
  rw [iotS_yes h]
  have hc := cnt_le h4
  have h0 := cnt_nn h4
  refine right_nums h4 (by rw [rngL_len]; omega) fun x hx => ?_
  have := rngL_mem hx
  simp [numB]
  omega
theorem num_right {n : Int} (h : numB n = true) : validS (numA n) = numA n := validS_yes (right_nums shapeB_nil (by rw [cnt_nil]; rfl) (by simpa using h))
theorem iot_tally {y : Arr} (h : ndE y = 0) : talS (iotS y) = numA (talN (iotS y)) := by
  have hr := iot_right h
  obtain ⟨h1, h2, h3, h4⟩ := ndE_zero h
  unfold talS
  rw [if_pos hr]
  apply num_right
  unfold talN
  split
  · decide
  · rename_i hl
    rw [iotS_yes h] at hl ⊢
    simp only [Arr.shape] at hl ⊢
    obtain ⟨_, hc, hh⟩ := formE_zero (right_form h1)
    have hm := (right_iff.1 h1).2.1
    rw [h2] at hm
    cases hy : y.nums with
    | nil => rw [hy] at hl; simp at hl
    | cons d t =>
      have := hm d (by rw [hy]; simp)
      simpa [elemB] using this
theorem iot_shape {y : Arr} (h : ndE y = 0) : shpS (iotS y) = vctA y.nums := by
  have hr := iot_right h
  obtain ⟨h1, h2, h3, h4⟩ := ndE_zero h
  unfold shpS
  rw [if_pos hr, iotS_yes h]
  simp only [Arr.shape]
  have hm := (right_iff.1 h1).2.1
  rw [h2] at hm
  obtain ⟨h8, _⟩ := shapeB_iff.1 h4
  exact validS_yes (right_nums (shapeB_one (by omega) (by omega)) cnt_one.symm fun x hx => by have := hm x hx; simpa [elemB] using this)
end Go.Proofs.Ytkbbdlibamcilaa
