/- Arrays about the greatest size: plain laws. No program. Conditions: those of each lemma. -/
import Derived.Test.YtdobnkbmjkcpoaaDoorP03
set_option linter.unusedVariables false
set_option linter.unusedSimpArgs false
namespace Go.Proofs.YtdobnkbmjkcpoaaDoor
def s7A : Arr := .mk 1 [] [7] []
def zerA (n : Nat) : Arr := .mk 1 [0, (n : Int)] [] []
def repA (n : Nat) : Arr := vctA (List.replicate n 0)
theorem shape_n (n : Nat) : shapeB [(n : Int)] = decide (n ≤ 65536) := by
  by_cases h : n ≤ 65536
  · rw [decide_eq_true h]; exact shapeB_one (by omega) (by omega)
  · rw [decide_eq_false h]
    refine shapeB_false fun q => ?_
    have := q.2.2
    simp only [prodNZ] at this
    split at this <;> omega
theorem shape_0n (n : Nat) : shapeB [0, (n : Int)] = decide (n ≤ 65536) := by
  by_cases h : n ≤ 65536
  · rw [decide_eq_true h]
    refine shapeB_iff.2 ⟨by simp, by intro d hd; simp at hd; omega, ?_⟩
    by_cases hz : (n : Int) = 0
    · simp [prodNZ, hz]
    · simp [prodNZ, hz]; omega
  · rw [decide_eq_false h]
    refine shapeB_false fun q => ?_
    have := q.2.2
    have hz : ¬ (n : Int) = 0 := by omega
    have hz2 : ¬ n = 0 := by omega
    simp [prodNZ, hz2] at this
    omega
theorem dims_big {s : List Int} (hl : s.length ≤ 8) (hn : ∀ d ∈ s, 0 ≤ d) (h : shapeB s = false) : dimsE s = 21 := by
  have h0 : dimsE s ≠ 0 := fun q => by rw [dimsE_zero.1 q] at h; cases h
  unfold dimsE at h0 ⊢
  rw [if_neg (by omega), if_neg (by rw [any_negB.2 hn]; decide)] at h0 ⊢
  split
  · rfl
  · rename_i q; rw [if_neg q] at h0; exact absurd rfl h0
theorem s7_right : rightS s7A = 0 := by kernel_rfl
theorem of_big {n : Nat} (h : ¬ n ≤ 65536) : ofE [(n : Int)] s7A = 21 ∧ ofS [(n : Int)] s7A = .zero := by
  have hd : dimsE [(n : Int)] = 21 := dims_big (by simp) (by intro d hd; simp at hd; omega) (by rw [shape_n, decide_eq_false h])
  have e : ofE [(n : Int)] s7A = 21 := (ofE_d s7_right (by rw [hd]; decide)).trans hd
  exact ⟨e, ofS_no (by rw [e]; decide)⟩
theorem right_big {k : Int} {s : List Int} {nums : List Int} (hk : k = 1) (hl : s.length ≤ 8) (hn : ∀ d ∈ s, 0 ≤ d) (h : shapeB s = false) : rightS (.mk k s nums []) = 21 := by
  have hd := dims_big hl hn h
  have hf : formE k s nums.length 0 = 21 := by rw [dimsE_form (Or.inl hk) (by rw [hd]; decide), hd]
  show (chk (.mk k s nums [])).1 = 21
  rw [chk_mk, if_pos (by rw [show ([] : List Arr).length = 0 from rfl, hf]; decide)]
  exact hf
theorem rep_big {n : Nat} (h : ¬ n ≤ 65536) : validS (repA n) = .zero := by
  have : rightS (repA n) = 21 := right_big rfl (by simp) (by intro d hd; simp at hd; omega) (by rw [List.length_replicate, shape_n, decide_eq_false h])
  unfold validS; rw [if_neg (by rw [this]; decide)]
theorem zer_big {n : Nat} (h : ¬ n ≤ 65536) : rightS (zerA n) = 21 := right_big rfl (by simp) (by intro d hd; simp at hd; omega) (by rw [shape_0n, decide_eq_false h])
theorem zer_ok {n : Nat} (h : n ≤ 65536) : rightS (zerA n) = 0 := by
  refine right_iff.2 ⟨form_of (Or.inl rfl) (by show shapeB [0, (n : Int)] = true; rw [shape_0n, decide_eq_true h]) (Or.inr ⟨by show (1 : Int) ≠ 3; decide, ?_, rfl⟩), by simp [zerA, Arr.nums], by simp [zerA, Arr.items], by simp [zerA, Arr.nums, Arr.items, sumW]⟩
  show ((0 : Nat) : Int) = cnt [0, (n : Int)]
  unfold cnt; rfl
theorem vec_ok {n : Nat} (h : n ≤ 65536) {l : List Int} (hl : l.length = n) (hb : ∀ d ∈ l, numB d = true) : rightS (.mk 1 [(n : Int)] l []) = 0 := by
  refine right_nums (shapeB_one (by omega) (by omega)) ?_ hb
  rw [cnt_one, hl]
theorem rep_ok {n : Nat} (h : n ≤ 65536) : validS (repA n) = repA n ∧ szN (repA n).kind (repA n).nums.length (repA n).items.length = n := by
  have hr : rightS (repA n) = 0 := by
    unfold repA vctA
    rw [List.length_replicate]
    exact vec_ok h (List.length_replicate ..) (fun d hd => by rw [(List.mem_replicate.1 hd).2]; rfl)
  refine ⟨if_pos hr, ?_⟩
  unfold szN
  rw [if_pos (by left; rfl)]
  show (List.replicate n (0 : Int)).length = n
  exact List.length_replicate ..
theorem of_ok {n : Nat} (h : n ≤ 65536) : ofE [(n : Int)] s7A = 0 ∧ szN (ofS [(n : Int)] s7A).kind (ofS [(n : Int)] s7A).nums.length (ofS [(n : Int)] s7A).items.length = n ∧ rightS (ofS [(n : Int)] s7A) = 0 := by
  have hs : shapeB [(n : Int)] = true := by rw [shape_n, decide_eq_true h]
  have e : ofE [(n : Int)] s7A = 0 := ofE_0 s7_right (dimsE_zero.2 hs) (fun k => by cases k)
  have hc : (cnt [(n : Int)]).toNat = n := by rw [cnt_one]; omega
  have hf : fromS s7A = s7A := rfl
  have eS : ofS [(n : Int)] s7A = .mk 1 [(n : Int)] (pickN [7] (modF (haveN s7A)) n) [] := by
    rw [ofS_yes e, hc, hf, gathS_N (by decide)]; rfl
  refine ⟨e, ?_, ?_⟩
  · rw [eS]
    unfold szN
    rw [if_pos (by left; rfl)]
    exact pickN_len _ _ _
  · rw [eS]
    refine vec_ok h (pickN_len _ _ _) fun d hd => ?_
    unfold pickN at hd
    obtain ⟨k, _, rfl⟩ := List.mem_map.1 hd
    have : ∀ q : Nat, numB (([7] : List Int).getD q 0) = true := fun q => by
      match q with
      | 0 => rfl
      | q + 1 => rfl
    exact this _
end Go.Proofs.YtdobnkbmjkcpoaaDoor
