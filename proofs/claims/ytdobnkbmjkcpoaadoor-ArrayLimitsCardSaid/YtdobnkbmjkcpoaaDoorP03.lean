/- Plain laws of arrays: an array has its own shape; its elements; vectors of equal numbers. No program. Conditions: those of each lemma. -/
import Derived.Test.YtdobnkbmjkcpoaaDoorOF
import Derived.Test.YtdobnkbmjkcpoaaDoorGH
import Derived.Test.YtdobnkbmjkcpoaaDoorGC
set_option linter.unusedVariables false
set_option linter.unusedSimpArgs false
namespace Go.Proofs.YtdobnkbmjkcpoaaDoor
/-- an array reshaped to its own shape is itself -/
theorem of_self {y : Arr} (hy : rightS y = 0) : ofE y.shape y = 0 ∧ ofS y.shape y = y := by
  have hs := (right_ok hy).2.1
  have hd : dimsE y.shape = 0 := dimsE_zero.2 hs
  have hc := cnt_len hy
  have hr := right_iff.1 hy
  by_cases h0 : y.nums.length + y.items.length = 0
  · have hn : (cnt y.shape).toNat = 0 := by omega
    have e : ofE y.shape y = 0 := ofE_0 hy hd fun _ => by rw [hn]; simp [rwS]
    refine ⟨e, ?_⟩
    rw [ofS_yes e, hn]
    have h1 : y.nums = [] := List.eq_nil_of_length_eq_zero (by omega)
    have h2 : y.items = [] := List.eq_nil_of_length_eq_zero (by omega)
    have hk := fromS_kind hy
    unfold gathS
    rw [hk]
    have : y = .mk y.kind y.shape y.nums y.items := (Arr.eta y).symm
    rw [h1, h2] at this
    split <;> exact this.symm
  · obtain ⟨hH, hF⟩ := haveN_of h0 hy
    have hn : (cnt y.shape).toNat = haveN y := by omega
    have hg : gathS (fromS y) y.shape (modF (haveN y)) (cnt y.shape).toNat = y := by
      rw [hF, hn, gathS_congr (g' := fun k => k) modF_id, ← hn]; exact gathS_id hy
    have e : ofE y.shape y = 0 := ofE_0 hy hd fun k3 => by
      have hi : y.items.length = haveN y := by
        have := (right_ok hy).2.2
        rcases this with ⟨_, _, q⟩ | ⟨q, _⟩
        · omega
        · exact absurd k3 q
      rw [hn, hF, rwS_sum, pickA_congr' (g' := fun k => k) modF_id, pickA_id hi]
      have := hr.2.2.2
      omega
    exact ⟨e, by rw [ofS_yes e, hg]⟩
/-- the elements of a right array -/
theorem at_right {y : Arr} (hy : rightS y = 0) {k : Nat} (hk : k < szA y) : rightS (atS y (k : Int)) = 0 ∧ (atS y (k : Int)).kind = y.kind ∧ (atS y (k : Int)).shape = [] := by
  have hr := right_iff.1 hy
  have hf := (right_ok hy).1
  have h1 : ¬ ((k : Int) < 0 ∨ (szA y : Int) ≤ (k : Int)) := by omega
  by_cases c : y.kind = 3
  · have hki : k < y.items.length := by rw [← szA_3 c]; exact hk
    rw [atS_A h1 c, Int.toNat_natCast]
    have hm : y.items.getD k .zero ∈ y.items := by rw [List.getD_eq_getElem?_getD, List.getElem?_eq_getElem hki]; exact List.getElem_mem _
    have hx := hr.2.2.1 _ hm
    have hw : wtS (y.items.getD k .zero) ≤ sumW y.items := by
      rw [List.getD_eq_getElem?_getD, List.getElem?_eq_getElem hki]
      have e : y.items = y.items.take k ++ (y.items[k] :: y.items.drop (k + 1)) := by rw [List.getElem_cons_drop, List.take_append_drop]
      have h2 := sumW_nn (y.items.take k)
      have h3 := sumW_nn (y.items.drop (k + 1))
      have h4 : sumW y.items = sumW (y.items.take k) + (wtS y.items[k] + sumW (y.items.drop (k + 1))) := by
        conv => lhs; rw [e]
        rw [sumW_append]; rfl
      show wtS y.items[k] ≤ _
      omega
    refine ⟨right_iff.2 ⟨form_of (Or.inr (Or.inr rfl)) (shapeB_nil) (Or.inl ⟨rfl, by rw [show Arr.shape (.mk 3 [] [] [y.items.getD k .zero]) = [] from rfl, cnt_nil]; rfl, rfl⟩), by simp [Arr.nums], fun a ha => ?_, ?_⟩, c.symm, rfl⟩
    · simp only [Arr.items, List.mem_singleton] at ha
      rw [ha]; exact hx
    · have h5 := hr.2.2.2
      show ((0 : Nat) : Int) + ((1 : Nat) : Int) + sumW [y.items.getD k .zero] ≤ 262144
      rw [show sumW [y.items.getD k .zero] = wtS (y.items.getD k .zero) from by simp [sumW]]
      omega
  · have hkn : k < y.nums.length := szA_N c hk
    rw [atS_N h1 c, Int.toNat_natCast]
    have hm : y.nums.getD k 0 ∈ y.nums := getD_mem hkn
    refine ⟨right_iff.2 ⟨form_of hf (shapeB_nil) (Or.inr ⟨c, by rw [show Arr.shape (.mk y.kind [] [y.nums.getD k 0] []) = [] from rfl, cnt_nil]; rfl, rfl⟩), fun n hn => ?_, by simp [Arr.items], by simp [Arr.nums, Arr.items, sumW]⟩, rfl, rfl⟩
    simp only [Arr.nums, List.mem_singleton] at hn
    rw [hn]; exact hr.2.1 _ hm
end Go.Proofs.YtdobnkbmjkcpoaaDoor
