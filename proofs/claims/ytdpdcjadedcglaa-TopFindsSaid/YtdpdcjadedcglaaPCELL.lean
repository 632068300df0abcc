/- Plain laws of an array that grows by one element of another: Put of At. Conditions: those of each lemma. -/
import Derived.Test.YtdpdcjadedcglaaGI
import Derived.Test.YtdpdcjadedcglaaPUT
import Derived.Test.YtdpdcjadedcglaaA17
import Derived.Test.YtdpdcjadedcglaaOF
set_option linter.unusedVariables false
set_option maxRecDepth 20000
set_option linter.unusedSimpArgs false
namespace Go.Proofs.Ytdpdcjadedcglaa
theorem blk_step {α : Type} {a : List α} {i p k : Nat} (h : k < p) : (blkL a i p).take (k + 1) = (blkL a i p).take k ++ (a.drop (i * p + k)).take 1 := by
  unfold blkL
  rw [List.take_take, List.take_take, Nat.min_eq_left (by omega), Nat.min_eq_left (by omega), List.take_add, List.drop_drop]
theorem blk_all {α : Type} (a : List α) (i p : Nat) : (blkL a i p).take p = blkL a i p := List.take_of_length_le (by simp [blkL]; omega)
/-- the lists of an array: one of them holds its elements, the other nothing -/
structure Flat (a : Arr) : Prop where
  k : a.kind = 1 ∨ a.kind = 2 ∨ a.kind = 3
  n : a.kind = 3 → a.nums = []
  i : a.kind ≠ 3 → a.items = []
theorem flat_of {a : Arr} (h : rightS a = 0) : Flat a := by
  obtain ⟨hk, hs, hc⟩ := formE_zero (right_form h)
  exact ⟨hk, fun q => List.eq_nil_of_length_eq_zero (by rcases hc with h | h <;> omega), fun q => List.eq_nil_of_length_eq_zero (by rcases hc with h | h <;> omega)⟩
theorem drop_one {α : Type} {l : List α} {j : Nat} {d : α} (h : j < l.length) : (l.drop j).take 1 = [l.getD j d] := by
  rw [List.drop_eq_getElem_cons h, List.getD_eq_getElem?_getD, List.getElem?_eq_getElem h]
  rfl
theorem putN_cell {a : Arr} {k : Int} {nums : List Int} {j : Nat} (F : Flat a) (hk : k = a.kind) (h : j < szA a) : putN k nums (atS a j) = nums ++ (a.nums.drop j).take 1 := by
  rw [putN_at hk h]
  split
  · rename_i q; rw [F.n q]; simp
  · rename_i q
    rw [drop_one (d := 0)]
    have := F.k
    unfold szA szN at h
    rw [if_pos (by omega)] at h
    exact h
theorem putI_cell {a : Arr} {k : Int} {items : List Arr} {j : Nat} (F : Flat a) (hk : k = a.kind) (h : j < szA a) : putI k items (atS a j) = items ++ (a.items.drop j).take 1 := by
  rw [putI_at hk h]
  split
  · rename_i q
    rw [drop_one (d := .zero)]
    unfold szA szN at h
    rw [if_neg (by omega), if_pos q] at h
    exact h
  · rename_i q; rw [F.i q]; simp
theorem take_len_le {α : Type} (l : List α) (k : Nat) : (l.take k).length ≤ k := by simp; omega
end Go.Proofs.Ytdpdcjadedcglaa
