/- Plain laws of a choice by index lists. Conditions: those of each lemma. -/
import Derived.Test.YtcoknjlkhefgpaaP23P
import Derived.Test.YtcoknjlkhefgpaaPUT
set_option linter.unusedVariables false
set_option linter.unusedSimpArgs false
namespace Go.Proofs.Ytcoknjlkhefgpaa
/-- the indices of the next axis -/
def chL : List (List Int) → Int → List Int
  | [], d => seqI 0 d.toNat
  | l :: _, _ => l
theorem offR_cons (d : Int) (s : List Int) (ls : List (List Int)) (t : Int) : offR (d :: s) ls t = (chL ls d).flatMap fun i => offR s (ls.drop 1) (t + i * cnt s) := by
  cases ls <;> simp [offR, chL]
theorem chL_in {L : List Arr} {d : Int} {s : List Int} (h : chsBad L (d :: s) = false) (hd : 0 ≤ d) {i : Int} (hi : i ∈ chL (L.map Arr.nums) d) : 0 ≤ i ∧ i < d := by
  cases L with
  | nil =>
    simp only [List.map_nil, chL] at hi
    obtain ⟨k, hk, rfl⟩ := mem_seqI.1 hi
    omega
  | cons l L =>
    simp only [List.map_cons, chL] at hi
    simp only [chsBad, List.getD_cons_zero, Bool.or_eq_false_iff] at h
    exact outB_no (any_no h.1 hi)
theorem chsBad_tl {L : List Arr} {d : Int} {s : List Int} (h : chsBad L (d :: s) = false) : chsBad (L.drop 1) s = false := by
  cases L with
  | nil => rfl
  | cons l L =>
    simp only [chsBad, List.drop_succ_cons, List.drop_zero, Bool.or_eq_false_iff] at h ⊢
    exact h.2
theorem flat_take {α β : Type} {l : List α} {f : α → List β} {k : Nat} : ((l.take k).flatMap f).length ≤ (l.flatMap f).length := by
  have h : l.flatMap f = (l.take k).flatMap f ++ (l.drop k).flatMap f := by rw [← List.flatMap_append, List.take_append_drop]
  rw [h, List.length_append]; omega
theorem flat_step {β : Type} {l : List Int} {f : Int → List β} {k : Nat} (hk : k < l.length) : (l.take (k + 1)).flatMap f = (l.take k).flatMap f ++ f (l.getD k 0) := by
  rw [take_succ_getD hk, flat_snoc]
theorem cell_bd {d i : Int} {t c z : Nat} (hi : 0 ≤ i ∧ i < d) (hb : (t : Int) + d * (c : Int) ≤ z) : (t : Int) + i * c + c ≤ z ∧ 0 ≤ i * (c : Int) := by
  have h1 := Int.mul_le_mul_of_nonneg_right (show i + 1 ≤ d by omega) (Int.natCast_nonneg c)
  rw [Int.add_mul] at h1
  have h2 := Int.mul_nonneg hi.1 (Int.natCast_nonneg c)
  omega
theorem gatL_one {α : Type} (l : List α) (t : Nat) : gatL l [(t : Int)] = (l.drop t).take 1 := by simp [gatL]
theorem drop_getD {s : List Int} {ax : Nat} (h : ax < s.length) : s.drop ax = s.getD ax 0 :: s.drop (ax + 1) := by
  rw [List.drop_eq_getElem_cons h]; simp [h]
end Go.Proofs.Ytcoknjlkhefgpaa
