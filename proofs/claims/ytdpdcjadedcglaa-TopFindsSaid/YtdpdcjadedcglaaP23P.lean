/- What picking an element computes: plain functions, and their plain laws. No program. Conditions: those of each lemma. -/
import Derived.Test.YtdpdcjadedcglaaP23
import Derived.Test.YtdpdcjadedcglaaGA
set_option linter.unusedVariables false
set_option maxRecDepth 20000
set_option linter.unusedSimpArgs false
namespace Go.Proofs.Ytdpdcjadedcglaa
theorem offF_bdx {s l : List Int} (hs : ∀ d ∈ s, 0 ≤ d) : ∀ i, i ≤ s.length → (∀ j, j < i → 0 ≤ l.getD j 0 ∧ l.getD j 0 < s.getD j 0) → 0 ≤ offF s l i ∧ offF s l i < prodNZ (s.take i)
  | 0, _, _ => by simp [offF, prodNZ]
  | i + 1, hi, h => by
    obtain ⟨h1, h2⟩ := offF_bdx hs i (by omega) fun j hj => h j (by omega)
    obtain ⟨h3, h4⟩ := h i (by omega)
    rw [prodNZ_take_succ (by omega), if_neg (by omega)]
    simp only [offF]
    have h5 : 0 ≤ offF s l i * s.getD i 0 := Int.mul_nonneg h1 (by omega)
    have h6 : (offF s l i + 1) * s.getD i 0 ≤ prodNZ (s.take i) * s.getD i 0 := Int.mul_le_mul_of_nonneg_right (by omega) (by omega)
    rw [Int.add_mul] at h6
    exact ⟨by omega, by omega⟩
/-- whether a list is an index of a shape of as many axes -/
def inB (s l : List Int) : Bool := (List.range s.length).all fun i => decide (0 ≤ l.getD i 0 ∧ l.getD i 0 < s.getD i 0)
theorem inB_yes {s l : List Int} (hl : l.length = s.length) (h : inB s l = true) : inS s l := by
  refine ⟨hl, fun i hi => ?_⟩
  have := List.all_eq_true.1 h i (List.mem_range.2 hi)
  simpa using this
theorem inB_at {s l : List Int} {i : Nat} (hi : i < s.length) (h : l.getD i 0 < 0 ∨ s.getD i 0 ≤ l.getD i 0) : inB s l = false := by
  rw [← Bool.not_eq_true]
  intro q
  have := List.all_eq_true.1 q i (List.mem_range.2 hi)
  simp only [decide_eq_true_eq] at this
  omega
theorem inB_all {s l : List Int} (h : ∀ j, j < s.length → 0 ≤ l.getD j 0 ∧ l.getD j 0 < s.getD j 0) : inB s l = true :=
  List.all_eq_true.2 fun i hi => by simpa using h i (List.mem_range.1 hi)
def pckE (x y : Arr) : Int :=
  if rightS x ≠ 0 ∨ rightS y ≠ 0 then 1 else if x.kind ≠ 1 then 14 else if 1 < x.shape.length then 15 else if x.nums.length ≠ y.shape.length then 16 else if inB y.shape x.nums = false then 18 else 0
def pckA (x y : Arr) : Arr := if y.kind = 3 then y.items.getD (offS y.shape x.nums).toNat .zero else atS y (offS y.shape x.nums)
def pckS (x y : Arr) : Arr := if pckE x y = 0 then pckA x y else .zero
theorem pckS_no {x y : Arr} (h : pckE x y ≠ 0) : pckS x y = .zero := if_neg h
theorem pckS_yes {x y : Arr} (h : pckE x y = 0) : pckS x y = pckA x y := if_pos h
theorem pckE_r {x y : Arr} (h : rightS x ≠ 0 ∨ rightS y ≠ 0) : pckE x y = 1 := if_pos h
theorem pckE_k {x y : Arr} (h : rightS x = 0) (g : rightS y = 0) (k : x.kind ≠ 1) : pckE x y = 14 := by
  unfold pckE; rw [if_neg (by simp [h, g]), if_pos k]
theorem pckE_n {x y : Arr} (h : rightS x = 0) (g : rightS y = 0) (k : x.kind = 1) (r : 1 < x.shape.length) : pckE x y = 15 := by
  unfold pckE; rw [if_neg (by simp [h, g]), if_neg (by simp [k]), if_pos r]
theorem pckE_l {x y : Arr} (h : rightS x = 0) (g : rightS y = 0) (k : x.kind = 1) (r : ¬ 1 < x.shape.length) (l : x.nums.length ≠ y.shape.length) : pckE x y = 16 := by
  unfold pckE; rw [if_neg (by simp [h, g]), if_neg (by simp [k]), if_neg r, if_pos l]
theorem pckE_i {x y : Arr} (h : rightS x = 0) (g : rightS y = 0) (k : x.kind = 1) (r : ¬ 1 < x.shape.length) (l : x.nums.length = y.shape.length) : pckE x y = if inB y.shape x.nums = false then 18 else 0 := by
  unfold pckE; rw [if_neg (by simp [h, g]), if_neg (by simp [k]), if_neg r, if_neg (by simp [l])]
theorem sz_cnt {y : Arr} (h : rightS y = 0) : (szA y : Int) = cnt y.shape := by
  obtain ⟨_, _, hc⟩ := formE_zero (right_form h)
  rcases szA_ok h with ⟨k, q, _⟩ | ⟨k, q, _⟩
  · rcases hc with ⟨_, z, _⟩ | ⟨z, _⟩
    · rw [q]; exact z
    · exact absurd k z
  · rcases hc with ⟨z, _⟩ | ⟨_, z, _⟩
    · exact absurd z k
    · rw [q]; exact z
end Go.Proofs.Ytdpdcjadedcglaa
