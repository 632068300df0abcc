/- Plain functions on lists of numbers: what the shapes' functions compute. No program. Conditions: those of each lemma. -/
import Derived.Test.YtkbbdlibamcilaaArr
set_option linter.unusedVariables false
set_option linter.unusedSimpArgs false
namespace Go.Proofs.Ytkbbdlibamcilaa

/-- the product of the dimensions other than 0 -/
def prodNZ : List Int → Int
  | [] => 1
  | d :: l => if d = 0 then prodNZ l else d * prodNZ l
theorem prodNZ_append (l m : List Int) : prodNZ (l ++ m) = prodNZ l * prodNZ m := by
  induction l with
  | nil => simp [prodNZ]
  | cons d l ih =>
    simp only [List.cons_append, prodNZ, ih]
    split
    · rfl
    · rw [Int.mul_assoc]
theorem prodNZ_pos {l : List Int} (h : ∀ d ∈ l, 0 ≤ d) : 1 ≤ prodNZ l := by
  induction l with
  | nil => simp [prodNZ]
  | cons d l ih =>
    have h1 := ih fun x hx => h x (List.mem_cons_of_mem _ hx)
    have h2 := h d (List.mem_cons_self ..)
    simp only [prodNZ]
    split
    · exact h1
    · have h3 : 1 ≤ d := by omega
      calc (1 : Int) = 1 * 1 := by rfl
        _ ≤ d * prodNZ l := Int.mul_le_mul h3 h1 (by omega) (by omega)
theorem mem_take {l : List Int} {k : Nat} {d : Int} (h : d ∈ l.take k) : d ∈ l := List.mem_of_mem_take h
theorem mem_drop {l : List Int} {k : Nat} {d : Int} (h : d ∈ l.drop k) : d ∈ l := List.mem_of_mem_drop h
theorem prodNZ_take_le {l : List Int} (h : ∀ d ∈ l, 0 ≤ d) (k : Nat) : prodNZ (l.take k) ≤ prodNZ l := by
  have e : prodNZ l = prodNZ (l.take k) * prodNZ (l.drop k) := by rw [← prodNZ_append, List.take_append_drop]
  have h1 := prodNZ_pos fun d hd => h d (mem_take (k := k) hd)
  have h2 := prodNZ_pos fun d hd => h d (mem_drop (k := k) hd)
  rw [e]
  calc prodNZ (l.take k) = prodNZ (l.take k) * 1 := by rw [Int.mul_one]
    _ ≤ prodNZ (l.take k) * prodNZ (l.drop k) := Int.mul_le_mul_of_nonneg_left h2 (by omega)
theorem prodNZ_drop_le {l : List Int} (h : ∀ d ∈ l, 0 ≤ d) (k : Nat) : prodNZ (l.drop k) ≤ prodNZ l := by
  have e : prodNZ l = prodNZ (l.take k) * prodNZ (l.drop k) := by rw [← prodNZ_append, List.take_append_drop]
  have h1 := prodNZ_pos fun d hd => h d (mem_take (k := k) hd)
  have h2 := prodNZ_pos fun d hd => h d (mem_drop (k := k) hd)
  rw [e]
  calc prodNZ (l.drop k) = 1 * prodNZ (l.drop k) := by rw [Int.one_mul]
    _ ≤ prodNZ (l.take k) * prodNZ (l.drop k) := Int.mul_le_mul_of_nonneg_right h1 (by omega)
theorem take_succ_getD {l : List Int} {k : Nat} (h : k < l.length) : l.take (k + 1) = l.take k ++ [l.getD k 0] := by
  rw [List.take_succ_eq_append_getElem h]
  simp [h]
theorem getD_mem {l : List Int} {k : Nat} (h : k < l.length) : l.getD k 0 ∈ l := by
  have : l.getD k 0 = l[k] := by simp [h]
  rw [this]; exact List.getElem_mem h
theorem prodNZ_one (d : Int) : prodNZ [d] = if d = 0 then 1 else d := by simp only [prodNZ]; split <;> simp
theorem prodNZ_take_succ {l : List Int} {k : Nat} (h : k < l.length) : prodNZ (l.take (k + 1)) = if l.getD k 0 = 0 then prodNZ (l.take k) else prodNZ (l.take k) * l.getD k 0 := by
  rw [take_succ_getD h, prodNZ_append, prodNZ_one]
  split <;> simp
theorem prodNZ_ge_mem {l : List Int} (h : ∀ d ∈ l, 0 ≤ d) {d : Int} (hd : d ∈ l) : d ≤ prodNZ l := by
  induction l with
  | nil => simp at hd
  | cons x l ih =>
    have hl : ∀ d ∈ l, 0 ≤ d := fun y hy => h y (List.mem_cons_of_mem _ hy)
    have h1 := prodNZ_pos hl
    have hx := h x (List.mem_cons_self ..)
    simp only [prodNZ]
    rcases List.mem_cons.1 hd with rfl | hd
    · split
      · omega
      · calc d = d * 1 := by rw [Int.mul_one]
          _ ≤ d * prodNZ l := Int.mul_le_mul_of_nonneg_left h1 hx
    · have h2 := ih hl hd
      split
      · exact h2
      · calc d ≤ prodNZ l := h2
          _ = 1 * prodNZ l := by rw [Int.one_mul]
          _ ≤ x * prodNZ l := Int.mul_le_mul_of_nonneg_right (by omega) (by omega)

/-- a valid shape -/
def shapeB (s : List Int) : Bool := decide (s.length ≤ 8 ∧ (∀ d ∈ s, 0 ≤ d) ∧ prodNZ s ≤ 65536)
theorem shapeB_iff {s : List Int} : shapeB s = true ↔ s.length ≤ 8 ∧ (∀ d ∈ s, 0 ≤ d) ∧ prodNZ s ≤ 65536 := by simp [shapeB]
theorem shapeB_false {s : List Int} (h : ¬ (s.length ≤ 8 ∧ (∀ d ∈ s, 0 ≤ d) ∧ prodNZ s ≤ 65536)) : shapeB s = false := by
  cases e : shapeB s with
  | false => rfl
  | true => exact absurd (shapeB_iff.1 e) h
/-- the number of elements of a valid shape -/
def cnt (s : List Int) : Int := if 0 ∈ s then 0 else prodNZ s
theorem shapeB_len {s : List Int} (h : 8 < s.length) : shapeB s = false := shapeB_false fun h' => by omega
theorem shapeB_neg {s : List Int} {k : Nat} (hk : k < s.length) (h : s.getD k 0 < 0) : shapeB s = false := shapeB_false fun h' => by
  have := h'.2.1 _ (getD_mem hk); omega
theorem shapeB_big {s : List Int} {k : Nat} (hk : k < s.length) (h : 65536 < s.getD k 0) : shapeB s = false := shapeB_false fun h' => by
  have := prodNZ_ge_mem h'.2.1 (getD_mem hk); omega
theorem shapeB_over {s : List Int} {k : Nat} (hk : k < s.length) (h0 : s.getD k 0 ≠ 0) (h : 65536 < prodNZ (s.take k) * s.getD k 0) : shapeB s = false := shapeB_false fun h' => by
  have h1 := prodNZ_take_le h'.2.1 (k + 1)
  rw [prodNZ_take_succ hk, if_neg h0] at h1
  omega
theorem nn_take_succ {s : List Int} {k : Nat} (hk : k < s.length) (h : ∀ d ∈ s.take k, 0 ≤ d) (h1 : 0 ≤ s.getD k 0) : ∀ d ∈ s.take (k + 1), 0 ≤ d := by
  intro d hd
  rw [take_succ_getD hk, List.mem_append] at hd
  rcases hd with hd | hd
  · exact h d hd
  · simp only [List.mem_singleton] at hd; rw [hd]; exact h1
theorem cnt_nonneg {s : List Int} (h : ∀ d ∈ s, 0 ≤ d) : 0 ≤ cnt s := by
  unfold cnt
  split
  · omega
  · have := prodNZ_pos h; omega
theorem cnt_le {s : List Int} (h : shapeB s = true) : 0 ≤ cnt s ∧ cnt s ≤ 65536 := by
  obtain ⟨_, h1, h2⟩ := shapeB_iff.1 h
  refine ⟨cnt_nonneg h1, ?_⟩
  unfold cnt
  split <;> omega
/-- the place of the first v, or -1 -/
def idxS (s : List Int) (v : Int) : Int := if v ∈ s then (s.idxOf v : Int) else -1
theorem idxS_at {s : List Int} {v : Int} {k : Nat} (hk : k < s.length) (h : s.getD k 0 = v) (hb : ∀ j, j < k → s.getD j 0 ≠ v) : idxS s v = k := by
  have hm : v ∈ s := by rw [← h]; exact getD_mem hk
  rw [idxS, if_pos hm]
  have hlt := List.idxOf_lt_length_of_mem hm
  have hget : s.getD (s.idxOf v) 0 = v := by simp [hlt]
  have h1 : ¬ s.idxOf v < k := fun h1 => hb _ h1 hget
  have h2 : ¬ k < s.idxOf v := fun h2 => by
    have hne := List.not_of_lt_findIdx (p := (· == v)) (xs := s) h2
    have e : s[k] = v := by simpa [hk] using h
    simp [e] at hne
  have : s.idxOf v = k := by omega
  rw [this]
theorem idxS_none {s : List Int} {v : Int} (hb : ∀ j, j < s.length → s.getD j 0 ≠ v) : idxS s v = -1 := by
  rw [idxS, if_neg]
  intro hm
  obtain ⟨j, hj, e⟩ := List.getElem_of_mem hm
  exact hb j hj (by simpa [hj] using e)
theorem idxS_pos {s : List Int} {v : Int} : decide (0 ≤ idxS s v) = decide (v ∈ s) := by
  unfold idxS
  by_cases h : v ∈ s <;> simp [h]
/-- the place of the first element with p, or -1 -/
def idxF (s : List Int) (p : Int → Bool) : Int := if s.any p then (s.findIdx p : Int) else -1
theorem idxF_at {s : List Int} {p : Int → Bool} {k : Nat} (hk : k < s.length) (h : p (s.getD k 0) = true) (hb : ∀ j, j < k → p (s.getD j 0) = false) : idxF s p = k := by
  have hm : s.any p = true := List.any_eq_true.2 ⟨_, getD_mem hk, h⟩
  rw [idxF, if_pos hm]
  have e : s.findIdx p = k := by
    rw [List.findIdx_eq hk]
    refine ⟨by simpa [hk] using h, fun j hj => ?_⟩
    have hjl : j < s.length := by omega
    simpa [hjl] using hb j hj
  rw [e]
theorem idxF_none {s : List Int} {p : Int → Bool} (hb : ∀ j, j < s.length → p (s.getD j 0) = false) : idxF s p = -1 := by
  rw [idxF, if_neg]
  intro hm
  obtain ⟨x, hx, e⟩ := List.any_eq_true.1 hm
  obtain ⟨j, hj, rfl⟩ := List.getElem_of_mem hx
  have := hb j hj
  simp [hj, e] at this
theorem idxF_pos {s : List Int} {p : Int → Bool} : decide (0 ≤ idxF s p) = s.any p := by
  unfold idxF
  cases h : s.any p <;> simp
theorem cnt_zero {s : List Int} (h : (0 : Int) ∈ s) : cnt s = 0 := by simp [cnt, h]
theorem cnt_prod {s : List Int} (h : (0 : Int) ∉ s) : cnt s = prodNZ s := by simp [cnt, h]
theorem prodNZ_take_step {s : List Int} {k : Nat} (hk : k < s.length) (h : (0 : Int) ∉ s) : prodNZ (s.take (k + 1)) = prodNZ (s.take k) * s.getD k 0 := by
  rw [prodNZ_take_succ hk, if_neg]
  intro e
  exact h (e ▸ getD_mem hk)
/-- a shape's size, or -1 -/
def sizeS (s : List Int) : Int := if shapeB s then cnt s else -1
theorem sizeS_true {s : List Int} (h : shapeB s = true) : sizeS s = cnt s := by simp [sizeS, h]
theorem sizeS_false {s : List Int} (h : shapeB s = false) : sizeS s = -1 := by simp [sizeS, h]
end Go.Proofs.Ytkbbdlibamcilaa
