/- Digits and offsets: plain functions of shapes. No program. Conditions: those of each lemma. -/
import Derived.Test.YtkbbdlibamcilaaSpecA
set_option linter.unusedVariables false
set_option linter.unusedSimpArgs false
namespace Go.Proofs.Ytkbbdlibamcilaa
/-- all dimensions are at least 1 -/
def posB (s : List Int) : Prop := ∀ d ∈ s, 1 ≤ d
theorem posB_of {s : List Int} (h : shapeB s = true) {k : Int} (h0 : 0 ≤ k) (h1 : k < cnt s) : posB s := by
  obtain ⟨_, h2, _⟩ := shapeB_iff.1 h
  have h3 : (0 : Int) ∉ s := fun h3 => by rw [cnt_zero h3] at h1; omega
  intro d hd
  have := h2 d hd
  have : d ≠ 0 := fun e => h3 (e ▸ hd)
  omega
theorem posB_nz {s : List Int} (h : posB s) : (0 : Int) ∉ s := fun h0 => by have := h 0 h0; omega
theorem posB_cnt {s : List Int} (h : posB s) : cnt s = prodNZ s := cnt_prod (posB_nz h)
theorem posB_drop {s : List Int} (h : posB s) (i : Nat) : posB (s.drop i) := fun d hd => h d (List.mem_of_mem_drop hd)
theorem posB_take {s : List Int} (h : posB s) (i : Nat) : posB (s.take i) := fun d hd => h d (List.mem_of_mem_take hd)
theorem posB_prod {s : List Int} (h : posB s) : 1 ≤ prodNZ s := prodNZ_pos fun d hd => by have := h d hd; omega
theorem prodNZ_drop {s : List Int} (h : posB s) {i : Nat} (hi : i < s.length) : prodNZ (s.drop i) = s.getD i 0 * prodNZ (s.drop (i + 1)) := by
  rw [List.drop_eq_getElem_cons hi]
  have e : s[i] = s.getD i 0 := by simp [hi]
  simp only [prodNZ]
  rw [if_neg, e]
  intro e0
  have := h s[i] (List.getElem_mem hi)
  omega
/-- digit number i of an offset -/
def dig (s : List Int) (k : Int) (i : Nat) : Int := k / prodNZ (s.drop (i + 1)) % s.getD i 0
def digs (s : List Int) (k : Int) : List Int := (List.range s.length).map (dig s k)
theorem digs_len (s : List Int) (k : Int) : (digs s k).length = s.length := by simp [digs]
theorem digs_getD {s : List Int} {k : Int} {i : Nat} (hi : i < s.length) : (digs s k).getD i 0 = dig s k i := by simp [digs, hi]
theorem digs_take_succ {s : List Int} {k : Int} {i : Nat} (hi : i < s.length) : (digs s k).take (i + 1) = (digs s k).take i ++ [dig s k i] := by
  have hl : i < (digs s k).length := by rw [digs_len]; exact hi
  rw [← List.take_append_getElem hl]
  congr 2
  simp [digs]
theorem getD_pos {s : List Int} (h : posB s) {i : Nat} (hi : i < s.length) : 1 ≤ s.getD i 0 := h _ (getD_mem hi)
theorem dig_bd {s : List Int} (h : posB s) (k : Int) {i : Nat} (hi : i < s.length) : 0 ≤ dig s k i ∧ dig s k i < s.getD i 0 := by
  have := getD_pos h hi
  exact ⟨Int.emod_nonneg _ (by omega), Int.emod_lt_of_pos _ (by omega)⟩
theorem mod_div (k p d : Int) (hp : 0 < p) (hd : 0 < d) : k % (d * p) / p = k / p % d := by
  have h1 : k % (d * p) = k - (d * p) * (k / (d * p)) := Int.emod_def _ _
  have h2 : k / (d * p) = k / p / d := by rw [Int.mul_comm d p, Int.ediv_ediv_of_nonneg (by omega)]
  rw [h1, h2, Int.emod_def]
  have e : k - d * p * (k / p / d) = k + p * (-(d * (k / p / d))) := by
    rw [Int.mul_neg, Int.mul_comm d p, Int.mul_assoc]; omega
  rw [e, Int.add_mul_ediv_left _ _ (by omega)]
  omega
/-- the reference's step -/
theorem dig_ref {s : List Int} (h : posB s) (k : Int) {i : Nat} (hi : i < s.length) : k % prodNZ (s.drop i) / prodNZ (s.drop (i + 1)) = dig s k i ∧ k % prodNZ (s.drop i) % prodNZ (s.drop (i + 1)) = k % prodNZ (s.drop (i + 1)) := by
  rw [prodNZ_drop h hi]
  have h1 := getD_pos h hi
  have h2 := posB_prod (posB_drop h (i + 1))
  exact ⟨mod_div k _ _ (by omega) (by omega), Int.emod_emod_of_dvd _ (Int.dvd_mul_left _ _)⟩
theorem dig_start {s : List Int} {k : Int} (h0 : 0 ≤ k) (h1 : k < prodNZ s) : k % prodNZ (s.drop 0) = k := by
  simp only [List.drop_zero]; exact Int.emod_eq_of_lt h0 h1
/-- the program's step -/
theorem dig_prog {s : List Int} (h : posB s) (k : Int) {i : Nat} (hi : i < s.length) : k / prodNZ (s.drop (i + 1)) / s.getD i 0 = k / prodNZ (s.drop i) := by
  rw [prodNZ_drop h hi, Int.mul_comm, Int.ediv_ediv_of_nonneg]
  have h2 := posB_prod (posB_drop h (i + 1))
  omega
/-- the offset of an index -/
def offF (s l : List Int) (i : Nat) : Int := match i with
  | 0 => 0
  | i + 1 => offF s l i * s.getD i 0 + l.getD i 0
def offS (s l : List Int) : Int := offF s l s.length
/-- an index of a shape -/
def inS (s l : List Int) : Prop := l.length = s.length ∧ ∀ i, i < s.length → 0 ≤ l.getD i 0 ∧ l.getD i 0 < s.getD i 0
theorem inS_pos {s l : List Int} (h : inS s l) : posB s := fun d hd => by
  obtain ⟨i, hi, rfl⟩ := List.getElem_of_mem hd
  have := h.2 i hi
  simp [hi] at this
  omega
theorem offF_bd {s l : List Int} (h : inS s l) : ∀ i, i ≤ s.length → 0 ≤ offF s l i ∧ offF s l i < prodNZ (s.take i)
  | 0, _ => by simp [offF, prodNZ]
  | i + 1, hi => by
    obtain ⟨h1, h2⟩ := offF_bd h i (by omega)
    obtain ⟨h3, h4⟩ := h.2 i (by omega)
    have hp := posB_prod (posB_take (inS_pos h) i)
    rw [prodNZ_take_step (by omega) (posB_nz (inS_pos h))]
    simp only [offF]
    have h5 : 0 ≤ offF s l i * s.getD i 0 := Int.mul_nonneg h1 (by omega)
    have h6 : (offF s l i + 1) * s.getD i 0 ≤ prodNZ (s.take i) * s.getD i 0 := Int.mul_le_mul_of_nonneg_right (by omega) (by omega)
    rw [Int.add_mul] at h6
    exact ⟨by omega, by omega⟩
theorem offS_bd {s l : List Int} (h : inS s l) : 0 ≤ offS s l ∧ offS s l < cnt s := by
  have := offF_bd h s.length (Nat.le_refl _)
  rw [List.take_length] at this
  rw [posB_cnt (inS_pos h)]
  exact this
theorem digs_in {s : List Int} (h : posB s) (k : Int) : inS s (digs s k) := ⟨digs_len _ _, fun i hi => by rw [digs_getD hi]; exact dig_bd h k hi⟩
/-- an offset's digits lead back to it -/
theorem off_digs {s : List Int} (h : posB s) {k : Int} (h0 : 0 ≤ k) (h1 : k < cnt s) : offS s (digs s k) = k := by
  have : ∀ i, i ≤ s.length → offF s (digs s k) i = k / prodNZ (s.drop i) := by
    intro i
    induction i with
    | zero =>
      intro _
      simp only [offF, List.drop_zero]
      rw [posB_cnt h] at h1
      rw [Int.ediv_eq_zero_of_lt h0 h1]
    | succ i ih =>
      intro hi
      have hi' : i < s.length := by omega
      simp only [offF]
      rw [ih (by omega), digs_getD hi', ← dig_prog h k hi', dig, Int.mul_comm]
      exact Int.mul_ediv_add_emod _ _
  have h2 := this s.length (Nat.le_refl _)
  simpa [offS, prodNZ] using h2
/-- an index is the digits of its offset -/
theorem digs_off {s l : List Int} (h : inS s l) : digs s (offS s l) = l := by
  have hp := inS_pos h
  have key : ∀ j i, i + j = s.length → offS s l / prodNZ (s.drop i) = offF s l i := by
    intro j
    induction j with
    | zero =>
      intro i hi
      have : i = s.length := by omega
      subst this
      simp [prodNZ, offS]
    | succ j ih =>
      intro i hi
      have hi' : i < s.length := by omega
      have h1 := ih (i + 1) (by omega)
      rw [← dig_prog hp _ hi', h1]
      simp only [offF]
      obtain ⟨h3, h4⟩ := h.2 i hi'
      rw [Int.add_comm, Int.add_mul_ediv_right _ _ (by omega), Int.ediv_eq_zero_of_lt h3 h4]
      omega
  apply List.ext_getElem
  · rw [digs_len, h.1]
  · intro i h1 h2
    have hi : i < s.length := by rw [digs_len] at h1; exact h1
    have e1 : (digs s (offS s l))[i] = dig s (offS s l) i := by simp [digs]
    rw [e1, dig, key (s.length - (i + 1)) (i + 1) (by omega)]
    simp only [offF]
    obtain ⟨h3, h4⟩ := h.2 i hi
    have e2 : l.getD i 0 = l[i] := by simp [h2]
    rw [Int.add_comm, Int.add_mul_emod_self_right, Int.emod_eq_of_lt h3 h4, e2]
end Go.Proofs.Ytkbbdlibamcilaa
