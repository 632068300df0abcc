/- Expand's result is right exactly when it is not too heavy. No program. Conditions: those of each lemma. -/
import Derived.Test.YthhffneibcpbdaaP26E
set_option linter.unusedVariables false
set_option linter.unusedSimpArgs false
namespace Go.Proofs.Ythhffneibcpbdaa
section
variable {x y : Arr}
theorem mem_exN {l : List Int} {e : Int} {n : Nat} (h : e ∈ exN l y n) : e ∈ y.nums ∨ e ∈ (fillS y).nums := by
  induction n with
  | zero => cases h
  | succ n ih =>
    rw [exN, List.mem_append] at h
    rcases h with h | h
    · exact ih h
    · split at h
      · exact Or.inl (mem_blkL h)
      · exact Or.inr (mem_repL h)
theorem mem_exI {l : List Int} {e : Arr} {n : Nat} (h : e ∈ exI l y n) : e ∈ y.items ∨ e ∈ (fillS y).items := by
  induction n with
  | zero => cases h
  | succ n ih =>
    rw [exI, List.mem_append] at h
    rcases h with h | h
    · exact ih h
    · split at h
      · exact Or.inl (mem_blkL h)
      · exact Or.inr (mem_repL h)
theorem fill_3 (k : y.kind = 3) : (fillS y).nums = [] ∧ (fillS y).items = [unitA] := by
  unfold fillS; rw [if_neg (by omega), if_neg (by omega), if_pos k]; exact ⟨rfl, rfl⟩
theorem fill_n (hk : y.kind = 1 ∨ y.kind = 2 ∨ y.kind = 3) (k : y.kind ≠ 3) : (fillS y).items = [] ∧ ∃ c, (fillS y).nums = [c] ∧ elemB y.kind c = true := by
  unfold fillS
  by_cases k1 : y.kind = 1
  · rw [if_pos k1, k1]; exact ⟨rfl, 0, rfl, by decide⟩
  · have k2 : y.kind = 2 := by omega
    rw [if_neg k1, if_pos k2, k2]; exact ⟨rfl, 32, rfl, by decide⟩
theorem ex_3 {l : List Int} (b : l.all bitB = true) (hr : rightS y = 0) (o : onesM l l.length = talM y) (k : y.kind = 3) {n : Nat} (hn : n ≤ l.length) : exN l y n = [] ∧ (exI l y n).length = n * celN y ∧ (((exI l y n).length : Nat) : Int) + sumW (exI l y n) = exH l y n := by
  induction n with
  | zero => exact ⟨rfl, by simp [exI], rfl⟩
  | succ n ih =>
    obtain ⟨h1, h2, h3⟩ := ih (by omega)
    have hb := (blk_lens hr).1 k
    rw [exN, exI, exH, h1, List.length_append, sumW_append, Nat.succ_mul]
    by_cases q : numF l n = 1
    · have hl := hb.1 (onesM l n) (by rw [← o]; exact ones_lt b (by omega) q)
      rw [if_pos q, if_pos q, if_pos q, hb.2, hl, celW, if_pos k]
      exact ⟨rfl, by omega, by omega⟩
    · rw [if_neg q, if_neg q, if_neg q, (fill_3 k).1, (fill_3 k).2, repL_nil, repL_len, sumW_repL]
      have hw : sumW [unitA] = 0 := by decide
      rw [hw]
      simp only [List.length_cons, List.length_nil]
      exact ⟨rfl, by omega, by omega⟩
theorem ex_n {l : List Int} (b : l.all bitB = true) (hr : rightS y = 0) (o : onesM l l.length = talM y) (k : y.kind ≠ 3) {n : Nat} (hn : n ≤ l.length) : exI l y n = [] ∧ (exN l y n).length = n * celN y ∧ (((exN l y n).length : Nat) : Int) = exH l y n := by
  induction n with
  | zero => exact ⟨rfl, by simp [exN], rfl⟩
  | succ n ih =>
    obtain ⟨h1, h2, h3⟩ := ih (by omega)
    have hb := (blk_lens hr).2 k
    obtain ⟨f1, c, f2, f3⟩ := fill_n (flat_of hr).k k
    rw [exN, exI, exH, h1, List.length_append, Nat.succ_mul]
    by_cases q : numF l n = 1
    · have hl := hb.1 (onesM l n) (by rw [← o]; exact ones_lt b (by omega) q)
      rw [if_pos q, if_pos q, if_pos q, hb.2, hl, celW, if_neg k]
      exact ⟨rfl, by omega, by omega⟩
    · rw [if_neg q, if_neg q, if_neg q, f1, f2, repL_nil, repL_len]
      simp only [List.length_cons, List.length_nil]
      exact ⟨rfl, by omega, by omega⟩
/-- Expand's array is right, or weighs too much -/
theorem ExOk.right (h : ExOk x y) : rightS (expA x y) = 0 ↔ ¬ 262144 < exH x.nums y x.nums.length := by
  have hry := h.ry
  have F := flat_of hry
  have hr := right_iff.1 hry
  have hc := h.cn
  have hcs := cnt_le h.s
  have hform : formE y.kind (exSh x y) (exN x.nums y x.nums.length).length (exI x.nums y x.nums.length).length = 0 := by
    refine form_of F.k h.s ?_
    by_cases k : y.kind = 3
    · have e := ex_3 h.b hry h.o k (Nat.le_refl _)
      left; rw [e.1, e.2.1]; exact ⟨k, by omega, rfl⟩
    · have e := ex_n h.b hry h.o k (Nat.le_refl _)
      right; rw [e.1, e.2.1]; exact ⟨k, by omega, rfl⟩
  have hN : ∀ n ∈ exN x.nums y x.nums.length, elemB y.kind n = true := fun n hn => by
    rcases mem_exN hn with q | q
    · exact hr.2.1 n q
    · by_cases k : y.kind = 3
      · rw [(fill_3 k).1] at q; cases q
      · obtain ⟨f1, c, f2, f3⟩ := fill_n F.k k
        rw [f2, List.mem_singleton] at q; rw [q]; exact f3
  have hI : ∀ a ∈ exI x.nums y x.nums.length, rightS a = 0 ∧ depA a + 1 ≤ 16 := fun a ha => by
    rcases mem_exI ha with q | q
    · exact hr.2.2.1 a q
    · by_cases k : y.kind = 3
      · rw [(fill_3 k).2, List.mem_singleton] at q; rw [q]; exact ⟨by kernel_rfl, by decide⟩
      · rw [(fill_n F.k k).1] at q; cases q
  have hw : (((exN x.nums y x.nums.length).length : Nat) : Int) + ((exI x.nums y x.nums.length).length : Nat) + sumW (exI x.nums y x.nums.length) = exH x.nums y x.nums.length := by
    by_cases k : y.kind = 3
    · have e := ex_3 h.b hry h.o k (Nat.le_refl _)
      rw [← e.2.2, e.1]; simp
    · have e := ex_n h.b hry h.o k (Nat.le_refl _)
      rw [← e.2.2, e.1]; simp [sumW]
  rw [right_iff]
  constructor
  · rintro ⟨_, _, _, q⟩
    rw [← hw]
    intro q2
    exact absurd q (by show ¬ (_ : Int) ≤ 262144; exact Int.not_le.2 q2)
  · intro q
    refine ⟨hform, hN, hI, ?_⟩
    show (_ : Int) ≤ 262144
    exact Int.not_lt.1 (by rw [← hw] at q; exact q)
end
end Go.Proofs.Ythhffneibcpbdaa
