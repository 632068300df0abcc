/- What Expand computes: plain functions and laws. No program. Conditions: those of each lemma. -/
import Derived.Test.YthhffneibcpbdaaP26
import Derived.Test.YthhffneibcpbdaaREF26A
set_option linter.unusedVariables false
set_option linter.unusedSimpArgs false
namespace Go.Proofs.Ythhffneibcpbdaa
def numF (l : List Int) (i : Nat) : Int := l.getD i 0
def onesM (l : List Int) (n : Nat) : Nat := (sumF (numF l) n).toNat
/-- the cells of Expand: y's own where the count is 1, fill cells elsewhere -/
def exN (l : List Int) (y : Arr) : Nat → List Int
  | 0 => []
  | n + 1 => exN l y n ++ (if numF l n = 1 then blkL y.nums (onesM l n) (celN y) else repL (fillS y).nums (celN y))
def exI (l : List Int) (y : Arr) : Nat → List Arr
  | 0 => []
  | n + 1 => exI l y n ++ (if numF l n = 1 then blkL y.items (onesM l n) (celN y) else repL (fillS y).items (celN y))
def exH (l : List Int) (y : Arr) : Nat → Int
  | 0 => 0
  | n + 1 => exH l y n + (if numF l n = 1 then celW y (onesM l n) else celN y)
def exSh (x y : Arr) : List Int := (x.nums.length : Int) :: celL y
def expE (x y : Arr) : Int :=
  if chkE26 x y ≠ 0 then chkE26 x y else if x.nums.all bitB = false then 17 else if onesM x.nums x.nums.length ≠ talM y then 16
  else if shapeB (exSh x y) = false ∨ 262144 < exH x.nums y x.nums.length then 21 else 0
def expA (x y : Arr) : Arr := .mk y.kind (exSh x y) (exN x.nums y x.nums.length) (exI x.nums y x.nums.length)
def expS (x y : Arr) : Arr := if expE x y = 0 then expA x y else .zero
section
variable {x y : Arr}
theorem expS_no (h : expE x y ≠ 0) : expS x y = .zero := if_neg h
theorem expS_yes (h : expE x y = 0) : expS x y = expA x y := if_pos h
theorem expE_c (h : chkE26 x y ≠ 0) : expE x y = chkE26 x y := if_pos h
theorem expE_b (h : chkE26 x y = 0) (b : x.nums.all bitB = false) : expE x y = 17 := by unfold expE; rw [if_neg (by simp [h]), if_pos b]
theorem expE_o (h : chkE26 x y = 0) (b : x.nums.all bitB = true) (o : onesM x.nums x.nums.length ≠ talM y) : expE x y = 16 := by unfold expE; rw [if_neg (by simp [h]), if_neg (by simp [b]), if_pos o]
theorem expE_s (h : chkE26 x y = 0) (b : x.nums.all bitB = true) (o : onesM x.nums x.nums.length = talM y) (s : shapeB (exSh x y) = false ∨ 262144 < exH x.nums y x.nums.length) : expE x y = 21 := by unfold expE; rw [if_neg (by simp [h]), if_neg (by simp [b]), if_neg (by simp [o]), if_pos s]
theorem expE_0 (h : chkE26 x y = 0) (b : x.nums.all bitB = true) (o : onesM x.nums x.nums.length = talM y) (s : shapeB (exSh x y) = true) (v : ¬ 262144 < exH x.nums y x.nums.length) : expE x y = 0 := by unfold expE; rw [if_neg (by simp [h]), if_neg (by simp [b]), if_neg (by simp [o]), if_neg (by simp [s]; omega)]
theorem bit_at {l : List Int} (b : l.all bitB = true) {k : Nat} (hk : k < l.length) : bitB (l.getD k 0) = true := (List.all_eq_true.1 b) _ (getD_mem hk)
theorem bits_sum {l : List Int} (b : l.all bitB = true) {n : Nat} (hn : n ≤ l.length) : 0 ≤ sumF (numF l) n ∧ sumF (numF l) n ≤ n := sumF_bits fun j hj => bit_at b (by omega)
theorem ones_cast {l : List Int} (b : l.all bitB = true) {n : Nat} (hn : n ≤ l.length) : ((onesM l n : Nat) : Int) = sumF (numF l) n := by
  have := bits_sum b hn
  unfold onesM; omega
theorem ones_lt {l : List Int} (b : l.all bitB = true) {k : Nat} (hk : k < l.length) (h1 : numF l k = 1) : onesM l k < onesM l l.length := by
  have e1 := ones_cast b (Nat.le_of_lt hk)
  have e2 := ones_cast b (Nat.le_refl l.length)
  have h2 : sumF (numF l) (k + 1) = sumF (numF l) k + numF l k := rfl
  have h3 := sumF_mono (f := numF l) (n := k + 1) (m := l.length) (fun i hi => by have := bit_at b hi; simp only [bitB, decide_eq_true_eq] at this; unfold numF; omega) (by omega)
  omega
theorem ones_1 {l : List Int} (b : l.all bitB = true) {k : Nat} (hk : k < l.length) (h1 : numF l k = 1) : onesM l (k + 1) = onesM l k + 1 := by
  have e1 := ones_cast b (Nat.le_of_lt hk)
  have e2 := ones_cast b (show k + 1 ≤ l.length from hk)
  have h2 : sumF (numF l) (k + 1) = sumF (numF l) k + numF l k := rfl
  omega
theorem ones_0 {l : List Int} (b : l.all bitB = true) {k : Nat} (hk : k < l.length) (h1 : numF l k ≠ 1) : onesM l (k + 1) = onesM l k := by
  have e1 := ones_cast b (Nat.le_of_lt hk)
  have e2 := ones_cast b (show k + 1 ≤ l.length from hk)
  have h2 : sumF (numF l) (k + 1) = sumF (numF l) k + numF l k := rfl
  have h3 := bit_at b hk
  simp only [bitB, decide_eq_true_eq] at h3
  have h4 : numF l k = 0 := by unfold numF at *; omega
  omega
theorem fill_len (y : Arr) : (fillS y).nums.length ≤ 1 ∧ (fillS y).items.length ≤ 1 := by
  unfold fillS
  split
  · exact ⟨by simp [Arr.nums], by simp [Arr.items]⟩
  · split
    · exact ⟨by simp [Arr.nums], by simp [Arr.items]⟩
    · split
      · exact ⟨by simp [Arr.nums], by simp [Arr.items]⟩
      · exact ⟨by simp [Arr.nums, Arr.zero], by simp [Arr.items, Arr.zero]⟩
theorem exN_le (l : List Int) (y : Arr) (n : Nat) : (exN l y n).length ≤ n * celN y := by
  induction n with
  | zero => simp [exN]
  | succ n ih =>
    rw [exN, List.length_append, Nat.succ_mul]
    have h1 := blkL_le y.nums (onesM l n) (celN y)
    have h2 := repL_le (fill_len y).1 (celN y)
    split <;> omega
theorem exI_le (l : List Int) (y : Arr) (n : Nat) : (exI l y n).length ≤ n * celN y := by
  induction n with
  | zero => simp [exI]
  | succ n ih =>
    rw [exI, List.length_append, Nat.succ_mul]
    have h1 := blkL_le y.items (onesM l n) (celN y)
    have h2 := repL_le (fill_len y).2 (celN y)
    split <;> omega
theorem exH_nn {l : List Int} (b : l.all bitB = true) (hr : rightS y = 0) (o : onesM l l.length = talM y) {n : Nat} (hn : n ≤ l.length) : 0 ≤ exH l y n := by
  induction n with
  | zero => exact Int.le_refl _
  | succ n ih =>
    have := ih (by omega)
    rw [exH]
    split
    · rename_i q
      have := (celW_bd hr (i := onesM l n) (by rw [← o]; exact ones_lt b (by omega) q)).1
      omega
    · omega
theorem exH_mono {l : List Int} (b : l.all bitB = true) (hr : rightS y = 0) (o : onesM l l.length = talM y) {n m : Nat} (hn : n ≤ m) (hm : m ≤ l.length) : exH l y n ≤ exH l y m := by
  induction m with
  | zero => have : n = 0 := by omega
            subst this; exact Int.le_refl _
  | succ m ih =>
    by_cases e : n = m + 1
    · subst e; exact Int.le_refl _
    · have := ih (by omega) (by omega)
      rw [exH]
      split
      · rename_i q
        have := (celW_bd hr (i := onesM l m) (by rw [← o]; exact ones_lt b (by omega) q)).1
        omega
      · omega
/-- what is known where the counts and the shape of Expand are right -/
structure ExOk (x y : Arr) : Prop where
  c : chkE26 x y = 0
  b : x.nums.all bitB = true
  o : onesM x.nums x.nums.length = talM y
  s : shapeB (exSh x y) = true
theorem ExOk.ry (h : ExOk x y) : rightS y = 0 := (chk26_ok h.c).ry
theorem ExOk.cn (h : ExOk x y) : (cnt (exSh x y)).toNat = x.nums.length * celN y ∧ x.nums.length * celN y ≤ 65536 ∧ x.nums.length ≤ 65536 := by
  have hs := (right_ok h.ry).2.1
  have h1 := cnt_le h.s
  have e : cnt (exSh x y) = ((x.nums.length * celN y : Nat) : Int) := by
    rw [exSh, cnt_cons1, ← celN_eq hs, Int.natCast_mul]
  have h2 := right_l3 (chk26_ok h.c).rx
  omega
theorem ExOk.len (h : ExOk x y) {k : Nat} (hk : k ≤ x.nums.length) : (exN x.nums y k).length ≤ 65536 ∧ (exI x.nums y k).length ≤ 65536 := by
  have h2 := h.cn.2.1
  have h3 := Nat.mul_le_mul_right (celN y) hk
  have h4 := exN_le x.nums y k
  have h5 := exI_le x.nums y k
  omega
end
end Go.Proofs.Ythhffneibcpbdaa
