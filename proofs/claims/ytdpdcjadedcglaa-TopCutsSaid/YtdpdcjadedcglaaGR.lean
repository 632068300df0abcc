/- A group of texts (GR), each with its own conditions: those of each lemma. -/
import Derived.Test.YtdpdcjadedcglaaP26
import Derived.Test.YtdpdcjadedcglaaREF26A
import Derived.Test.YtdpdcjadedcglaaPTAK
import Derived.Test.YtdpdcjadedcglaaGI
set_option linter.unusedVariables false
set_option maxRecDepth 20000
set_option linter.unusedSimpArgs false
namespace Go.Proofs.Ytdpdcjadedcglaa
def numF (l : List Int) (i : Nat) : Int := l.getD i 0
def onesM (l : List Int) (n : Nat) : Nat := (sumF (numF l) n).toNat
/-- the cells of Expand: y's own where the count is 1, fill cells elsewhere -/
def exN (l : List Int) (y : Arr) : Nat → List Int
  | 0 => []
  | n + 1 => exN l y n ++ (if numF l n = 1 then blkL y.nums (onesM l n) (celN y) else repL (fillS y).nums (celN y))
def exI (l : List Int) (y : Arr) : Nat → List Arr
  | 0 => []
  | n + 1 => exI l y n ++ (if numF l n = 1 then blkL y.items (onesM l n) (celN y) else repL (fillS y).items (celN y))
def exH (l : List Int) (y : Arr) : Nat → Int
  | 0 => 0
  | n + 1 => exH l y n + (if numF l n = 1 then celW y (onesM l n) else celN y)
def exSh (x y : Arr) : List Int := (x.nums.length : Int) :: celL y
def expE (x y : Arr) : Int :=
  if chkE26 x y ≠ 0 then chkE26 x y else if x.nums.all bitB = false then 17 else if onesM x.nums x.nums.length ≠ talM y then 16
  else if shapeB (exSh x y) = false ∨ 262144 < exH x.nums y x.nums.length then 21 else 0
def expA (x y : Arr) : Arr := .mk y.kind (exSh x y) (exN x.nums y x.nums.length) (exI x.nums y x.nums.length)
def expS (x y : Arr) : Arr := if expE x y = 0 then expA x y else .zero
section
variable {x y : Arr}
theorem expS_no (h : expE x y ≠ 0) : expS x y = .zero := if_neg h
theorem expS_yes (h : expE x y = 0) : expS x y = expA x y := if_pos h
theorem expE_c (h : chkE26 x y ≠ 0) : expE x y = chkE26 x y := if_pos h
theorem expE_b (h : chkE26 x y = 0) (b : x.nums.all bitB = false) : expE x y = 17 := by unfold expE; rw [if_neg (by simp [h]), if_pos b]
theorem expE_o (h : chkE26 x y = 0) (b : x.nums.all bitB = true) (o : onesM x.nums x.nums.length ≠ talM y) : expE x y = 16 := by unfold expE; rw [if_neg (by simp [h]), if_neg (by simp [b]), if_pos o]
theorem expE_s (h : chkE26 x y = 0) (b : x.nums.all bitB = true) (o : onesM x.nums x.nums.length = talM y) (s : shapeB (exSh x y) = false ∨ 262144 < exH x.nums y x.nums.length) : expE x y = 21 := by unfold expE; rw [if_neg (by simp [h]), if_neg (by simp [b]), if_neg (by simp [o]), if_pos s]
theorem expE_0 (h : chkE26 x y = 0) (b : x.nums.all bitB = true) (o : onesM x.nums x.nums.length = talM y) (s : shapeB (exSh x y) = true) (v : ¬ 262144 < exH x.nums y x.nums.length) : expE x y = 0 := by unfold expE; rw [if_neg (by simp [h]), if_neg (by simp [b]), if_neg (by simp [o]), if_neg (by simp [s]; omega)]
theorem bit_at {l : List Int} (b : l.all bitB = true) {k : Nat} (hk : k < l.length) : bitB (l.getD k 0) = true := (List.all_eq_true.1 b) _ (getD_mem hk)
theorem bits_sum {l : List Int} (b : l.all bitB = true) {n : Nat} (hn : n ≤ l.length) : 0 ≤ sumF (numF l) n ∧ sumF (numF l) n ≤ n := sumF_bits fun j hj => bit_at b (by omega)
theorem ones_cast {l : List Int} (b : l.all bitB = true) {n : Nat} (hn : n ≤ l.length) : ((onesM l n : Nat) : Int) = sumF (numF l) n := by
  have := bits_sum b hn
  unfold onesM; omega
theorem ones_lt {l : List Int} (b : l.all bitB = true) {k : Nat} (hk : k < l.length) (h1 : numF l k = 1) : onesM l k < onesM l l.length := by
  have e1 := ones_cast b (Nat.le_of_lt hk)
  have e2 := ones_cast b (Nat.le_refl l.length)
  have h2 : sumF (numF l) (k + 1) = sumF (numF l) k + numF l k := rfl
  have h3 := sumF_mono (f := numF l) (n := k + 1) (m := l.length) (fun i hi => by have := bit_at b hi; simp only [bitB, decide_eq_true_eq] at this; unfold numF; omega) (by omega)
  omega
theorem ones_1 {l : List Int} (b : l.all bitB = true) {k : Nat} (hk : k < l.length) (h1 : numF l k = 1) : onesM l (k + 1) = onesM l k + 1 := by
  have e1 := ones_cast b (Nat.le_of_lt hk)
  have e2 := ones_cast b (show k + 1 ≤ l.length from hk)
  have h2 : sumF (numF l) (k + 1) = sumF (numF l) k + numF l k := rfl
  omega
theorem ones_0 {l : List Int} (b : l.all bitB = true) {k : Nat} (hk : k < l.length) (h1 : numF l k ≠ 1) : onesM l (k + 1) = onesM l k := by
  have e1 := ones_cast b (Nat.le_of_lt hk)
  have e2 := ones_cast b (show k + 1 ≤ l.length from hk)
  have h2 : sumF (numF l) (k + 1) = sumF (numF l) k + numF l k := rfl
  have h3 := bit_at b hk
  simp only [bitB, decide_eq_true_eq] at h3
  have h4 : numF l k = 0 := by unfold numF at *; omega
  omega
theorem fill_len (y : Arr) : (fillS y).nums.length ≤ 1 ∧ (fillS y).items.length ≤ 1 := by
  unfold fillS
  split
  · exact ⟨by simp [Arr.nums], by simp [Arr.items]⟩
  · split
    · exact ⟨by simp [Arr.nums], by simp [Arr.items]⟩
    · split
      · exact ⟨by simp [Arr.nums], by simp [Arr.items]⟩
      · exact ⟨by simp [Arr.nums, Arr.zero], by simp [Arr.items, Arr.zero]⟩
theorem exN_le (l : List Int) (y : Arr) (n : Nat) : (exN l y n).length ≤ n * celN y := by
  induction n with
  | zero => simp [exN]
  | succ n ih =>
    rw [exN, List.length_append, Nat.succ_mul]
    have h1 := blkL_le y.nums (onesM l n) (celN y)
    have h2 := repL_le (fill_len y).1 (celN y)
    split <;> omega
theorem exI_le (l : List Int) (y : Arr) (n : Nat) : (exI l y n).length ≤ n * celN y := by
  induction n with
  | zero => simp [exI]
  | succ n ih =>
    rw [exI, List.length_append, Nat.succ_mul]
    have h1 := blkL_le y.items (onesM l n) (celN y)
    have h2 := repL_le (fill_len y).2 (celN y)
    split <;> omega
theorem exH_nn {l : List Int} (b : l.all bitB = true) (hr : rightS y = 0) (o : onesM l l.length = talM y) {n : Nat} (hn : n ≤ l.length) : 0 ≤ exH l y n := by
  induction n with
  | zero => exact Int.le_refl _
  | succ n ih =>
    have := ih (by omega)
    rw [exH]
    split
    · rename_i q
      have := (celW_bd hr (i := onesM l n) (by rw [← o]; exact ones_lt b (by omega) q)).1
      omega
    · omega
theorem exH_mono {l : List Int} (b : l.all bitB = true) (hr : rightS y = 0) (o : onesM l l.length = talM y) {n m : Nat} (hn : n ≤ m) (hm : m ≤ l.length) : exH l y n ≤ exH l y m := by
  induction m with
  | zero => have : n = 0 := by omega
            subst this; exact Int.le_refl _
  | succ m ih =>
    by_cases e : n = m + 1
    · subst e; exact Int.le_refl _
    · have := ih (by omega) (by omega)
      rw [exH]
      split
      · rename_i q
        have := (celW_bd hr (i := onesM l m) (by rw [← o]; exact ones_lt b (by omega) q)).1
        omega
      · omega
/-- what is known where the counts and the shape of Expand are right -/
structure ExOk (x y : Arr) : Prop where
  c : chkE26 x y = 0
  b : x.nums.all bitB = true
  o : onesM x.nums x.nums.length = talM y
  s : shapeB (exSh x y) = true
theorem ExOk.ry (h : ExOk x y) : rightS y = 0 := (chk26_ok h.c).ry
theorem ExOk.cn (h : ExOk x y) : (cnt (exSh x y)).toNat = x.nums.length * celN y ∧ x.nums.length * celN y ≤ 65536 ∧ x.nums.length ≤ 65536 := by
  have hs := (right_ok h.ry).2.1
  have h1 := cnt_le h.s
  have e : cnt (exSh x y) = ((x.nums.length * celN y : Nat) : Int) := by
    rw [exSh, cnt_cons1, ← celN_eq hs, Int.natCast_mul]
  have h2 := right_l3 (chk26_ok h.c).rx
  omega
theorem ExOk.len (h : ExOk x y) {k : Nat} (hk : k ≤ x.nums.length) : (exN x.nums y k).length ≤ 65536 ∧ (exI x.nums y k).length ≤ 65536 := by
  have h2 := h.cn.2.1
  have h3 := Nat.mul_le_mul_right (celN y) hk
  have h4 := exN_le x.nums y k
  have h5 := exI_le x.nums y k
  omega
end
end Go.Proofs.Ytdpdcjadedcglaa
namespace Go.Proofs.Ytdpdcjadedcglaa
section
variable {x y : Arr}
theorem mem_exN {l : List Int} {e : Int} {n : Nat} (h : e ∈ exN l y n) : e ∈ y.nums ∨ e ∈ (fillS y).nums := by
  induction n with
  | zero => cases h
  | succ n ih =>
    rw [exN, List.mem_append] at h
    rcases h with h | h
    · exact ih h
    · split at h
      · exact Or.inl (mem_blkL h)
      · exact Or.inr (mem_repL h)
theorem mem_exI {l : List Int} {e : Arr} {n : Nat} (h : e ∈ exI l y n) : e ∈ y.items ∨ e ∈ (fillS y).items := by
  induction n with
  | zero => cases h
  | succ n ih =>
    rw [exI, List.mem_append] at h
    rcases h with h | h
    · exact ih h
    · split at h
      · exact Or.inl (mem_blkL h)
      · exact Or.inr (mem_repL h)
theorem fill_3 (k : y.kind = 3) : (fillS y).nums = [] ∧ (fillS y).items = [unitA] := by
  unfold fillS; rw [if_neg (by omega), if_neg (by omega), if_pos k]; exact ⟨rfl, rfl⟩
theorem fill_n (hk : y.kind = 1 ∨ y.kind = 2 ∨ y.kind = 3) (k : y.kind ≠ 3) : (fillS y).items = [] ∧ ∃ c, (fillS y).nums = [c] ∧ elemB y.kind c = true := by
  unfold fillS
  by_cases k1 : y.kind = 1
  · rw [if_pos k1, k1]; exact ⟨rfl, 0, rfl, by decide⟩
  · have k2 : y.kind = 2 := by omega
    rw [if_neg k1, if_pos k2, k2]; exact ⟨rfl, 32, rfl, by decide⟩
theorem ex_3 {l : List Int} (b : l.all bitB = true) (hr : rightS y = 0) (o : onesM l l.length = talM y) (k : y.kind = 3) {n : Nat} (hn : n ≤ l.length) : exN l y n = [] ∧ (exI l y n).length = n * celN y ∧ (((exI l y n).length : Nat) : Int) + sumW (exI l y n) = exH l y n := by
  induction n with
  | zero => exact ⟨rfl, by simp [exI], rfl⟩
  | succ n ih =>
    obtain ⟨h1, h2, h3⟩ := ih (by omega)
    have hb := (blk_lens hr).1 k
    rw [exN, exI, exH, h1, List.length_append, sumW_append, Nat.succ_mul]
    by_cases q : numF l n = 1
    · have hl := hb.1 (onesM l n) (by rw [← o]; exact ones_lt b (by omega) q)
      rw [if_pos q, if_pos q, if_pos q, hb.2, hl, celW, if_pos k]
      exact ⟨rfl, by omega, by omega⟩
    · rw [if_neg q, if_neg q, if_neg q, (fill_3 k).1, (fill_3 k).2, repL_nil, repL_len, sumW_repL]
      have hw : sumW [unitA] = 0 := by decide
      rw [hw]
      simp only [List.length_cons, List.length_nil]
      exact ⟨rfl, by omega, by omega⟩
theorem ex_n {l : List Int} (b : l.all bitB = true) (hr : rightS y = 0) (o : onesM l l.length = talM y) (k : y.kind ≠ 3) {n : Nat} (hn : n ≤ l.length) : exI l y n = [] ∧ (exN l y n).length = n * celN y ∧ (((exN l y n).length : Nat) : Int) = exH l y n := by
  induction n with
  | zero => exact ⟨rfl, by simp [exN], rfl⟩
  | succ n ih =>
    obtain ⟨h1, h2, h3⟩ := ih (by omega)
    have hb := (blk_lens hr).2 k
    obtain ⟨f1, c, f2, f3⟩ := fill_n (flat_of hr).k k
    rw [exN, exI, exH, h1, List.length_append, Nat.succ_mul]
    by_cases q : numF l n = 1
    · have hl := hb.1 (onesM l n) (by rw [← o]; exact ones_lt b (by omega) q)
      rw [if_pos q, if_pos q, if_pos q, hb.2, hl, celW, if_neg k]
      exact ⟨rfl, by omega, by omega⟩
    · rw [if_neg q, if_neg q, if_neg q, f1, f2, repL_nil, repL_len]
      simp only [List.length_cons, List.length_nil]
      exact ⟨rfl, by omega, by omega⟩
/-- Expand's array is right, or weighs too much -/
theorem ExOk.right (h : ExOk x y) : rightS (expA x y) = 0 ↔ ¬ 262144 < exH x.nums y x.nums.length := by
  have hry := h.ry
  have F := flat_of hry
  have hr := right_iff.1 hry
  have hc := h.cn
  have hcs := cnt_le h.s
  have hform : formE y.kind (exSh x y) (exN x.nums y x.nums.length).length (exI x.nums y x.nums.length).length = 0 := by
    refine form_of F.k h.s ?_
    by_cases k : y.kind = 3
    · have e := ex_3 h.b hry h.o k (Nat.le_refl _)
      left; rw [e.1, e.2.1]; exact ⟨k, by omega, rfl⟩
    · have e := ex_n h.b hry h.o k (Nat.le_refl _)
      right; rw [e.1, e.2.1]; exact ⟨k, by omega, rfl⟩
  have hN : ∀ n ∈ exN x.nums y x.nums.length, elemB y.kind n = true := fun n hn => by
    rcases mem_exN hn with q | q
    · exact hr.2.1 n q
    · by_cases k : y.kind = 3
      · rw [(fill_3 k).1] at q; cases q
      · obtain ⟨f1, c, f2, f3⟩ := fill_n F.k k
        rw [f2, List.mem_singleton] at q; rw [q]; exact f3
  have hI : ∀ a ∈ exI x.nums y x.nums.length, rightS a = 0 ∧ depA a + 1 ≤ 16 := fun a ha => by
    rcases mem_exI ha with q | q
    · exact hr.2.2.1 a q
    · by_cases k : y.kind = 3
      · rw [(fill_3 k).2, List.mem_singleton] at q; rw [q]; exact ⟨by kernel_rfl, by decide⟩
      · rw [(fill_n F.k k).1] at q; cases q
  have hw : (((exN x.nums y x.nums.length).length : Nat) : Int) + ((exI x.nums y x.nums.length).length : Nat) + sumW (exI x.nums y x.nums.length) = exH x.nums y x.nums.length := by
    by_cases k : y.kind = 3
    · have e := ex_3 h.b hry h.o k (Nat.le_refl _)
      rw [← e.2.2, e.1]; simp
    · have e := ex_n h.b hry h.o k (Nat.le_refl _)
      rw [← e.2.2, e.1]; simp [sumW]
  rw [right_iff]
  constructor
  · rintro ⟨_, _, _, q⟩
    rw [← hw]
    intro q2
    exact absurd q (by show ¬ (_ : Int) ≤ 262144; exact Int.not_le.2 q2)
  · intro q
    refine ⟨hform, hN, hI, ?_⟩
    show (_ : Int) ≤ 262144
    exact Int.not_lt.1 (by rw [← hw] at q; exact q)
end
end Go.Proofs.Ytdpdcjadedcglaa
namespace Go.Proofs.Ytdpdcjadedcglaa
/-- the groups of the first n counts: where each begins, and how many cells it has -/
def cuts (l : List Int) : Nat → List (Nat × Nat)
  | 0 => []
  | n + 1 => if numF l n = 0 then (match (cuts l n).getLast? with
      | some p => (cuts l n).dropLast ++ [(p.1, p.2 + 1)]
      | none => []) else cuts l n ++ [(n, 1)]
/-- m cells of y from cell i on -/
def grpA (y : Arr) (p : Nat × Nat) : Arr := .mk y.kind ((p.2 : Int) :: celL y) ((y.nums.drop (p.1 * celN y)).take (p.2 * celN y)) ((y.items.drop (p.1 * celN y)).take (p.2 * celN y))
def cutA (x y : Arr) : Arr := .mk 3 [((cuts x.nums x.nums.length).length : Int)] [] ((cuts x.nums x.nums.length).map (grpA y))
def cutE (x y : Arr) : Int :=
  if chkE26 x y ≠ 0 then chkE26 x y else if x.nums.length ≠ talM y then 16 else if x.nums.all bitB = false then 17 else if rightS (cutA x y) ≠ 0 then 21 else 0
def cutS (x y : Arr) : Arr := if cutE x y = 0 then cutA x y else .zero
section
variable {x y : Arr}
theorem cutS_no (h : cutE x y ≠ 0) : cutS x y = .zero := if_neg h
theorem cutS_yes (h : cutE x y = 0) : cutS x y = cutA x y := if_pos h
theorem cutE_c (h : chkE26 x y ≠ 0) : cutE x y = chkE26 x y := if_pos h
theorem cutE_l (h : chkE26 x y = 0) (l : x.nums.length ≠ talM y) : cutE x y = 16 := by unfold cutE; rw [if_neg (by simp [h]), if_pos l]
theorem cutE_b (h : chkE26 x y = 0) (l : x.nums.length = talM y) (b : x.nums.all bitB = false) : cutE x y = 17 := by unfold cutE; rw [if_neg (by simp [h]), if_neg (by simp [l]), if_pos b]
theorem cutE_r (h : chkE26 x y = 0) (l : x.nums.length = talM y) (b : x.nums.all bitB = true) (r : rightS (cutA x y) ≠ 0) : cutE x y = 21 := by unfold cutE; rw [if_neg (by simp [h]), if_neg (by simp [l]), if_neg (by simp [b]), if_pos r]
theorem cutE_0 (h : chkE26 x y = 0) (l : x.nums.length = talM y) (b : x.nums.all bitB = true) (r : rightS (cutA x y) = 0) : cutE x y = 0 := by unfold cutE; rw [if_neg (by simp [h]), if_neg (by simp [l]), if_neg (by simp [b]), if_neg (by simp [r])]
theorem cuts_one {l : List Int} {i : Nat} (h : numF l i ≠ 0) : cuts l (i + 1) = cuts l i ++ [(i, 1)] := by rw [cuts, if_neg h]
theorem cuts_grow {l : List Int} {i m : Nat} (h : numF l i ≠ 0) (hz : ∀ j, i < j → j < i + m + 1 → numF l j = 0) : cuts l (i + m + 1) = cuts l i ++ [(i, m + 1)] := by
  induction m with
  | zero => exact cuts_one h
  | succ m ih =>
    have e := ih (fun j h1 h2 => hz j h1 (by omega))
    rw [show i + (m + 1) + 1 = (i + m + 1) + 1 by omega, cuts, if_pos (hz _ (by omega) (by omega)), e]
    simp
theorem cuts_zero {l : List Int} {i : Nat} (h : numF l i = 0) (e : cuts l i = []) : cuts l (i + 1) = [] := by rw [cuts, if_pos h, e]; rfl
theorem cuts_len (l : List Int) (n : Nat) : (cuts l n).length ≤ n := by
  induction n with
  | zero => simp [cuts]
  | succ n ih =>
    rw [cuts]
    split
    · split
      · rename_i p hp
        have : (cuts l n) ≠ [] := by intro e; rw [e] at hp; cases hp
        have h2 := List.length_pos_iff.2 this
        simp [List.length_dropLast]
        omega
      · simp
    · simp; omega
theorem grp_step {α : Type} (a : List α) (i m c : Nat) : (a.drop (i * c)).take ((m + 1) * c) = (a.drop (i * c)).take (m * c) ++ blkL a (i + m) c := by
  unfold blkL
  rw [Nat.add_mul, Nat.one_mul, List.take_add, List.drop_drop, Nat.add_mul]
theorem grp_len {α : Type} (a : List α) (i m c : Nat) : ((a.drop (i * c)).take (m * c)).length ≤ a.length := by simp; omega
end
end Go.Proofs.Ytdpdcjadedcglaa
namespace Go.Proofs.Ytdpdcjadedcglaa
def wantA (y : Arr) : Arr := .mk y.kind (if y.shape.length = 0 then [1] else y.shape) y.nums y.items
theorem wantA_0 {y : Arr} (h : y.shape.length = 0) : wantA y = .mk y.kind [1] y.nums y.items := by unfold wantA; rw [if_pos h]
theorem wantA_1 {y : Arr} (h : y.shape.length ≠ 0) : wantA y = y := by
  unfold wantA; rw [if_neg h]
  cases y; rfl
section
variable {y : Arr}
theorem tal_shape (hs : shapeB y.shape = true) : ((talM y : Int) :: celL y) = if y.shape.length = 0 then [1] else y.shape := by
  have ht := tal_nn hs
  rw [ht]
  unfold talN celL
  match y.shape with
  | [] => rfl
  | d :: s => simp
theorem want_right (h : rightS y = 0) : rightS (wantA y) = 0 := by
  by_cases c : y.shape.length = 0
  · rw [wantA_0 c]
    have hr := right_iff.1 h
    have hf := right_ok h
    have hn : y.shape = [] := List.eq_nil_of_length_eq_zero c
    refine right_iff.2 ⟨form_of hf.1 (show shapeB [1] = true by decide) ?_, hr.2⟩
    rcases hf.2.2 with ⟨a, b, d⟩ | ⟨a, b, d⟩
    · left; exact ⟨a, by rw [hn] at b; exact b, d⟩
    · right; exact ⟨a, by rw [hn] at b; exact b, d⟩
  · rw [wantA_1 c]; exact h
/-- n blocks of p elements in order -/
theorem cpL_one {α : Type} (a : List α) (p : Nat) (n : Nat) : cpL (fun _ => 1) (fun i => blkL a i p) n = a.take (n * p) := by
  induction n with
  | zero => simp [cpL]
  | succ n ih => rw [cpL, ih, blk_take]; simp [repL]
theorem cpL_zero {α : Type} (b : Nat → List α) (n : Nat) : cpL (fun _ => 0) b n = [] := by
  induction n with
  | zero => rfl
  | succ n ih => rw [cpL, ih]; rfl
theorem cpL_ext {α : Type} {k k' : Nat → Nat} {b b' : Nat → List α} : ∀ {n : Nat}, (∀ i, i < n → k i = k' i ∧ (k i ≠ 0 → b i = b' i)) → cpL k b n = cpL k' b' n
  | 0, _ => rfl
  | n + 1, h => by
    have h1 := h n (by omega)
    rw [cpL, cpL, cpL_ext fun i hi => h i (by omega), ← h1.1]
    by_cases c : k n = 0
    · rw [c]; rfl
    · rw [h1.2 c]
theorem sumF_const (c : Int) (n : Nat) : sumF (fun _ => c) n = n * c := by
  induction n with
  | zero => simp [sumF]
  | succ n ih => simp only [sumF, ih]; rw [Int.natCast_add, Int.add_mul]; simp
theorem full_lists (h : rightS y = 0) : y.nums.take (talM y * celN y) = y.nums ∧ y.items.take (talM y * celN y) = y.items := by
  have hz := sz_tal h
  have F := flat_of h
  unfold szA szN at hz
  have hk := F.k
  by_cases k : y.kind = 3
  · rw [if_neg (by omega), if_pos k] at hz
    exact ⟨by rw [F.n k]; simp, List.take_of_length_le (by omega)⟩
  · rw [if_pos (by omega)] at hz
    exact ⟨List.take_of_length_le (by omega), by rw [F.i k]; simp⟩
theorem want_eq (h : rightS y = 0) : wantA y = .mk y.kind ((talM y : Int) :: celL y) y.nums y.items := by
  unfold wantA; rw [tal_shape (right_ok h).2.1]
theorem shapeB_want (h : rightS y = 0) : shapeB ((talM y : Int) :: celL y) = true := by
  have := (right_ok (want_right h)).2.1
  rw [want_eq h] at this
  exact this
theorem shapeB_none (h : rightS y = 0) : shapeB ((0 : Int) :: celL y) = true := by
  have hs := (right_ok h).2.1
  have hc := shapeB_iff.1 (celL_ok hs)
  have h1 := (shapeB_iff.1 (shapeB_want h)).1
  refine shapeB_iff.2 ⟨by simpa using h1, ?_, ?_⟩
  · intro d hd
    rcases List.mem_cons.1 hd with q | q
    · omega
    · exact hc.2.1 d q
  · have := prodNZ_append [(0 : Int)] (celL y)
    rw [prodNZ_one, if_pos rfl, Int.one_mul] at this
    exact this ▸ hc.2.2
def numS (n : Int) : Arr := .mk 1 [] [n] []
theorem cpK_num (n : Int) (i : Nat) : cpK (numS n) i = n := by unfold cpK numS; rfl
theorem copy_of {x : Arr} (O : CpOk x y) {A : Arr} (e : copyA x y = A) (hr : rightS A = 0) : copyE x y = 0 ∧ copyS x y = A := by
  have hv : ¬ 262144 < cpHvy x y := O.right.1 (by rw [e]; exact hr)
  have he := copyE_0 O.c O.l O.d O.s hv
  exact ⟨he, by rw [copyS_yes he, e]⟩
theorem copy_once (h : rightS y = 0) : copyE (numS 1) y = 0 ∧ copyS (numS 1) y = wantA y := by
  have hs := (right_ok h).2.1
  have hsum : cpSum (numS 1) y = talM y := by
    unfold cpSum
    rw [show sumF (cpK (numS 1)) (talM y) = sumF (fun _ => 1) (talM y) from sumF_congr fun i _ => cpK_num 1 i, sumF_const]; simp
  have hsh : cpShape (numS 1) y = (talM y : Int) :: celL y := by
    unfold cpShape; rw [hsum, Int.min_eq_left (by have := tal_le hs; omega)]
  have O : CpOk (numS 1) y := ⟨chk26_of ⟨by kernel_rfl, h, rfl, by decide⟩, by simp [numS, Arr.shape], rfl, by rw [hsh]; exact shapeB_want h⟩
  refine copy_of O ?_ (want_right h)
  have hf := full_lists h
  unfold copyA
  rw [hsh, want_eq h]
  rw [show (fun i => (cpK (numS 1) i).toNat) = (fun _ => 1) from funext fun i => by rw [cpK_num]; rfl, cpL_one, cpL_one, hf.1, hf.2]
theorem copy_none (h : rightS y = 0) : copyE (numS 0) y = 0 ∧ copyS (numS 0) y = .mk y.kind (0 :: celL y) [] [] := by
  have hs := (right_ok h).2.1
  have F := flat_of h
  have hsum : cpSum (numS 0) y = 0 := by
    unfold cpSum
    rw [show sumF (cpK (numS 0)) (talM y) = sumF (fun _ => 0) (talM y) from sumF_congr fun i _ => cpK_num 0 i, sumF_const]; simp
  have hsh : cpShape (numS 0) y = (0 : Int) :: celL y := by unfold cpShape; rw [hsum]; rfl
  have O : CpOk (numS 0) y := ⟨chk26_of ⟨by kernel_rfl, h, rfl, by decide⟩, by simp [numS, Arr.shape], rfl, by rw [hsh]; exact shapeB_none h⟩
  have hc : cnt ((0 : Int) :: celL y) = 0 := by rw [cnt_cons1, Int.zero_mul]
  refine copy_of O ?_ (right_iff.2 ⟨form_of F.k (shapeB_none h) ?_, by simp [Arr.nums], by simp [Arr.items], by simp [Arr.nums, Arr.items, sumW]⟩)
  · unfold copyA
    rw [hsh, show (fun i => (cpK (numS 0) i).toNat) = (fun _ => 0) from funext fun i => by rw [cpK_num]; rfl, cpL_zero, cpL_zero]
  · by_cases k : y.kind = 3
    · left; exact ⟨k, hc.symm, rfl⟩
    · right; exact ⟨k, hc.symm, rfl⟩
end
/-- blocks of equal length, one behind the other -/
theorem blk_cat {α : Type} {b : Nat → List α} {p : Nat} : ∀ {n : Nat}, (∀ i, i < n → (b i).length = p) → ∀ m, m < n → blkL (cpL (fun _ => 1) b n) m p = b m
  | 0, _, m, hm => by omega
  | n + 1, h, m, hm => by
    have hl : (cpL (fun _ => 1) b n).length = n * p := by
      have hs : ∀ q, sumN (fun _ => 1) q = q := fun q => by induction q with | zero => rfl | succ q ih => rw [sumN, ih]
      rw [cpL_len n fun i hi => h i (by omega), hs]
    have h1 : cpL (fun _ => 1) b (n + 1) = cpL (fun _ => 1) b n ++ b n := by rw [cpL]; simp [repL]
    rw [h1]
    unfold blkL
    by_cases c : m < n
    · have := Nat.mul_le_mul_right p (show m + 1 ≤ n from c)
      rw [Nat.succ_mul] at this
      rw [List.drop_append_of_le_length (by omega), List.take_append_of_le_length (by simp; omega)]
      exact blk_cat (fun i hi => h i (by omega)) m c
    · have e : m = n := by omega
      subst e
      rw [List.drop_append, hl, Nat.sub_self, List.drop_of_length_le (by omega)]
      simp only [List.drop_zero, List.nil_append]
      exact List.take_of_length_le (by rw [h m (by omega)]; exact Nat.le_refl _)
section
variable {x y : Arr}
def exBN (l : List Int) (y : Arr) (i : Nat) : List Int := if numF l i = 1 then blkL y.nums (onesM l i) (celN y) else repL (fillS y).nums (celN y)
def exBI (l : List Int) (y : Arr) (i : Nat) : List Arr := if numF l i = 1 then blkL y.items (onesM l i) (celN y) else repL (fillS y).items (celN y)
theorem exN_cat (l : List Int) (y : Arr) (n : Nat) : exN l y n = cpL (fun _ => 1) (exBN l y) n := by
  induction n with
  | zero => rfl
  | succ n ih => rw [exN, cpL, ih]; simp only [repL, List.nil_append]; rfl
theorem exI_cat (l : List Int) (y : Arr) (n : Nat) : exI l y n = cpL (fun _ => 1) (exBI l y) n := by
  induction n with
  | zero => rfl
  | succ n ih => rw [exI, cpL, ih]; simp only [repL, List.nil_append]; rfl
/-- copying the blocks of ones -/
theorem back_ones {α : Type} {l : List Int} (b : l.all bitB = true) {a : List α} {p : Nat} {f : Nat → List α} (hf : ∀ i, i < l.length → numF l i = 1 → f i = blkL a (onesM l i) p) : ∀ {n : Nat}, n ≤ l.length → cpL (fun i => (numF l i).toNat) f n = a.take (onesM l n * p)
  | 0, _ => by simp [cpL, onesM, sumF]
  | n + 1, h => by
    rw [cpL, back_ones b hf (by omega)]
    by_cases q : numF l n = 1
    · rw [q, ones_1 b (by omega) q, blk_take, ← hf n (by omega) q]; simp [repL]
    · have hb := bit_at b (show n < l.length by omega)
      simp only [bitB, decide_eq_true_eq] at hb
      have h0 : numF l n = 0 := by unfold numF at *; omega
      rw [h0, ones_0 b (by omega) q]; simp [repL]
theorem exp_celL (x y : Arr) : celL (expA x y) = celL y := rfl
theorem exp_celN (x y : Arr) : celN (expA x y) = celN y := rfl
theorem exp_talM (x y : Arr) : talM (expA x y) = x.nums.length := by unfold talM talN expA exSh; simp [Arr.shape]
theorem exp_ok (h : expE x y = 0) : ExOk x y ∧ rightS (expA x y) = 0 := by
  by_cases c : chkE26 x y = 0
  case neg => rw [expE_c c] at h; exact absurd h c
  cases b : x.nums.all bitB with
  | false => rw [expE_b c b] at h; cases h
  | true =>
  by_cases o : onesM x.nums x.nums.length = talM y
  case neg => rw [expE_o c b o] at h; cases h
  cases s : shapeB (exSh x y) with
  | false => rw [expE_s c b o (Or.inl s)] at h; cases h
  | true =>
  have O : ExOk x y := ⟨c, b, o, s⟩
  refine ⟨O, O.right.2 fun v => ?_⟩
  rw [expE_s c b o (Or.inr v)] at h; cases h
/-- an expanded array is copied back with the counts -/
theorem copy_back (h : expE x y = 0) (hx : x.shape.length = 1) : copyE x (expA x y) = 0 ∧ copyS x (expA x y) = wantA y := by
  obtain ⟨O, hr⟩ := exp_ok h
  have K := chk26_ok O.c
  have hy := O.ry
  have hb := O.b
  have hsy := (right_ok hy).2.1
  have hk : ∀ i, cpK x i = numF x.nums i := fun i => by unfold cpK numF; rw [if_neg (by omega)]
  have hsum : cpSum x (expA x y) = talM y := by
    unfold cpSum
    rw [exp_talM, show sumF (cpK x) x.nums.length = sumF (numF x.nums) x.nums.length from sumF_congr fun i _ => hk i, ← ones_cast hb (Nat.le_refl _), O.o]
  have hsh : cpShape x (expA x y) = (talM y : Int) :: celL y := by
    unfold cpShape; rw [hsum, exp_celL, Int.min_eq_left (by have := tal_le hsy; omega)]
  have hneg : x.nums.any negB = false := any_negB.2 fun d hd => by
    have := (List.all_eq_true.1 hb) d hd
    simp only [bitB, decide_eq_true_eq] at this; omega
  have C : CpOk x (expA x y) := ⟨chk26_of ⟨K.rx, hr, K.k, K.r⟩, by rw [exp_talM]; omega, hneg, by rw [hsh]; exact shapeB_want hy⟩
  refine copy_of C ?_ (want_right hy)
  have hfl := full_lists hy
  unfold copyA
  rw [hsh, want_eq hy, exp_celN, exp_talM]
  have hkk : (fun i => (cpK x i).toNat) = (fun i => (numF x.nums i).toNat) := funext fun i => by rw [hk]
  rw [hkk]
  show Arr.mk y.kind _ (cpL (fun i => (numF x.nums i).toNat) (fun i => blkL (exN x.nums y x.nums.length) i (celN y)) x.nums.length) (cpL (fun i => (numF x.nums i).toNat) (fun i => blkL (exI x.nums y x.nums.length) i (celN y)) x.nums.length) = _
  have hlen := blk_lens hy
  by_cases k : y.kind = 3
  · have eN : exN x.nums y x.nums.length = [] := (ex_3 hb hy O.o k (Nat.le_refl _)).1
    have fL : ∀ i, i < x.nums.length → (exBI x.nums y i).length = celN y := fun i hi => by
      unfold exBI
      split
      · rename_i q; exact (hlen.1 k).1 _ (by rw [← O.o]; exact ones_lt hb hi q)
      · rw [(fill_3 k).2, repL_len]; simp
    rw [eN, cpL_nil (fun i => blkL_nil _ _), exI_cat, back_ones hb (a := y.items) (p := celN y) (fun i hi q => by rw [blk_cat fL i hi]; unfold exBI; rw [if_pos q]) (Nat.le_refl _), O.o, hfl.2, (flat_of hy).n k]
  · have eI : exI x.nums y x.nums.length = [] := (ex_n hb hy O.o k (Nat.le_refl _)).1
    obtain ⟨f1, c, f2, f3⟩ := fill_n (flat_of hy).k k
    have fL : ∀ i, i < x.nums.length → (exBN x.nums y i).length = celN y := fun i hi => by
      unfold exBN
      split
      · rename_i q; exact (hlen.2 k).1 _ (by rw [← O.o]; exact ones_lt hb hi q)
      · rw [f2, repL_len]; simp
    rw [eI, cpL_nil (fun i => blkL_nil _ _), exN_cat, back_ones hb (a := y.nums) (p := celN y) (fun i hi q => by rw [blk_cat fL i hi]; unfold exBN; rw [if_pos q]) (Nat.le_refl _), O.o, hfl.1, (flat_of hy).i k]
end
end Go.Proofs.Ytdpdcjadedcglaa
namespace Go.Proofs.Ytdpdcjadedcglaa
/-- groups one behind the other, from cell s up to cell e -/
def Chn (s : Nat) : List (Nat × Nat) → Nat → Prop
  | [], e => s = e
  | p :: ps, e => p.1 = s ∧ 0 < p.2 ∧ Chn (s + p.2) ps e
theorem Chn.app {b : List (Nat × Nat)} {e : Nat} : ∀ {a : List (Nat × Nat)} {s : Nat}, Chn s (a ++ b) e ↔ ∃ m, Chn s a m ∧ Chn m b e
  | [], s => by simp [Chn]
  | p :: a, s => by
    simp only [List.cons_append, Chn, Chn.app (a := a)]
    constructor
    · rintro ⟨h1, h2, m, h3, h4⟩; exact ⟨m, ⟨h1, h2, h3⟩, h4⟩
    · rintro ⟨m, ⟨h1, h2, h3⟩, h4⟩; exact ⟨h1, h2, m, h3, h4⟩
theorem Chn.le : ∀ {a : List (Nat × Nat)} {s e : Nat}, Chn s a e → s ≤ e
  | [], s, e, h => Nat.le_of_eq h
  | p :: a, s, e, h => by have := Chn.le h.2.2; omega
theorem Chn.next {l : List Int} {n s : Nat} (h : Chn s (cuts l n) n) (h0 : cuts l n ≠ []) : Chn s (cuts l (n + 1)) (n + 1) := by
  rw [cuts]
  split
  · match hq : (cuts l n).getLast? with
    | none => rw [List.getLast?_eq_none_iff] at hq; exact absurd hq h0
    | some p =>
      dsimp only
      have e : cuts l n = (cuts l n).dropLast ++ [p] := by
        have := List.dropLast_concat_getLast h0
        rw [List.getLast?_eq_some_getLast h0] at hq
        injection hq with hq
        rw [hq] at this; exact this.symm
      rw [e, Chn.app] at h
      obtain ⟨m, h1, h2⟩ := h
      rw [Chn.app]
      refine ⟨m, h1, h2.1, Nat.succ_pos _, ?_⟩
      have h3 := h2.2.2
      simp only [Chn] at h3 ⊢
      omega
  · rw [Chn.app]
    exact ⟨n, h, rfl, Nat.one_pos, rfl⟩
theorem cuts_chn {l : List Int} {f : Nat} (hz : ∀ j, j < f → numF l j = 0) (hf : numF l f ≠ 0) : ∀ (d : Nat), Chn f (cuts l (f + 1 + d)) (f + 1 + d) ∧ cuts l (f + 1 + d) ≠ []
  | 0 => by
    rw [Nat.add_zero, cuts_one hf]
    have : cuts l f = [] := by
      clear hf
      induction f with
      | zero => rfl
      | succ f ih => exact cuts_zero (hz f (by omega)) (ih fun j hj => hz j (by omega))
    rw [this]
    exact ⟨⟨rfl, Nat.one_pos, rfl⟩, by simp⟩
  | d + 1 => by
    obtain ⟨h1, h2⟩ := cuts_chn hz hf d
    refine ⟨h1.next h2, ?_⟩
    show cuts l ((f + 1 + d) + 1) ≠ []
    rw [cuts]
    split
    · match hq : (cuts l (f + 1 + d)).getLast? with
      | none => rw [List.getLast?_eq_none_iff] at hq; exact absurd hq h2
      | some p => simp
    · simp
theorem cuts_ones {l : List Int} (b : l.all bitB = true) : ∀ {n : Nat}, n ≤ l.length → (cuts l n).length = onesM l n
  | 0, _ => rfl
  | n + 1, h => by
    have ih := cuts_ones b (show n ≤ l.length by omega)
    by_cases q : numF l n = 1
    · rw [ones_1 b (by omega) q, cuts_one (by rw [q]; decide)]; simp [ih]
    · have hb := bit_at b (show n < l.length by omega)
      simp only [bitB, decide_eq_true_eq] at hb
      have h0 : numF l n = 0 := by unfold numF at *; omega
      rw [ones_0 b (by omega) q, cuts, if_pos h0, ← ih]
      match hq : (cuts l n).getLast? with
      | none => rw [List.getLast?_eq_none_iff] at hq; simp [hq]
      | some p =>
        have : cuts l n ≠ [] := by intro e; rw [e] at hq; cases hq
        have := List.length_pos_iff.2 this
        simp [List.length_dropLast]; omega
structure CutOk (x y : Arr) : Prop where
  c : chkE26 x y = 0
  l : x.nums.length = talM y
  b : x.nums.all bitB = true
  r : rightS (cutA x y) = 0
theorem cut_ok {x y : Arr} (h : cutE x y = 0) : CutOk x y := by
  by_cases c : chkE26 x y = 0
  case neg => rw [cutE_c c] at h; exact absurd h c
  by_cases l : x.nums.length = talM y
  case neg => rw [cutE_l c l] at h; cases h
  cases b : x.nums.all bitB with
  | false => rw [cutE_b c l b] at h; cases h
  | true =>
  by_cases r : rightS (cutA x y) = 0
  · exact ⟨c, l, b, r⟩
  · rw [cutE_r c l b r] at h; cases h
section
variable {x y : Arr}
/-- where the groups stand behind i of them: the cells up to q are done -/
def GrpAt (x y : Arr) (i q : Nat) : Prop := q ≤ x.nums.length ∧ (cuts x.nums x.nums.length ≠ [] → Chn q ((cuts x.nums x.nums.length).drop i) x.nums.length)
theorem GrpAt.start {f : Nat} (hf : f ≤ x.nums.length) (hz : ∀ j, j < f → numF x.nums j = 0) (he : f = x.nums.length ∨ numF x.nums f ≠ 0) : GrpAt x y 0 f := by
  refine ⟨hf, fun hne => ?_⟩
  rw [List.drop_zero]
  by_cases c : f = x.nums.length
  · exfalso
    apply hne
    clear hne he
    rw [← c]
    clear c hf
    induction f with
    | zero => rfl
    | succ f ih => exact cuts_zero (hz f (by omega)) (ih fun j hj => hz j (by omega))
  · have h := (cuts_chn hz (he.resolve_left c) (x.nums.length - f - 1)).1
    rw [show f + 1 + (x.nums.length - f - 1) = x.nums.length by omega] at h
    exact h
theorem GrpAt.step {i q : Nat} (h : GrpAt x y i q) (hi : i < (cuts x.nums x.nums.length).length) : ∃ m, (cuts x.nums x.nums.length)[i] = (q, m) ∧ 0 < m ∧ q + m ≤ x.nums.length ∧ GrpAt x y (i + 1) (q + m) := by
  have hne : cuts x.nums x.nums.length ≠ [] := by intro e; rw [e] at hi; simp at hi
  have hc := h.2 hne
  rw [List.drop_eq_getElem_cons hi] at hc
  obtain ⟨h1, h2, h3⟩ := hc
  exact ⟨((cuts x.nums x.nums.length)[i]).2, by rw [← h1], h2, h3.le, h3.le, fun _ => h3⟩
theorem GrpAt.fin {i q : Nat} (h : GrpAt x y i q) (hi : (cuts x.nums x.nums.length).length ≤ i) (hne : 0 < (cuts x.nums x.nums.length).length) : q = x.nums.length := by
  have hc := h.2 (List.length_pos_iff.1 hne)
  rw [List.drop_of_length_le hi] at hc
  exact hc
theorem CutOk.items (h : CutOk x y) : (cutA x y).items = (cuts x.nums x.nums.length).map (grpA y) := rfl
theorem CutOk.len (h : CutOk x y) : (cutA x y).items.length = onesM x.nums x.nums.length := by
  rw [h.items, List.length_map, cuts_ones h.b (Nat.le_refl _)]
theorem CutOk.grp (h : CutOk x y) {i q m : Nat} (hi : i < (cuts x.nums x.nums.length).length) (hq : (cuts x.nums x.nums.length)[i] = (q, m)) : (cutA x y).items[i]'(by rw [h.items, List.length_map]; exact hi) = grpA y (q, m) ∧ rightS (grpA y (q, m)) = 0 := by
  have e : (cutA x y).items[i]'(by rw [h.items, List.length_map]; exact hi) = grpA y (q, m) := by
    rw [← hq]; exact List.getElem_map _
  refine ⟨e, ?_⟩
  have := (right_iff.1 h.r).2.2.1 _ (List.getElem_mem (l := (cutA x y).items) (n := i) (by rw [h.items, List.length_map]; exact hi))
  rw [e] at this
  exact this.1
theorem grp_size (h : rightS y = 0) {q m : Nat} (hm : q + m ≤ talM y) : szA (grpA y (q, m)) = m * celN y := by
  have hz := sz_tal h
  have F := flat_of h
  have hk := F.k
  have hle := Nat.mul_le_mul_right (celN y) hm
  rw [Nat.add_mul] at hle
  unfold szA szN at hz ⊢
  by_cases k : y.kind = 3
  · rw [if_neg (by omega), if_pos k] at hz
    rw [if_neg (by show ¬ (y.kind = 1 ∨ y.kind = 2); omega), if_pos (show (grpA y (q, m)).kind = 3 from k)]
    show ((y.items.drop (q * celN y)).take (m * celN y)).length = _
    simp; omega
  · rw [if_pos (by omega)] at hz
    rw [if_pos (by show y.kind = 1 ∨ y.kind = 2; omega)]
    show ((y.nums.drop (q * celN y)).take (m * celN y)).length = _
    simp; omega
theorem grp_getD {α : Type} {l : List α} {a b k : Nat} {d : α} (hk : k < b) : ((l.drop a).take b).getD k d = l.getD (a + k) d := by
  rw [List.getD_eq_getElem?_getD, List.getD_eq_getElem?_getD, List.getElem?_take, if_pos hk, List.getElem?_drop]
theorem grp_at (h : rightS y = 0) {q m k : Nat} (hm : q + m ≤ talM y) (hk : k < m * celN y) : atS (grpA y (q, m)) (k : Int) = atS y ((q * celN y + k : Nat) : Int) := by
  have hg := grp_size h hm
  have hz := sz_tal h
  have hle := Nat.mul_le_mul_right (celN y) hm
  rw [Nat.add_mul] at hle
  have h1 : ¬ ((k : Int) < 0 ∨ (szA (grpA y (q, m)) : Int) ≤ (k : Int)) := by omega
  have h2 : ¬ (((q * celN y + k : Nat) : Int) < 0 ∨ (szA y : Int) ≤ ((q * celN y + k : Nat) : Int)) := by omega
  by_cases c : y.kind = 3
  · rw [atS_A h1 c, atS_A h2 c]
    congr 2
    show ((y.items.drop (q * celN y)).take (m * celN y)).getD ((k : Int).toNat) .zero = y.items.getD (((q * celN y + k : Nat) : Int).toNat) .zero
    rw [Int.toNat_natCast, Int.toNat_natCast, grp_getD hk]
  · rw [atS_N h1 c, atS_N h2 c]
    show Arr.mk y.kind [] [((y.nums.drop (q * celN y)).take (m * celN y)).getD ((k : Int).toNat) 0] [] = Arr.mk y.kind [] [y.nums.getD (((q * celN y + k : Nat) : Int).toNat) 0] []
    rw [Int.toNat_natCast, Int.toNat_natCast, grp_getD hk]
theorem grpA_cel (y : Arr) (p : Nat × Nat) : celL (grpA y p) = celL y := rfl
theorem CutOk.grp' (h : CutOk x y) {r : Arr} (e : r = cutA x y) {i q : Nat} (hG : GrpAt x y i q) (hi : i < r.items.length) : ∃ m, r.items[i] = grpA y (q, m) ∧ 0 < m ∧ q + m ≤ talM y ∧ rightS (grpA y (q, m)) = 0 ∧ GrpAt x y (i + 1) (q + m) := by
  subst e
  have hi' : i < (cuts x.nums x.nums.length).length := by rw [h.items, List.length_map] at hi; exact hi
  obtain ⟨m, h1, h2, h3, h4⟩ := hG.step hi'
  have h5 := h.grp hi' h1
  exact ⟨m, h5.1, h2, by rw [← h.l]; exact h3, h5.2, h4⟩
theorem CutOk.fin' (h : CutOk x y) {r : Arr} (e : r = cutA x y) {i q : Nat} (hG : GrpAt x y i q) (hi : r.items.length ≤ i) : (r.items.length : Int) = sumF (numF x.nums) x.nums.length ∧ (r.items.length ≠ 0 → q * celN y = szA y) := by
  subst e
  refine ⟨by rw [h.len, ones_cast h.b (Nat.le_refl _)], fun h0 => ?_⟩
  rw [h.items, List.length_map] at hi h0
  have := hG.fin hi (by omega)
  rw [this, h.l, sz_tal (chk26_ok h.c).ry]
theorem GrpAt.le {i q : Nat} (h : GrpAt x y i q) (l : x.nums.length = talM y) : q ≤ talM y := by rw [← l]; exact h.1
end
end Go.Proofs.Ytdpdcjadedcglaa
namespace Go.Proofs.Ytdpdcjadedcglaa
theorem sec_app {α : Type} {l : List α} {t c k : Nat} (hl : l.length ≤ t * c) (hk : k ≤ t) : (l.drop (0 * c)).take (k * c) ++ (l.drop (k * c)).take ((t - k) * c) = l := by
  have h1 : (t - k) * c = t * c - k * c := Nat.sub_mul _ _ _
  rw [Nat.zero_mul, List.drop_zero, List.take_of_length_le (l := l.drop (k * c)) (by rw [List.length_drop, h1]; omega), List.take_append_drop]
theorem parts_join {y : Arr} (h : rightS y = 0) (hr : y.shape.length ≠ 0) {k : Nat} (hk : k ≤ talM y) :
    joinE false (secA y 0 k) (secA y k (talM y - k)) = 0 ∧ joinS false (secA y 0 k) (secA y k (talM y - k)) = y := by
  have rA := sec_right h hr (off := 0) (m := k) (by omega)
  have rB := sec_right h hr (off := k) (m := talM y - k) (by omega)
  have hs := (right_ok h).2.1
  have hyE := tal_cons hs hr
  have hz := sz_tal h
  have hln : y.nums.length ≤ talM y * celN y ∧ y.items.length ≤ talM y * celN y := by
    obtain ⟨_, _, hc⟩ := formE_zero (right_form h)
    have hk := (formE_zero (right_form h)).1
    unfold szA szN at hz
    rcases hc with ⟨h1, h2, h3⟩ | ⟨h1, h2, h3⟩
    · rw [if_neg (by omega), if_pos h1] at hz; omega
    · rw [if_pos (by omega)] at hz; omega
  have eN := sec_app (l := y.nums) hln.1 hk
  have eI := sec_app (l := y.items) hln.2 hk
  have Q : Eqr (secA y 0 k) (secA y k (talM y - k)) := ⟨rfl, Nat.succ_ne_zero _⟩
  have ha : agr (secA y 0 k).shape (secA y k (talM y - k)).shape (jx false (secA y 0 k).shape.length) := fun i hi hne => by
    match i, hne with
    | 0, hne => exact absurd rfl hne
    | i + 1, _ => rfl
  have hS : jS false (secA y 0 k) (secA y k (talM y - k)) = y.shape := by
    rw [Q.S]
    show (((k : Nat) : Int) :: celL y).set 0 (((k : Nat) : Int) + ((talM y - k : Nat) : Int)) = y.shape
    rw [List.set_cons_zero, hyE]
    congr 1
    omega
  have hw : wtS (secA y 0 k) + wtS (secA y k (talM y - k)) ≤ 262144 := by
    rw [wt_right rA, wt_right rB]
    have h1 := (right_iff.1 h).2.2.2
    have l1 : ((secA y 0 k).nums.length : Int) + (secA y k (talM y - k)).nums.length = y.nums.length := by
      have := congrArg List.length eN
      rw [List.length_append] at this
      show ((List.length _ : Nat) : Int) + ((List.length _ : Nat) : Int) = _
      rw [← this]; exact (Int.natCast_add _ _).symm
    have l2 : ((secA y 0 k).items.length : Int) + (secA y k (talM y - k)).items.length = y.items.length := by
      have := congrArg List.length eI
      rw [List.length_append] at this
      show ((List.length _ : Nat) : Int) + ((List.length _ : Nat) : Int) = _
      rw [← this]; exact (Int.natCast_add _ _).symm
    have l3 : sumW (secA y 0 k).items + sumW (secA y k (talM y - k)).items = sumW y.items := by
      have := congrArg sumW eI
      rw [sumW_append] at this
      exact this
    omega
  have hE : joinE false (secA y 0 k) (secA y k (talM y - k)) = 0 := by
    rw [Q.E0 rA rB rfl ha, if_neg]
    rintro (q | q)
    · rw [hS, hs] at q; cases q
    · omega
  refine ⟨hE, ?_⟩
  rw [joinS_yes hE]
  obtain ⟨j1, j2, _, _⟩ := join_first Q (joinOk hE)
  have hSh : (joinA false (secA y 0 k) (secA y k (talM y - k))).shape = y.shape := hS
  have hKd : (joinA false (secA y 0 k) (secA y k (talM y - k))).kind = y.kind := rfl
  have hJ := Arr.eta (joinA false (secA y 0 k) (secA y k (talM y - k)))
  rw [← hJ, hSh, hKd, j1, j2]
  have e1 : (secA y 0 k).nums ++ (secA y k (talM y - k)).nums = y.nums := eN
  have e2 : (secA y 0 k).items ++ (secA y k (talM y - k)).items = y.items := eI
  rw [e1, e2, Arr.eta]
end Go.Proofs.Ytdpdcjadedcglaa
