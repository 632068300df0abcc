/- Plain laws of copying. No program. Conditions: those of each lemma. -/
import Derived.Test.YtdpdcjadedcglaaS26
import Derived.Test.YtdpdcjadedcglaaP20D
set_option linter.unusedVariables false
set_option maxRecDepth 20000
set_option linter.unusedSimpArgs false
namespace Go.Proofs.Ytdpdcjadedcglaa
def sumN (f : Nat → Nat) : Nat → Nat
  | 0 => 0
  | n + 1 => sumN f n + f n
theorem sumN_cast {f : Nat → Int} {n : Nat} (h : ∀ i, i < n → 0 ≤ f i) : ((sumN (fun i => (f i).toNat) n : Nat) : Int) = sumF f n := by
  induction n with
  | zero => rfl
  | succ n ih =>
    have := h n (by omega)
    simp only [sumN, sumF, Int.natCast_add, ih (fun i hi => h i (by omega))]
    omega
theorem sumF_nn {f : Nat → Int} {n : Nat} (h : ∀ i, i < n → 0 ≤ f i) : 0 ≤ sumF f n := by
  induction n with
  | zero => exact Int.le_refl _
  | succ n ih =>
    have := h n (by omega)
    have := ih (fun i hi => h i (by omega))
    simp only [sumF]; omega
theorem sumF_mono {f : Nat → Int} {n m : Nat} (h : ∀ i, i < m → 0 ≤ f i) (hn : n ≤ m) : sumF f n ≤ sumF f m := by
  induction m with
  | zero => have : n = 0 := by omega
            subst this; exact Int.le_refl _
  | succ m ih =>
    by_cases e : n = m + 1
    · subst e; exact Int.le_refl _
    · have := ih (fun i hi => h i (by omega)) (by omega)
      have := h m (by omega)
      simp only [sumF]; omega
theorem sumN_mono {f : Nat → Nat} {n m : Nat} (hn : n ≤ m) : sumN f n ≤ sumN f m := by
  induction m with
  | zero => have : n = 0 := by omega
            subst this; exact Nat.le_refl _
  | succ m ih =>
    by_cases e : n = m + 1
    · subst e; exact Nat.le_refl _
    · have := ih (by omega)
      simp only [sumN]; omega
section
variable {α : Type} {k : Nat → Nat} {b : Nat → List α} {p : Nat}
theorem repL_le {l : List α} {p : Nat} (h : l.length ≤ p) (n : Nat) : (repL l n).length ≤ n * p := by
  rw [repL_len]; exact Nat.mul_le_mul_left _ h
theorem cpL_le (h : ∀ i, (b i).length ≤ p) (n : Nat) : (cpL k b n).length ≤ sumN k n * p := by
  induction n with
  | zero => simp [cpL]
  | succ n ih =>
    have := repL_le (h n) (k n)
    rw [cpL, List.length_append, sumN, Nat.add_mul]; omega
theorem cpL_len (n : Nat) (h : ∀ i, i < n → (b i).length = p) : (cpL k b n).length = sumN k n * p := by
  induction n with
  | zero => simp [cpL, sumN]
  | succ n ih => rw [cpL, List.length_append, sumN, Nat.add_mul, ih (fun i hi => h i (by omega)), repL_len, h n (by omega)]
theorem cpL_nil (h : ∀ i, b i = []) (n : Nat) : cpL k b n = [] := by
  induction n with
  | zero => rfl
  | succ n ih => rw [cpL, ih, h n, repL_nil]; rfl
theorem mem_cpL {e : α} {n : Nat} (h : e ∈ cpL k b n) : ∃ i, i < n ∧ e ∈ b i := by
  induction n with
  | zero => cases h
  | succ n ih =>
    rw [cpL, List.mem_append] at h
    rcases h with h | h
    · obtain ⟨i, hi, he⟩ := ih h; exact ⟨i, by omega, he⟩
    · exact ⟨n, by omega, mem_repL h⟩
/-- n cells, and j copies of the next one -/
def cpP (k : Nat → Nat) (b : Nat → List α) (n j : Nat) : List α := cpL k b n ++ repL (b n) j
theorem cpP_0 (n : Nat) : cpP k b n 0 = cpL k b n := by simp [cpP, repL]
theorem cpP_succ (n j : Nat) : cpP k b n (j + 1) = cpP k b n j ++ b n := by simp [cpP, repL]
theorem cpP_all (n : Nat) : cpP k b n (k n) = cpL k b (n + 1) := rfl
theorem cpP_le (h : ∀ i, (b i).length ≤ p) {n j t : Nat} (hn : n < t) (hj : j ≤ k n) : (cpP k b n j).length ≤ sumN k t * p := by
  have h1 := cpL_le (k := k) h n
  have h2 := repL_le (h n) j
  have h3 : sumN k n + j ≤ sumN k t := by have := sumN_mono (f := k) (show n + 1 ≤ t by omega); simp only [sumN] at this; omega
  have h4 := Nat.mul_le_mul_right p h3
  rw [Nat.add_mul] at h4
  rw [cpP, List.length_append]; omega
end
theorem sumW_cpL {k : Nat → Nat} {b : Nat → List Arr} (n : Nat) : sumW (cpL k b n) = sumF (fun i => (k i : Int) * sumW (b i)) n := by
  induction n with
  | zero => rfl
  | succ n ih => rw [cpL, sumW_append, ih, sumW_repL, sumF]
theorem sumF_add (f g : Nat → Int) (n : Nat) : sumF (fun i => f i + g i) n = sumF f n + sumF g n := by
  induction n with
  | zero => rfl
  | succ n ih => simp only [sumF, ih]; omega
theorem sumF_congr {f g : Nat → Int} {n : Nat} (h : ∀ i, i < n → f i = g i) : sumF f n = sumF g n := by
  induction n with
  | zero => rfl
  | succ n ih => rw [sumF, sumF, ih (fun i hi => h i (by omega)), h n (by omega)]
theorem sumF_mul (f : Nat → Int) (c : Int) (n : Nat) : sumF (fun i => f i * c) n = sumF f n * c := by
  induction n with
  | zero => simp [sumF]
  | succ n ih => simp only [sumF, ih, Int.add_mul]
theorem sumW_blk (l : List Arr) (i p : Nat) : sumW (blkL l i p) ≤ sumW l := by
  have e : l = l.take (i * p) ++ (blkL l i p ++ (l.drop (i * p)).drop p) := by unfold blkL; rw [List.take_append_drop, List.take_append_drop]
  have h1 := sumW_nn (l.take (i * p))
  have h2 := sumW_nn ((l.drop (i * p)).drop p)
  have h3 : sumW l = sumW (l.take (i * p)) + (sumW (blkL l i p) + sumW ((l.drop (i * p)).drop p)) := by rw [← sumW_append, ← sumW_append, ← e]
  omega
section
variable {x y : Arr}
theorem cpK_nn (h : x.nums.any negB = false) (i : Nat) : 0 ≤ cpK x i := by
  have hn := any_negB.1 h
  unfold cpK
  by_cases c : (if x.shape.length = 0 then 0 else i) < x.nums.length
  · exact hn _ (getD_mem c)
  · rw [List.getD_eq_getElem?_getD, List.getElem?_eq_none (by omega)]; exact Int.le_refl _
theorem sz_tal (h : rightS y = 0) : szA y = talM y * celN y := by
  have hs := (right_ok h).2.1
  rw [← cnt_tal hs]
  obtain ⟨hk, _, hc⟩ := formE_zero (right_form h)
  unfold szA szN
  rcases hc with ⟨h1, h2, h3⟩ | ⟨h1, h2, h3⟩
  · rw [if_neg (by omega), if_pos h1]; omega
  · rw [if_pos (by omega)]; omega
/-- the blocks of an array: those of numbers, those of items -/
theorem blk_lens (h : rightS y = 0) : (y.kind = 3 → (∀ i, i < talM y → (blkL y.items i (celN y)).length = celN y) ∧ ∀ i, blkL y.nums i (celN y) = []) ∧ (y.kind ≠ 3 → (∀ i, i < talM y → (blkL y.nums i (celN y)).length = celN y) ∧ ∀ i, blkL y.items i (celN y) = []) := by
  have F := flat_of h
  have hz := sz_tal h
  have hk := F.k
  unfold szA szN at hz
  refine ⟨fun k => ⟨fun i hi => blkL_len ?_, fun i => by rw [F.n k]; exact blkL_nil _ _⟩, fun k => ⟨fun i hi => blkL_len ?_, fun i => by rw [F.i k]; exact blkL_nil _ _⟩⟩
  · rw [if_neg (by omega), if_pos k] at hz
    have := Nat.mul_le_mul_right (celN y) (show i + 1 ≤ talM y from hi)
    rw [Nat.succ_mul] at this; omega
  · rw [if_pos (by omega)] at hz
    have := Nat.mul_le_mul_right (celN y) (show i + 1 ≤ talM y from hi)
    rw [Nat.succ_mul] at this; omega
theorem celW_bd (h : rightS y = 0) {i : Nat} (hi : i < talM y) : 0 ≤ celW y i ∧ celW y i ≤ 262144 := by
  have hs := (right_ok h).2.1
  have hn := celN_le hs
  have h4 := (right_iff.1 h).2.2.2
  unfold celW
  split
  · rename_i k
    have h1 := sumW_nn (blkL y.items i (celN y))
    have h2 := sumW_blk y.items i (celN y)
    have h3 := ((blk_lens h).1 k).1 i hi
    have h5 : (blkL y.items i (celN y)).length ≤ y.items.length := by unfold blkL; simp; omega
    omega
  · omega
/-- what is known where the counts are right -/
structure CpOk (x y : Arr) : Prop where
  c : chkE26 x y = 0
  l : ¬ (x.shape.length = 1 ∧ x.nums.length ≠ talM y)
  d : x.nums.any negB = false
  s : shapeB (cpShape x y) = true
theorem CpOk.ry (h : CpOk x y) : rightS y = 0 := (chk26_ok h.c).ry
theorem CpOk.nn (h : CpOk x y) (i : Nat) : 0 ≤ cpK x i := cpK_nn h.d i
theorem CpOk.sum (h : CpOk x y) : cpSum x y ≤ 65536 ∧ 0 ≤ cpSum x y ∧ cpShape x y = cpSum x y :: celL y := by
  have hs := shapeB_iff.1 h.s
  have h1 := prodNZ_ge_mem (l := cpShape x y) hs.2.1 (d := min (cpSum x y) 65537) (by simp [cpShape])
  have h2 : 0 ≤ cpSum x y := sumF_nn fun i _ => h.nn i
  have : min (cpSum x y) 65537 = cpSum x y := by omega
  exact ⟨by omega, h2, by rw [cpShape, this]⟩
theorem CpOk.cast (h : CpOk x y) (n : Nat) : ((sumN (fun i => (cpK x i).toNat) n : Nat) : Int) = sumF (cpK x) n := sumN_cast fun i _ => h.nn i
theorem CpOk.cn (h : CpOk x y) : (cnt (cpShape x y)).toNat = sumN (fun i => (cpK x i).toNat) (talM y) * celN y ∧ sumN (fun i => (cpK x i).toNat) (talM y) * celN y ≤ 65536 := by
  have hs := (right_ok h.ry).2.1
  have h1 := cnt_le h.s
  have e : cnt (cpShape x y) = ((sumN (fun i => (cpK x i).toNat) (talM y) * celN y : Nat) : Int) := by
    rw [h.sum.2.2, cnt_cons1, ← celN_eq hs, Int.natCast_mul, h.cast]; rfl
  omega
theorem CpOk.le (h : CpOk x y) {i : Nat} (hi : i < talM y) : cpK x i ≤ 65536 := by
  have h1 := sumF_mono (f := cpK x) (fun i _ => h.nn i) (show i + 1 ≤ talM y from hi)
  have h2 := sumF_nn (f := cpK x) (n := i) (fun i _ => h.nn i)
  have := h.sum.1
  simp only [sumF] at h1
  unfold cpSum at this; omega
theorem CpOk.hvy (h : CpOk x y) : cpHvy x y = sumF (fun i => cpK x i * celW y i) (talM y) := by
  unfold cpHvy
  exact sumF_congr fun i hi => by have := h.le hi; rw [Int.min_eq_left (by omega)]
def cpN (x y : Arr) (i j : Nat) : List Int := cpP (fun i => (cpK x i).toNat) (fun i => blkL y.nums i (celN y)) i j
def cpI (x y : Arr) (i j : Nat) : List Arr := cpP (fun i => (cpK x i).toNat) (fun i => blkL y.items i (celN y)) i j
theorem CpOk.len (h : CpOk x y) {i j : Nat} (hi : i < talM y) (hj : j ≤ (cpK x i).toNat) : (cpN x y i j).length ≤ 65536 ∧ (cpI x y i j).length ≤ 65536 := by
  have := h.cn.2
  exact ⟨Nat.le_trans (cpP_le (fun i => blkL_le _ _ _) hi hj) this, Nat.le_trans (cpP_le (fun i => blkL_le _ _ _) hi hj) this⟩
theorem cpN_0 : cpN x y 0 0 = [] := by simp [cpN, cpP, cpL, repL]
theorem cpI_0 : cpI x y 0 0 = [] := by simp [cpI, cpP, cpL, repL]
theorem cpN_next (i : Nat) : cpN x y i (cpK x i).toNat = cpN x y (i + 1) 0 := by unfold cpN; rw [cpP_0]; rfl
theorem cpI_next (i : Nat) : cpI x y i (cpK x i).toNat = cpI x y (i + 1) 0 := by unfold cpI; rw [cpP_0]; rfl
theorem cpN_succ (i j : Nat) : cpN x y i (j + 1) = cpN x y i j ++ blkL y.nums i (celN y) := cpP_succ i j
theorem cpI_succ (i j : Nat) : cpI x y i (j + 1) = cpI x y i j ++ blkL y.items i (celN y) := cpP_succ i j
theorem copyA_eq : copyA x y = .mk y.kind (cpShape x y) (cpN x y (talM y) 0) (cpI x y (talM y) 0) := by unfold cpN cpI copyA; rw [cpP_0, cpP_0]
theorem CpOk.lens (h : CpOk x y) {i : Nat} (hi : i ≤ talM y) : (cpN x y i 0).length ≤ 65536 ∧ (cpI x y i 0).length ≤ 65536 := by
  have h2 := h.cn.2
  have h3 := Nat.mul_le_mul_right (celN y) (sumN_mono (f := fun i => (cpK x i).toNat) hi)
  unfold cpN cpI
  rw [cpP_0, cpP_0]
  exact ⟨Nat.le_trans (cpL_le (fun i => blkL_le _ _ _) i) (by omega), Nat.le_trans (cpL_le (fun i => blkL_le _ _ _) i) (by omega)⟩
/-- without elements nothing is copied -/
theorem CpOk.nil (h : CpOk x y) (h0 : cnt (cpShape x y) = 0) {i j : Nat} (hi : i < talM y) (hj : j ≤ (cpK x i).toNat) : cpN x y i j = [] ∧ cpI x y i j = [] := by
  have e := h.cn.1
  rw [h0] at e
  have h1 : (cpN x y i j).length ≤ _ := cpP_le (p := celN y) (fun i => blkL_le y.nums i (celN y)) hi hj
  have h2 : (cpI x y i j).length ≤ _ := cpP_le (p := celN y) (fun i => blkL_le y.items i (celN y)) hi hj
  exact ⟨List.eq_nil_of_length_eq_zero (by omega), List.eq_nil_of_length_eq_zero (by omega)⟩
/-- what has been copied weighs at most what all copies do -/
theorem CpOk.wt (h : CpOk x y) {i j : Nat} (hi : i < talM y) (hj : j ≤ (cpK x i).toNat) : wtS (.mk y.kind (cpShape x y) (cpN x y i j) (cpI x y i j)) ≤ cpHvy x y ∨ wtS (.mk y.kind (cpShape x y) (cpN x y i j) (cpI x y i j)) ≤ 65536 := by
  have hl := h.len hi hj
  by_cases k : y.kind = 3
  · left
    rw [wtS_k3 (a := .mk y.kind (cpShape x y) (cpN x y i j) (cpI x y i j)) k, h.hvy]
    show min (((cpI x y i j).length : Int) + sumW (cpI x y i j)) 262145 ≤ _
    have e : ((cpI x y i j).length : Int) + sumW (cpI x y i j) = sumF (fun i => cpK x i * celW y i) i + (j : Int) * celW y i := by
      unfold cpI cpP
      rw [List.length_append, cpL_len i (fun q hq => ((blk_lens h.ry).1 k).1 q (by omega)), repL_len, ((blk_lens h.ry).1 k).1 i hi, sumW_append, sumW_cpL, sumW_repL]
      have e1 : sumF (fun i => cpK x i * celW y i) i = sumF (cpK x) i * (celN y : Int) + sumF (fun i => ((cpK x i).toNat : Int) * sumW (blkL y.items i (celN y))) i := by
        rw [← sumF_mul, ← sumF_add]
        refine sumF_congr fun q hq => ?_
        have : ((cpK x q).toNat : Int) = cpK x q := by have := h.nn q; omega
        rw [this, celW, if_pos k, Int.mul_add]
      rw [e1, celW, if_pos k, Int.mul_add, Int.natCast_add, Int.natCast_mul, Int.natCast_mul, h.cast]
      dsimp only
      omega
    have m1 := sumF_mono (f := fun i => cpK x i * celW y i) (m := talM y) (fun q hq => Int.mul_nonneg (h.nn q) (celW_bd h.ry hq).1) (show i + 1 ≤ talM y from hi)
    have m2 := Int.mul_le_mul_of_nonneg_right (show (j : Int) ≤ cpK x i by have := h.nn i; omega) (celW_bd h.ry hi).1
    simp only [sumF] at m1
    omega
  · right
    have hk := (flat_of h.ry).k
    rw [wtS_nk3 (a := .mk y.kind (cpShape x y) (cpN x y i j) (cpI x y i j)) k]
    show min ((szN y.kind (cpN x y i j).length (cpI x y i j).length : Nat) : Int) 262145 ≤ _
    unfold szN
    rw [if_pos (by omega)]
    omega
/-- the copies are right, or weigh too much -/
theorem CpOk.right (h : CpOk x y) : rightS (copyA x y) = 0 ↔ ¬ 262144 < cpHvy x y := by
  have hry := h.ry
  have F := flat_of hry
  have hr := right_iff.1 hry
  have hc := h.cn
  have hcs := cnt_le h.s
  have hN : ∀ n ∈ (cpL (fun i => (cpK x i).toNat) (fun i => blkL y.nums i (celN y)) (talM y)), n ∈ y.nums := fun n hn => by obtain ⟨i, _, q⟩ := mem_cpL hn; exact mem_blkL q
  have hI : ∀ n ∈ (cpL (fun i => (cpK x i).toNat) (fun i => blkL y.items i (celN y)) (talM y)), n ∈ y.items := fun n hn => by obtain ⟨i, _, q⟩ := mem_cpL hn; exact mem_blkL q
  have hform : formE y.kind (cpShape x y) (cpL (fun i => (cpK x i).toNat) (fun i => blkL y.nums i (celN y)) (talM y)).length (cpL (fun i => (cpK x i).toNat) (fun i => blkL y.items i (celN y)) (talM y)).length = 0 := by
    refine form_of F.k h.s ?_
    by_cases k : y.kind = 3
    · left
      rw [cpL_len _ ((blk_lens hry).1 k).1, cpL_nil ((blk_lens hry).1 k).2]
      exact ⟨k, by omega, rfl⟩
    · right
      rw [cpL_len _ ((blk_lens hry).2 k).1, cpL_nil ((blk_lens hry).2 k).2]
      exact ⟨k, by omega, rfl⟩
  have hw : (((cpL (fun i => (cpK x i).toNat) (fun i => blkL y.nums i (celN y)) (talM y)).length : Nat) : Int) + ((cpL (fun i => (cpK x i).toNat) (fun i => blkL y.items i (celN y)) (talM y)).length : Nat) + sumW (cpL (fun i => (cpK x i).toNat) (fun i => blkL y.items i (celN y)) (talM y)) = cpHvy x y := by
    rw [h.hvy, sumW_cpL]
    by_cases k : y.kind = 3
    · rw [cpL_len _ ((blk_lens hry).1 k).1, cpL_nil ((blk_lens hry).1 k).2]
      have e1 : sumF (fun i => cpK x i * celW y i) (talM y) = sumF (cpK x) (talM y) * (celN y : Int) + sumF (fun i => ((cpK x i).toNat : Int) * sumW (blkL y.items i (celN y))) (talM y) := by
        rw [← sumF_mul, ← sumF_add]
        refine sumF_congr fun q hq => ?_
        have : ((cpK x q).toNat : Int) = cpK x q := by have := h.nn q; omega
        rw [this, celW, if_pos k, Int.mul_add]
      rw [e1, Int.natCast_mul, h.cast]; simp
    · rw [cpL_len _ ((blk_lens hry).2 k).1, cpL_nil ((blk_lens hry).2 k).2]
      have e1 : sumF (fun i => cpK x i * celW y i) (talM y) = sumF (cpK x) (talM y) * (celN y : Int) := by
        rw [← sumF_mul]
        exact sumF_congr fun q hq => by rw [celW, if_neg k]
      have e2 : sumF (fun i => ((cpK x i).toNat : Int) * sumW (blkL y.items i (celN y))) (talM y) = sumF (fun i => 0 * 0) (talM y) := sumF_congr fun q hq => by rw [((blk_lens hry).2 k).2]; simp [sumW]
      rw [e1, e2, sumF_mul, Int.natCast_mul, h.cast]; simp
  rw [right_iff]
  constructor
  · rintro ⟨_, _, _, q⟩
    have : (copyA x y).nums = _ := rfl
    rw [← hw]
    intro q2
    exact absurd q (by show ¬ (_ : Int) ≤ 262144; exact Int.not_le.2 q2)
  · intro q
    refine ⟨hform, fun n hn => hr.2.1 n (hN n hn), fun a ha => hr.2.2.1 a (hI a ha), ?_⟩
    show (_ : Int) ≤ 262144
    exact Int.not_lt.1 (by rw [← hw] at q; exact q)
end
end Go.Proofs.Ytdpdcjadedcglaa
