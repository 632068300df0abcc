/- Copying once, none, and with the counts of an expansion: plain laws. No program. Conditions: those of each lemma. -/
import Derived.Test.YthhffneibcpbdaaP26X
import Derived.Test.YthhffneibcpbdaaP26C
set_option linter.unusedVariables false
set_option linter.unusedSimpArgs false
namespace Go.Proofs.Ythhffneibcpbdaa
def wantA (y : Arr) : Arr := .mk y.kind (if y.shape.length = 0 then [1] else y.shape) y.nums y.items
theorem wantA_0 {y : Arr} (h : y.shape.length = 0) : wantA y = .mk y.kind [1] y.nums y.items := by unfold wantA; rw [if_pos h]
theorem wantA_1 {y : Arr} (h : y.shape.length ≠ 0) : wantA y = y := by
  unfold wantA; rw [if_neg h]
  cases y; rfl
section
variable {y : Arr}
theorem tal_shape (hs : shapeB y.shape = true) : ((talM y : Int) :: celL y) = if y.shape.length = 0 then [1] else y.shape := by
  have ht := tal_nn hs
  rw [ht]
  unfold talN celL
  match y.shape with
  | [] => rfl
  | d :: s => simp
theorem want_right (h : rightS y = 0) : rightS (wantA y) = 0 := by
  by_cases c : y.shape.length = 0
  · rw [wantA_0 c]
    have hr := right_iff.1 h
    have hf := right_ok h
    have hn : y.shape = [] := List.eq_nil_of_length_eq_zero c
    refine right_iff.2 ⟨form_of hf.1 (show shapeB [1] = true by decide) ?_, hr.2⟩
    rcases hf.2.2 with ⟨a, b, d⟩ | ⟨a, b, d⟩
    · left; exact ⟨a, by rw [hn] at b; exact b, d⟩
    · right; exact ⟨a, by rw [hn] at b; exact b, d⟩
  · rw [wantA_1 c]; exact h
/-- n blocks of p elements in order -/
theorem cpL_one {α : Type} (a : List α) (p : Nat) (n : Nat) : cpL (fun _ => 1) (fun i => blkL a i p) n = a.take (n * p) := by
  induction n with
  | zero => simp [cpL]
  | succ n ih => rw [cpL, ih, blk_take]; simp [repL]
theorem cpL_zero {α : Type} (b : Nat → List α) (n : Nat) : cpL (fun _ => 0) b n = [] := by
  induction n with
  | zero => rfl
  | succ n ih => rw [cpL, ih]; rfl
theorem cpL_ext {α : Type} {k k' : Nat → Nat} {b b' : Nat → List α} : ∀ {n : Nat}, (∀ i, i < n → k i = k' i ∧ (k i ≠ 0 → b i = b' i)) → cpL k b n = cpL k' b' n
  | 0, _ => rfl
  | n + 1, h => by
    have h1 := h n (by omega)
    rw [cpL, cpL, cpL_ext fun i hi => h i (by omega), ← h1.1]
    by_cases c : k n = 0
    · rw [c]; rfl
    · rw [h1.2 c]
theorem sumF_const (c : Int) (n : Nat) : sumF (fun _ => c) n = n * c := by
  induction n with
  | zero => simp [sumF]
  | succ n ih => simp only [sumF, ih]; rw [Int.natCast_add, Int.add_mul]; simp
theorem full_lists (h : rightS y = 0) : y.nums.take (talM y * celN y) = y.nums ∧ y.items.take (talM y * celN y) = y.items := by
  have hz := sz_tal h
  have F := flat_of h
  unfold szA szN at hz
  have hk := F.k
  by_cases k : y.kind = 3
  · rw [if_neg (by omega), if_pos k] at hz
    exact ⟨by rw [F.n k]; simp, List.take_of_length_le (by omega)⟩
  · rw [if_pos (by omega)] at hz
    exact ⟨List.take_of_length_le (by omega), by rw [F.i k]; simp⟩
theorem want_eq (h : rightS y = 0) : wantA y = .mk y.kind ((talM y : Int) :: celL y) y.nums y.items := by
  unfold wantA; rw [tal_shape (right_ok h).2.1]
theorem shapeB_want (h : rightS y = 0) : shapeB ((talM y : Int) :: celL y) = true := by
  have := (right_ok (want_right h)).2.1
  rw [want_eq h] at this
  exact this
theorem shapeB_none (h : rightS y = 0) : shapeB ((0 : Int) :: celL y) = true := by
  have hs := (right_ok h).2.1
  have hc := shapeB_iff.1 (celL_ok hs)
  have h1 := (shapeB_iff.1 (shapeB_want h)).1
  refine shapeB_iff.2 ⟨by simpa using h1, ?_, ?_⟩
  · intro d hd
    rcases List.mem_cons.1 hd with q | q
    · omega
    · exact hc.2.1 d q
  · have := prodNZ_append [(0 : Int)] (celL y)
    rw [prodNZ_one, if_pos rfl, Int.one_mul] at this
    exact this ▸ hc.2.2
def numS (n : Int) : Arr := .mk 1 [] [n] []
theorem cpK_num (n : Int) (i : Nat) : cpK (numS n) i = n := by unfold cpK numS; rfl
theorem copy_of {x : Arr} (O : CpOk x y) {A : Arr} (e : copyA x y = A) (hr : rightS A = 0) : copyE x y = 0 ∧ copyS x y = A := by
  have hv : ¬ 262144 < cpHvy x y := O.right.1 (by rw [e]; exact hr)
  have he := copyE_0 O.c O.l O.d O.s hv
  exact ⟨he, by rw [copyS_yes he, e]⟩
theorem copy_once (h : rightS y = 0) : copyE (numS 1) y = 0 ∧ copyS (numS 1) y = wantA y := by
  have hs := (right_ok h).2.1
  have hsum : cpSum (numS 1) y = talM y := by
    unfold cpSum
    rw [show sumF (cpK (numS 1)) (talM y) = sumF (fun _ => 1) (talM y) from sumF_congr fun i _ => cpK_num 1 i, sumF_const]; simp
  have hsh : cpShape (numS 1) y = (talM y : Int) :: celL y := by
    unfold cpShape; rw [hsum, Int.min_eq_left (by have := tal_le hs; omega)]
  have O : CpOk (numS 1) y := ⟨chk26_of ⟨by kernel_rfl, h, rfl, by decide⟩, by simp [numS, Arr.shape], rfl, by rw [hsh]; exact shapeB_want h⟩
  refine copy_of O ?_ (want_right h)
  have hf := full_lists h
  unfold copyA
  rw [hsh, want_eq h]
  rw [show (fun i => (cpK (numS 1) i).toNat) = (fun _ => 1) from funext fun i => by rw [cpK_num]; rfl, cpL_one, cpL_one, hf.1, hf.2]
theorem copy_none (h : rightS y = 0) : copyE (numS 0) y = 0 ∧ copyS (numS 0) y = .mk y.kind (0 :: celL y) [] [] := by
  have hs := (right_ok h).2.1
  have F := flat_of h
  have hsum : cpSum (numS 0) y = 0 := by
    unfold cpSum
    rw [show sumF (cpK (numS 0)) (talM y) = sumF (fun _ => 0) (talM y) from sumF_congr fun i _ => cpK_num 0 i, sumF_const]; simp
  have hsh : cpShape (numS 0) y = (0 : Int) :: celL y := by unfold cpShape; rw [hsum]; rfl
  have O : CpOk (numS 0) y := ⟨chk26_of ⟨by kernel_rfl, h, rfl, by decide⟩, by simp [numS, Arr.shape], rfl, by rw [hsh]; exact shapeB_none h⟩
  have hc : cnt ((0 : Int) :: celL y) = 0 := by rw [cnt_cons1, Int.zero_mul]
  refine copy_of O ?_ (right_iff.2 ⟨form_of F.k (shapeB_none h) ?_, by simp [Arr.nums], by simp [Arr.items], by simp [Arr.nums, Arr.items, sumW]⟩)
  · unfold copyA
    rw [hsh, show (fun i => (cpK (numS 0) i).toNat) = (fun _ => 0) from funext fun i => by rw [cpK_num]; rfl, cpL_zero, cpL_zero]
  · by_cases k : y.kind = 3
    · left; exact ⟨k, hc.symm, rfl⟩
    · right; exact ⟨k, hc.symm, rfl⟩
end
/-- blocks of equal length, one behind the other -/
theorem blk_cat {α : Type} {b : Nat → List α} {p : Nat} : ∀ {n : Nat}, (∀ i, i < n → (b i).length = p) → ∀ m, m < n → blkL (cpL (fun _ => 1) b n) m p = b m
  | 0, _, m, hm => by omega
  | n + 1, h, m, hm => by
    have hl : (cpL (fun _ => 1) b n).length = n * p := by
      have hs : ∀ q, sumN (fun _ => 1) q = q := fun q => by induction q with | zero => rfl | succ q ih => rw [sumN, ih]
      rw [cpL_len n fun i hi => h i (by omega), hs]
    have h1 : cpL (fun _ => 1) b (n + 1) = cpL (fun _ => 1) b n ++ b n := by rw [cpL]; simp [repL]
    rw [h1]
    unfold blkL
    by_cases c : m < n
    · have := Nat.mul_le_mul_right p (show m + 1 ≤ n from c)
      rw [Nat.succ_mul] at this
      rw [List.drop_append_of_le_length (by omega), List.take_append_of_le_length (by simp; omega)]
      exact blk_cat (fun i hi => h i (by omega)) m c
    · have e : m = n := by omega
      subst e
      rw [List.drop_append, hl, Nat.sub_self, List.drop_of_length_le (by omega)]
      simp only [List.drop_zero, List.nil_append]
      exact List.take_of_length_le (by rw [h m (by omega)]; exact Nat.le_refl _)
section
variable {x y : Arr}
def exBN (l : List Int) (y : Arr) (i : Nat) : List Int := if numF l i = 1 then blkL y.nums (onesM l i) (celN y) else repL (fillS y).nums (celN y)
def exBI (l : List Int) (y : Arr) (i : Nat) : List Arr := if numF l i = 1 then blkL y.items (onesM l i) (celN y) else repL (fillS y).items (celN y)
theorem exN_cat (l : List Int) (y : Arr) (n : Nat) : exN l y n = cpL (fun _ => 1) (exBN l y) n := by
  induction n with
  | zero => rfl
  | succ n ih => rw [exN, cpL, ih]; simp only [repL, List.nil_append]; rfl
theorem exI_cat (l : List Int) (y : Arr) (n : Nat) : exI l y n = cpL (fun _ => 1) (exBI l y) n := by
  induction n with
  | zero => rfl
  | succ n ih => rw [exI, cpL, ih]; simp only [repL, List.nil_append]; rfl
/-- copying the blocks of ones -/
theorem back_ones {α : Type} {l : List Int} (b : l.all bitB = true) {a : List α} {p : Nat} {f : Nat → List α} (hf : ∀ i, i < l.length → numF l i = 1 → f i = blkL a (onesM l i) p) : ∀ {n : Nat}, n ≤ l.length → cpL (fun i => (numF l i).toNat) f n = a.take (onesM l n * p)
  | 0, _ => by simp [cpL, onesM, sumF]
  | n + 1, h => by
    rw [cpL, back_ones b hf (by omega)]
    by_cases q : numF l n = 1
    · rw [q, ones_1 b (by omega) q, blk_take, ← hf n (by omega) q]; simp [repL]
    · have hb := bit_at b (show n < l.length by omega)
      simp only [bitB, decide_eq_true_eq] at hb
      have h0 : numF l n = 0 := by unfold numF at *; omega
      rw [h0, ones_0 b (by omega) q]; simp [repL]
theorem exp_celL (x y : Arr) : celL (expA x y) = celL y := rfl
theorem exp_celN (x y : Arr) : celN (expA x y) = celN y := rfl
theorem exp_talM (x y : Arr) : talM (expA x y) = x.nums.length := by unfold talM talN expA exSh; simp [Arr.shape]
theorem exp_ok (h : expE x y = 0) : ExOk x y ∧ rightS (expA x y) = 0 := by
  by_cases c : chkE26 x y = 0
  case neg => rw [expE_c c] at h; exact absurd h c
  cases b : x.nums.all bitB with
  | false => rw [expE_b c b] at h; cases h
  | true =>
  by_cases o : onesM x.nums x.nums.length = talM y
  case neg => rw [expE_o c b o] at h; cases h
  cases s : shapeB (exSh x y) with
  | false => rw [expE_s c b o (Or.inl s)] at h; cases h
  | true =>
  have O : ExOk x y := ⟨c, b, o, s⟩
  refine ⟨O, O.right.2 fun v => ?_⟩
  rw [expE_s c b o (Or.inr v)] at h; cases h
/-- an expanded array is copied back with the counts -/
theorem copy_back (h : expE x y = 0) (hx : x.shape.length = 1) : copyE x (expA x y) = 0 ∧ copyS x (expA x y) = wantA y := by
  obtain ⟨O, hr⟩ := exp_ok h
  have K := chk26_ok O.c
  have hy := O.ry
  have hb := O.b
  have hsy := (right_ok hy).2.1
  have hk : ∀ i, cpK x i = numF x.nums i := fun i => by unfold cpK numF; rw [if_neg (by omega)]
  have hsum : cpSum x (expA x y) = talM y := by
    unfold cpSum
    rw [exp_talM, show sumF (cpK x) x.nums.length = sumF (numF x.nums) x.nums.length from sumF_congr fun i _ => hk i, ← ones_cast hb (Nat.le_refl _), O.o]
  have hsh : cpShape x (expA x y) = (talM y : Int) :: celL y := by
    unfold cpShape; rw [hsum, exp_celL, Int.min_eq_left (by have := tal_le hsy; omega)]
  have hneg : x.nums.any negB = false := any_negB.2 fun d hd => by
    have := (List.all_eq_true.1 hb) d hd
    simp only [bitB, decide_eq_true_eq] at this; omega
  have C : CpOk x (expA x y) := ⟨chk26_of ⟨K.rx, hr, K.k, K.r⟩, by rw [exp_talM]; omega, hneg, by rw [hsh]; exact shapeB_want hy⟩
  refine copy_of C ?_ (want_right hy)
  have hfl := full_lists hy
  unfold copyA
  rw [hsh, want_eq hy, exp_celN, exp_talM]
  have hkk : (fun i => (cpK x i).toNat) = (fun i => (numF x.nums i).toNat) := funext fun i => by rw [hk]
  rw [hkk]
  show Arr.mk y.kind _ (cpL (fun i => (numF x.nums i).toNat) (fun i => blkL (exN x.nums y x.nums.length) i (celN y)) x.nums.length) (cpL (fun i => (numF x.nums i).toNat) (fun i => blkL (exI x.nums y x.nums.length) i (celN y)) x.nums.length) = _
  have hlen := blk_lens hy
  by_cases k : y.kind = 3
  · have eN : exN x.nums y x.nums.length = [] := (ex_3 hb hy O.o k (Nat.le_refl _)).1
    have fL : ∀ i, i < x.nums.length → (exBI x.nums y i).length = celN y := fun i hi => by
      unfold exBI
      split
      · rename_i q; exact (hlen.1 k).1 _ (by rw [← O.o]; exact ones_lt hb hi q)
      · rw [(fill_3 k).2, repL_len]; simp
    rw [eN, cpL_nil (fun i => blkL_nil _ _), exI_cat, back_ones hb (a := y.items) (p := celN y) (fun i hi q => by rw [blk_cat fL i hi]; unfold exBI; rw [if_pos q]) (Nat.le_refl _), O.o, hfl.2, (flat_of hy).n k]
  · have eI : exI x.nums y x.nums.length = [] := (ex_n hb hy O.o k (Nat.le_refl _)).1
    obtain ⟨f1, c, f2, f3⟩ := fill_n (flat_of hy).k k
    have fL : ∀ i, i < x.nums.length → (exBN x.nums y i).length = celN y := fun i hi => by
      unfold exBN
      split
      · rename_i q; exact (hlen.2 k).1 _ (by rw [← O.o]; exact ones_lt hb hi q)
      · rw [f2, repL_len]; simp
    rw [eI, cpL_nil (fun i => blkL_nil _ _), exN_cat, back_ones hb (a := y.nums) (p := celN y) (fun i hi q => by rw [blk_cat fL i hi]; unfold exBN; rw [if_pos q]) (Nat.le_refl _), O.o, hfl.1, (flat_of hy).i k]
end
end Go.Proofs.Ythhffneibcpbdaa
