/- Plain laws of selecting major cells. Conditions: those of each lemma. -/
import Derived.Test.YtdpdcjadedcglaaS23
import Derived.Test.YtdpdcjadedcglaaP26
set_option linter.unusedVariables false
set_option maxRecDepth 20000
set_option linter.unusedSimpArgs false
namespace Go.Proofs.Ytdpdcjadedcglaa
def frO (x y : Arr) : List Int := x.nums.flatMap fun i => seqI (i * (celN y : Int)) (celN y)
def frP (x y : Arr) (k j : Nat) : List Int := ((x.nums.take k).flatMap fun i => seqI (i * (celN y : Int)) (celN y)) ++ seqI (x.nums.getD k 0 * (celN y : Int)) j
theorem unsc_drop (y : Arr) : (unsc y).shape.drop 1 = celL y := by
  unfold unsc celL
  split
  · rename_i h; rw [List.eq_nil_of_length_eq_zero h]; rfl
  · rfl
theorem unsc_tal (y : Arr) : (unsc y).shape.getD 0 0 = talN y := by
  unfold unsc talN
  split
  · rfl
  · rfl
theorem unsc_kind (y : Arr) : (unsc y).kind = y.kind := by unfold unsc; split <;> rfl
theorem unsc_nums (y : Arr) : (unsc y).nums = y.nums := by unfold unsc; split <;> rfl
theorem unsc_items (y : Arr) : (unsc y).items = y.items := by unfold unsc; split <;> rfl
theorem unsc_gatE (y : Arr) (o : List Int) : gatE (unsc y) o = gatE y o := by unfold gatE; rw [unsc_kind, unsc_items]
theorem frm_O {x y : Arr} (hs : shapeB y.shape = true) : chsO [x] (unsc y) = frO x y := by
  unfold chsO frO
  simp only [List.map_cons, List.map_nil, offP, unsc_drop, Int.zero_mul, Int.zero_add]
  rw [← celN_eq hs, Int.toNat_natCast]
theorem frm_sh (x y : Arr) : chsSh [x] (unsc y) = x.shape ++ celL y := by
  unfold chsSh; rw [← unsc_drop y]; simp
theorem frm_bad (x y : Arr) : chsBad [x] (unsc y).shape = x.nums.any (outB (talN y)) := by
  simp only [chsBad, unsc_tal, Bool.or_false]
structure FrOk (x y : Arr) : Prop where
  rx : rightS x = 0
  ry : rightS y = 0
  k : x.kind = 1
  s : shapeB (x.shape ++ celL y) = true
  b : x.nums.any (outB (talN y)) = false
theorem frmE_r {x y : Arr} (h : rightS x ≠ 0 ∨ rightS y ≠ 0) : frmE x y = 1 := if_pos h
theorem frmE_k {x y : Arr} (h : rightS x = 0) (g : rightS y = 0) (k : x.kind ≠ 1) : frmE x y = 14 := by
  unfold frmE; rw [if_neg (by simp [h, g]), if_pos k]
theorem frmE_s {x y : Arr} (h : rightS x = 0) (g : rightS y = 0) (k : x.kind = 1) (s : shapeB (x.shape ++ celL y) = false) : frmE x y = 21 := by
  unfold frmE; rw [if_neg (by simp [h, g]), if_neg (by simp [k])]; unfold chsE; rw [frm_sh, if_pos s]
theorem frmE_b {x y : Arr} (h : rightS x = 0) (g : rightS y = 0) (k : x.kind = 1) (s : shapeB (x.shape ++ celL y) = true) (b : x.nums.any (outB (talN y)) = true) : frmE x y = 18 := by
  unfold frmE; rw [if_neg (by simp [h, g]), if_neg (by simp [k])]; unfold chsE; rw [frm_sh, if_neg (by simp [s]), frm_bad, if_pos b]
theorem FrOk.e {x y : Arr} (h : FrOk x y) : frmE x y = gatE y (frO x y) := by
  unfold frmE; rw [if_neg (by simp [h.rx, h.ry]), if_neg (by simp [h.k])]; unfold chsE
  rw [frm_sh, if_neg (by simp [h.s]), frm_bad, if_neg (by simp [h.b]), frm_O (right_ok h.ry).2.1, unsc_gatE]
theorem FrOk.v {x y : Arr} (h : FrOk x y) : frmS x y = gatS y (x.shape ++ celL y) (frO x y) := by
  unfold frmS gatS; rw [h.e, frm_O (right_ok h.ry).2.1]
theorem frmS_no {x y : Arr} (h : frmE x y ≠ 0) : frmS x y = .zero := if_neg h
theorem outB_no {d n : Int} (h : outB d n = false) : 0 ≤ n ∧ n < d := by
  unfold outB at h; simp only [decide_eq_false_iff_not] at h; omega
theorem any_no {l : List Int} {p : Int → Bool} (h : l.any p = false) {n : Int} (hn : n ∈ l) : p n = false := by
  rw [List.any_eq_false] at h
  have := h n hn
  simpa using this
theorem FrOk.in {x y : Arr} (h : FrOk x y) {n : Int} (hn : n ∈ x.nums) : 0 ≤ n ∧ n < (talM y : Int) := by
  have := outB_no (any_no h.b hn)
  rw [tal_nn (right_ok h.ry).2.1]
  exact this
theorem cell_lt {m n i k : Nat} (hi : i < m) (hk : k < n) : i * n + k < m * n := by
  have := Nat.mul_le_mul_right n (show i + 1 ≤ m by omega)
  rw [Nat.succ_mul] at this; omega
theorem FrOk.mem {x y : Arr} (h : FrOk x y) {n : Int} (hn : n ∈ frO x y) : 0 ≤ n ∧ n < (szA y : Int) := by
  unfold frO at hn
  rw [List.mem_flatMap] at hn
  obtain ⟨i, hi, hn⟩ := hn
  obtain ⟨k, hk, rfl⟩ := mem_seqI.1 hn
  obtain ⟨h0, h1⟩ := h.in hi
  obtain ⟨i, rfl⟩ := Int.eq_ofNat_of_zero_le h0
  have := cell_lt (show i < talM y by omega) hk
  rw [sz_tal h.ry]
  constructor
  · have : (0 : Int) ≤ ((i * celN y : Nat) : Int) := Int.natCast_nonneg _
    rw [Int.natCast_mul] at this
    omega
  · rw [← Int.natCast_mul]; omega
theorem flat_len {α β : Type} {l : List α} {f : α → List β} {n : Nat} (h : ∀ x ∈ l, (f x).length = n) : (l.flatMap f).length = l.length * n := by
  induction l with
  | nil => simp
  | cons x l ih => rw [List.flatMap_cons, List.length_append, h x (List.mem_cons_self ..), ih fun y hy => h y (List.mem_cons_of_mem _ hy), List.length_cons, Nat.succ_mul]; omega
theorem frO_len (x y : Arr) : (frO x y).length = x.nums.length * celN y := flat_len fun i _ => seqI_len _ _
theorem frP_len (x y : Arr) (k j : Nat) : (frP x y k j).length ≤ x.nums.length * celN y + j := by
  unfold frP
  rw [List.length_append, flat_len (n := celN y) fun i _ => seqI_len _ _, seqI_len, List.length_take]
  have := Nat.mul_le_mul_right (celN y) (show min k x.nums.length ≤ x.nums.length from Nat.min_le_right _ _)
  omega
theorem frP_0 (x y : Arr) : frP x y 0 0 = [] := by simp [frP, seqI]
theorem frP_all (x y : Arr) : frP x y x.nums.length 0 = frO x y := by simp [frP, frO, seqI]
theorem frP_succ (x y : Arr) (k j : Nat) : frP x y k (j + 1) = frP x y k j ++ [x.nums.getD k 0 * (celN y : Int) + (j : Int)] := by
  unfold frP; rw [seqI_succ, List.append_assoc]
theorem frP_next {x y : Arr} {k : Nat} (h : k < x.nums.length) : frP x y k (celN y) = frP x y (k + 1) 0 := by
  unfold frP; rw [take_succ_getD h, flat_snoc, seqI_zero, List.append_nil]
theorem nums_cnt {x : Arr} (h : rightS x = 0) (k : x.kind = 1) : (x.nums.length : Int) = cnt x.shape := by
  obtain ⟨_, _, hc⟩ := formE_zero (right_form h)
  rcases hc with ⟨q, _⟩ | ⟨_, q, _⟩
  · omega
  · exact q
theorem FrOk.len {x y : Arr} (h : FrOk x y) : x.nums.length * celN y ≤ 65536 ∧ ((x.nums.length * celN y : Nat) : Int) = cnt (x.shape ++ celL y) := by
  have h1 := cnt_le h.s
  have h2 := nums_cnt h.rx h.k
  have h3 := celN_eq (right_ok h.ry).2.1
  rw [cnt_app, ← h2, ← h3] at h1 ⊢
  rw [Int.natCast_mul]
  constructor
  · have h4 := h1.2; rw [← Int.natCast_mul] at h4; omega
  · rfl
end Go.Proofs.Ytdpdcjadedcglaa
