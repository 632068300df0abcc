/- Plain laws of taking: the offset of a shifted index; one step of the odometer; a run of major cells. Conditions: those of each lemma. -/
import Derived.Test.YtdpdcjadedcglaaP26
import Derived.Test.YtdpdcjadedcglaaP23P
set_option linter.unusedVariables false
set_option maxRecDepth 20000
set_option linter.unusedSimpArgs false
namespace Go.Proofs.Ytdpdcjadedcglaa
/-- the product of the dimensions behind the first, up to an axis -/
def prdF (s : List Int) : Nat → Int
  | 0 => 1
  | i + 1 => prdF s i * s.getD (i + 1) 0
theorem offF_first {s s' l l' : List Int} {off : Int} (hs : ∀ j, s'.getD (j + 1) 0 = s.getD (j + 1) 0) (hl : ∀ j, l'.getD (j + 1) 0 = l.getD (j + 1) 0) (h0 : l'.getD 0 0 = l.getD 0 0 + off) : ∀ i, offF s' l' (i + 1) = offF s l (i + 1) + off * prdF s i
  | 0 => by
    show (0 : Int) * s'.getD 0 0 + l'.getD 0 0 = 0 * s.getD 0 0 + l.getD 0 0 + off * 1
    rw [h0, Int.zero_mul, Int.zero_mul]; omega
  | i + 1 => by
    have e := offF_first hs hl h0 i
    show offF s' l' (i + 1) * s'.getD (i + 1) 0 + l'.getD (i + 1) 0 = offF s l (i + 1) * s.getD (i + 1) 0 + l.getD (i + 1) 0 + off * (prdF s i * s.getD (i + 1) 0)
    rw [e, hs, hl, Int.add_mul, Int.mul_assoc]
    omega
theorem prdF_take {d : Int} {s : List Int} (h : posB s) : ∀ i, i ≤ s.length → prdF (d :: s) i = prodNZ (s.take i)
  | 0, _ => by simp [prdF, prodNZ]
  | i + 1, hi => by
    rw [prodNZ_take_step (by omega) (posB_nz h), ← prdF_take h i (by omega)]
    show prdF (d :: s) i * (d :: s).getD (i + 1) 0 = _
    rw [List.getD_cons_succ]
/-- an index, its first number shifted -/
theorem off_shift {m t : Int} {s : List Int} {a : Int} {r : List Int} {off : Int} (h : inS (m :: s) (a :: r)) : offS (t :: s) ((a + off) :: r) = offS (m :: s) (a :: r) + off * cnt s := by
  have hp : posB s := fun d hd => inS_pos h d (List.mem_cons_of_mem _ hd)
  have e := offF_first (s := m :: s) (s' := t :: s) (l := a :: r) (l' := (a + off) :: r) (off := off) (fun _ => rfl) (fun _ => rfl) rfl s.length
  unfold offS
  rw [show (t :: s).length = s.length + 1 from rfl, show (m :: s).length = s.length + 1 from rfl, e, prdF_take hp _ (Nat.le_refl _), List.take_length, posB_cnt hp]
theorem offF_congr {s l l' : List Int} : ∀ i, (∀ j, j < i → l'.getD j 0 = l.getD j 0) → offF s l' i = offF s l i
  | 0, _ => rfl
  | i + 1, h => by
    show offF s l' i * s.getD i 0 + l'.getD i 0 = offF s l i * s.getD i 0 + l.getD i 0
    rw [offF_congr i (fun j hj => h j (by omega)), h i (by omega)]
/-- the odometer: number a grows by one, the numbers behind it go from their last to 0 -/
theorem odo_step {s l l' : List Int} {a : Nat} (h1 : ∀ j, j < a → l'.getD j 0 = l.getD j 0) (h2 : l'.getD a 0 = l.getD a 0 + 1) (h3 : ∀ j, a < j → j < s.length → l.getD j 0 = s.getD j 0 - 1 ∧ l'.getD j 0 = 0) :
    ∀ i, a < i → i ≤ s.length → offF s l' i = offF s l i + 1
  | 0, h, _ => by omega
  | i + 1, h, hi => by
    show offF s l' i * s.getD i 0 + l'.getD i 0 = offF s l i * s.getD i 0 + l.getD i 0 + 1
    by_cases c : i = a
    · subst c
      rw [offF_congr i h1, h2]; omega
    · obtain ⟨e1, e2⟩ := h3 i (by omega) (by omega)
      rw [odo_step h1 h2 h3 i (by omega) (by omega), e1, e2, Int.add_mul]
      omega
/-- all numbers at their last -/
theorem odo_last {s l : List Int} (hs : posB s) (h : ∀ j, j < s.length → l.getD j 0 = s.getD j 0 - 1) : ∀ i, i ≤ s.length → offF s l i = prodNZ (s.take i) - 1
  | 0, _ => by simp [offF, prodNZ]
  | i + 1, hi => by
    show offF s l i * s.getD i 0 + l.getD i 0 = _
    rw [odo_last hs h i (by omega), h i (by omega), prodNZ_take_step (by omega) (posB_nz hs), Int.sub_mul]
    omega
theorem odo_end {s l : List Int} (hs : posB s) (h : ∀ j, j < s.length → l.getD j 0 = s.getD j 0 - 1) : offS s l = cnt s - 1 := by
  unfold offS
  rw [odo_last hs h _ (Nat.le_refl _), List.take_length, posB_cnt hs]
/-- an index, its first number shifted -/
def shI (off : Nat) (idx : List Int) : List Int := (idx.getD 0 0 + (off : Int)) :: idx.drop 1
theorem shI_0 (off : Nat) (idx : List Int) : (shI off idx).getD 0 0 = idx.getD 0 0 + (off : Int) := rfl
theorem shI_s (off : Nat) (idx : List Int) (j : Nat) : (shI off idx).getD (j + 1) 0 = idx.getD (j + 1) 0 := by
  show (idx.drop 1).getD j 0 = idx.getD (j + 1) 0
  simp [List.getD_eq_getElem?_getD, List.getElem?_drop, Nat.add_comm]
theorem shI_at (off : Nat) (idx : List Int) (j : Nat) : (shI off idx).getD j 0 = if j = 0 then idx.getD j 0 + (off : Int) else idx.getD j 0 := by
  match j with
  | 0 => rw [if_pos rfl]; rfl
  | j + 1 => rw [if_neg (by omega)]; exact shI_s off idx j
theorem drop_take_step {α : Type} {l : List α} {o f e : Nat} (he : e = f + o) (h : e < l.length) : (l.drop o).take (f + 1) = (l.drop o).take f ++ [l[e]] := by
  subst he
  rw [List.take_add_one, List.getElem?_drop, List.getElem?_eq_getElem (by omega)]
  simp [Nat.add_comm]
/-- the numbers of an index lie below their dimensions -/
def inI (s idx : List Int) : Prop := ∀ j, j < s.length → 0 ≤ idx.getD j 0 ∧ idx.getD j 0 < s.getD j 0
theorem shift_in {t m : Int} {c idx : List Int} {off : Nat} (h : inI (m :: c) idx) (ht : (off : Int) + m ≤ t) : inI (t :: c) (shI off idx) := fun j hj => by
  have := h j hj
  rw [shI_at]
  match j with
  | 0 =>
    have e1 : (m :: c).getD 0 0 = m := rfl
    have e2 : (t :: c).getD 0 0 = t := rfl
    rw [if_pos rfl, e2]; rw [e1] at this; omega
  | j + 1 => rw [if_neg (by omega)]; exact this
theorem shift_at {t m : Int} {c idx : List Int} {off : Nat} (hp : posB c) : offF (t :: c) (shI off idx) (t :: c).length = offF (m :: c) idx (m :: c).length + (off : Int) * cnt c := by
  have e := offF_first (s := m :: c) (s' := t :: c) (l := idx) (l' := shI off idx) (off := (off : Int)) (fun _ => rfl) (fun j => shI_s off idx j) (shI_0 off idx) c.length
  rw [show (t :: c).length = c.length + 1 from rfl, show (m :: c).length = c.length + 1 from rfl, e, prdF_take hp _ (Nat.le_refl _), List.take_length, posB_cnt hp]
theorem idx_zero {s : List Int} (hp : posB s) (n : Nat) : inI s (List.replicate n 0) ∧ ∀ i, offF s (List.replicate n 0) i = 0 := by
  have hz : ∀ j, (List.replicate n (0 : Int)).getD j 0 = 0 := fun j => by
    rw [List.getD_eq_getElem?_getD, List.getElem?_replicate]; split <;> rfl
  refine ⟨fun j hj => by rw [hz]; have := getD_pos hp hj; omega, fun i => ?_⟩
  induction i with
  | zero => rfl
  | succ i ih => show offF s _ i * s.getD i 0 + (List.replicate n (0 : Int)).getD i 0 = 0; rw [ih, hz]; omega
theorem odo_next {s idx idx' : List Int} {f a : Nat} (hI : inI s idx) (hf : offF s idx s.length = (f : Int)) (ha : a < s.length) (h1 : ∀ j, j < a → idx'.getD j 0 = idx.getD j 0) (h2 : idx'.getD a 0 = idx.getD a 0 + 1) (h2b : idx.getD a 0 + 1 < s.getD a 0)
    (h3 : ∀ j, a < j → j < s.length → idx.getD j 0 = s.getD j 0 - 1 ∧ idx'.getD j 0 = 0) : inI s idx' ∧ offF s idx' s.length = ((f + 1 : Nat) : Int) := by
  refine ⟨fun j hj => ?_, ?_⟩
  · have q := hI j hj
    rcases Nat.lt_trichotomy j a with c | c | c
    · rw [h1 j c]; exact q
    · subst c; rw [h2]; omega
    · obtain ⟨e1, e2⟩ := h3 j c hj; rw [e2]; omega
  · rw [odo_step h1 h2 h3 _ ha (Nat.le_refl _), hf]; rfl
theorem odo_over {s idx : List Int} {f N : Nat} (hp : posB s) (hN : cnt s = (N : Int)) (hf : offF s idx s.length = (f : Int)) (h : ∀ j, j < s.length → idx.getD j 0 = s.getD j 0 - 1) : f + 1 = N := by
  have := odo_last hp h _ (Nat.le_refl _)
  rw [List.take_length, ← posB_cnt hp, hN, hf] at this
  omega
theorem getD_setI {l : List Int} {k : Nat} (hk : k < l.length) (v : Int) (j : Nat) : (l.set k v).getD j 0 = if j = k then v else l.getD j 0 := by
  by_cases c : j = k
  · subst c; rw [if_pos rfl]; simp [List.getD_eq_getElem?_getD, hk]
  · rw [if_neg c]; simp [List.getD_eq_getElem?_getD, List.getElem?_set_ne (Ne.symm c)]
/-- m major cells, from number off on -/
def secA (y : Arr) (off m : Nat) : Arr := .mk y.kind ((m : Int) :: celL y) ((y.nums.drop (off * celN y)).take (m * celN y)) ((y.items.drop (off * celN y)).take (m * celN y))
theorem tal_cons {y : Arr} (hs : shapeB y.shape = true) (hr : y.shape.length ≠ 0) : y.shape = (talM y : Int) :: celL y := by
  rw [tal_nn hs]
  unfold talN celL
  rw [if_neg hr]
  cases hy : y.shape with
  | nil => rw [hy] at hr; exact absurd rfl hr
  | cons d s => simp
theorem shapeB_first {y : Arr} (hs : shapeB y.shape = true) (hr : y.shape.length ≠ 0) {M : Nat} (h2 : M ≤ talM y) : shapeB ((M : Int) :: celL y) = true := by
  have ht := tal_nn hs
  obtain ⟨a, b, c⟩ := shapeB_iff.1 hs
  have hc := shapeB_iff.1 (celL_ok hs)
  have hp := prodNZ_pos hc.2.1
  refine shapeB_iff.2 ⟨?_, ?_, ?_⟩
  · unfold celL
    rw [List.length_cons, List.length_drop]
    omega
  · intro d hd
    rcases List.mem_cons.1 hd with q | q
    · omega
    · exact hc.2.1 d q
  · have e : prodNZ ((M : Int) :: celL y) = prodNZ [(M : Int)] * prodNZ (celL y) := prodNZ_append [(M : Int)] (celL y)
    rw [e, prodNZ_one]
    by_cases z : (M : Int) = 0
    · rw [if_pos z, Int.one_mul]; exact hc.2.2
    · rw [if_neg z]
      have e2 : (talM y : Int) * prodNZ (celL y) ≤ 65536 := by
        rw [tal_cons hs hr] at c
        have := prodNZ_append [(talM y : Int)] (celL y)
        rw [prodNZ_one, if_neg (by omega)] at this
        simp only [List.cons_append, List.nil_append] at this
        rw [this] at c
        exact c
      have := Int.mul_le_mul_of_nonneg_right (show (M : Int) ≤ talM y by omega) (show 0 ≤ prodNZ (celL y) by omega)
      omega
theorem sumW_sub {l : List Arr} (a b : Nat) : sumW ((l.drop a).take b) ≤ sumW l := by
  have h1 : sumW l = sumW (l.take a) + sumW (l.drop a) := by rw [← sumW_append, List.take_append_drop]
  have h2 : sumW (l.drop a) = sumW ((l.drop a).take b) + sumW ((l.drop a).drop b) := by rw [← sumW_append, List.take_append_drop]
  have := sumW_nn (l.take a)
  have := sumW_nn ((l.drop a).drop b)
  omega
theorem sec_len {y : Arr} (h : rightS y = 0) {off m : Nat} (hm : off + m ≤ talM y) : (y.kind = 3 → ((y.items.drop (off * celN y)).take (m * celN y)).length = m * celN y ∧ y.nums = []) ∧ (y.kind ≠ 3 → ((y.nums.drop (off * celN y)).take (m * celN y)).length = m * celN y ∧ y.items = []) := by
  have hz := sz_tal h
  have hb := Nat.mul_le_mul_right (celN y) hm
  rw [Nat.add_mul] at hb
  obtain ⟨_, _, hc⟩ := formE_zero (right_form h)
  unfold szA szN at hz
  constructor
  · intro k
    rcases hc with ⟨_, _, h3⟩ | ⟨k2, _⟩
    · rw [if_neg (by omega), if_pos k] at hz
      exact ⟨by rw [List.length_take, List.length_drop]; omega, List.eq_nil_of_length_eq_zero h3⟩
    · exact absurd k k2
  · intro k
    rcases hc with ⟨k2, _⟩ | ⟨_, _, h3⟩
    · exact absurd k2 k
    · have := (formE_zero (right_form h)).1
      rw [if_pos (by omega)] at hz
      exact ⟨by rw [List.length_take, List.length_drop]; omega, List.eq_nil_of_length_eq_zero h3⟩
theorem sec_right {y : Arr} (h : rightS y = 0) (hr : y.shape.length ≠ 0) {off m : Nat} (hm : off + m ≤ talM y) : rightS (secA y off m) = 0 := by
  have hs := (right_ok h).2.1
  have hsB := shapeB_first hs hr (M := m) (by omega)
  have hB := shapeB_iff.1 hsB
  have hneg : ((m : Int) :: celL y).any negB = false := by
    rw [List.any_eq_false]
    intro d hd
    have := hB.2.1 d hd
    simp [negB]; omega
  have hc : cnt ((m : Int) :: celL y) = ((m * celN y : Nat) : Int) := by rw [cnt_cons1, ← celN_eq hs, Int.natCast_mul]
  have hR := right_iff.1 h
  obtain ⟨l3, lN⟩ := sec_len h hm
  have hk := (formE_zero (right_form h)).1
  refine right_iff.2 ⟨?_, ?_, ?_, ?_⟩
  · show formE y.kind ((m : Int) :: celL y) ((y.nums.drop (off * celN y)).take (m * celN y)).length ((y.items.drop (off * celN y)).take (m * celN y)).length = 0
    by_cases k : y.kind = 3
    · obtain ⟨a, b⟩ := l3 k
      rw [formE_last3 k (by omega) hneg hsB, hc, a, b]
      simp
    · obtain ⟨a, b⟩ := lN k
      rw [formE_last (by omega) (by omega) hneg hsB, hc, a, b]
      simp
  · intro n hn
    exact hR.2.1 n (List.mem_of_mem_drop (List.mem_of_mem_take hn))
  · intro x hx
    exact hR.2.2.1 x (List.mem_of_mem_drop (List.mem_of_mem_take hx))
  · show (((y.nums.drop (off * celN y)).take (m * celN y)).length : Int) + ((y.items.drop (off * celN y)).take (m * celN y)).length + sumW ((y.items.drop (off * celN y)).take (m * celN y)) ≤ 262144
    have h1 := hR.2.2.2
    have h2 := sumW_sub (l := y.items) (off * celN y) (m * celN y)
    have h3 : ((y.nums.drop (off * celN y)).take (m * celN y)).length ≤ y.nums.length := by rw [List.length_take, List.length_drop]; omega
    have h4 : ((y.items.drop (off * celN y)).take (m * celN y)).length ≤ y.items.length := by rw [List.length_take, List.length_drop]; omega
    omega
end Go.Proofs.Ytdpdcjadedcglaa
