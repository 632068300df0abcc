/- When an array is valid: a plain characterization. No program. Conditions: those of each lemma. -/
import Derived.Test.YtkbbdlibamcilaaSpecA
set_option linter.unusedVariables false
set_option linter.unusedSimpArgs false
namespace Go.Proofs.Ytkbbdlibamcilaa
/-- the depth of a valid array -/
def depA (a : Arr) : Int := (chk a).2.1
/-- the weight of a list of arrays -/
def sumW : List Arr → Int
  | [] => 0
  | x :: l => wtS x + sumW l
/-- the depth below which all lie -/
def maxD : List Arr → Int → Int
  | [], d => d
  | x :: l, d => maxD l (max d (depA x + 1))
theorem sumW_nn (l : List Arr) : 0 ≤ sumW l := by
  induction l with
  | nil => simp [sumW]
  | cons x l ih => have := (wtS_bd x).1; simp only [sumW]; omega
theorem sumW_append (l m : List Arr) : sumW (l ++ m) = sumW l + sumW m := by
  induction l with
  | nil => simp [sumW]
  | cons x l ih => simp only [List.cons_append, sumW, ih]; omega
theorem chkL_some : ∀ {l : List Arr} {d w : Int}, (∀ x ∈ l, rightS x = 0) → 0 ≤ w → chkL l d (min w 262145) = some (maxD l d, min (w + sumW l) 262145)
  | [], d, w, _, _ => by simp [chkL, maxD, sumW]
  | x :: l, d, w, h, hw => by
    have hx := h x (List.mem_cons_self ..)
    have hwt := chk_wt x hx
    have hb := wtS_bd x
    simp only [chkL]
    rw [if_neg (by unfold rightS at hx; simp [hx]), hwt, show min (min w 262145 + wtS x) 262145 = min (w + wtS x) 262145 by omega]
    rw [chkL_some (fun y hy => h y (List.mem_cons_of_mem _ hy)) (by omega)]
    simp only [maxD, sumW, depA, Int.add_assoc]
theorem chkL_none : ∀ {l : List Arr} {d w : Int} {x : Arr}, x ∈ l → rightS x ≠ 0 → chkL l d w = none
  | y :: l, d, w, x, hx, h => by
    simp only [chkL]
    by_cases c : (chk y).1 ≠ 0
    · rw [if_pos c]
    · rw [if_neg c]
      rcases List.mem_cons.1 hx with rfl | hx
      · exact absurd h c
      · exact chkL_none hx h
theorem maxD_le : ∀ {l : List Arr} {d m : Int}, maxD l d ≤ m ↔ d ≤ m ∧ ∀ x ∈ l, depA x + 1 ≤ m
  | [], d, m => by simp [maxD]
  | x :: l, d, m => by
    simp only [maxD, maxD_le, List.forall_mem_cons]
    rw [show (max d (depA x + 1) ≤ m) ↔ (d ≤ m ∧ depA x + 1 ≤ m) from by omega, and_assoc]
theorem right_iff {a : Arr} : rightS a = 0 ↔ formE a.kind a.shape a.nums.length a.items.length = 0 ∧ (∀ n ∈ a.nums, elemB a.kind n = true) ∧ (∀ x ∈ a.items, rightS x = 0 ∧ depA x + 1 ≤ 16) ∧ (a.nums.length : Int) + a.items.length + sumW a.items ≤ 262144 := by
  unfold rightS
  rw [chk_eq]
  by_cases hf : formE a.kind a.shape a.nums.length a.items.length = 0
  · rw [if_neg (by simp [hf])]
    have hl := form_len hf
    by_cases hn : a.nums.any (fun x => !elemB a.kind x) = true
    · rw [if_pos hn]
      refine ⟨fun h => by simp at h, fun h => ?_⟩
      obtain ⟨x, hx, hb⟩ := List.any_eq_true.1 hn
      simp [h.2.1 x hx] at hb
    · rw [if_neg hn]
      have hn' : ∀ n ∈ a.nums, elemB a.kind n = true := fun n hm => by
        cases e : elemB a.kind n with
        | true => rfl
        | false => exact absurd (List.any_eq_true.2 ⟨n, hm, by simp [e]⟩) hn
      by_cases hi : ∀ x ∈ a.items, rightS x = 0
      · have e := chkL_some (l := a.items) (d := 0) (w := (a.nums.length : Int) + a.items.length) hi (by omega)
        rw [show min ((a.nums.length : Int) + a.items.length) 262145 = (a.nums.length : Int) + a.items.length by omega] at e
        rw [e]
        simp only [chkEnd]
        have hs := sumW_nn a.items
        by_cases c : 16 < maxD a.items 0 ∨ 262144 < min ((a.nums.length : Int) + a.items.length + sumW a.items) 262145
        · rw [if_pos c]
          refine ⟨fun h => by simp at h, fun h => ?_⟩
          have : maxD a.items 0 ≤ 16 := maxD_le.2 ⟨by omega, fun x hx => (h.2.2.1 x hx).2⟩
          have := h.2.2.2
          omega
        · rw [if_neg c]
          refine ⟨fun _ => ⟨hf, hn', fun x hx => ⟨hi x hx, (maxD_le.1 (by omega : maxD a.items 0 ≤ 16)).2 x hx⟩, by omega⟩, fun _ => rfl⟩
      · obtain ⟨x, hx⟩ := Classical.not_forall.1 hi
        obtain ⟨hx1, hx2⟩ := Classical.not_imp.1 hx
        rw [chkL_none hx1 hx2]
        exact ⟨fun h => by simp [chkEnd] at h, fun h => absurd (h.2.2.1 x hx1).1 hx2⟩
  · rw [if_pos hf]
    exact ⟨fun h => absurd h hf, fun h => absurd h.1 hf⟩
theorem right_form {a : Arr} (h : rightS a = 0) : formE a.kind a.shape a.nums.length a.items.length = 0 := (right_iff.1 h).1
/-- the form, from its parts -/
theorem form_of {k : Int} {s : List Int} {nn ni : Nat} (hk : k = 1 ∨ k = 2 ∨ k = 3) (hs : shapeB s = true) (h : (k = 3 ∧ (ni : Int) = cnt s ∧ nn = 0) ∨ (k ≠ 3 ∧ (nn : Int) = cnt s ∧ ni = 0)) : formE k s nn ni = 0 := by
  have h8 := (shapeB_iff.1 hs).1
  have hneg : s.any negB = false := any_negB.2 (shapeB_iff.1 hs).2.1
  rcases h with ⟨h3, h1, h2⟩ | ⟨h3, h1, h2⟩
  · rw [formE_last3 h3 (by omega) hneg hs, if_neg (by omega)]
  · rw [formE_last (by omega) (by omega) hneg hs, if_neg (by omega)]
theorem wtS_k3 {a : Arr} (hk : a.kind = 3) : wtS a = min ((a.items.length : Int) + sumW a.items) 262145 := by
  rw [wtS_eq, if_pos hk]
  have : ∀ (l : List Arr) (w : Int), 0 ≤ w → wtL l (min w 262145) = min (w + sumW l) 262145 := by
    intro l
    induction l with
    | nil => intro w _; simp [wtL, sumW]
    | cons x l ih =>
      intro w hw
      have hb := wtS_bd x
      rw [wtL_step x l hw, ih _ (by omega)]
      simp only [sumW, Int.add_assoc]
  exact this _ _ (by omega)
theorem wtS_nk3 {a : Arr} (hk : a.kind ≠ 3) : wtS a = min (szN a.kind a.nums.length a.items.length : Int) 262145 := by rw [wtS_eq, if_neg hk]
theorem cnt_one {n : Int} : cnt [n] = n := by
  unfold cnt
  by_cases h : n = 0
  · simp [h]
  · rw [if_neg (by simp; omega)]; simp [prodNZ, h]
theorem cnt_nil : cnt [] = 1 := by simp [cnt, prodNZ]
theorem shapeB_one {n : Int} (h0 : 0 ≤ n) (h1 : n ≤ 65536) : shapeB [n] = true := shapeB_iff.2 ⟨by simp, by simpa using h0, by simp only [prodNZ]; split <;> omega⟩
theorem shapeB_nil : shapeB [] = true := shapeB_iff.2 ⟨by simp, by simp, by simp [prodNZ]⟩
/-- numbers only -/
theorem right_nums {s n : List Int} (hs : shapeB s = true) (hc : (n.length : Int) = cnt s) (hn : ∀ x ∈ n, numB x = true) : rightS (.mk 1 s n []) = 0 := by
  have := cnt_le hs
  rw [right_iff]
  simp only [Arr.kind, Arr.shape, Arr.nums, Arr.items]
  exact ⟨form_of (Or.inl rfl) hs (Or.inr ⟨by omega, hc, rfl⟩), fun x hx => by simp [elemB, hn x hx], by simp, by simp [sumW]; omega⟩
/-- the same elements in another shape -/
theorem right_reshape {y : Arr} (h : rightS y = 0) {s : List Int} (hs : shapeB s = true) (hc : cnt s = cnt y.shape) : rightS (.mk y.kind s y.nums y.items) = 0 := by
  obtain ⟨h1, h2, h3, h4⟩ := right_iff.1 h
  obtain ⟨hk, _, hh⟩ := formE_zero h1
  rw [right_iff]
  simp only [Arr.kind, Arr.shape, Arr.nums, Arr.items]
  exact ⟨form_of hk hs (by rw [hc]; exact hh), h2, h3, h4⟩
end Go.Proofs.Ytkbbdlibamcilaa
