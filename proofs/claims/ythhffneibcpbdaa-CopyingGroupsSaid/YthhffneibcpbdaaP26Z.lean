/- The groups of Cut, in order: plain laws. No program. Conditions: those of each lemma. -/
import Derived.Test.YthhffneibcpbdaaP26Y
set_option linter.unusedVariables false
set_option linter.unusedSimpArgs false
namespace Go.Proofs.Ythhffneibcpbdaa
/-- groups one behind the other, from cell s up to cell e -/
def Chn (s : Nat) : List (Nat × Nat) → Nat → Prop
  | [], e => s = e
  | p :: ps, e => p.1 = s ∧ 0 < p.2 ∧ Chn (s + p.2) ps e
theorem Chn.app {b : List (Nat × Nat)} {e : Nat} : ∀ {a : List (Nat × Nat)} {s : Nat}, Chn s (a ++ b) e ↔ ∃ m, Chn s a m ∧ Chn m b e
  | [], s => by simp [Chn]
  | p :: a, s => by
    simp only [List.cons_append, Chn, Chn.app (a := a)]
    constructor
    · rintro ⟨h1, h2, m, h3, h4⟩; exact ⟨m, ⟨h1, h2, h3⟩, h4⟩
    · rintro ⟨m, ⟨h1, h2, h3⟩, h4⟩; exact ⟨h1, h2, m, h3, h4⟩
theorem Chn.le : ∀ {a : List (Nat × Nat)} {s e : Nat}, Chn s a e → s ≤ e
  | [], s, e, h => Nat.le_of_eq h
  | p :: a, s, e, h => by have := Chn.le h.2.2; omega
theorem Chn.next {l : List Int} {n s : Nat} (h : Chn s (cuts l n) n) (h0 : cuts l n ≠ []) : Chn s (cuts l (n + 1)) (n + 1) := by
  rw [cuts]
  split
  · match hq : (cuts l n).getLast? with
    | none => rw [List.getLast?_eq_none_iff] at hq; exact absurd hq h0
    | some p =>
      dsimp only
      have e : cuts l n = (cuts l n).dropLast ++ [p] := by
        have := List.dropLast_concat_getLast h0
        rw [List.getLast?_eq_some_getLast h0] at hq
        injection hq with hq
        rw [hq] at this; exact this.symm
      rw [e, Chn.app] at h
      obtain ⟨m, h1, h2⟩ := h
      rw [Chn.app]
      refine ⟨m, h1, h2.1, Nat.succ_pos _, ?_⟩
      have h3 := h2.2.2
      simp only [Chn] at h3 ⊢
      omega
  · rw [Chn.app]
    exact ⟨n, h, rfl, Nat.one_pos, rfl⟩
theorem cuts_chn {l : List Int} {f : Nat} (hz : ∀ j, j < f → numF l j = 0) (hf : numF l f ≠ 0) : ∀ (d : Nat), Chn f (cuts l (f + 1 + d)) (f + 1 + d) ∧ cuts l (f + 1 + d) ≠ []
  | 0 => by
    rw [Nat.add_zero, cuts_one hf]
    have : cuts l f = [] := by
      clear hf
      induction f with
      | zero => rfl
      | succ f ih => exact cuts_zero (hz f (by omega)) (ih fun j hj => hz j (by omega))
    rw [this]
    exact ⟨⟨rfl, Nat.one_pos, rfl⟩, by simp⟩
  | d + 1 => by
    obtain ⟨h1, h2⟩ := cuts_chn hz hf d
    refine ⟨h1.next h2, ?_⟩
    show cuts l ((f + 1 + d) + 1) ≠ []
    rw [cuts]
    split
    · match hq : (cuts l (f + 1 + d)).getLast? with
      | none => rw [List.getLast?_eq_none_iff] at hq; exact absurd hq h2
      | some p => simp
    · simp
theorem cuts_ones {l : List Int} (b : l.all bitB = true) : ∀ {n : Nat}, n ≤ l.length → (cuts l n).length = onesM l n
  | 0, _ => rfl
  | n + 1, h => by
    have ih := cuts_ones b (show n ≤ l.length by omega)
    by_cases q : numF l n = 1
    · rw [ones_1 b (by omega) q, cuts_one (by rw [q]; decide)]; simp [ih]
    · have hb := bit_at b (show n < l.length by omega)
      simp only [bitB, decide_eq_true_eq] at hb
      have h0 : numF l n = 0 := by unfold numF at *; omega
      rw [ones_0 b (by omega) q, cuts, if_pos h0, ← ih]
      match hq : (cuts l n).getLast? with
      | none => rw [List.getLast?_eq_none_iff] at hq; simp [hq]
      | some p =>
        have : cuts l n ≠ [] := by intro e; rw [e] at hq; cases hq
        have := List.length_pos_iff.2 this
        simp [List.length_dropLast]; omega
structure CutOk (x y : Arr) : Prop where
  c : chkE26 x y = 0
  l : x.nums.length = talM y
  b : x.nums.all bitB = true
  r : rightS (cutA x y) = 0
theorem cut_ok {x y : Arr} (h : cutE x y = 0) : CutOk x y := by
  by_cases c : chkE26 x y = 0
  case neg => rw [cutE_c c] at h; exact absurd h c
  by_cases l : x.nums.length = talM y
  case neg => rw [cutE_l c l] at h; cases h
  cases b : x.nums.all bitB with
  | false => rw [cutE_b c l b] at h; cases h
  | true =>
  by_cases r : rightS (cutA x y) = 0
  · exact ⟨c, l, b, r⟩
  · rw [cutE_r c l b r] at h; cases h
section
variable {x y : Arr}
/-- where the groups stand behind i of them: the cells up to q are done -/
def GrpAt (x y : Arr) (i q : Nat) : Prop := q ≤ x.nums.length ∧ (cuts x.nums x.nums.length ≠ [] → Chn q ((cuts x.nums x.nums.length).drop i) x.nums.length)
theorem GrpAt.start {f : Nat} (hf : f ≤ x.nums.length) (hz : ∀ j, j < f → numF x.nums j = 0) (he : f = x.nums.length ∨ numF x.nums f ≠ 0) : GrpAt x y 0 f := by
  refine ⟨hf, fun hne => ?_⟩
  rw [List.drop_zero]
  by_cases c : f = x.nums.length
  · exfalso
    apply hne
    clear hne he
    rw [← c]
    clear c hf
    induction f with
    | zero => rfl
    | succ f ih => exact cuts_zero (hz f (by omega)) (ih fun j hj => hz j (by omega))
  · have h := (cuts_chn hz (he.resolve_left c) (x.nums.length - f - 1)).1
    rw [show f + 1 + (x.nums.length - f - 1) = x.nums.length by omega] at h
    exact h
theorem GrpAt.step {i q : Nat} (h : GrpAt x y i q) (hi : i < (cuts x.nums x.nums.length).length) : ∃ m, (cuts x.nums x.nums.length)[i] = (q, m) ∧ 0 < m ∧ q + m ≤ x.nums.length ∧ GrpAt x y (i + 1) (q + m) := by
  have hne : cuts x.nums x.nums.length ≠ [] := by intro e; rw [e] at hi; simp at hi
  have hc := h.2 hne
  rw [List.drop_eq_getElem_cons hi] at hc
  obtain ⟨h1, h2, h3⟩ := hc
  exact ⟨((cuts x.nums x.nums.length)[i]).2, by rw [← h1], h2, h3.le, h3.le, fun _ => h3⟩
theorem GrpAt.fin {i q : Nat} (h : GrpAt x y i q) (hi : (cuts x.nums x.nums.length).length ≤ i) (hne : 0 < (cuts x.nums x.nums.length).length) : q = x.nums.length := by
  have hc := h.2 (List.length_pos_iff.1 hne)
  rw [List.drop_of_length_le hi] at hc
  exact hc
theorem CutOk.items (h : CutOk x y) : (cutA x y).items = (cuts x.nums x.nums.length).map (grpA y) := rfl
theorem CutOk.len (h : CutOk x y) : (cutA x y).items.length = onesM x.nums x.nums.length := by
  rw [h.items, List.length_map, cuts_ones h.b (Nat.le_refl _)]
theorem CutOk.grp (h : CutOk x y) {i q m : Nat} (hi : i < (cuts x.nums x.nums.length).length) (hq : (cuts x.nums x.nums.length)[i] = (q, m)) : (cutA x y).items[i]'(by rw [h.items, List.length_map]; exact hi) = grpA y (q, m) ∧ rightS (grpA y (q, m)) = 0 := by
  have e : (cutA x y).items[i]'(by rw [h.items, List.length_map]; exact hi) = grpA y (q, m) := by
    rw [← hq]; exact List.getElem_map _
  refine ⟨e, ?_⟩
  have := (right_iff.1 h.r).2.2.1 _ (List.getElem_mem (l := (cutA x y).items) (n := i) (by rw [h.items, List.length_map]; exact hi))
  rw [e] at this
  exact this.1
theorem grp_size (h : rightS y = 0) {q m : Nat} (hm : q + m ≤ talM y) : szA (grpA y (q, m)) = m * celN y := by
  have hz := sz_tal h
  have F := flat_of h
  have hk := F.k
  have hle := Nat.mul_le_mul_right (celN y) hm
  rw [Nat.add_mul] at hle
  unfold szA szN at hz ⊢
  by_cases k : y.kind = 3
  · rw [if_neg (by omega), if_pos k] at hz
    rw [if_neg (by show ¬ (y.kind = 1 ∨ y.kind = 2); omega), if_pos (show (grpA y (q, m)).kind = 3 from k)]
    show ((y.items.drop (q * celN y)).take (m * celN y)).length = _
    simp; omega
  · rw [if_pos (by omega)] at hz
    rw [if_pos (by show y.kind = 1 ∨ y.kind = 2; omega)]
    show ((y.nums.drop (q * celN y)).take (m * celN y)).length = _
    simp; omega
theorem grp_getD {α : Type} {l : List α} {a b k : Nat} {d : α} (hk : k < b) : ((l.drop a).take b).getD k d = l.getD (a + k) d := by
  rw [List.getD_eq_getElem?_getD, List.getD_eq_getElem?_getD, List.getElem?_take, if_pos hk, List.getElem?_drop]
theorem grp_at (h : rightS y = 0) {q m k : Nat} (hm : q + m ≤ talM y) (hk : k < m * celN y) : atS (grpA y (q, m)) (k : Int) = atS y ((q * celN y + k : Nat) : Int) := by
  have hg := grp_size h hm
  have hz := sz_tal h
  have hle := Nat.mul_le_mul_right (celN y) hm
  rw [Nat.add_mul] at hle
  have h1 : ¬ ((k : Int) < 0 ∨ (szA (grpA y (q, m)) : Int) ≤ (k : Int)) := by omega
  have h2 : ¬ (((q * celN y + k : Nat) : Int) < 0 ∨ (szA y : Int) ≤ ((q * celN y + k : Nat) : Int)) := by omega
  by_cases c : y.kind = 3
  · rw [atS_A h1 c, atS_A h2 c]
    congr 2
    show ((y.items.drop (q * celN y)).take (m * celN y)).getD ((k : Int).toNat) .zero = y.items.getD (((q * celN y + k : Nat) : Int).toNat) .zero
    rw [Int.toNat_natCast, Int.toNat_natCast, grp_getD hk]
  · rw [atS_N h1 c, atS_N h2 c]
    show Arr.mk y.kind [] [((y.nums.drop (q * celN y)).take (m * celN y)).getD ((k : Int).toNat) 0] [] = Arr.mk y.kind [] [y.nums.getD (((q * celN y + k : Nat) : Int).toNat) 0] []
    rw [Int.toNat_natCast, Int.toNat_natCast, grp_getD hk]
theorem grpA_cel (y : Arr) (p : Nat × Nat) : celL (grpA y p) = celL y := rfl
theorem CutOk.grp' (h : CutOk x y) {r : Arr} (e : r = cutA x y) {i q : Nat} (hG : GrpAt x y i q) (hi : i < r.items.length) : ∃ m, r.items[i] = grpA y (q, m) ∧ 0 < m ∧ q + m ≤ talM y ∧ rightS (grpA y (q, m)) = 0 ∧ GrpAt x y (i + 1) (q + m) := by
  subst e
  have hi' : i < (cuts x.nums x.nums.length).length := by rw [h.items, List.length_map] at hi; exact hi
  obtain ⟨m, h1, h2, h3, h4⟩ := hG.step hi'
  have h5 := h.grp hi' h1
  exact ⟨m, h5.1, h2, by rw [← h.l]; exact h3, h5.2, h4⟩
theorem CutOk.fin' (h : CutOk x y) {r : Arr} (e : r = cutA x y) {i q : Nat} (hG : GrpAt x y i q) (hi : r.items.length ≤ i) : (r.items.length : Int) = sumF (numF x.nums) x.nums.length ∧ (r.items.length ≠ 0 → q * celN y = szA y) := by
  subst e
  refine ⟨by rw [h.len, ones_cast h.b (Nat.le_refl _)], fun h0 => ?_⟩
  rw [h.items, List.length_map] at hi h0
  have := hG.fin hi (by omega)
  rw [this, h.l, sz_tal (chk26_ok h.c).ry]
theorem GrpAt.le {i q : Nat} (h : GrpAt x y i q) (l : x.nums.length = talM y) : q ≤ talM y := by rw [← l]; exact h.1
end
end Go.Proofs.Ythhffneibcpbdaa
