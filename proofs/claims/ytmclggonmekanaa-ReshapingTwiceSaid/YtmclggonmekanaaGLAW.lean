/- Plain laws of arrays whose elements are moved by an index rule. No program. Conditions: those of each lemma. -/
import Derived.Test.YtmclggonmekanaaROT
set_option linter.unusedVariables false
set_option linter.unusedSimpArgs false
namespace Go.Proofs.Ytmclggonmekanaa
def movS (f : Int → Int → Int) (y : Arr) : Arr := gathS y y.shape (srcS f y.shape) (cnt y.shape).toNat
def undo (f f' : Int → Int → Int) (s : List Int) : Prop := ∀ (j : Nat) (n : Int), j < s.length → 0 ≤ n → n < s.getD j 0 → f j (f' j n) = n
theorem inS_posB {s l : List Int} (h : inS s l) : posB s := inS_pos h
theorem turnI_turnI (f f' : Int → Int → Int) (l : List Int) : turnI f (turnI f' l) = turnI (fun j n => f j (f' j n)) l := by
  apply List.ext_getElem
  · simp [turnI_len]
  · intro i h1 h2
    rw [turnI_len, turnI_len] at h1
    simp only [turnI, List.getElem_map, List.getElem_range, List.length_map, List.length_range]
    congr 1
    simp [h1]
theorem turnI_congr {f f' : Int → Int → Int} {s l : List Int} (hl : inS s l) (h : ∀ (j : Nat) (n : Int), j < s.length → 0 ≤ n → n < s.getD j 0 → f j n = f' j n) : turnI f l = turnI f' l := by
  unfold turnI
  refine List.map_congr_left fun j hj => ?_
  have hj' : j < s.length := by have := List.mem_range.1 hj; rw [hl.1] at this; exact this
  obtain ⟨h1, h2⟩ := hl.2 j hj'
  exact h j _ hj' h1 h2
theorem turnI_id {s l : List Int} (f : Int → Int → Int) (hl : inS s l) (h : ∀ (j : Nat) (n : Int), j < s.length → 0 ≤ n → n < s.getD j 0 → f j n = n) : turnI f l = l := by
  have e := turnI_congr (f := f) (f' := fun _ n => n) hl h
  rw [e]
  apply List.ext_getElem
  · simp [turnI_len]
  · intro i h1 h2
    simp [turnI, h2]
theorem srcS_src {f f' : Int → Int → Int} {s : List Int} (hf : keeps f' s) (hs : shapeB s = true) {k : Int} (h0 : 0 ≤ k) (h1 : k < cnt s) : srcS f s (srcS f' s k) = srcS (fun j n => f j (f' j n)) s k := by
  have hi := turnI_in hf (digs_in (posB_of hs h0 h1) k)
  unfold srcS
  rw [digs_off hi, turnI_turnI]
theorem srcS_congr {f f' : Int → Int → Int} {s : List Int} (hs : shapeB s = true) {k : Int} (h0 : 0 ≤ k) (h1 : k < cnt s) (h : ∀ (j : Nat) (n : Int), j < s.length → 0 ≤ n → n < s.getD j 0 → f j n = f' j n) : srcS f s k = srcS f' s k := by
  unfold srcS
  rw [turnI_congr (digs_in (posB_of hs h0 h1) k) h]
theorem srcS_id {f : Int → Int → Int} {s : List Int} (hs : shapeB s = true) {k : Int} (h0 : 0 ≤ k) (h1 : k < cnt s) (h : ∀ (j : Nat) (n : Int), j < s.length → 0 ≤ n → n < s.getD j 0 → f j n = n) : srcS f s k = k := by
  unfold srcS
  rw [turnI_id f (digs_in (posB_of hs h0 h1) k) h, off_digs (posB_of hs h0 h1) h0 h1]
theorem pickN_getD (n : List Int) (g : Int → Int) {m k : Nat} (h : k < m) : (pickN n g m).getD k 0 = n.getD (g k).toNat 0 := by simp [pickN, h]
theorem pickA_getD (n : List Arr) (g : Int → Int) {m k : Nat} (h : k < m) : (pickA n g m).getD k .zero = n.getD (g k).toNat .zero := by simp [pickA, h]
theorem pickN_pick {l : List Int} {g g' : Int → Int} {n : Nat} (h : ∀ k : Nat, k < n → 0 ≤ g' k ∧ g' k < n) : pickN (pickN l g n) g' n = pickN l (fun k => g (g' k)) n := List.map_congr_left fun k hk => by
  obtain ⟨h1, h2⟩ := h k (List.mem_range.1 hk)
  rw [pickN_getD l g (by omega), Int.toNat_of_nonneg h1]
theorem pickA_pick {l : List Arr} {g g' : Int → Int} {n : Nat} (h : ∀ k : Nat, k < n → 0 ≤ g' k ∧ g' k < n) : pickA (pickA l g n) g' n = pickA l (fun k => g (g' k)) n := List.map_congr_left fun k hk => by
  obtain ⟨h1, h2⟩ := h k (List.mem_range.1 hk)
  rw [pickA_getD l g (by omega), Int.toNat_of_nonneg h1]
theorem pickN_congr' {n : List Int} {g g' : Int → Int} {m : Nat} (h : ∀ k : Nat, k < m → g k = g' k) : pickN n g m = pickN n g' m := List.map_congr_left fun k hk => by rw [h k (List.mem_range.1 hk)]
theorem pickA_congr' {n : List Arr} {g g' : Int → Int} {m : Nat} (h : ∀ k : Nat, k < m → g k = g' k) : pickA n g m = pickA n g' m := List.map_congr_left fun k hk => by rw [h k (List.mem_range.1 hk)]
theorem pickN_id {l : List Int} {n : Nat} (h : l.length = n) : pickN l (fun k => k) n = l := by
  subst h
  apply List.ext_getElem
  · simp [pickN]
  · intro i h1 h2; simp [pickN, h2]
theorem pickA_id {l : List Arr} {n : Nat} (h : l.length = n) : pickA l (fun k => k) n = l := by
  subst h
  apply List.ext_getElem
  · simp [pickA]
  · intro i h1 h2; simp [pickA, h2]
/-- the same array, by another rule -/
theorem gathS_congr {y : Arr} {s : List Int} {g g' : Int → Int} {n : Nat} (h : ∀ k : Nat, k < n → g k = g' k) : gathS y s g n = gathS y s g' n := by
  unfold gathS; rw [pickN_congr' h, pickA_congr' h]
theorem gathS_kind (y : Arr) (s : List Int) (g : Int → Int) (n : Nat) : (gathS y s g n).kind = y.kind := rfl
theorem gathS_shape (y : Arr) (s : List Int) (g : Int → Int) (n : Nat) : (gathS y s g n).shape = s := rfl
theorem gathS_pick {y : Arr} {s : List Int} {g g' : Int → Int} {n : Nat} (h : ∀ k : Nat, k < n → 0 ≤ g' k ∧ g' k < n) : gathS (gathS y s g n) s g' n = gathS y s (fun k => g (g' k)) n := by
  by_cases hk : y.kind = 3
  · rw [gathS_A (y := gathS y s g n) hk, gathS_A hk, gathS_A hk]
    simp only [Arr.items]
    rw [pickA_pick h]
  · rw [gathS_N (y := gathS y s g n) hk, gathS_N hk, gathS_N hk]
    simp only [Arr.nums, Arr.kind]
    rw [pickN_pick h]
theorem gathS_id {y : Arr} (h : rightS y = 0) : gathS y y.shape (fun k => k) (cnt y.shape).toNat = y := by
  obtain ⟨_, hs, ⟨h3, hn, h0⟩ | ⟨h3, hn, h0⟩⟩ := right_ok h
  · rw [gathS_A h3, pickA_id (by omega)]
    conv => rhs; rw [← Arr.eta y]
    rw [h3, List.eq_nil_of_length_eq_zero h0]
  · rw [gathS_N h3, pickN_id (by omega)]
    conv => rhs; rw [← Arr.eta y]
    rw [List.eq_nil_of_length_eq_zero h0]
theorem cntN {y : Arr} (h : rightS y = 0) : ((cnt y.shape).toNat : Int) = cnt y.shape := by have := (cnt_le (right_ok h).2.1).1; omega
theorem movS_mov {f f' : Int → Int → Int} {y : Arr} (h : rightS y = 0) (hf : keeps f' y.shape) : movS f' (movS f y) = movS (fun j n => f j (f' j n)) y := by
  have hs := (right_ok h).2.1
  have hc := cntN h
  unfold movS
  rw [gathS_shape, gathS_pick fun k hk => by have := srcS_bd hf hs (k := k) (by omega) (by omega); omega]
  exact gathS_congr fun k hk => srcS_src hf hs (by omega) (by omega)
theorem movS_congr {f f' : Int → Int → Int} {y : Arr} (h : rightS y = 0) (hf : ∀ (j : Nat) (n : Int), j < y.shape.length → 0 ≤ n → n < y.shape.getD j 0 → f j n = f' j n) : movS f y = movS f' y := by
  have hc := cntN h
  exact gathS_congr fun k hk => srcS_congr (right_ok h).2.1 (by omega) (by omega) hf
theorem movS_id {f : Int → Int → Int} {y : Arr} (h : rightS y = 0) (hf : ∀ (j : Nat) (n : Int), j < y.shape.length → 0 ≤ n → n < y.shape.getD j 0 → f j n = n) : movS f y = y := by
  have hc := cntN h
  unfold movS
  rw [gathS_congr (g' := fun k => k) fun k hk => srcS_id (right_ok h).2.1 (by omega) (by omega) hf]
  exact gathS_id h
theorem chkL_swap (x y : Arr) (l : List Arr) (d w : Int) : chkL (x :: y :: l) d w = chkL (y :: x :: l) d w := by
  simp only [chkL]
  have h1 := chk_bd x
  have h2 := chk_bd y
  by_cases a : (chk x).1 = 0 <;> by_cases b : (chk y).1 = 0 <;> simp only [a, b, ne_eq, not_true_eq_false, not_false_eq_true, if_true, if_false]
  congr 1
  · omega
  · omega
theorem chkL_perm {l l' : List Arr} (h : l.Perm l') : ∀ d w, chkL l d w = chkL l' d w := by
  induction h with
  | nil => intro d w; rfl
  | cons x _ ih => intro d w; simp only [chkL, ih]
  | swap x y l => intro d w; exact chkL_swap y x l d w
  | trans _ _ ih1 ih2 => intro d w; rw [ih1, ih2]
theorem range_perm {g g' : Nat → Nat} {n : Nat} (h1 : ∀ k, k < n → g k < n) (h2 : ∀ k, k < n → g' k < n) (h3 : ∀ k, k < n → g' (g k) = k) (h4 : ∀ k, k < n → g (g' k) = k) : ((List.range n).map g).Perm (List.range n) := by
  refine (List.perm_ext_iff_of_nodup ?_ List.nodup_range).2 fun a => ?_
  · unfold List.Nodup
    rw [List.pairwise_map]
    refine List.Pairwise.imp_of_mem ?_ (List.nodup_range (n := n))
    intro a b ha hb hab e
    exact hab (by rw [← h3 a (List.mem_range.1 ha), ← h3 b (List.mem_range.1 hb), e])
  · rw [List.mem_map, List.mem_range]
    constructor
    · rintro ⟨k, hk, rfl⟩; exact h1 k (List.mem_range.1 hk)
    · intro ha; exact ⟨g' a, List.mem_range.2 (h2 a ha), h4 a ha⟩
theorem pickA_perm {l : List Arr} {g g' : Int → Int} {n : Nat} (hl : l.length = n) (h1 : ∀ k : Nat, k < n → 0 ≤ g k ∧ g k < n) (h2 : ∀ k : Nat, k < n → 0 ≤ g' k ∧ g' k < n) (h3 : ∀ k : Nat, k < n → g' (g k) = k) (h4 : ∀ k : Nat, k < n → g (g' k) = k) : (pickA l g n).Perm l := by
  have e : pickA l g n = ((List.range n).map fun k : Nat => (g k).toNat).map fun k => l.getD k .zero := by simp [pickA]
  have e2 : l = (List.range n).map fun k => l.getD k .zero := (pickA_id hl).symm.trans (by simp [pickA])
  rw [e]
  conv => rhs; rw [e2]
  refine List.Perm.map _ (range_perm (g := fun k => (g k).toNat) (g' := fun k => (g' k).toNat) (fun k hk => by have := h1 k hk; omega) (fun k hk => by have := h2 k hk; omega) (fun k hk => ?_) (fun k hk => ?_))
  · have := h1 k hk
    show (g' ((g k).toNat : Nat)).toNat = k
    rw [Int.toNat_of_nonneg this.1, h3 k hk]; omega
  · have := h2 k hk
    show (g ((g' k).toNat : Nat)).toNat = k
    rw [Int.toNat_of_nonneg this.1, h4 k hk]; omega
theorem chk_mk (k : Int) (s n : List Int) (l : List Arr) : chk (.mk k s n l) = if formE k s n.length l.length ≠ 0 then (formE k s n.length l.length, 0, 0) else if n.any (fun x => !elemB k x) = true then (17, 0, 0) else chkEnd (chkL l 0 ((n.length : Int) + l.length)) := chk_eq _
/-- moving keeps an array valid -/
theorem movS_right {f f' : Int → Int → Int} {y : Arr} (h : rightS y = 0) (hf : keeps f y.shape) (hf' : keeps f' y.shape) (u1 : undo f f' y.shape) (u2 : undo f' f y.shape) : rightS (movS f y) = 0 := by
  have hs := (right_ok h).2.1
  have hc := cntN h
  have b1 := fun (k : Nat) (hk : k < (cnt y.shape).toNat) => srcS_bd hf hs (k := k) (by omega) (by omega)
  have b2 := fun (k : Nat) (hk : k < (cnt y.shape).toNat) => srcS_bd hf' hs (k := k) (by omega) (by omega)
  have i1 : ∀ k : Nat, k < (cnt y.shape).toNat → srcS f' y.shape (srcS f y.shape k) = k := fun k hk => by
    rw [srcS_src hf hs (by omega) (by omega)]; exact srcS_id hs (by omega) (by omega) u2
  have i2 : ∀ k : Nat, k < (cnt y.shape).toNat → srcS f y.shape (srcS f' y.shape k) = k := fun k hk => by
    rw [srcS_src hf' hs (by omega) (by omega)]; exact srcS_id hs (by omega) (by omega) u1
  obtain ⟨hfm, han, r, hr, hb, he⟩ := chk_ok h
  obtain ⟨_, _, ⟨h3, hn, h0⟩ | ⟨h3, hn, h0⟩⟩ := right_ok h
  · have e : movS f y = .mk 3 y.shape [] (pickA y.items (srcS f y.shape) (cnt y.shape).toNat) := gathS_A h3 _ _ _
    have hp := pickA_perm (l := y.items) (n := (cnt y.shape).toNat) (by omega) (fun k hk => by have := b1 k hk; omega) (fun k hk => by have := b2 k hk; omega) i1 i2
    unfold rightS
    rw [e, chk_mk, pickA_len, List.length_nil]
    have hfm' : formE 3 y.shape 0 (cnt y.shape).toNat = 0 := by rw [← h3, ← h0, show (cnt y.shape).toNat = y.items.length by omega]; exact hfm
    rw [hfm', if_neg (by simp), if_neg (by simp), chkL_perm hp]
    rw [h0, show (y.items.length : Int) = ((cnt y.shape).toNat : Nat) by omega] at hr
    rw [hr]
    simp only [chkEnd]
    rw [if_neg hb]
  · have e : movS f y = .mk y.kind y.shape (pickN y.nums (srcS f y.shape) (cnt y.shape).toNat) [] := gathS_N h3 _ _ _
    unfold rightS
    rw [e, chk_mk, pickN_len, List.length_nil]
    have hfm' : formE y.kind y.shape (cnt y.shape).toNat 0 = 0 := by rw [← h0, show (cnt y.shape).toNat = y.nums.length by omega]; exact hfm
    have hany : (pickN y.nums (srcS f y.shape) (cnt y.shape).toNat).any (fun x => !elemB y.kind x) = false := by
      rw [List.any_eq_false] at han ⊢
      intro x hx
      obtain ⟨k, hk, rfl⟩ := List.mem_map.1 hx
      have := b1 k (List.mem_range.1 hk)
      exact han _ (getD_mem (by omega))
    rw [hfm', if_neg (by simp), if_neg (by simp [hany])]
    simp only [chkL, chkEnd]
    have := form_len hfm'
    rw [if_neg (by omega)]
/-! ### reversal and rotation -/
theorem revF_undo (s : List Int) : undo (revF s) (revF s) s := fun j n hj h0 h1 => by
  unfold revF
  split <;> omega
theorem revS_mov {y : Arr} (h : rightS y = 0) : revS y = movS (revF y.shape) y := if_pos h
theorem revS_right {y : Arr} (h : rightS y = 0) : rightS (revS y) = 0 := by rw [revS_mov h]; exact movS_right h (revF_keeps _) (revF_keeps _) (revF_undo _) (revF_undo _)
theorem movS_shape (f : Int → Int → Int) (y : Arr) : (movS f y).shape = y.shape := rfl
theorem revS_shape {y : Arr} (h : rightS y = 0) : (revS y).shape = y.shape := by rw [revS_mov h]; rfl
theorem revS_rev {y : Arr} (h : rightS y = 0) : revS (revS y) = y := by
  rw [revS_mov (revS_right h), revS_shape h, revS_mov h, movS_mov h (revF_keeps _)]
  exact movS_id h (revF_undo _)
theorem emod_undo (n x d : Int) (h0 : 0 ≤ n) (h1 : n < d) : ((n + x) % d + -x) % d = n := by
  rw [Int.emod_add_emod, show n + x + -x = n by omega]
  exact Int.emod_eq_of_lt h0 h1
end Go.Proofs.Ytmclggonmekanaa
