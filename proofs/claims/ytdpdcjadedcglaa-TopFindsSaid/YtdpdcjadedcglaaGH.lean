/- A group of texts (GH), each with its own conditions: those of each lemma. -/
import Derived.Test.YtdpdcjadedcglaaGF
import Derived.Test.YtdpdcjadedcglaaGB
import Derived.Test.YtdpdcjadedcglaaGC
import Derived.Test.YtdpdcjadedcglaaGA
set_option linter.unusedVariables false
set_option maxRecDepth 20000
set_option linter.unusedSimpArgs false
namespace Go.Proofs.Ytdpdcjadedcglaa
open Go.RowKit Go.Sort
attribute [local go_sem ↓] run_max2 run_min2
attribute [local go_sem] eql_ints_nil eql_arrs_nil
/-- a list of numbers and an error number -/
def RetIE (w : World) (l : List Int) (n : Int) (e : Ending) (w' : World) : Prop := ∃ ao cap, e = .returned (.tuple #[.slice ao l.length cap, .int .i64 n]) ∧ OwnI w' w.heap.size ao cap l ∧ Ext w w'
theorem RetIE.mk {w w' : World} {l l' : List Int} {n m : Int} {ao : Option Addr} {cap k : Nat} (E : l = l') (E2 : n = m) (ek : k = l'.length) (h : OwnI w' w.heap.size ao cap l') (hb : Ext w w') : RetIE w l n (.returned (.tuple #[.slice ao k cap, .int .i64 m])) w' := by
  subst E; subst E2; subst ek; exact ⟨ao, cap, rfl, h, hb⟩
def ndE (x : Arr) : Int := if rightS x ≠ 0 then 1 else if x.kind ≠ 1 then 14 else if 1 < x.shape.length then 15 else if x.nums.any negB = true then 17 else if shapeB x.nums = false then 21 else 0
def ndL (x : Arr) : List Int := if ndE x = 0 then x.nums else []
theorem ndE1 {x : Arr} (h : rightS x ≠ 0) : ndE x = 1 := if_pos h
theorem ndE14 {x : Arr} (h : rightS x = 0) (k : x.kind ≠ 1) : ndE x = 14 := by unfold ndE; rw [if_neg (by simp [h]), if_pos k]
theorem ndE15 {x : Arr} (h : rightS x = 0) (k : x.kind = 1) (r : 1 < x.shape.length) : ndE x = 15 := by unfold ndE; rw [if_neg (by simp [h]), if_neg (by simp [k]), if_pos r]
theorem ndE17 {x : Arr} (h : rightS x = 0) (k : x.kind = 1) (r : ¬ 1 < x.shape.length) (n : x.nums.any negB = true) : ndE x = 17 := by unfold ndE; rw [if_neg (by simp [h]), if_neg (by simp [k]), if_neg r, if_pos n]
theorem ndE21 {x : Arr} (h : rightS x = 0) (k : x.kind = 1) (r : ¬ 1 < x.shape.length) (n : x.nums.any negB = false) (s : shapeB x.nums = false) : ndE x = 21 := by unfold ndE; rw [if_neg (by simp [h]), if_neg (by simp [k]), if_neg r, if_neg (by simp [n]), if_pos s]
theorem ndE0 {x : Arr} (h : rightS x = 0) (k : x.kind = 1) (r : ¬ 1 < x.shape.length) (n : x.nums.any negB = false) (s : shapeB x.nums = true) : ndE x = 0 := by unfold ndE; rw [if_neg (by simp [h]), if_neg (by simp [k]), if_neg r, if_neg (by simp [n]), if_neg (by simp [s])]
theorem ndL_no {x : Arr} (h : ndE x ≠ 0) : ndL x = [] := if_neg h
theorem ndL_yes {x : Arr} (h : ndE x = 0) : ndL x = x.nums := if_pos h
theorem ndE_zero {x : Arr} (h : ndE x = 0) : rightS x = 0 ∧ x.kind = 1 ∧ ¬ 1 < x.shape.length ∧ shapeB x.nums = true := by
  by_cases a : rightS x = 0
  · by_cases b : x.kind = 1
    · by_cases c : 1 < x.shape.length
      · rw [ndE15 a b c] at h; omega
      · cases d : x.nums.any negB with
        | true => rw [ndE17 a b c d] at h; omega
        | false =>
          cases e : shapeB x.nums with
          | false => rw [ndE21 a b c d e] at h; omega
          | true => exact ⟨a, b, c, rfl⟩
    · rw [ndE14 a b] at h; omega
  · rw [ndE1 a] at h; omega
theorem wpl_appE {ops : Array Oper} {rest : List Oper} {o : Oper} {a : Act} {Q : Exit → Act → World → Prop} {w : World} (hgd : o.guard = none) (s x : Operand) (ho : o.op = .call { callee := .builtin .append, args := #[s, x], argTypes := #[24, 24] })
    (base : Nat) (ao : Option Addr) (hs : a.eval s = .slice ao 0 0) (hown : OwnI w base ao 0 []) (S : Nat → Prop) (so : Option Addr) (sc : Nat) (ys : List Int) (hx : a.eval x = .slice so ys.length sc) (hys : IntsAt w S so ys) (hbase : base ≤ w.heap.size)
    (h : ∀ ao' cap' w', OwnI w' base ao' cap' ys → Ext w w' → wpList Try.prog ops Q rest (a.put o.dst (.slice ao' ys.length cap')) w') : wpList Try.prog ops Q (o :: rest) a w := by
  refine wpList_plain hgd fun K hK => ?_
  exact wp_of_does (R := fun v w' => wpList Try.prog ops Q rest (a.put o.dst v) w') (fun v w' hr => hK _ _ hr) (does_appE s x ho base ao hs hown S so sc ys hx hys hbase h)
theorem wpl_build0 {ops : Array Oper} {rest : List Oper} {o : Oper} {a : Act} {Q : Exit → Act → World → Prop} {w : World} (hgd : o.guard = none) (ho : o.op = .buildSlice 24 0 #[])
    (h : wpList Try.prog ops Q rest (a.put o.dst (.slice (some ⟨w.heap.size, 0, none⟩) 0 0)) (w.alloc (.cells #[] 3))) : wpList Try.prog ops Q (o :: rest) a w := by
  refine wpList_plain hgd fun K hK => ?_
  have := hK _ _ h
  unfold Oper.wp execOp
  simp only [ho]
  simp [go_sem]
  exact this
def SomeI (w : World) (e : Ending) (w' : World) : Prop := ∃ r : Int, e = .returned (.int .i64 r) ∧ Ext w w'
def SomeB' (w : World) (e : Ending) (w' : World) : Prop := ∃ r : Bool, e = .returned (.bool r) ∧ Ext w w'
end Go.Proofs.Ytdpdcjadedcglaa
namespace Go.Proofs.Ytdpdcjadedcglaa
open Go.RowKit Go.Sort
attribute [local go_sem ↓] run_max2 run_min2
def vec4 (l : List Int) : Arr := .mk 1 [(l.length : Int)] l []
def mat4 (n m : Int) (l : List Int) : Arr := .mk 1 [n, m] l []
def num4 (m : Int) : Arr := .mk 1 [] [m] []
theorem ints_nil (w : World) (S : Nat → Prop) : IntsAt w S none [] := by
  refine ⟨?_, ?_⟩ <;> simp
theorem eqI_at' {s t : List Int} {k : Nat} (hk : k < s.length) (h : s.getD k 0 ≠ t.getD k 0) : eqI s t = false := by
  by_cases c : s.length = t.length
  · first | exact eqI_at (s := s) (t := t) (k := k) h | exact eqI_at (s := s) (t := t) (k := k) hk h
  · exact eqI_len c
theorem eqI_cut {s t : List Int} (hl : t.length ≤ s.length) (h : ∀ j, j < t.length → s.getD j 0 = t.getD j 0) : eqI s t = decide ((s.length : Int) = (t.length : Int)) := by
  by_cases c : s.length = t.length
  · rw [eqI_all c (fun j hj => h j (by omega))]; simp [c]
  · rw [eqI_len c]; simp; omega
theorem eqI_cut' {s t : List Int} (hl : s.length ≤ t.length) (h : ∀ j, j < s.length → s.getD j 0 = t.getD j 0) : eqI s t = decide ((s.length : Int) = (t.length : Int)) := by
  by_cases c : s.length = t.length
  · rw [eqI_all c (fun j hj => h j (by omega))]; simp [c]
  · rw [eqI_len c]; simp; omega
end Go.Proofs.Ytdpdcjadedcglaa
namespace Go.Proofs.Ytdpdcjadedcglaa
open Go.RowKit Go.Sort
attribute [local go_sem ↓] run_max2 run_min2
attribute [local go_sem] eql_ints_nil eql_arrs_nil
/-- the array that is picked from -/
def fromS (y : Arr) : Arr := if y.nums.length + y.items.length = 0 then fillS y else y
def haveN (y : Arr) : Nat := if y.kind = 3 then (fromS y).items.length else (fromS y).nums.length
def modF (h : Nat) (i : Int) : Int := i % (h : Int)
/-- the weight of the first k items -/
def rwS (l : List Arr) (h : Nat) : Nat → Int
  | 0 => 0
  | k + 1 => rwS l h k + (1 + wtS (l.getD (k % h) .zero))
def reshE (x y : Arr) : Int := if rightS x ≠ 0 ∨ rightS y ≠ 0 then 1 else if ndE x ≠ 0 then ndE x else if y.kind = 3 ∧ 262144 < rwS (fromS y).items (haveN y) (cnt x.nums).toNat then 21 else 0
def reshS (x y : Arr) : Arr := if reshE x y = 0 then gathS (fromS y) x.nums (modF (haveN y)) (cnt x.nums).toNat else .zero
theorem reshS_no {x y : Arr} (h : reshE x y ≠ 0) : reshS x y = .zero := if_neg h
theorem reshE_x {x y : Arr} (h : rightS x ≠ 0) : reshE x y = 1 := if_pos (Or.inl h)
theorem reshE_y {x y : Arr} (h : rightS y ≠ 0) : reshE x y = 1 := if_pos (Or.inr h)
theorem reshE_d {x y : Arr} (h : rightS x = 0) (g : rightS y = 0) (d : ndE x ≠ 0) : reshE x y = ndE x := by unfold reshE; rw [if_neg (by simp [h, g]), if_pos d]
theorem reshE_w {x y : Arr} (h : rightS x = 0) (g : rightS y = 0) (d : ndE x = 0) (k : y.kind = 3) (o : 262144 < rwS (fromS y).items (haveN y) (cnt x.nums).toNat) : reshE x y = 21 := by unfold reshE; rw [if_neg (by simp [h, g]), if_neg (by simp [d]), if_pos ⟨k, o⟩]
theorem reshE_0 {x y : Arr} (h : rightS x = 0) (g : rightS y = 0) (d : ndE x = 0) (k : y.kind = 3 → rwS (fromS y).items (haveN y) (cnt x.nums).toNat ≤ 262144) : reshE x y = 0 := by
  unfold reshE; rw [if_neg (by simp [h, g]), if_neg (by simp [d]), if_neg (fun q => by have := k q.1; omega)]
theorem reshS_yes {x y : Arr} (h : reshE x y = 0) : reshS x y = gathS (fromS y) x.nums (modF (haveN y)) (cnt x.nums).toNat := if_pos h
theorem rwS_mono (l : List Arr) (h : Nat) {k n : Nat} (hk : k ≤ n) : rwS l h k + (n - k : Nat) ≤ rwS l h n := by
  induction n with
  | zero => have : k = 0 := by omega
            subst this; simp
  | succ n ih =>
    by_cases e : k = n + 1
    · subst e; simp
    · have := ih (by omega)
      have w0 := (wtS_bd (l.getD (n % h) .zero)).1
      simp only [rwS]
      omega
theorem fill1 {y : Arr} (k : y.kind = 1) : fillS y = .mk 1 [] [0] [] := if_pos k
theorem fill2 {y : Arr} (k : y.kind = 2) : fillS y = .mk 2 [] [32] [] := by unfold fillS; rw [if_neg (by omega), if_pos k]
theorem fill3 {y : Arr} (k : y.kind = 3) : fillS y = .mk 3 [] [] [unitA] := by unfold fillS; rw [if_neg (by omega), if_neg (by omega), if_pos k]
theorem fromS_kind {y : Arr} (h : rightS y = 0) : (fromS y).kind = y.kind := by
  by_cases c : y.nums.length + y.items.length = 0
  · rw [fromS, if_pos c]
    obtain ⟨k, _, _⟩ := right_ok h
    rcases k with k | k | k
    · rw [fill1 k, k]; rfl
    · rw [fill2 k, k]; rfl
    · rw [fill3 k, k]; rfl
  · rw [fromS, if_neg c]
theorem haveN_pos {y : Arr} (h : rightS y = 0) : 0 < haveN y := by
  obtain ⟨k, _, hn⟩ := right_ok h
  by_cases c : y.nums.length + y.items.length = 0
  · have e : fromS y = fillS y := if_pos c
    unfold haveN
    rw [e]
    rcases k with k | k | k
    · rw [if_neg (by omega), fill1 k]; decide
    · rw [if_neg (by omega), fill2 k]; decide
    · rw [if_pos k, fill3 k]; decide
  · have e : fromS y = y := if_neg c
    unfold haveN
    rw [e]
    rcases hn with ⟨k3, _, h2⟩ | ⟨k3, _, h2⟩
    · rw [if_pos k3]; omega
    · rw [if_neg k3]; omega
theorem rwS_bd (l : List Arr) (h : Nat) (k : Nat) : 0 ≤ rwS l h k := by have := rwS_mono l h (Nat.zero_le k); simp only [rwS] at this; omega
end Go.Proofs.Ytdpdcjadedcglaa
namespace Go.Proofs.Ytdpdcjadedcglaa
def movS (f : Int → Int → Int) (y : Arr) : Arr := gathS y y.shape (srcS f y.shape) (cnt y.shape).toNat
def undo (f f' : Int → Int → Int) (s : List Int) : Prop := ∀ (j : Nat) (n : Int), j < s.length → 0 ≤ n → n < s.getD j 0 → f j (f' j n) = n
theorem inS_posB {s l : List Int} (h : inS s l) : posB s := inS_pos h
theorem turnI_turnI (f f' : Int → Int → Int) (l : List Int) : turnI f (turnI f' l) = turnI (fun j n => f j (f' j n)) l := by
  apply List.ext_getElem
  · simp [turnI_len]
  · intro i h1 h2
    rw [turnI_len, turnI_len] at h1
    simp only [turnI, List.getElem_map, List.getElem_range, List.length_map, List.length_range]
    congr 1
    simp [h1]
theorem turnI_congr {f f' : Int → Int → Int} {s l : List Int} (hl : inS s l) (h : ∀ (j : Nat) (n : Int), j < s.length → 0 ≤ n → n < s.getD j 0 → f j n = f' j n) : turnI f l = turnI f' l := by
  unfold turnI
  refine List.map_congr_left fun j hj => ?_
  have hj' : j < s.length := by have := List.mem_range.1 hj; rw [hl.1] at this; exact this
  obtain ⟨h1, h2⟩ := hl.2 j hj'
  exact h j _ hj' h1 h2
theorem turnI_id {s l : List Int} (f : Int → Int → Int) (hl : inS s l) (h : ∀ (j : Nat) (n : Int), j < s.length → 0 ≤ n → n < s.getD j 0 → f j n = n) : turnI f l = l := by
  have e := turnI_congr (f := f) (f' := fun _ n => n) hl h
  rw [e]
  apply List.ext_getElem
  · simp [turnI_len]
  · intro i h1 h2
    simp [turnI, h2]
theorem srcS_src {f f' : Int → Int → Int} {s : List Int} (hf : keeps f' s) (hs : shapeB s = true) {k : Int} (h0 : 0 ≤ k) (h1 : k < cnt s) : srcS f s (srcS f' s k) = srcS (fun j n => f j (f' j n)) s k := by
  have hi := turnI_in hf (digs_in (posB_of hs h0 h1) k)
  unfold srcS
  rw [digs_off hi, turnI_turnI]
theorem srcS_congr {f f' : Int → Int → Int} {s : List Int} (hs : shapeB s = true) {k : Int} (h0 : 0 ≤ k) (h1 : k < cnt s) (h : ∀ (j : Nat) (n : Int), j < s.length → 0 ≤ n → n < s.getD j 0 → f j n = f' j n) : srcS f s k = srcS f' s k := by
  unfold srcS
  rw [turnI_congr (digs_in (posB_of hs h0 h1) k) h]
theorem srcS_id {f : Int → Int → Int} {s : List Int} (hs : shapeB s = true) {k : Int} (h0 : 0 ≤ k) (h1 : k < cnt s) (h : ∀ (j : Nat) (n : Int), j < s.length → 0 ≤ n → n < s.getD j 0 → f j n = n) : srcS f s k = k := by
  unfold srcS
  rw [turnI_id f (digs_in (posB_of hs h0 h1) k) h, off_digs (posB_of hs h0 h1) h0 h1]
theorem pickN_getD (n : List Int) (g : Int → Int) {m k : Nat} (h : k < m) : (pickN n g m).getD k 0 = n.getD (g k).toNat 0 := by simp [pickN, h]
theorem pickA_getD (n : List Arr) (g : Int → Int) {m k : Nat} (h : k < m) : (pickA n g m).getD k .zero = n.getD (g k).toNat .zero := by simp [pickA, h]
theorem pickN_pick {l : List Int} {g g' : Int → Int} {n : Nat} (h : ∀ k : Nat, k < n → 0 ≤ g' k ∧ g' k < n) : pickN (pickN l g n) g' n = pickN l (fun k => g (g' k)) n := List.map_congr_left fun k hk => by
  obtain ⟨h1, h2⟩ := h k (List.mem_range.1 hk)
  rw [pickN_getD l g (by omega), Int.toNat_of_nonneg h1]
theorem pickA_pick {l : List Arr} {g g' : Int → Int} {n : Nat} (h : ∀ k : Nat, k < n → 0 ≤ g' k ∧ g' k < n) : pickA (pickA l g n) g' n = pickA l (fun k => g (g' k)) n := List.map_congr_left fun k hk => by
  obtain ⟨h1, h2⟩ := h k (List.mem_range.1 hk)
  rw [pickA_getD l g (by omega), Int.toNat_of_nonneg h1]
theorem pickN_congr' {n : List Int} {g g' : Int → Int} {m : Nat} (h : ∀ k : Nat, k < m → g k = g' k) : pickN n g m = pickN n g' m := List.map_congr_left fun k hk => by rw [h k (List.mem_range.1 hk)]
theorem pickA_congr' {n : List Arr} {g g' : Int → Int} {m : Nat} (h : ∀ k : Nat, k < m → g k = g' k) : pickA n g m = pickA n g' m := List.map_congr_left fun k hk => by rw [h k (List.mem_range.1 hk)]
theorem pickN_id {l : List Int} {n : Nat} (h : l.length = n) : pickN l (fun k => k) n = l := by
  subst h
  apply List.ext_getElem
  · simp [pickN]
  · intro i h1 h2; simp [pickN, h2]
theorem pickA_id {l : List Arr} {n : Nat} (h : l.length = n) : pickA l (fun k => k) n = l := by
  subst h
  apply List.ext_getElem
  · simp [pickA]
  · intro i h1 h2; simp [pickA, h2]
/-- the same array, by another rule -/
theorem gathS_congr {y : Arr} {s : List Int} {g g' : Int → Int} {n : Nat} (h : ∀ k : Nat, k < n → g k = g' k) : gathS y s g n = gathS y s g' n := by
  unfold gathS; rw [pickN_congr' h, pickA_congr' h]
theorem gathS_kind (y : Arr) (s : List Int) (g : Int → Int) (n : Nat) : (gathS y s g n).kind = y.kind := rfl
theorem gathS_shape (y : Arr) (s : List Int) (g : Int → Int) (n : Nat) : (gathS y s g n).shape = s := rfl
theorem gathS_pick {y : Arr} {s : List Int} {g g' : Int → Int} {n : Nat} (h : ∀ k : Nat, k < n → 0 ≤ g' k ∧ g' k < n) : gathS (gathS y s g n) s g' n = gathS y s (fun k => g (g' k)) n := by
  by_cases hk : y.kind = 3
  · rw [gathS_A (y := gathS y s g n) hk, gathS_A hk, gathS_A hk]
    simp only [Arr.items]
    rw [pickA_pick h]
  · rw [gathS_N (y := gathS y s g n) hk, gathS_N hk, gathS_N hk]
    simp only [Arr.nums, Arr.kind]
    rw [pickN_pick h]
theorem gathS_id {y : Arr} (h : rightS y = 0) : gathS y y.shape (fun k => k) (cnt y.shape).toNat = y := by
  obtain ⟨_, hs, ⟨h3, hn, h0⟩ | ⟨h3, hn, h0⟩⟩ := right_ok h
  · rw [gathS_A h3, pickA_id (by omega)]
    conv => rhs; rw [← Arr.eta y]
    rw [h3, List.eq_nil_of_length_eq_zero h0]
  · rw [gathS_N h3, pickN_id (by omega)]
    conv => rhs; rw [← Arr.eta y]
    rw [List.eq_nil_of_length_eq_zero h0]
theorem cntN {y : Arr} (h : rightS y = 0) : ((cnt y.shape).toNat : Int) = cnt y.shape := by have := (cnt_le (right_ok h).2.1).1; omega
theorem movS_mov {f f' : Int → Int → Int} {y : Arr} (h : rightS y = 0) (hf : keeps f' y.shape) : movS f' (movS f y) = movS (fun j n => f j (f' j n)) y := by
  have hs := (right_ok h).2.1
  have hc := cntN h
  unfold movS
  rw [gathS_shape, gathS_pick fun k hk => by have := srcS_bd hf hs (k := k) (by omega) (by omega); omega]
  exact gathS_congr fun k hk => srcS_src hf hs (by omega) (by omega)
theorem movS_congr {f f' : Int → Int → Int} {y : Arr} (h : rightS y = 0) (hf : ∀ (j : Nat) (n : Int), j < y.shape.length → 0 ≤ n → n < y.shape.getD j 0 → f j n = f' j n) : movS f y = movS f' y := by
  have hc := cntN h
  exact gathS_congr fun k hk => srcS_congr (right_ok h).2.1 (by omega) (by omega) hf
theorem movS_id {f : Int → Int → Int} {y : Arr} (h : rightS y = 0) (hf : ∀ (j : Nat) (n : Int), j < y.shape.length → 0 ≤ n → n < y.shape.getD j 0 → f j n = n) : movS f y = y := by
  have hc := cntN h
  unfold movS
  rw [gathS_congr (g' := fun k => k) fun k hk => srcS_id (right_ok h).2.1 (by omega) (by omega) hf]
  exact gathS_id h
theorem chkL_swap (x y : Arr) (l : List Arr) (d w : Int) : chkL (x :: y :: l) d w = chkL (y :: x :: l) d w := by
  simp only [chkL]
  have h1 := chk_bd x
  have h2 := chk_bd y
  by_cases a : (chk x).1 = 0 <;> by_cases b : (chk y).1 = 0 <;> simp only [a, b, ne_eq, not_true_eq_false, not_false_eq_true, if_true, if_false]
  congr 1
  · omega
  · omega
theorem chkL_perm {l l' : List Arr} (h : l.Perm l') : ∀ d w, chkL l d w = chkL l' d w := by
  induction h with
  | nil => intro d w; rfl
  | cons x _ ih => intro d w; simp only [chkL, ih]
  | swap x y l => intro d w; exact chkL_swap y x l d w
  | trans _ _ ih1 ih2 => intro d w; rw [ih1, ih2]
theorem range_perm {g g' : Nat → Nat} {n : Nat} (h1 : ∀ k, k < n → g k < n) (h2 : ∀ k, k < n → g' k < n) (h3 : ∀ k, k < n → g' (g k) = k) (h4 : ∀ k, k < n → g (g' k) = k) : ((List.range n).map g).Perm (List.range n) := by
  refine (List.perm_ext_iff_of_nodup ?_ List.nodup_range).2 fun a => ?_
  · unfold List.Nodup
    rw [List.pairwise_map]
    refine List.Pairwise.imp_of_mem ?_ (List.nodup_range (n := n))
    intro a b ha hb hab e
    exact hab (by rw [← h3 a (List.mem_range.1 ha), ← h3 b (List.mem_range.1 hb), e])
  · rw [List.mem_map, List.mem_range]
    constructor
    · rintro ⟨k, hk, rfl⟩; exact h1 k (List.mem_range.1 hk)
    · intro ha; exact ⟨g' a, List.mem_range.2 (h2 a ha), h4 a ha⟩
theorem pickA_perm {l : List Arr} {g g' : Int → Int} {n : Nat} (hl : l.length = n) (h1 : ∀ k : Nat, k < n → 0 ≤ g k ∧ g k < n) (h2 : ∀ k : Nat, k < n → 0 ≤ g' k ∧ g' k < n) (h3 : ∀ k : Nat, k < n → g' (g k) = k) (h4 : ∀ k : Nat, k < n → g (g' k) = k) : (pickA l g n).Perm l := by
  have e : pickA l g n = ((List.range n).map fun k : Nat => (g k).toNat).map fun k => l.getD k .zero := by simp [pickA]
  have e2 : l = (List.range n).map fun k => l.getD k .zero := (pickA_id hl).symm.trans (by simp [pickA])
  rw [e]
  conv => rhs; rw [e2]
  refine List.Perm.map _ (range_perm (g := fun k => (g k).toNat) (g' := fun k => (g' k).toNat) (fun k hk => by have := h1 k hk; omega) (fun k hk => by have := h2 k hk; omega) (fun k hk => ?_) (fun k hk => ?_))
  · have := h1 k hk
    show (g' ((g k).toNat : Nat)).toNat = k
    rw [Int.toNat_of_nonneg this.1, h3 k hk]; omega
  · have := h2 k hk
    show (g ((g' k).toNat : Nat)).toNat = k
    rw [Int.toNat_of_nonneg this.1, h4 k hk]; omega
theorem chk_mk (k : Int) (s n : List Int) (l : List Arr) : chk (.mk k s n l) = if formE k s n.length l.length ≠ 0 then (formE k s n.length l.length, 0, 0) else if n.any (fun x => !elemB k x) = true then (17, 0, 0) else chkEnd (chkL l 0 ((n.length : Int) + l.length)) := chk_eq _
/-- moving keeps an array valid -/
theorem movS_right {f f' : Int → Int → Int} {y : Arr} (h : rightS y = 0) (hf : keeps f y.shape) (hf' : keeps f' y.shape) (u1 : undo f f' y.shape) (u2 : undo f' f y.shape) : rightS (movS f y) = 0 := by
  have hs := (right_ok h).2.1
  have hc := cntN h
  have b1 := fun (k : Nat) (hk : k < (cnt y.shape).toNat) => srcS_bd hf hs (k := k) (by omega) (by omega)
  have b2 := fun (k : Nat) (hk : k < (cnt y.shape).toNat) => srcS_bd hf' hs (k := k) (by omega) (by omega)
  have i1 : ∀ k : Nat, k < (cnt y.shape).toNat → srcS f' y.shape (srcS f y.shape k) = k := fun k hk => by
    rw [srcS_src hf hs (by omega) (by omega)]; exact srcS_id hs (by omega) (by omega) u2
  have i2 : ∀ k : Nat, k < (cnt y.shape).toNat → srcS f y.shape (srcS f' y.shape k) = k := fun k hk => by
    rw [srcS_src hf' hs (by omega) (by omega)]; exact srcS_id hs (by omega) (by omega) u1
  obtain ⟨hfm, han, r, hr, hb, he⟩ := chk_ok h
  obtain ⟨_, _, ⟨h3, hn, h0⟩ | ⟨h3, hn, h0⟩⟩ := right_ok h
  · have e : movS f y = .mk 3 y.shape [] (pickA y.items (srcS f y.shape) (cnt y.shape).toNat) := gathS_A h3 _ _ _
    have hp := pickA_perm (l := y.items) (n := (cnt y.shape).toNat) (by omega) (fun k hk => by have := b1 k hk; omega) (fun k hk => by have := b2 k hk; omega) i1 i2
    unfold rightS
    rw [e, chk_mk, pickA_len, List.length_nil]
    have hfm' : formE 3 y.shape 0 (cnt y.shape).toNat = 0 := by rw [← h3, ← h0, show (cnt y.shape).toNat = y.items.length by omega]; exact hfm
    rw [hfm', if_neg (by simp), if_neg (by simp), chkL_perm hp]
    rw [h0, show (y.items.length : Int) = ((cnt y.shape).toNat : Nat) by omega] at hr
    rw [hr]
    simp only [chkEnd]
    rw [if_neg hb]
  · have e : movS f y = .mk y.kind y.shape (pickN y.nums (srcS f y.shape) (cnt y.shape).toNat) [] := gathS_N h3 _ _ _
    unfold rightS
    rw [e, chk_mk, pickN_len, List.length_nil]
    have hfm' : formE y.kind y.shape (cnt y.shape).toNat 0 = 0 := by rw [← h0, show (cnt y.shape).toNat = y.nums.length by omega]; exact hfm
    have hany : (pickN y.nums (srcS f y.shape) (cnt y.shape).toNat).any (fun x => !elemB y.kind x) = false := by
      rw [List.any_eq_false] at han ⊢
      intro x hx
      obtain ⟨k, hk, rfl⟩ := List.mem_map.1 hx
      have := b1 k (List.mem_range.1 hk)
      exact han _ (getD_mem (by omega))
    rw [hfm', if_neg (by simp), if_neg (by simp [hany])]
    simp only [chkL, chkEnd]
    have := form_len hfm'
    rw [if_neg (by omega)]
/-! ### reversal and rotation -/
theorem revF_undo (s : List Int) : undo (revF s) (revF s) s := fun j n hj h0 h1 => by
  unfold revF
  split <;> omega
theorem revS_mov {y : Arr} (h : rightS y = 0) : revS y = movS (revF y.shape) y := if_pos h
theorem revS_right {y : Arr} (h : rightS y = 0) : rightS (revS y) = 0 := by rw [revS_mov h]; exact movS_right h (revF_keeps _) (revF_keeps _) (revF_undo _) (revF_undo _)
theorem movS_shape (f : Int → Int → Int) (y : Arr) : (movS f y).shape = y.shape := rfl
theorem revS_shape {y : Arr} (h : rightS y = 0) : (revS y).shape = y.shape := by rw [revS_mov h]; rfl
theorem revS_rev {y : Arr} (h : rightS y = 0) : revS (revS y) = y := by
  rw [revS_mov (revS_right h), revS_shape h, revS_mov h, movS_mov h (revF_keeps _)]
  exact movS_id h (revF_undo _)
theorem emod_undo (n x d : Int) (h0 : 0 ≤ n) (h1 : n < d) : ((n + x) % d + -x) % d = n := by
  rw [Int.emod_add_emod, show n + x + -x = n by omega]
  exact Int.emod_eq_of_lt h0 h1
end Go.Proofs.Ytdpdcjadedcglaa
namespace Go.Proofs.Ytdpdcjadedcglaa
theorem rwS_sum (l : List Arr) (h n : Nat) : rwS l h n = n + sumW (pickA l (modF h) n) := by
  induction n with
  | zero => simp [rwS, pickA, sumW]
  | succ n ih =>
    have hix : (modF h n).toNat = n % h := by unfold modF; omega
    rw [rwS, ih, pickA_succ, sumW_append, hix]
    simp only [sumW]
    omega
theorem modF_id {n : Nat} : ∀ k : Nat, k < n → modF n k = k := fun k hk => by
  unfold modF; exact Int.emod_eq_of_lt (by omega) (by omega)
theorem haveN_of {y : Arr} (h : y.nums.length + y.items.length ≠ 0) (hr : rightS y = 0) : haveN y = y.nums.length + y.items.length ∧ fromS y = y := by
  have e : fromS y = y := if_neg h
  obtain ⟨_, _, hh⟩ := right_ok hr
  refine ⟨?_, e⟩
  unfold haveN
  rw [e]
  rcases hh with ⟨k, _, h2⟩ | ⟨k, _, h2⟩
  · rw [if_pos k]; omega
  · rw [if_neg k]; omega
theorem cnt_len {y : Arr} (hr : rightS y = 0) : cnt y.shape = (y.nums.length : Int) + y.items.length := by
  obtain ⟨_, _, hh⟩ := right_ok hr
  rcases hh with ⟨k, h1, h2⟩ | ⟨k, h1, h2⟩ <;> omega
/-- as many elements as before: the same elements -/
theorem resh_same {x y : Arr} (hx : rightS x = 0) (hy : rightS y = 0) (hk : x.kind = 1) (hl : ¬ 1 < x.shape.length) (hs : shapeB x.nums = true) (hc : cnt x.nums = cnt y.shape) : reshE x y = 0 ∧ reshS x y = .mk y.kind x.nums y.nums y.items := by
  have hn : x.nums.any negB = false := any_negB.2 (shapeB_iff.1 hs).2.1
  have hd : ndE x = 0 := ndE0 hx hk hl hn hs
  obtain ⟨h1, h2, h3, h4⟩ := right_iff.1 hy
  obtain ⟨yk, ys, yy⟩ := formE_zero h1
  have hcl := cnt_len hy
  have hN : (cnt x.nums).toNat = y.nums.length + y.items.length := by omega
  by_cases c : y.nums.length + y.items.length = 0
  · have e0 : reshE x y = 0 := reshE_0 hx hy hd (fun _ => by rw [hN, c]; simp [rwS])
    refine ⟨e0, ?_⟩
    rw [reshS_yes e0, hN, c]
    have hf := fromS_kind hy
    have l1 : y.nums = [] := List.length_eq_zero_iff.1 (by omega)
    have l2 : y.items = [] := List.length_eq_zero_iff.1 (by omega)
    unfold gathS
    rw [hf, l1, l2]
    simp [pickN, pickA]
  · obtain ⟨hh, hf⟩ := haveN_of c hy
    have e0 : reshE x y = 0 := reshE_0 hx hy hd (fun k3 => by
      rw [hN, hh, hf, rwS_sum]
      rcases yy with ⟨_, _, q⟩ | ⟨q, _⟩
      · rw [pickA_congr' (g' := fun k => k) modF_id, pickA_id (by omega)]; omega
      · exact absurd k3 q)
    refine ⟨e0, ?_⟩
    rw [reshS_yes e0, hN, hh, hf, gathS_congr (g' := fun k => k) modF_id]
    unfold gathS
    rcases yy with ⟨k3, q1, q2⟩ | ⟨k3, q1, q2⟩
    · rw [if_pos k3, if_pos k3, pickA_id (by omega), List.length_eq_zero_iff.1 q2]
    · rw [if_neg k3, if_neg k3, pickN_id (by omega), List.length_eq_zero_iff.1 q2]
theorem vec4_right {l : List Int} (hl : l.length ≤ 65536) (hn : ∀ x ∈ l, numB x = true) : rightS (vec4 l) = 0 := right_nums (shapeB_one (by omega) (by omega)) (by rw [cnt_one]) hn
theorem num4_right {n : Int} (h0 : -4611686018427387903 ≤ n) (h1 : n ≤ 4611686018427387903) : rightS (num4 n) = 0 := right_nums shapeB_nil (by rw [cnt_nil]; rfl) (by simp [numB, h0, h1])
theorem shape_numB {s : List Int} (hs : shapeB s = true) : ∀ d ∈ s, numB d = true := fun d hd => by
  have h := shapeB_iff.1 hs
  have h1 := h.2.1 d hd
  have h2 := prodNZ_ge_mem h.2.1 hd
  simp [numB]; omega
theorem num4_nums (n : Int) : (num4 n).nums = [n] := rfl
theorem resh_back {y : Arr} (c : rightS y = 0) :
    reshE (vec4 y.shape) y = 0 ∧ y = reshS (vec4 y.shape) y ∧ reshE (num4 ((y.nums.length : Int) + y.items.length)) y = 0 ∧ reshE (vec4 y.shape) (reshS (num4 ((y.nums.length : Int) + y.items.length)) y) = 0 ∧
      y = reshS (vec4 y.shape) (reshS (num4 ((y.nums.length : Int) + y.items.length)) y) ∧ (reshS (num4 ((y.nums.length : Int) + y.items.length)) y).shape.length = 1 := by
  have hs := (right_ok c).2.1
  have h8 := (shapeB_iff.1 hs).1
  have hcl := cnt_len c
  have hcb := cnt_le hs
  have r1 := vec4_right (by omega) (shape_numB hs)
  have r2 : rightS (num4 ((y.nums.length : Int) + y.items.length)) = 0 := num4_right (by omega) (by omega)
  obtain ⟨e1, g1⟩ := resh_same (x := vec4 y.shape) r1 c rfl (by simp [vec4, Arr.shape]) hs rfl
  have hsn : shapeB [((y.nums.length : Int) + y.items.length)] = true := shapeB_one (by omega) (by omega)
  obtain ⟨e2, g2⟩ := resh_same (x := num4 ((y.nums.length : Int) + y.items.length)) r2 c rfl (by simp [num4, Arr.shape]) hsn (by rw [num4_nums, cnt_one]; omega)
  have rv : rightS (reshS (num4 ((y.nums.length : Int) + y.items.length)) y) = 0 := by
    rw [g2]; exact right_reshape c hsn (by rw [num4_nums, cnt_one]; omega)
  obtain ⟨e3, g3⟩ := resh_same (x := vec4 y.shape) (y := reshS (num4 ((y.nums.length : Int) + y.items.length)) y) r1 rv rfl (by simp [vec4, Arr.shape]) hs (by rw [g2]; rw [show (vec4 y.shape).nums = y.shape from rfl, show (Arr.mk y.kind (num4 ((y.nums.length : Int) + y.items.length)).nums y.nums y.items).shape = [(y.nums.length : Int) + y.items.length] from rfl, cnt_one]; omega)
  refine ⟨e1, ?_, e2, e3, ?_, by rw [g2]; rfl⟩
  · rw [g1]; exact (Arr.eta y).symm
  · rw [g3, g2]; exact (Arr.eta y).symm
/-- a vector, reshaped to p elements -/
theorem resh_vec {l : List Int} {p : Nat} (h0 : l ≠ []) (hl : l.length ≤ 65536) (hn : ∀ x ∈ l, numB x = true) (hp : p ≤ 65536) : reshE (num4 p) (vec4 l) = 0 ∧ reshS (num4 p) (vec4 l) = .mk 1 [(p : Int)] (pickN l (modF l.length) p) [] := by
  have r1 : rightS (num4 p) = 0 := num4_right (by omega) (by omega)
  have r2 := vec4_right hl hn
  have hs : shapeB [(p : Int)] = true := shapeB_one (by omega) (by omega)
  have hd : ndE (num4 p) = 0 := ndE0 r1 rfl (by simp [num4, Arr.shape]) (any_negB.2 (shapeB_iff.1 hs).2.1) hs
  have e0 : reshE (num4 p) (vec4 l) = 0 := reshE_0 r1 r2 hd (fun k => by simp [vec4, Arr.kind] at k)
  have hlen : l.length ≠ 0 := fun e => h0 (List.length_eq_zero_iff.1 e)
  obtain ⟨hh, hf⟩ := haveN_of (y := vec4 l) (by simp [vec4, Arr.nums, Arr.items]; exact h0) r2
  refine ⟨e0, ?_⟩
  rw [reshS_yes e0, hh, hf]
  rw [gathS_N (by simp [vec4, Arr.kind])]
  simp only [vec4, num4, Arr.nums, Arr.items, Arr.kind, List.length_nil, Nat.add_zero]
  rw [cnt_one, Int.toNat_natCast]
theorem resh_twice {l : List Int} {p q : Nat} (h0 : l ≠ []) (hl : l.length ≤ 65536) (hn : ∀ x ∈ l, numB x = true) (hp : p ≤ 65536) (hq : q ≤ p) :
    reshE (num4 q) (reshS (num4 p) (vec4 l)) = 0 ∧ (0 < q → reshS (num4 q) (reshS (num4 p) (vec4 l)) = reshS (num4 q) (vec4 l)) := by
  obtain ⟨e1, g1⟩ := resh_vec h0 hl hn hp
  obtain ⟨e2, g2⟩ := resh_vec h0 hl hn (p := q) (by omega)
  have hlen : l.length ≠ 0 := fun e => h0 (List.length_eq_zero_iff.1 e)
  have r1 : rightS (num4 q) = 0 := num4_right (by omega) (by omega)
  have hs : shapeB [(q : Int)] = true := shapeB_one (by omega) (by omega)
  have ra : rightS (.mk 1 [(p : Int)] (pickN l (modF l.length) p) []) = 0 := right_nums (shapeB_one (by omega) (by omega)) (by rw [cnt_one, pickN_len]) (fun x hx => by
    simp only [pickN, List.mem_map, List.mem_range] at hx
    obtain ⟨k, _, rfl⟩ := hx
    exact hn _ (getD_mem (by unfold modF; have := Int.emod_lt_of_pos (k : Int) (show (0 : Int) < l.length by omega); have := Int.emod_nonneg (k : Int) (show (l.length : Int) ≠ 0 by omega); omega)))
  have hd : ndE (num4 q) = 0 := ndE0 r1 rfl (by simp [num4, Arr.shape]) (any_negB.2 (shapeB_iff.1 hs).2.1) hs
  rw [g1]
  have e3 : reshE (num4 q) (.mk 1 [(p : Int)] (pickN l (modF l.length) p) []) = 0 := reshE_0 r1 ra hd (fun k => by simp [Arr.kind] at k)
  refine ⟨e3, fun hq0 => ?_⟩
  obtain ⟨hh, hf⟩ := haveN_of (y := .mk 1 [(p : Int)] (pickN l (modF l.length) p) []) (by simp [Arr.nums, Arr.items, pickN_len]; omega) ra
  rw [reshS_yes e3, hh, hf, gathS_N (by simp [Arr.kind]), g2]
  simp only [num4, Arr.nums, Arr.items, Arr.kind, List.length_nil, Nat.add_zero, pickN_len]
  rw [cnt_one, Int.toNat_natCast]
  congr 1
  refine List.map_congr_left fun k hk => ?_
  have hk' := List.mem_range.1 hk
  rw [modF_id k (by omega), Int.toNat_natCast, pickN_getD _ _ (by omega)]
end Go.Proofs.Ytdpdcjadedcglaa
