/- What amending computes: plain functions, and their plain laws. No program. Conditions: those of each lemma. -/
import Derived.Test.YtcoknjlkhefgpaaP23
import Derived.Test.YtcoknjlkhefgpaaP23P
set_option linter.unusedVariables false
set_option linter.unusedSimpArgs false
namespace Go.Proofs.Ytcoknjlkhefgpaa
/-- how the values are told: for each cell, one cell, one element -/
def amM (i v y : Arr) : Nat := if v.shape = i.shape ++ celL y then 0 else if v.shape = celL y then 1 else 2
def amO (i v y : Arr) : Bool := if amM i v y = 2 then decide (v.shape.length = 0) else true
/-- where the value of element j of cell k stands -/
def ofM (M n k j : Nat) : Nat := if M = 0 then k * n + j else if M = 1 then j else 0
def srcJ (f : Nat → Nat) (b : Nat) : Nat → List Int → List Int
  | 0, l => l
  | j + 1, l => (srcJ f b j l).set (b + j) (f j : Int)
def srcK (f : Nat → Nat → Nat) (n : Nat) (nums : List Int) : Nat → List Int → List Int
  | 0, l => l
  | k + 1, l => srcJ (f k) ((nums.getD k 0).toNat * n) n (srcK f n nums k l)
def amSrc (i v y : Arr) : List Int := srcK (ofM (amM i v y) (celN y)) (celN y) i.nums i.nums.length (List.replicate (szA y) (-1))
theorem srcJ_len (f : Nat → Nat) (b : Nat) : ∀ (j : Nat) (l : List Int), (srcJ f b j l).length = l.length
  | 0, _ => rfl
  | j + 1, l => by simp [srcJ, srcJ_len f b j l]
theorem srcK_len (f : Nat → Nat → Nat) (n : Nat) (nums : List Int) : ∀ (k : Nat) (l : List Int), (srcK f n nums k l).length = l.length
  | 0, _ => rfl
  | k + 1, l => by simp [srcK, srcJ_len, srcK_len f n nums k l]
theorem amSrc_len (i v y : Arr) : (amSrc i v y).length = szA y := by unfold amSrc; rw [srcK_len, List.length_replicate]
theorem set_bd {l : List Int} {z : Nat} (h : ∀ e, e < l.length → l.getD e 0 < (z : Int)) (p : Nat) {q : Nat} (hq : q < z) : ∀ e, e < (l.set p (q : Int)).length → (l.set p (q : Int)).getD e 0 < (z : Int) := fun e he => by
  rw [List.length_set] at he
  by_cases c : e = p
  · subst c
    simp [List.getD_eq_getElem?_getD, he]; omega
  · have := h e he
    simpa [List.getD_eq_getElem?_getD, List.getElem?_set_ne (Ne.symm c)] using this
theorem srcJ_bd {f : Nat → Nat} {b z n : Nat} (hf : ∀ j, j < n → f j < z) : ∀ {j : Nat} {l : List Int}, j ≤ n → (∀ e, e < l.length → l.getD e 0 < (z : Int)) → ∀ e, e < (srcJ f b j l).length → (srcJ f b j l).getD e 0 < (z : Int)
  | 0, _, _, h => h
  | j + 1, l, hj, h => set_bd (srcJ_bd hf (by omega) h) _ (hf j (by omega))
theorem srcK_bd {f : Nat → Nat → Nat} {n z m : Nat} {nums : List Int} (hf : ∀ k j, k < m → j < n → f k j < z) : ∀ {k : Nat} {l : List Int}, k ≤ m → (∀ e, e < l.length → l.getD e 0 < (z : Int)) → ∀ e, e < (srcK f n nums k l).length → (srcK f n nums k l).getD e 0 < (z : Int)
  | 0, _, _, h => h
  | k + 1, l, hk, h => srcJ_bd (fun j hj => hf k j (by omega) hj) (Nat.le_refl _) (srcK_bd hf (by omega) h)
theorem of_bd {i v y : Arr} (hi : rightS i = 0) (ki : i.kind = 1) (hv : rightS v = 0) (hy : rightS y = 0) (ho : amO i v y = true) {k j : Nat} (hk : k < i.nums.length) (hj : j < celN y) : ofM (amM i v y) (celN y) k j < szA v := by
  have hz := sz_cnt hv
  have hc := nums_cnt hi ki
  have hn := celN_eq (right_ok hy).2.1
  unfold amO at ho
  unfold amM at ho ⊢
  unfold ofM
  by_cases c : v.shape = i.shape ++ celL y
  · rw [if_pos c, if_pos rfl]
    rw [c, cnt_app, ← hc, ← hn, ← Int.natCast_mul] at hz
    have := cell_lt hk hj
    omega
  · rw [if_neg c] at ho ⊢
    by_cases d : v.shape = celL y
    · rw [if_pos d]
      rw [d, ← hn] at hz
      simp
      omega
    · rw [if_neg d] at ho ⊢
      simp only [if_true, decide_eq_true_eq] at ho
      rw [List.eq_nil_of_length_eq_zero ho, cnt_nil] at hz
      simp
      omega
theorem amSrc_bd {i v y : Arr} (hi : rightS i = 0) (ki : i.kind = 1) (hv : rightS v = 0) (hy : rightS y = 0) (ho : amO i v y = true) : ∀ e, e < (amSrc i v y).length → (amSrc i v y).getD e 0 < (szA v : Int) :=
  srcK_bd (m := i.nums.length) (fun k j hk hj => of_bd hi ki hv hy ho hk hj) (Nat.le_refl _) fun e he => by
    rw [List.length_replicate] at he
    simp [List.getD_eq_getElem?_getD, he]; omega
theorem rep_step {n m : Nat} (h : m < n) : (List.replicate m (-1 : Int) ++ List.replicate (n - m) 0).set m (-1) = List.replicate (m + 1) (-1) ++ List.replicate (n - (m + 1)) 0 := by
  rw [List.set_append_right _ _ (by simp), List.length_replicate, Nat.sub_self]
  obtain ⟨q, hq⟩ : ∃ q, n - m = q + 1 := ⟨n - m - 1, by omega⟩
  rw [hq, List.replicate_succ, List.set_cons_zero, List.replicate_succ', List.append_assoc]
  congr 1
  simp
  omega
section
variable {α : Type}
/-- the elements, some of them amended -/
def resL (d : α) (v y : List α) (src : List Int) : List α := List.zipWith (fun (a : α) (s : Int) => if s < 0 then a else v.getD s.toNat d) y src
theorem resL_len (d : α) (v y : List α) (src : List Int) : (resL d v y src).length = min y.length src.length := by simp [resL]
theorem resL_nil (d : α) (v : List α) (src : List Int) : resL d v [] src = [] := rfl
theorem resL_at {d : α} {v y : List α} {src : List Int} {e : Nat} (h : e < y.length) (g : e < src.length) : (resL d v y src)[e]? = some (if src.getD e 0 < 0 then y[e] else v.getD (src.getD e 0).toNat d) := by
  unfold resL
  rw [List.getElem?_zipWith]
  simp [h, g]
theorem resL_step {d : α} {v y : List α} {src : List Int} {e : Nat} {x : α} (h : e < y.length) (hl : src.length = y.length) (hx : (resL d v y src)[e]? = some x) : ((resL d v y src).take e ++ y.drop e).set e x = (resL d v y src).take (e + 1) ++ y.drop (e + 1) := by
  have hr : (resL d v y src).length = y.length := by rw [resL_len]; omega
  rw [List.set_append_right _ _ (by rw [List.length_take]; omega)]
  have h1 : e - ((resL d v y src).take e).length = 0 := by rw [List.length_take]; omega
  rw [h1, List.drop_eq_getElem_cons h, List.set_cons_zero]
  have h2 : (resL d v y src).take (e + 1) = (resL d v y src).take e ++ [x] := by
    rw [List.take_add_one, hx]; rfl
  rw [h2, List.append_assoc]; rfl
theorem resL_same {d : α} {v y : List α} {src : List Int} {e : Nat} (h : e < y.length) (hl : src.length = y.length) (hx : (resL d v y src)[e]? = some y[e]) : (resL d v y src).take e ++ y.drop e = (resL d v y src).take (e + 1) ++ y.drop (e + 1) := by
  have h2 : (resL d v y src).take (e + 1) = (resL d v y src).take e ++ [y[e]] := by
    rw [List.take_add_one, hx]; rfl
  rw [h2, List.drop_eq_getElem_cons h, List.append_assoc]; rfl
theorem resL_snoc {d : α} {v y : List α} {src : List Int} {e : Nat} {x : α} (hx : (resL d v y src)[e]? = some x) : (resL d v y src).take (e + 1) = (resL d v y src).take e ++ [x] := by
  rw [List.take_add_one, hx]; rfl
theorem resL_set {d : α} {v y : List α} {src : List Int} (p q : Nat) : resL d v y (src.set p (q : Int)) = (resL d v y src).set p (v.getD q d) := by
  apply List.ext_getElem?
  intro e
  unfold resL
  rw [List.getElem?_zipWith, List.getElem?_set, List.getElem?_set]
  simp only [List.length_zipWith]
  by_cases c : p = e
  · subst c
    by_cases c1 : p < src.length
    · by_cases c2 : p < y.length
      · have : ¬ (q : Int) < 0 := by omega
        simp [c1, c2, this]; omega
      · simp [c1, c2, show y.length ≤ p by omega]; omega
    · simp [c1, show src.length ≤ p by omega]; omega
  · simp only [c, if_false]
    rw [List.getElem?_zipWith]
theorem resL_neg {d : α} {v y : List α} {n : Nat} (h : y.length = n) : resL d v y (List.replicate n (-1)) = y := by
  apply List.ext_getElem?
  intro e
  unfold resL
  rw [List.getElem?_zipWith, List.getElem?_replicate]
  by_cases c : e < n
  · simp [c, show e < y.length by omega]
  · simp [c, show y.length ≤ e by omega]
end
def agA (v y : Arr) (src : List Int) : Arr := .mk y.kind y.shape (resL 0 v.nums y.nums src) (resL .zero v.items y.items src)
def agW (v y : Arr) (src : List Int) (m : Nat) : Int := (m : Int) + sumW ((resL .zero v.items y.items src).take m)
def agE (v y : Arr) (src : List Int) : Int := if y.kind = 3 ∧ 262144 < agW v y src src.length then 21 else 0
def agS (v y : Arr) (src : List Int) : Arr := if agE v y src = 0 then agA v y src else .zero
theorem agS_yes {v y : Arr} {src : List Int} (h : agE v y src = 0) : agS v y src = agA v y src := if_pos h
theorem agS_no {v y : Arr} {src : List Int} (h : agE v y src ≠ 0) : agS v y src = .zero := if_neg h
theorem agW_0 (v y : Arr) (src : List Int) : agW v y src 0 = 0 := by simp [agW, sumW]
theorem agW_nn (v y : Arr) (src : List Int) (m : Nat) : 0 ≤ agW v y src m := by have := sumW_nn ((resL .zero v.items y.items src).take m); unfold agW; omega
theorem agW_step {v y : Arr} {src : List Int} {m : Nat} {x : Arr} (hx : (resL .zero v.items y.items src)[m]? = some x) : agW v y src (m + 1) = agW v y src m + (1 + wtS x) := by
  unfold agW; rw [resL_snoc hx, sumW_append]; simp only [sumW]; omega
theorem agW_mono {v y : Arr} {src : List Int} {m k : Nat} (h : m ≤ k) : agW v y src m ≤ agW v y src k := by
  unfold agW
  have h1 : (resL .zero v.items y.items src).take k = ((resL .zero v.items y.items src).take k).take m ++ ((resL .zero v.items y.items src).take k).drop m := (List.take_append_drop _ _).symm
  rw [List.take_take, Nat.min_eq_left h] at h1
  have h2 := congrArg sumW h1
  rw [sumW_append] at h2
  have := sumW_nn (((resL .zero v.items y.items src).take k).drop m)
  omega
def amE (i v y : Arr) : Int := if i.kind ≠ 1 ∨ v.kind ≠ y.kind then 14 else if amO i v y = false then 16 else if i.nums.any (outB (talN y)) = true then 18 else agE v y (amSrc i v y)
def amdE (x y : Arr) : Int := if rightS x ≠ 0 ∨ rightS y ≠ 0 then 1 else if x.kind ≠ 3 then 14 else if x.shape.length ≠ 1 then 15 else if x.items.length ≠ 2 then 16 else amE (x.items.getD 0 .zero) (x.items.getD 1 .zero) y
def amdS (x y : Arr) : Arr := if amdE x y = 0 then agA (x.items.getD 1 .zero) y (amSrc (x.items.getD 0 .zero) (x.items.getD 1 .zero) y) else .zero
theorem amdS_no {x y : Arr} (h : amdE x y ≠ 0) : amdS x y = .zero := if_neg h
theorem amdE_r {x y : Arr} (h : rightS x ≠ 0 ∨ rightS y ≠ 0) : amdE x y = 1 := if_pos h
theorem amdE_k {x y : Arr} (h : rightS x = 0) (g : rightS y = 0) (k : x.kind ≠ 3) : amdE x y = 14 := by
  unfold amdE; rw [if_neg (by simp [h, g]), if_pos k]
theorem amdE_n {x y : Arr} (h : rightS x = 0) (g : rightS y = 0) (k : x.kind = 3) (r : x.shape.length ≠ 1) : amdE x y = 15 := by
  unfold amdE; rw [if_neg (by simp [h, g]), if_neg (by simp [k]), if_pos r]
theorem amdE_l {x y : Arr} (h : rightS x = 0) (g : rightS y = 0) (k : x.kind = 3) (r : x.shape.length = 1) (l : x.items.length ≠ 2) : amdE x y = 16 := by
  unfold amdE; rw [if_neg (by simp [h, g]), if_neg (by simp [k]), if_neg (by simp [r]), if_pos l]
theorem amdE_i {x y : Arr} (h : rightS x = 0) (g : rightS y = 0) (k : x.kind = 3) (r : x.shape.length = 1) (l : x.items.length = 2) : amdE x y = amE (x.items.getD 0 .zero) (x.items.getD 1 .zero) y := by
  unfold amdE; rw [if_neg (by simp [h, g]), if_neg (by simp [k]), if_neg (by simp [r]), if_neg (by simp [l])]
theorem amE_k {i v y : Arr} (h : i.kind ≠ 1 ∨ v.kind ≠ y.kind) : amE i v y = 14 := if_pos h
theorem amE_o {i v y : Arr} (h : i.kind = 1) (g : v.kind = y.kind) (o : amO i v y = false) : amE i v y = 16 := by
  unfold amE; rw [if_neg (by simp [h, g]), if_pos o]
theorem amE_b {i v y : Arr} (h : i.kind = 1) (g : v.kind = y.kind) (o : amO i v y = true) (b : i.nums.any (outB (talN y)) = true) : amE i v y = 18 := by
  unfold amE; rw [if_neg (by simp [h, g]), if_neg (by simp [o]), if_pos b]
theorem amE_g {i v y : Arr} (h : i.kind = 1) (g : v.kind = y.kind) (o : amO i v y = true) (b : i.nums.any (outB (talN y)) = false) : amE i v y = agE v y (amSrc i v y) := by
  unfold amE; rw [if_neg (by simp [h, g]), if_neg (by simp [o]), if_neg (by simp [b])]
end Go.Proofs.Ytcoknjlkhefgpaa
