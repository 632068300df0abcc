/- What copying computes: plain functions, and their plain laws. No program. Conditions: those of each lemma. -/
import Derived.Test.YtdpdcjadedcglaaPCELL
import Derived.Test.YtdpdcjadedcglaaGJ
import Derived.Test.YtdpdcjadedcglaaGK
set_option linter.unusedVariables false
set_option maxRecDepth 20000
set_option linter.unusedSimpArgs false
namespace Go.Proofs.Ytdpdcjadedcglaa
/-- the shape of a major cell, its size, the number of cells -/
def celL (y : Arr) : List Int := y.shape.drop 1
def celN (y : Arr) : Nat := (cnt (celL y)).toNat
def talM (y : Arr) : Nat := (talN y).toNat
def sumF (f : Nat → Int) : Nat → Int
  | 0 => 0
  | n + 1 => sumF f n + f n
/-- list b i, k i times, for each i -/
def cpL {α : Type} (k : Nat → Nat) (b : Nat → List α) : Nat → List α
  | 0 => []
  | n + 1 => cpL k b n ++ repL (b n) (k n)
/-- the weight of cell i -/
def celW (y : Arr) (i : Nat) : Int := if y.kind = 3 then (celN y : Int) + sumW (blkL y.items i (celN y)) else celN y
/-- the count of cell i -/
def cpK (x : Arr) (i : Nat) : Int := x.nums.getD (if x.shape.length = 0 then 0 else i) 0
def cpSum (x y : Arr) : Int := sumF (cpK x) (talM y)
def cpShape (x y : Arr) : List Int := min (cpSum x y) 65537 :: celL y
def cpHvy (x y : Arr) : Int := sumF (fun i => min (cpK x i) 65537 * celW y i) (talM y)
def chkE26 (x y : Arr) : Int := if rightS x ≠ 0 ∨ rightS y ≠ 0 then 1 else if x.kind ≠ 1 then 14 else if 1 < x.shape.length then 15 else 0
def copyE (x y : Arr) : Int :=
  if chkE26 x y ≠ 0 then chkE26 x y else if x.shape.length = 1 ∧ x.nums.length ≠ talM y then 16 else if x.nums.any negB = true then 17
  else if shapeB (cpShape x y) = false ∨ 262144 < cpHvy x y then 21 else 0
def copyA (x y : Arr) : Arr := .mk y.kind (cpShape x y) (cpL (fun i => (cpK x i).toNat) (fun i => blkL y.nums i (celN y)) (talM y)) (cpL (fun i => (cpK x i).toNat) (fun i => blkL y.items i (celN y)) (talM y))
def copyS (x y : Arr) : Arr := if copyE x y = 0 then copyA x y else .zero
theorem copyS_no {x y : Arr} (h : copyE x y ≠ 0) : copyS x y = .zero := if_neg h
theorem copyS_yes {x y : Arr} (h : copyE x y = 0) : copyS x y = copyA x y := if_pos h
theorem copyE_c {x y : Arr} (h : chkE26 x y ≠ 0) : copyE x y = chkE26 x y := if_pos h
theorem copyE_l {x y : Arr} (h : chkE26 x y = 0) (l : x.shape.length = 1 ∧ x.nums.length ≠ talM y) : copyE x y = 16 := by unfold copyE; rw [if_neg (by simp [h]), if_pos l]
theorem copyE_d {x y : Arr} (h : chkE26 x y = 0) (l : ¬ (x.shape.length = 1 ∧ x.nums.length ≠ talM y)) (d : x.nums.any negB = true) : copyE x y = 17 := by unfold copyE; rw [if_neg (by simp [h]), if_neg l, if_pos d]
theorem copyE_s {x y : Arr} (h : chkE26 x y = 0) (l : ¬ (x.shape.length = 1 ∧ x.nums.length ≠ talM y)) (d : x.nums.any negB = false) (s : shapeB (cpShape x y) = false ∨ 262144 < cpHvy x y) : copyE x y = 21 := by unfold copyE; rw [if_neg (by simp [h]), if_neg l, if_neg (by simp [d]), if_pos s]
theorem copyE_0 {x y : Arr} (h : chkE26 x y = 0) (l : ¬ (x.shape.length = 1 ∧ x.nums.length ≠ talM y)) (d : x.nums.any negB = false) (s : shapeB (cpShape x y) = true) (v : ¬ 262144 < cpHvy x y) : copyE x y = 0 := by unfold copyE; rw [if_neg (by simp [h]), if_neg l, if_neg (by simp [d]), if_neg (by simp [s]; omega)]
/-- what is known behind the first checks -/
structure Chk26 (x y : Arr) : Prop where
  rx : rightS x = 0
  ry : rightS y = 0
  k : x.kind = 1
  r : x.shape.length ≤ 1
theorem chk26_ok {x y : Arr} (h : chkE26 x y = 0) : Chk26 x y := by
  unfold chkE26 at h
  by_cases a : rightS x ≠ 0 ∨ rightS y ≠ 0
  · rw [if_pos a] at h; cases h
  rw [if_neg a] at h
  by_cases b : x.kind ≠ 1
  · rw [if_pos b] at h; cases h
  rw [if_neg b] at h
  by_cases c : 1 < x.shape.length
  · rw [if_pos c] at h; cases h
  exact ⟨by simp only [not_or, Decidable.not_not] at a; exact a.1, by simp only [not_or, Decidable.not_not] at a; exact a.2, by simpa using b, by omega⟩
theorem chk26_of {x y : Arr} (h : Chk26 x y) : chkE26 x y = 0 := by
  unfold chkE26
  rw [if_neg (by simp [h.rx, h.ry]), if_neg (by simp [h.k]), if_neg (by have := h.r; omega)]
section
variable {y : Arr}
theorem celL_nn (h : shapeB y.shape = true) : ∀ d ∈ celL y, 0 ≤ d := fun d hd => (shapeB_iff.1 h).2.1 d (mem_drop hd)
theorem celL_ok (h : shapeB y.shape = true) : shapeB (celL y) = true := shapeB_drop h 1
theorem tal_nn (h : shapeB y.shape = true) : (talM y : Int) = talN y := by
  unfold talM talN
  split
  · rfl
  · have := (shapeB_iff.1 h).2.1 _ (getD_mem (l := y.shape) (k := 0) (by omega)); omega
theorem tal_le (h : shapeB y.shape = true) : talM y ≤ 65536 := by
  have e := tal_nn h
  unfold talN at e
  split at e
  · omega
  · have := dim_bd' h (k := 0) (by omega); omega
theorem celN_eq (h : shapeB y.shape = true) : (celN y : Int) = cnt (celL y) := by
  have := (cnt_le (celL_ok h)).1; unfold celN; omega
theorem celN_le (h : shapeB y.shape = true) : celN y ≤ 65536 := by
  have := cnt_le (celL_ok h); unfold celN; omega
theorem cnt_tal (h : shapeB y.shape = true) : (cnt y.shape).toNat = talM y * celN y := by
  have e : cnt y.shape = talN y * cnt (celL y) := by
    unfold talN celL
    match y.shape with
    | [] => simp [cnt, prodNZ]
    | d :: s => simp [cnt_cons1]
  rw [e, ← tal_nn h, ← celN_eq h, ← Int.natCast_mul]; rfl
end
end Go.Proofs.Ytdpdcjadedcglaa
