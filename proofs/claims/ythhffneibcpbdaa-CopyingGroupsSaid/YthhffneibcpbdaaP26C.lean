/- What Cut computes: plain functions and laws. No program. Conditions: those of each lemma. -/
import Derived.Test.YthhffneibcpbdaaP26E
set_option linter.unusedVariables false
set_option linter.unusedSimpArgs false
namespace Go.Proofs.Ythhffneibcpbdaa
/-- the groups of the first n counts: where each begins, and how many cells it has -/
def cuts (l : List Int) : Nat → List (Nat × Nat)
  | 0 => []
  | n + 1 => if numF l n = 0 then (match (cuts l n).getLast? with
      | some p => (cuts l n).dropLast ++ [(p.1, p.2 + 1)]
      | none => []) else cuts l n ++ [(n, 1)]
/-- m cells of y from cell i on -/
def grpA (y : Arr) (p : Nat × Nat) : Arr := .mk y.kind ((p.2 : Int) :: celL y) ((y.nums.drop (p.1 * celN y)).take (p.2 * celN y)) ((y.items.drop (p.1 * celN y)).take (p.2 * celN y))
def cutA (x y : Arr) : Arr := .mk 3 [((cuts x.nums x.nums.length).length : Int)] [] ((cuts x.nums x.nums.length).map (grpA y))
def cutE (x y : Arr) : Int :=
  if chkE26 x y ≠ 0 then chkE26 x y else if x.nums.length ≠ talM y then 16 else if x.nums.all bitB = false then 17 else if rightS (cutA x y) ≠ 0 then 21 else 0
def cutS (x y : Arr) : Arr := if cutE x y = 0 then cutA x y else .zero
section
variable {x y : Arr}
theorem cutS_no (h : cutE x y ≠ 0) : cutS x y = .zero := if_neg h
theorem cutS_yes (h : cutE x y = 0) : cutS x y = cutA x y := if_pos h
theorem cutE_c (h : chkE26 x y ≠ 0) : cutE x y = chkE26 x y := if_pos h
theorem cutE_l (h : chkE26 x y = 0) (l : x.nums.length ≠ talM y) : cutE x y = 16 := by unfold cutE; rw [if_neg (by simp [h]), if_pos l]
theorem cutE_b (h : chkE26 x y = 0) (l : x.nums.length = talM y) (b : x.nums.all bitB = false) : cutE x y = 17 := by unfold cutE; rw [if_neg (by simp [h]), if_neg (by simp [l]), if_pos b]
theorem cutE_r (h : chkE26 x y = 0) (l : x.nums.length = talM y) (b : x.nums.all bitB = true) (r : rightS (cutA x y) ≠ 0) : cutE x y = 21 := by unfold cutE; rw [if_neg (by simp [h]), if_neg (by simp [l]), if_neg (by simp [b]), if_pos r]
theorem cutE_0 (h : chkE26 x y = 0) (l : x.nums.length = talM y) (b : x.nums.all bitB = true) (r : rightS (cutA x y) = 0) : cutE x y = 0 := by unfold cutE; rw [if_neg (by simp [h]), if_neg (by simp [l]), if_neg (by simp [b]), if_neg (by simp [r])]
theorem cuts_one {l : List Int} {i : Nat} (h : numF l i ≠ 0) : cuts l (i + 1) = cuts l i ++ [(i, 1)] := by rw [cuts, if_neg h]
theorem cuts_grow {l : List Int} {i m : Nat} (h : numF l i ≠ 0) (hz : ∀ j, i < j → j < i + m + 1 → numF l j = 0) : cuts l (i + m + 1) = cuts l i ++ [(i, m + 1)] := by
  induction m with
  | zero => exact cuts_one h
  | succ m ih =>
    have e := ih (fun j h1 h2 => hz j h1 (by omega))
    rw [show i + (m + 1) + 1 = (i + m + 1) + 1 by omega, cuts, if_pos (hz _ (by omega) (by omega)), e]
    simp
theorem cuts_zero {l : List Int} {i : Nat} (h : numF l i = 0) (e : cuts l i = []) : cuts l (i + 1) = [] := by rw [cuts, if_pos h, e]; rfl
theorem cuts_len (l : List Int) (n : Nat) : (cuts l n).length ≤ n := by
  induction n with
  | zero => simp [cuts]
  | succ n ih =>
    rw [cuts]
    split
    · split
      · rename_i p hp
        have : (cuts l n) ≠ [] := by intro e; rw [e] at hp; cases hp
        have h2 := List.length_pos_iff.2 this
        simp [List.length_dropLast]
        omega
      · simp
    · simp; omega
theorem grp_step {α : Type} (a : List α) (i m c : Nat) : (a.drop (i * c)).take ((m + 1) * c) = (a.drop (i * c)).take (m * c) ++ blkL a (i + m) c := by
  unfold blkL
  rw [Nat.add_mul, Nat.one_mul, List.take_add, List.drop_drop, Nat.add_mul]
theorem grp_len {α : Type} (a : List α) (i m c : Nat) : ((a.drop (i * c)).take (m * c)).length ≤ a.length := by simp; omega
end
end Go.Proofs.Ythhffneibcpbdaa
