/- What the functions of packages array and structure compute: plain functions. No program. Conditions: those of each lemma. -/
import Derived.Test.YtkbbdlibamcilaaVALID
import Derived.Test.YtkbbdlibamcilaaFILL
set_option linter.unusedVariables false
set_option linter.unusedSimpArgs false
namespace Go.Proofs.Ytkbbdlibamcilaa
def validS (a : Arr) : Arr := if rightS a = 0 then a else .zero
theorem validS_yes {a : Arr} (h : rightS a = 0) : validS a = a := if_pos h
theorem validS_no {a : Arr} (h : rightS a ≠ 0) : validS a = .zero := if_neg h
def numA (n : Int) : Arr := .mk 1 [] [n] []
def vctA (l : List Int) : Arr := .mk 1 [(l.length : Int)] l []
def boxA (a : Arr) : Arr := .mk 3 [] [] [a]
def bxsA (l : List Arr) : Arr := .mk 3 [(l.length : Int)] [] l
def szA (a : Arr) : Nat := szN a.kind a.nums.length a.items.length
def atS (a : Arr) (i : Int) : Arr := if i < 0 ∨ (szA a : Int) ≤ i then .zero else if a.kind = 3 then .mk 3 [] [] [a.items.getD i.toNat .zero] else .mk a.kind [] [a.nums.getD i.toNat 0] []
def shpS (y : Arr) : Arr := if rightS y = 0 then validS (vctA y.shape) else .zero
def talN (y : Arr) : Int := if y.shape.length = 0 then 1 else y.shape.getD 0 0
def talS (y : Arr) : Arr := if rightS y = 0 then validS (numA (talN y)) else .zero
def ravS (y : Arr) : Arr := if rightS y = 0 then .mk y.kind [(szA y : Int)] y.nums y.items else .zero
def depS (y : Arr) : Arr := if rightS y = 0 then validS (numA (depA y)) else .zero
def kndS (y : Arr) : Arr := if rightS y = 0 then validS (numA y.kind) else .zero
def encE (y : Arr) : Int := if rightS y ≠ 0 then 1 else if (validS (boxA y)).kind ≠ 3 then 21 else 0
def encS (y : Arr) : Arr := if encE y = 0 then validS (boxA y) else .zero
def disE (y : Arr) : Int := if rightS y ≠ 0 then 1 else if y.kind ≠ 3 then 0 else if y.items.length ≠ 1 then 16 else 0
def disS (y : Arr) : Arr := if disE y ≠ 0 then .zero else if y.kind ≠ 3 then y else y.items.getD 0 .zero
def fstS (y : Arr) : Arr := if rightS y ≠ 0 then .zero else if szA y = 0 then fillS y else atS y 0
def rngL (n : Nat) : List Int := (List.range n).map fun (k : Nat) => (k : Int)
def turA (tk : Int) (y : Arr) : Arr := .mk tk y.shape y.nums y.items
def turE (fr tk : Int) (y : Arr) : Int := if rightS y ≠ 0 then 1 else if y.kind ≠ fr then 14 else if rightS (turA tk y) ≠ 0 then 17 else 0
def turS (fr tk : Int) (y : Arr) : Arr := if turE fr tk y = 0 then turA tk y else .zero
theorem rngL_len (n : Nat) : (rngL n).length = n := by simp [rngL]
theorem rngL_succ (n : Nat) : rngL (n + 1) = rngL n ++ [(n : Int)] := by simp [rngL, List.range_succ]
theorem rngL_getD {n k : Nat} (h : k < n) : (rngL n).getD k 0 = k := by simp [rngL, h]
/-- characters are numbers -/
theorem ord_right {y : Arr} (h : rightS y = 0) (hk : y.kind = 2) : rightS (turA 1 y) = 0 := by
  obtain ⟨h1, h2, h3, h4⟩ := right_iff.1 h
  obtain ⟨_, hs, hh⟩ := formE_zero h1
  rw [right_iff]
  simp only [turA, Arr.kind, Arr.shape, Arr.nums, Arr.items]
  refine ⟨form_of (Or.inl rfl) hs (Or.inr (by rcases hh with ⟨q, _⟩ | ⟨_, q1, q2⟩; exact absurd q (by omega); exact ⟨by omega, q1, q2⟩)), fun n hn => ?_, h3, h4⟩
  have := h2 n hn
  rw [hk] at this
  simp [elemB, chrB] at this
  simp [elemB, numB]
  omega
end Go.Proofs.Ytkbbdlibamcilaa
