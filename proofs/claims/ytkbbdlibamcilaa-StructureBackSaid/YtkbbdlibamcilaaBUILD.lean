/- rotating.build: a contract. Conditions: a valid array, a function that keeps to the shape. -/
import Derived.Test.YtkbbdlibamcilaaBLD
set_option linter.unusedVariables false
set_option linter.unusedSimpArgs false
namespace Go.Proofs.Ytkbbdlibamcilaa
open Go.RowKit Go.Sort
attribute [local go_sem ↓] run_max2 run_min2
attribute [local go_sem] eql_ints_nil eql_arrs_nil
/-- an index, each number turned by its axis' own rule -/
def turnI (f : Int → Int → Int) (l : List Int) : List Int := (List.range l.length).map fun (j : Nat) => f j (l.getD j 0)
def turnP (f : Int → Int → Int) (l : List Int) (j : Nat) : List Int := (turnI f l).take j ++ l.drop j
def keeps (f : Int → Int → Int) (s : List Int) : Prop := ∀ (j : Nat) (n : Int), j < s.length → 0 ≤ n → n < s.getD j 0 → 0 ≤ f j n ∧ f j n < s.getD j 0
theorem turnI_len (f : Int → Int → Int) (l : List Int) : (turnI f l).length = l.length := by simp [turnI]
theorem turnI_getD {f : Int → Int → Int} {l : List Int} {j : Nat} (h : j < l.length) : (turnI f l).getD j 0 = f j (l.getD j 0) := by simp [turnI, h]
theorem turnI_in {f : Int → Int → Int} {s l : List Int} (hf : keeps f s) (h : inS s l) : inS s (turnI f l) :=
  ⟨by rw [turnI_len, h.1], fun i hi => by rw [turnI_getD (by rw [h.1]; exact hi)]; exact hf i _ hi (h.2 i hi).1 (h.2 i hi).2⟩
theorem turnP_zero (f : Int → Int → Int) (l : List Int) : turnP f l 0 = l := by simp [turnP]
theorem turnP_all (f : Int → Int → Int) (l : List Int) : turnP f l l.length = turnI f l := by simp [turnP, List.take_of_length_le, turnI_len]
theorem turnP_len (f : Int → Int → Int) (l : List Int) {j : Nat} (h : j ≤ l.length) : (turnP f l j).length = l.length := by simp [turnP, turnI_len]; omega
theorem turnP_at (f : Int → Int → Int) (l : List Int) {j : Nat} (h : j < l.length) : (turnP f l j).getD j 0 = l.getD j 0 := by
  unfold turnP
  have e : ((turnI f l).take j).length = j := by simp [turnI_len]; omega
  simp only [List.getD_eq_getElem?_getD]
  rw [List.getElem?_append_right (by omega), e, List.getElem?_drop]
  simp
theorem turnP_set (f : Int → Int → Int) (l : List Int) {j : Nat} (h : j < l.length) : (turnP f l j).set j (f j (l.getD j 0)) = turnP f l (j + 1) := by
  unfold turnP
  have e : ((turnI f l).take j).length = j := by simp [turnI_len]; omega
  rw [List.set_append_right _ _ (by omega), e, Nat.sub_self, List.drop_eq_getElem_cons h, List.set_cons_zero]
  rw [← List.take_append_getElem (by rw [turnI_len]; exact h)]
  have e2 : (turnI f l)[j]'(by rw [turnI_len]; exact h) = f j (l.getD j 0) := by simp [turnI, h]
  rw [e2]
  simp
/-- where element k comes from -/
def srcS (f : Int → Int → Int) (s : List Int) (k : Int) : Int := offS s (turnI f (digs s k))
theorem srcS_bd {f : Int → Int → Int} {s : List Int} (hf : keeps f s) (hs : shapeB s = true) {k : Int} (h0 : 0 ≤ k) (h1 : k < cnt s) : 0 ≤ srcS f s k ∧ srcS f s k < cnt s :=
  offS_bd (turnI_in hf (digs_in (posB_of hs h0 h1) k))
def pickN (n : List Int) (g : Int → Int) (m : Nat) : List Int := (List.range m).map fun (k : Nat) => n.getD (g k).toNat 0
def pickA (l : List Arr) (g : Int → Int) (m : Nat) : List Arr := (List.range m).map fun (k : Nat) => l.getD (g k).toNat .zero
theorem pickN_len (n : List Int) (g : Int → Int) (m : Nat) : (pickN n g m).length = m := by simp [pickN]
theorem pickA_len (n : List Arr) (g : Int → Int) (m : Nat) : (pickA n g m).length = m := by simp [pickA]
theorem pickN_succ (n : List Int) (g : Int → Int) (m : Nat) : pickN n g (m + 1) = pickN n g m ++ [n.getD (g m).toNat 0] := by simp [pickN, List.range_succ]
theorem pickA_succ (n : List Arr) (g : Int → Int) (m : Nat) : pickA n g (m + 1) = pickA n g m ++ [n.getD (g m).toNat .zero] := by simp [pickA, List.range_succ]
/-- the array of y's shape whose element k is y's element g k -/
def gathS (y : Arr) (s : List Int) (g : Int → Int) (m : Nat) : Arr := .mk y.kind s (if y.kind = 3 then [] else pickN y.nums g m) (if y.kind = 3 then pickA y.items g m else [])
theorem gathS_N {y : Arr} (h : y.kind ≠ 3) (s : List Int) (g : Int → Int) (m : Nat) : gathS y s g m = .mk y.kind s (pickN y.nums g m) [] := by simp [gathS, h]
theorem gathS_A {y : Arr} (h : y.kind = 3) (s : List Int) (g : Int → Int) (m : Nat) : gathS y s g m = .mk 3 s [] (pickA y.items g m) := by simp [gathS, h]
end Go.Proofs.Ytkbbdlibamcilaa
