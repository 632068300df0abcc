/- The constructors of package array and of its reference: contracts. Conditions: the arrays and lists are read. -/
import Derived.Test.YtdpdcjadedcglaaGG
import Derived.Test.YtdpdcjadedcglaaGC
import Derived.Test.YtdpdcjadedcglaaGF
set_option linter.unusedVariables false
set_option maxRecDepth 20000
set_option linter.unusedSimpArgs false
namespace Go.Proofs.Ytdpdcjadedcglaa
open Go.RowKit Go.Sort
attribute [local go_sem ↓] run_max2 run_min2
attribute [local go_sem] eql_ints_nil eql_arrs_nil
theorem atS_no {a : Arr} {i : Int} (h : i < 0 ∨ (szA a : Int) ≤ i) : atS a i = .zero := if_pos h
theorem atS_N {a : Arr} {i : Int} (h : ¬ (i < 0 ∨ (szA a : Int) ≤ i)) (k : a.kind ≠ 3) : atS a i = .mk a.kind [] [a.nums.getD i.toNat 0] [] := by rw [atS, if_neg h, if_neg k]
theorem atS_A {a : Arr} {i : Int} (h : ¬ (i < 0 ∨ (szA a : Int) ≤ i)) (k : a.kind = 3) : atS a i = .mk 3 [] [] [a.items.getD i.toNat .zero] := by rw [atS, if_neg h, if_pos k]
theorem szA_3 {a : Arr} (k : a.kind = 3) : szA a = a.items.length := by simp [szA, szN, k]
theorem szA_N {a : Arr} (k : a.kind ≠ 3) {i : Nat} (h : i < szA a) : i < a.nums.length := by
  unfold szA szN at h
  split at h
  · exact h
  · omega
end Go.Proofs.Ytdpdcjadedcglaa
