/- ref03.Put: contract: the rows of an array in progress grow. Conditions: the rows are the call's own. -/
import Derived.Test.YtdpdcjadedcglaaGG
set_option linter.unusedVariables false
set_option maxRecDepth 20000
set_option linter.unusedSimpArgs false
namespace Go.Proofs.Ytdpdcjadedcglaa
open Go.RowKit Go.Sort
attribute [local go_sem ↓] run_max2 run_min2
attribute [local go_sem] eql_ints_nil eql_arrs_nil
def putN (k : Int) (n : List Int) (e : Arr) : List Int := if k = 3 then n else n ++ e.nums
def putI (k : Int) (l : List Arr) (e : Arr) : List Arr := if k = 3 then l ++ e.items else l
theorem putN_N {k : Int} (h : k ≠ 3) (n : List Int) (e : Arr) : putN k n e = n ++ e.nums := if_neg h
theorem putN_A {k : Int} (h : k = 3) (n : List Int) (e : Arr) : putN k n e = n := if_pos h
theorem putI_N {k : Int} (h : k ≠ 3) (n : List Arr) (e : Arr) : putI k n e = n := if_neg h
theorem putI_A {k : Int} (h : k = 3) (n : List Arr) (e : Arr) : putI k n e = n ++ e.items := if_pos h
end Go.Proofs.Ytdpdcjadedcglaa
