/- The functions of package structure and of its reference: contracts. Conditions: the arrays are read. -/
import Derived.Test.YtdpdcjadedcglaaA17
set_option linter.unusedVariables false
set_option maxRecDepth 20000
set_option linter.unusedSimpArgs false
namespace Go.Proofs.Ytdpdcjadedcglaa
open Go.RowKit Go.Sort
attribute [local go_sem ↓] run_max2 run_min2
attribute [local go_sem] eql_ints_nil eql_arrs_nil
end Go.Proofs.Ytdpdcjadedcglaa
