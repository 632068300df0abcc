/- The reference of package shape: contracts. Condition: the lists are read. -/
import Derived.Test.YtkbbdlibamcilaaIdxS
import Derived.Test.YtkbbdlibamcilaaOwn2
set_option linter.unusedVariables false
set_option linter.unusedSimpArgs false
namespace Go.Proofs.Ytkbbdlibamcilaa
open Go.RowKit Go.Sort
attribute [local go_sem ↓] run_max2 run_min2
attribute [local go_sem] eql_ints_nil eql_arrs_nil
end Go.Proofs.Ytkbbdlibamcilaa
