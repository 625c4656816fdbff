import Derived.Test.YtfemekpcgieldaaKa
import Derived.Test.YtfemekpcgieldaaKb
import Derived.Test.YtfemekpcgieldaaKc
import Derived.Test.YtfemekpcgieldaaKe
import Derived.Test.YtfemekpcgieldaaKf
import Derived.Test.YtfemekpcgieldaaKg
set_option linter.unusedVariables false
set_option linter.unusedSimpArgs false
namespace Go.Ev.ClaimC
open Go Go.Ev Go.Proofs
set_option maxRecDepth 1000000
set_option maxHeartbeats 0
set_option linter.unusedVariables false
theorem ran12 : evBody T9 12 [] [] = some (vb true, []) :=
  evBody_of T9 fn12_eq cd12_eq (by kernel_rfl) (evL_step T9 (i := 0) (n := 4) piece12_0 (evL_step T9 (i := 4) (n := 3) piece12_4 (evL_step T9 (i := 7) (n := 4) piece12_7 (evL_step T9 (i := 11) (n := 2) piece12_11 (evL_step T9 (i := 13) (n := 1) piece12_13 (piece12_14))))))
end Go.Ev.ClaimC
