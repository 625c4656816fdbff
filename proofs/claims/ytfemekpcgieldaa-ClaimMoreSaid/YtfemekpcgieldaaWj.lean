import Derived.Test.YtfemekpcgieldaaWa
import Derived.Test.YtfemekpcgieldaaWb
import Derived.Test.YtfemekpcgieldaaWc
import Derived.Test.YtfemekpcgieldaaWe
import Derived.Test.YtfemekpcgieldaaWf
set_option linter.unusedVariables false
set_option linter.unusedSimpArgs false
namespace Go.Ev.ClaimC
open Go Go.Ev Go.Proofs
set_option maxRecDepth 1000000
set_option maxHeartbeats 0
set_option linter.unusedVariables false
theorem ran16 : evBody TC 16 [] [] = some (vb true, []) :=
  evBody_of TC fn16_eq cd16_eq (by kernel_rfl) (evL_step TC (i := 0) (n := 4) piece16_0 (evL_step TC (i := 4) (n := 2) piece16_4 (evL_step TC (i := 6) (n := 1) piece16_6 (evL_step TC (i := 7) (n := 4) piece16_7 (piece16_11)))))
end Go.Ev.ClaimC
