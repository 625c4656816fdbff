import Derived.Test.YtfemekpcgieldaaKd
set_option linter.unusedVariables false
set_option linter.unusedSimpArgs false
namespace Go.Ev.ClaimC
open Go Go.Ev Go.Proofs
set_option maxRecDepth 1000000
set_option maxHeartbeats 0
set_option linter.unusedVariables false
theorem piece12_14 : evL T9 12 0 (body12.drop 14) (endK T9 fn12 0) fr12_14 hp12_14 = some (vb true, []) := by kernel_rfl
end Go.Ev.ClaimC
