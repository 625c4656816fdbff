import Derived.Test.YtfemekpcgieldaaWd
set_option linter.unusedVariables false
set_option linter.unusedSimpArgs false
namespace Go.Ev.ClaimC
open Go Go.Ev Go.Proofs
set_option maxRecDepth 1000000
set_option maxHeartbeats 0
set_option linter.unusedVariables false
theorem piece16_11 : evL TC 16 0 (body16.drop 11) (endK TC fn16 0) fr16_11 hp16_11 = some (vb true, []) := by kernel_rfl
end Go.Ev.ClaimC
