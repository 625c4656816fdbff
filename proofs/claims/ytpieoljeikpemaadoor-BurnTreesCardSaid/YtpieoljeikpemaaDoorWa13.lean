import Derived.Test.YtpieoljeikpemaaDoorWd
namespace Go.Ev.BurnC
open Go Go.Ev Go.Proofs
set_option maxRecDepth 1000000
set_option maxHeartbeats 0
set_option linter.unusedVariables false
theorem piece16_15 : evL TC 16 0 (body16.drop 15) (endK TC fn16 0) fr16_15 hp16_15 = some (vb true, []) := by kernel_rfl
end Go.Ev.BurnC
