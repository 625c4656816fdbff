import Derived.Test.YtpieoljeikpemaaDoorKd
namespace Go.Ev.BurnC
open Go Go.Ev Go.Proofs
set_option maxRecDepth 1000000
set_option maxHeartbeats 0
set_option linter.unusedVariables false
theorem piece6_19 : evL T6 6 0 (body6.drop 19) (endK T6 fn6 0) fr6_19 hp6_19 = some (vb true, []) := by kernel_rfl
end Go.Ev.BurnC

