import Derived.Test.YtpieoljeikpemaaDoorKd
namespace Go.Ev.BurnC
open Go Go.Ev Go.Proofs
set_option maxRecDepth 1000000
set_option maxHeartbeats 0
set_option linter.unusedVariables false
theorem piece6_12 {R : Type} (k : Out → Fr → Hp → Option R) : evL T6 6 0 ((body6.drop 12).take 1) k fr6_12 hp6_12 = k .nrm fr6_13 hp6_13 := by kernel_rfl
end Go.Ev.BurnC

