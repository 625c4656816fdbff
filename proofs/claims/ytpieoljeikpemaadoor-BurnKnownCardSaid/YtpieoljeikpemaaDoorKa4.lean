import Derived.Test.YtpieoljeikpemaaDoorKd
namespace Go.Ev.BurnC
open Go Go.Ev Go.Proofs
set_option maxRecDepth 1000000
set_option maxHeartbeats 0
set_option linter.unusedVariables false
theorem piece6_8 {R : Type} (k : Out → Fr → Hp → Option R) : evL T6 6 0 ((body6.drop 8).take 2) k fr6_8 hp6_8 = k .nrm fr6_10 hp6_10 := by kernel_rfl
end Go.Ev.BurnC

