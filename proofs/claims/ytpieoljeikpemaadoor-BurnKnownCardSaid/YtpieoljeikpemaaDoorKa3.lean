import Derived.Test.YtpieoljeikpemaaDoorKd
namespace Go.Ev.BurnC
open Go Go.Ev Go.Proofs
set_option maxRecDepth 1000000
set_option maxHeartbeats 0
set_option linter.unusedVariables false
theorem piece6_6 {R : Type} (k : Out → Fr → Hp → Option R) : evL T6 6 0 ((body6.drop 6).take 2) k fr6_6 hp6_6 = k .nrm fr6_8 hp6_8 := by kernel_rfl
end Go.Ev.BurnC

