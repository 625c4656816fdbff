import Derived.Test.YtpieoljeikpemaaDoorKd
namespace Go.Ev.BurnC
open Go Go.Ev Go.Proofs
set_option maxRecDepth 1000000
set_option maxHeartbeats 0
set_option linter.unusedVariables false
theorem piece6_0 {R : Type} (k : Out → Fr → Hp → Option R) : evL T6 6 0 ((body6.drop 0).take 3) k (argFr 0 []) [] = k .nrm fr6_3 hp6_3 := by kernel_rfl
end Go.Ev.BurnC

