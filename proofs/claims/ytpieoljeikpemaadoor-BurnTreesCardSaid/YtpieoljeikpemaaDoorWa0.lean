import Derived.Test.YtpieoljeikpemaaDoorWd
namespace Go.Ev.BurnC
open Go Go.Ev Go.Proofs
set_option maxRecDepth 1000000
set_option maxHeartbeats 0
set_option linter.unusedVariables false
theorem piece16_0 {R : Type} (k : Out → Fr → Hp → Option R) : evL TC 16 0 ((body16.drop 0).take 2) k (argFr 0 []) [] = k .nrm fr16_2 hp16_2 := by kernel_rfl
end Go.Ev.BurnC
