import Derived.Test.YtpieoljeikpemaaDoorWd
namespace Go.Ev.BurnC
open Go Go.Ev Go.Proofs
set_option maxRecDepth 1000000
set_option maxHeartbeats 0
set_option linter.unusedVariables false
theorem piece16_3 {R : Type} (k : Out → Fr → Hp → Option R) : evL TC 16 0 ((body16.drop 3).take 1) k fr16_3 hp16_3 = k .nrm fr16_4 hp16_4 := by kernel_rfl
end Go.Ev.BurnC
