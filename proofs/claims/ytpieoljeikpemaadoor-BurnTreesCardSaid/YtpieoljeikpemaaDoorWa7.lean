import Derived.Test.YtpieoljeikpemaaDoorWd
namespace Go.Ev.BurnC
open Go Go.Ev Go.Proofs
set_option maxRecDepth 1000000
set_option maxHeartbeats 0
set_option linter.unusedVariables false
theorem piece16_8 {R : Type} (k : Out → Fr → Hp → Option R) : evL TC 16 0 ((body16.drop 8).take 6) k fr16_8 hp16_8 = k .nrm fr16_14 hp16_14 := by kernel_rfl
end Go.Ev.BurnC
