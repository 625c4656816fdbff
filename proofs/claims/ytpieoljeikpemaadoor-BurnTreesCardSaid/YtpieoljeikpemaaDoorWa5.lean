import Derived.Test.YtpieoljeikpemaaDoorWd
namespace Go.Ev.BurnC
open Go Go.Ev Go.Proofs
set_option maxRecDepth 1000000
set_option maxHeartbeats 0
set_option linter.unusedVariables false
theorem piece16_6 {R : Type} (k : Out → Fr → Hp → Option R) : evL TC 16 0 ((body16.drop 6).take 1) k fr16_6 hp16_6 = k .nrm fr16_7 hp16_7 := by kernel_rfl
end Go.Ev.BurnC
