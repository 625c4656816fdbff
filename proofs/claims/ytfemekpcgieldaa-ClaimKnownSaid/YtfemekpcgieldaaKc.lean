import Derived.Test.YtfemekpcgieldaaKd
set_option linter.unusedVariables false
set_option linter.unusedSimpArgs false
namespace Go.Ev.ClaimC
open Go Go.Ev Go.Proofs
set_option maxRecDepth 1000000
set_option maxHeartbeats 0
set_option linter.unusedVariables false
theorem piece12_7 {R : Type} (k : Out → Fr → Hp → Option R) : evL T9 12 0 ((body12.drop 7).take 4) k fr12_7 hp12_7 = k .nrm fr12_11 hp12_11 := by kernel_rfl
end Go.Ev.ClaimC
