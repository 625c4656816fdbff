import Derived.Test.YtpieoljeikpemaaDoorWd
namespace Go.Ev.BurnC
open Go Go.Ev Go.Proofs
set_option maxRecDepth 1000000
set_option maxHeartbeats 0
set_option linter.unusedVariables false
theorem piece16_14_84 {R : Type} (k : Out → Fr → Hp → Option R) : evOps TC arr16_14.toList (fun fr H acc => sweep TC 16 rid16_14 0 (k .nrm) fr H) (arr16_14.toList.drop 84) ac16_14_84 fr16_14_84 hp16_14_84 = k .nrm fr16_15 hp16_15 := by kernel_rfl
end Go.Ev.BurnC
