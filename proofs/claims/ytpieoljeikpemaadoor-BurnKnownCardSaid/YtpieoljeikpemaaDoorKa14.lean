import Derived.Test.YtpieoljeikpemaaDoorKd
namespace Go.Ev.BurnC
open Go Go.Ev Go.Proofs
set_option maxRecDepth 1000000
set_option maxHeartbeats 0
set_option linter.unusedVariables false
theorem piece6_18_99 {R : Type} (k : Out → Fr → Hp → Option R) : evOps T6 arr6_18.toList (fun fr H acc => sweep T6 6 rid6_18 0 (k .nrm) fr H) (arr6_18.toList.drop 99) ac6_18_99 fr6_18_99 hp6_18_99 = k .nrm fr6_19 hp6_19 := by kernel_rfl
end Go.Ev.BurnC

