import Derived.Test.YtpieoljeikpemaaDoorWd
namespace Go.Ev.BurnC
open Go Go.Ev Go.Proofs
set_option maxRecDepth 1000000
set_option maxHeartbeats 0
set_option linter.unusedVariables false
theorem piece16_14_0 {R : Type} (k : Fr → Hp → List (List Nat × List Nat) → Option R) : evOps TC arr16_14.toList k ((arr16_14.toList.drop 0).take 66) [] fr16_14 hp16_14 = k fr16_14_66 hp16_14_66 ac16_14_66 := by kernel_rfl
end Go.Ev.BurnC
