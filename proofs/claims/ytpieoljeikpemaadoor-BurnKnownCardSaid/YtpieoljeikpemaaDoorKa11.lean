import Derived.Test.YtpieoljeikpemaaDoorKd
namespace Go.Ev.BurnC
open Go Go.Ev Go.Proofs
set_option maxRecDepth 1000000
set_option maxHeartbeats 0
set_option linter.unusedVariables false
theorem piece6_18_78 {R : Type} (k : Fr → Hp → List (List Nat × List Nat) → Option R) : evOps T6 arr6_18.toList k ((arr6_18.toList.drop 78).take 6) ac6_18_78 fr6_18_78 hp6_18_78 = k fr6_18_84 hp6_18_84 ac6_18_84 := by kernel_rfl
end Go.Ev.BurnC

