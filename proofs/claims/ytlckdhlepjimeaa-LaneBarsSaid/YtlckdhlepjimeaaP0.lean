import Derived.Test.YtlckdhlepjimeaaPa
set_option linter.unusedVariables false
set_option linter.unusedSimpArgs false
namespace Go.Ev
open Go Go.Proofs
set_option maxRecDepth 1000000
set_option maxHeartbeats 0
theorem piece0 {R : Type} (k : Out → Fr → Hp → Option R) : evL TC 15 0 ((body15.drop 0).take 4) k (argFr 0 []) [] = k .nrm fr4 hp4 := by kernel_rfl
end Go.Ev
