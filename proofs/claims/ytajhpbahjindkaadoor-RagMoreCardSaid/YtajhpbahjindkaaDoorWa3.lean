import Derived.Test.YtajhpbahjindkaaDoorWd
set_option linter.unusedVariables false
set_option linter.unusedSimpArgs false
namespace Go.Ev.Rag
open Go Go.Ev Go.Proofs
set_option maxRecDepth 1000000
set_option maxHeartbeats 0
set_option linter.unusedVariables false
theorem piece16_8 {R : Type} (k : Out → Fr → Hp → Option R) : evL TE 16 0 ((body16.drop 8).take 3) k fr16_8 hp16_8 = k .nrm fr16_11 hp16_11 := by kernel_rfl
end Go.Ev.Rag
