import Derived.Test.YtajhpbahjindkaaDoorWd
set_option linter.unusedVariables false
set_option linter.unusedSimpArgs false
namespace Go.Ev.Rag
open Go Go.Ev Go.Proofs
set_option maxRecDepth 1000000
set_option maxHeartbeats 0
set_option linter.unusedVariables false
theorem piece16_4 {R : Type} (k : Out → Fr → Hp → Option R) : evL TE 16 0 ((body16.drop 4).take 1) k fr16_4 hp16_4 = k .nrm fr16_5 hp16_5 := by kernel_rfl
end Go.Ev.Rag
