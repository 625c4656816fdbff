import Derived.Test.YtajhpbahjindkaaDoorWd
set_option linter.unusedVariables false
set_option linter.unusedSimpArgs false
namespace Go.Ev.Rag
open Go Go.Ev Go.Proofs
set_option maxRecDepth 1000000
set_option maxHeartbeats 0
set_option linter.unusedVariables false
theorem piece16_16 {R : Type} (k : Out → Fr → Hp → Option R) : evL TE 16 0 ((body16.drop 16).take 1) k fr16_16 hp16_16 = k .nrm fr16_17 hp16_17 := by kernel_rfl
end Go.Ev.Rag
namespace Go.Ev.Rag
open Go Go.Ev Go.Proofs
set_option maxRecDepth 1000000
set_option maxHeartbeats 0
set_option linter.unusedVariables false
theorem piece16_17 : evL TE 16 0 (body16.drop 17) (endK TE fn16 0) fr16_17 hp16_17 = some (vb true, []) := by kernel_rfl
end Go.Ev.Rag
