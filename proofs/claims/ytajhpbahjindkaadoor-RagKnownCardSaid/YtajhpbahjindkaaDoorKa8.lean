import Derived.Test.YtajhpbahjindkaaDoorKd
set_option linter.unusedVariables false
set_option linter.unusedSimpArgs false
namespace Go.Ev.Rag
open Go Go.Ev Go.Proofs
set_option maxRecDepth 1000000
set_option maxHeartbeats 0
set_option linter.unusedVariables false
theorem piece8_18 {R : Type} (k : Out → Fr → Hp → Option R) : evL TF 8 0 ((body8.drop 18).take 1) k fr8_18 hp8_18 = k .nrm fr8_19 hp8_19 := by kernel_rfl
end Go.Ev.Rag
namespace Go.Ev.Rag
open Go Go.Ev Go.Proofs
set_option maxRecDepth 1000000
set_option maxHeartbeats 0
set_option linter.unusedVariables false
theorem piece8_19 : evL TF 8 0 (body8.drop 19) (endK TF fn8 0) fr8_19 hp8_19 = some (vb true, []) := by kernel_rfl
end Go.Ev.Rag
