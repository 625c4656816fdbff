import Derived.Test.YtajhpbahjindkaaDoorKd
set_option linter.unusedVariables false
set_option linter.unusedSimpArgs false
namespace Go.Ev.Rag
open Go Go.Ev Go.Proofs
set_option maxRecDepth 1000000
set_option maxHeartbeats 0
set_option linter.unusedVariables false
theorem piece8_7 {R : Type} (k : Out → Fr → Hp → Option R) : evL TF 8 0 ((body8.drop 7).take 1) k fr8_7 hp8_7 = k .nrm fr8_8 hp8_8 := by kernel_rfl
end Go.Ev.Rag
