import Derived.Test.YtajhpbahjindkaaDoorKd
set_option linter.unusedVariables false
set_option linter.unusedSimpArgs false
namespace Go.Ev.Rag
open Go Go.Ev Go.Proofs
set_option maxRecDepth 1000000
set_option maxHeartbeats 0
set_option linter.unusedVariables false
theorem piece8_13 {R : Type} (k : Out → Fr → Hp → Option R) : evL TF 8 0 ((body8.drop 13).take 2) k fr8_13 hp8_13 = k .nrm fr8_15 hp8_15 := by kernel_rfl
end Go.Ev.Rag
