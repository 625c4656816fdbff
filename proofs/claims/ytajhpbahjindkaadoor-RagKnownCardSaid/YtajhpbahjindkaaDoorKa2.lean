import Derived.Test.YtajhpbahjindkaaDoorKd
set_option linter.unusedVariables false
set_option linter.unusedSimpArgs false
namespace Go.Ev.Rag
open Go Go.Ev Go.Proofs
set_option maxRecDepth 1000000
set_option maxHeartbeats 0
set_option linter.unusedVariables false
theorem piece8_6 {R : Type} (k : Out → Fr → Hp → Option R) : evL TF 8 0 ((body8.drop 6).take 1) k fr8_6 hp8_6 = k .nrm fr8_7 hp8_7 := by kernel_rfl
end Go.Ev.Rag
