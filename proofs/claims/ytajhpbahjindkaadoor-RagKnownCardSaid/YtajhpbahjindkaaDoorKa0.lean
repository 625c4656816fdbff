import Derived.Test.YtajhpbahjindkaaDoorKd
set_option linter.unusedVariables false
set_option linter.unusedSimpArgs false
namespace Go.Ev.Rag
open Go Go.Ev Go.Proofs
set_option maxRecDepth 1000000
set_option maxHeartbeats 0
set_option linter.unusedVariables false
theorem piece8_0 {R : Type} (k : Out → Fr → Hp → Option R) : evL TF 8 0 ((body8.drop 0).take 4) k (argFr 0 []) [] = k .nrm fr8_4 hp8_4 := by kernel_rfl
end Go.Ev.Rag
