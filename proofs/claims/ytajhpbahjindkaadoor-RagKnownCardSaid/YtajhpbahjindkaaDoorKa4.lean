import Derived.Test.YtajhpbahjindkaaDoorKd
set_option linter.unusedVariables false
set_option linter.unusedSimpArgs false
namespace Go.Ev.Rag
open Go Go.Ev Go.Proofs
set_option maxRecDepth 1000000
set_option maxHeartbeats 0
set_option linter.unusedVariables false
theorem piece8_8 {R : Type} (k : Out → Fr → Hp → Option R) : evL TF 8 0 ((body8.drop 8).take 2) k fr8_8 hp8_8 = k .nrm fr8_10 hp8_10 := by kernel_rfl
end Go.Ev.Rag
namespace Go.Ev.Rag
open Go Go.Ev Go.Proofs
set_option maxRecDepth 1000000
set_option maxHeartbeats 0
set_option linter.unusedVariables false
theorem piece8_15 {R : Type} (k : Out → Fr → Hp → Option R) : evL TF 8 0 ((body8.drop 15).take 3) k fr8_15 hp8_15 = k .nrm fr8_18 hp8_18 := by kernel_rfl
end Go.Ev.Rag
