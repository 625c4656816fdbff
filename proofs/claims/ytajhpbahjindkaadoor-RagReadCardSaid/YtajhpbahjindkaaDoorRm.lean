/- Sets that are told apart: the reference's side, walked. -/
import Derived.Test.YtajhpbahjindkaaDoorRl
import Derived.Test.YtajhpbahjindkaaDoorRg
import Derived.Test.YtajhpbahjindkaaDoorRk
import Derived.Test.YtajhpbahjindkaaDoorRh
set_option linter.unusedVariables false
set_option linter.unusedSimpArgs false
namespace Rgg
open Go
end Rgg
namespace Go.Ev.Rag
open Go Go.Ev Go.Proofs
set_option maxRecDepth 1000000
set_option linter.unusedVariables false
set_option linter.unusedSimpArgs false
end Go.Ev.Rag
namespace Rgg
open Go
theorem sub_zero : ∀ n, n < 32 → sub n 0 = true → n = 0 := by decide
end Rgg
