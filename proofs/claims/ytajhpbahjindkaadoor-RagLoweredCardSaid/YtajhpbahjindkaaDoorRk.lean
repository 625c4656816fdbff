/- Sets that are told apart: the program's side; tables and normal forms. -/
import Derived.Test.YtajhpbahjindkaaDoorRe
import Derived.Test.YtajhpbahjindkaaDoorRf
import Derived.Test.YtajhpbahjindkaaDoorRg
set_option linter.unusedVariables false
set_option linter.unusedSimpArgs false
namespace Rgg
open Go
end Rgg
namespace Go.Ev.Rag
open Go Go.Ev
set_option maxRecDepth 1000000
set_option maxHeartbeats 0
set_option linter.unusedVariables false
end Go.Ev.Rag
namespace Rgg
open Go
theorem word_sz : ∀ n, n < 32 → (word n).size ≤ 5 := by decide +kernel
end Rgg
namespace Go.Ev.Rag
open Go Go.Ev Go.Proofs
set_option maxRecDepth 1000000
set_option linter.unusedVariables false
set_option linter.unusedSimpArgs false
end Go.Ev.Rag
