/- Bags by numbers: tables and normal forms. -/
import Derived.Test.YtajhpbahjindkaaDoorNa
import Derived.Test.YtajhpbahjindkaaDoorRe
import Derived.Test.YtajhpbahjindkaaDoorNb
set_option linter.unusedVariables false
set_option linter.unusedSimpArgs false
namespace Go.Ev.Rag
open Go Go.Ev
set_option maxRecDepth 1000000
set_option maxHeartbeats 0
set_option linter.unusedVariables false
end Go.Ev.Rag
namespace Rgg
open Go
end Rgg
namespace Go.Ev.Rag
open Go Go.Ev Go.Proofs
set_option maxRecDepth 1000000
set_option linter.unusedVariables false
set_option linter.unusedSimpArgs false
end Go.Ev.Rag
