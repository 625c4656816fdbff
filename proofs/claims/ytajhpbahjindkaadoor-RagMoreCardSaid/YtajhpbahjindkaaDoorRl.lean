/- Sets that are told apart: the reference's side; tables and normal forms. -/
import Derived.Test.YtajhpbahjindkaaDoorRf
set_option linter.unusedVariables false
set_option linter.unusedSimpArgs false
namespace Rgg
open Go
end Rgg
namespace Go.Ev.Rag
open Go Go.Ev
set_option maxRecDepth 1000000
set_option maxHeartbeats 0
set_option linter.unusedVariables false
end Go.Ev.Rag
