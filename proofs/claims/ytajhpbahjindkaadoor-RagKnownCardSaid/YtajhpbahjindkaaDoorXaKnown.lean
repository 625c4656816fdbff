/- A loop whose states are known by the number of its rounds. -/
import Derived.Test.YtajhpbahjindkaaDoorEvE
set_option linter.unusedVariables false
set_option linter.unusedSimpArgs false
namespace Go.Ev
open Go
end Go.Ev
