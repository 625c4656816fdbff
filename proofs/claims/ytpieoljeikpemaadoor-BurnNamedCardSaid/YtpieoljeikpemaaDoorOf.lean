/- Fires that are enough, by distances: tables and normal forms. -/
import Derived.Test.YtpieoljeikpemaaDoorOc
import Derived.Test.YtpieoljeikpemaaDoorOd
import Derived.Test.YtpieoljeikpemaaDoorRs
set_option linter.unusedVariables false
set_option linter.unusedSimpArgs false
namespace Go.Ev.Burn
open Go Go.Ev
set_option maxRecDepth 1000000
set_option linter.unusedVariables false
end Go.Ev.Burn
namespace Go.Ev.Burn
open Go Go.Ev
set_option maxRecDepth 1000000
set_option linter.unusedVariables false
set_option linter.unusedSimpArgs false
end Go.Ev.Burn
