/- The search of the burn chapter: tables and normal forms. -/
import Derived.Test.YtpieoljeikpemaaDoorSd
import Derived.Test.YtpieoljeikpemaaDoorSp
set_option linter.unusedVariables false
set_option linter.unusedSimpArgs false
namespace Go.Ev.Burn
open Go Go.Ev
set_option maxRecDepth 1000000
set_option linter.unusedVariables false
noncomputable def S16 : Tab := S15
end Go.Ev.Burn
namespace Go.Ev.Burn
open Go Go.Ev
set_option maxRecDepth 1000000
set_option linter.unusedVariables false
def v0 : AV → Option Unit
  | .sc (.int .i64 0) => some ()
  | _ => none
end Go.Ev.Burn
