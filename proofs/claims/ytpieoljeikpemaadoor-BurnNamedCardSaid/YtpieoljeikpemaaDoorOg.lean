/- BurnTried: the closure that tries all lists: tables and normal forms. -/
import Derived.Test.YtpieoljeikpemaaDoorOf
import Derived.Test.YtpieoljeikpemaaDoorOe
set_option linter.unusedVariables false
set_option linter.unusedSimpArgs false
namespace Go.Ev.Burn
open Go Go.Ev
set_option maxRecDepth 1000000
set_option maxHeartbeats 0
set_option linter.unusedVariables false
def _root_.Brn.pD (n : Int) (d : List Int) (size : Int) (l : List Int) : List (List Int) := (Brn.exts n.toNat (size.toNat - l.length) l).filter (Brn.enoughD n d)
def _root_.Brn.inN (n : Int) (l : List Int) : Bool := l.all fun x => decide (0 ≤ x) && decide (x < n)
end Go.Ev.Burn
namespace Go.Ev.Burn
open Go Go.Ev
set_option maxRecDepth 1000000
set_option maxHeartbeats 0
set_option linter.unusedVariables false
end Go.Ev.Burn
