/- BurnTried: the closure and the fewest, walked. -/
import Derived.Test.YtpieoljeikpemaaDoorOg
set_option linter.unusedVariables false
set_option linter.unusedSimpArgs false
namespace Brn
open Go
set_option linter.unusedVariables false
structure PG (n size many : Int) (d l : List Int) : Prop where
  n1 : 1 ≤ n
  n9 : n ≤ 9
  s1 : 1 ≤ size
  s9 : size ≤ 9
  le : (l.length : Int) ≤ size
  inn : inN n l = true
  len : d.length = 81
  m0 : 0 ≤ many
  mx : many + (pD n d size l).length ≤ 1000000000000
end Brn
namespace Go.Ev.Burn
open Go Go.Ev
set_option maxRecDepth 1000000
set_option linter.unusedVariables false
set_option linter.unusedSimpArgs false
end Go.Ev.Burn
namespace Brn
open Go
set_option linter.unusedVariables false
end Brn
namespace Go.Ev.Burn
open Go Go.Ev
set_option maxRecDepth 1000000
set_option linter.unusedVariables false
set_option linter.unusedSimpArgs false
end Go.Ev.Burn
