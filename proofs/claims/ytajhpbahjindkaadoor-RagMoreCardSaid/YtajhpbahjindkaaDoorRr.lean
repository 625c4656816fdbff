/- What the rag seat's cards say of arguments, as the evaluator's values. -/
import Derived.Test.YtajhpbahjindkaaDoorDr
import Derived.Test.YtajhpbahjindkaaDoorEvE
import Derived.Test.YtajhpbahjindkaaDoorEvF
import Derived.Test.YtajhpbahjindkaaDoorRe
import Derived.ChangeMaps5
set_option linter.unusedVariables false
set_option linter.unusedSimpArgs false
namespace Go.Ev.Rag
open Go Go.Ev Go.Proofs Go.ChangeMaps Go.ChangeShapes Go.WideShapes Go.ChangeAt Go.RowKit
set_option linter.unusedVariables false
set_option maxRecDepth 1000000
section read
variable {H : Type} {enc : TypeId × Value → H} {W : World} {base : Nat}
end read
end Go.Ev.Rag
