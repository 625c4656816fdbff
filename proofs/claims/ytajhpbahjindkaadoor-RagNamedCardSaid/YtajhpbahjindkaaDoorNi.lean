/- The law RagPajor: tables and normal forms. -/
import Derived.Test.YtajhpbahjindkaaDoorNc
import Derived.Test.YtajhpbahjindkaaDoorRk
import Derived.Test.YtajhpbahjindkaaDoorRo
import Derived.Test.YtajhpbahjindkaaDoorRf
import Derived.Test.YtajhpbahjindkaaDoorRg
set_option linter.unusedVariables false
set_option linter.unusedSimpArgs false
namespace Rgg
open Go
def cu3 (n s r i : Nat) : Bool := (List.range i).all fun p => dif p s != 0 || n.testBit (p ||| r)
def cu2 (n q s i : Nat) : Bool := (List.range i).any fun r => r &&& s == 0 && cu3 n s r q
end Rgg
namespace Go.Ev.Rag
open Go Go.Ev
set_option maxRecDepth 1000000
set_option maxHeartbeats 0
set_option linter.unusedVariables false
end Go.Ev.Rag
namespace Rgg
open Go
end Rgg
namespace Go.Ev.Rag
open Go Go.Ev Go.Proofs
set_option maxRecDepth 1000000
set_option linter.unusedVariables false
set_option linter.unusedSimpArgs false
end Go.Ev.Rag
