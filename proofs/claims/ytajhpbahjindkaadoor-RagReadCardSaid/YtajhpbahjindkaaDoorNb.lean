/- Bags by numbers: loops over bits, in plain terms. -/
import Derived.Test.YtajhpbahjindkaaDoorNa
import Derived.Test.YtajhpbahjindkaaDoorRt
set_option linter.unusedVariables false
set_option linter.unusedSimpArgs false
namespace Rgg
open Go Go.Proofs
end Rgg
