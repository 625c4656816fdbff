/- Sets told apart with the same rest: bits and letters answer alike. -/
import Derived.Test.YtajhpbahjindkaaDoorRm
import Derived.Test.YtajhpbahjindkaaDoorRp
import Derived.Test.YtajhpbahjindkaaDoorRo
set_option linter.unusedVariables false
set_option linter.unusedSimpArgs false
namespace Rgg
open Go
end Rgg
