/- Sets told apart with the same rest: the mathematics. -/
import Derived.Test.YtajhpbahjindkaaDoorNi
import Derived.Test.YtajhpbahjindkaaDoorRq
import Derived.Test.YtajhpbahjindkaaDoorNg
import Derived.Test.YtajhpbahjindkaaDoorRo
set_option linter.unusedVariables false
set_option linter.unusedSimpArgs false
namespace Rgg
open Go
theorem len_ord {K : Int} (h1 : 1 ≤ K) (h5 : K ≤ 5) (p : Nat → Bool) : (wrt K p).length = ((List.range (2 ^ K.toNat)).filter p).length := by
  rw [srt_upTo h1 h5, List.length_map]
  exact (((ord_perm K.toNat (by omega) (by omega)).filter p).length_eq).symm
end Rgg
