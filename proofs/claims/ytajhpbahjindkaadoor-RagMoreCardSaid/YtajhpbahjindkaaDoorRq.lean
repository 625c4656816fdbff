/- Sets told apart with the same rest: bits and letters answer alike. -/
import Derived.Test.YtajhpbahjindkaaDoorRm
import Derived.Test.YtajhpbahjindkaaDoorRp
import Derived.Test.YtajhpbahjindkaaDoorRo
set_option linter.unusedVariables false
set_option linter.unusedSimpArgs false
namespace Rgg
open Go
theorem ord_nd : ∀ k, k < 6 → (ordS k).Nodup := by decide +kernel
theorem ord_bnd : ∀ k, k < 6 → ∀ n ∈ ordS k, n < 2 ^ k := by decide +kernel
theorem ord_all : ∀ k, k < 6 → 1 ≤ k → ∀ n, n < 2 ^ k → n ∈ ordS k := by decide +kernel
theorem at_otF {l : List Bool} {q n : Nat} (hn : n < 32) : at_ (otF l q) n = (decide (n < q) && !at_ l n) := by
  unfold at_ otF
  rw [List.getD_eq_getElem?_getD, List.getElem?_map, List.getElem?_range hn]
  rfl
end Rgg
