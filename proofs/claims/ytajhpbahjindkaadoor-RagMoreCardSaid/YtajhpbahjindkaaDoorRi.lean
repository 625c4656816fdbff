/- RagBags: the law's body answers true. -/
import Derived.Test.YtajhpbahjindkaaDoorRh
import Derived.Test.YtajhpbahjindkaaDoorWj
set_option linter.unusedVariables false
set_option linter.unusedSimpArgs false
namespace Go.Ev.Rag
open Go Go.Ev Go.Proofs
set_option maxRecDepth 1000000
set_option linter.unusedVariables false
set_option linter.unusedSimpArgs false
theorem c16t_run : ∀ args H v H', (c16t args H).val = some (v, H') → CallOK TE 16 args H v H' := by
  intro args H v H' hv
  unfold c16t at hv
  split at hv
  · cases leaf_val hv
    exact evBody_sound TE_ok ran16
  · cases hv
end Go.Ev.Rag
