/- RagApart: the law's body answers true. -/
import Derived.Test.YtajhpbahjindkaaDoorRm
import Derived.Test.YtajhpbahjindkaaDoorRl
import Derived.Test.YtajhpbahjindkaaDoorRi
set_option linter.unusedVariables false
set_option linter.unusedSimpArgs false
namespace Go.Ev.Rag
open Go Go.Ev Go.Proofs
set_option maxRecDepth 1000000
set_option linter.unusedVariables false
set_option linter.unusedSimpArgs false
theorem lng_szs {l : List ByteArray} (h : Rgg.lng l = false) : ∀ x ∈ l, x.size ≤ 30 := by
  intro x hx
  unfold Rgg.lng at h
  rw [List.any_eq_false] at h
  have := h x hx
  simp only [decide_eq_true_eq] at this
  omega
end Go.Ev.Rag
