/- RagBags: the law's body answers true. -/
import Derived.Test.YtajhpbahjindkaaDoorRh
import Derived.Test.YtajhpbahjindkaaDoorWj
set_option linter.unusedVariables false
set_option linter.unusedSimpArgs false
namespace Go.Ev.Rag
open Go Go.Ev Go.Proofs
set_option maxRecDepth 1000000
set_option linter.unusedVariables false
set_option linter.unusedSimpArgs false
theorem c23_run : ∀ args H v H', (c23 args H).val = some (v, H') → CallOK Q8 23 args H v H' := c23_ok Q8_ok (by
  intro a b r hv
  obtain ⟨hl, hv2⟩ := guard_val hv
  refine (nf23 ..).trans ?_
  have h2 := hl
  simp only [Bool.and_eq_true] at h2
  obtain rfl := beq_iff_eq.1 h2.2
  rw [hl, leaf_val hv2, show ((a.length : Int) != (a.length : Int)) = false by rw [bne, beq_self_eq_true]; rfl]; rfl)
theorem c16t_run : ∀ args H v H', (c16t args H).val = some (v, H') → CallOK TE 16 args H v H' := by
  intro args H v H' hv
  unfold c16t at hv
  split at hv
  · cases leaf_val hv
    exact evBody_sound TE_ok ran16
  · cases hv
end Go.Ev.Rag
