/- LaneWays: the body, walked. -/
import Derived.Test.YtlckdhlepjimeaaSe
import Derived.Test.YtlckdhlepjimeaaSf
import Derived.Test.YtlckdhlepjimeaaPj
set_option linter.unusedVariables false
set_option linter.unusedSimpArgs false
namespace Lan
open Go
theorem big_no {sh ya ti : List Int} (h : big sh ya ti = false) : Ev.sm sh = true ∧ Ev.sm ya = true ∧ Ev.sm ti = true := by
  unfold big at h
  simp only [Bool.or_eq_false_iff, decide_eq_false_iff_not] at h
  exact ⟨decide_eq_true (by omega), decide_eq_true (by omega), decide_eq_true (by omega)⟩
end Lan
namespace Go.Ev.Lane
open Go Go.Ev
set_option maxRecDepth 1000000
set_option linter.unusedVariables false
set_option linter.unusedSimpArgs false
theorem cTrue_run : ∀ args H v H', (cTrue args H).val = some (v, H') → CallOK U2 15 args H v H' := by
  intro args H v H' hv
  unfold cTrue at hv
  split at hv
  · cases leaf_val hv
    refine CallOK.tab ?_ ?_ works_ok <;> rfl
  · cases hv
end Go.Ev.Lane
