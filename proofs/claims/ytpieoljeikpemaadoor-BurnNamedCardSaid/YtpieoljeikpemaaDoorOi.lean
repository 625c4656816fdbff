/- BurnTried: the body. -/
import Derived.Test.YtpieoljeikpemaaDoorOg
import Derived.Test.YtpieoljeikpemaaDoorOd
import Derived.Test.YtpieoljeikpemaaDoorSg
import Derived.Test.YtpieoljeikpemaaDoorOh
set_option linter.unusedVariables false
set_option linter.unusedSimpArgs false
namespace Go.Ev.Burn
open Go Go.Ev
set_option maxRecDepth 1000000
set_option maxHeartbeats 0
set_option linter.unusedVariables false
end Go.Ev.Burn
namespace Brn
open Go
set_option linter.unusedVariables false
theorem tried_val {n : Int} {ws : W} (h : Ok n ws) (hc : chk n ws = 0) : fewV n ws = headL (best n ws) ∧ dayV n ws = ((headL (best n ws)).length : Int) ∧ cntV n ws = ((best n ws).length : Int) ∧ (headL (best n ws)).length ≤ 9 := by
  have hl := head_len h
  obtain ⟨d1, d2, _⟩ := dd_spec h
  have hhi := h.hi
  refine ⟨by unfold fewV; rw [hc]; rfl, by unfold dayV; rw [hc, hl]; rfl, by unfold cntV; rw [hc]; rfl, by omega⟩
end Brn
namespace Go.Ev.Burn
open Go Go.Ev
set_option maxRecDepth 1000000
set_option linter.unusedVariables false
set_option linter.unusedSimpArgs false
end Go.Ev.Burn
