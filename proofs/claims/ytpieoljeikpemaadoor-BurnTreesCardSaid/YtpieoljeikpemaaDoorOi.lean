/- BurnTried: the body. -/
import Derived.Test.YtpieoljeikpemaaDoorOg
import Derived.Test.YtpieoljeikpemaaDoorOd
import Derived.Test.YtpieoljeikpemaaDoorSg
import Derived.Test.YtpieoljeikpemaaDoorOh
set_option linter.unusedVariables false
set_option linter.unusedSimpArgs false
namespace Go.Ev.Burn
open Go Go.Ev
set_option maxRecDepth 1000000
set_option maxHeartbeats 0
set_option linter.unusedVariables false
end Go.Ev.Burn
namespace Brn
open Go
set_option linter.unusedVariables false
theorem kD_dd {n : Int} {ws : W} (h : Ok n ws) : kD n (distN n ws) + 1 = dd n ws ∧ solD n (distN n ws) (kD n (distN n ws) + 1) = best n ws ∧ kD n (distN n ws) < 9 := by
  have e : kD n (distN n ws) = (List.range 9).findIdx fun (k : Nat) => !(sols n ws ((k + 1 : Nat) : Int)).isEmpty := by
    unfold kD
    congr 1
    funext k
    rw [solD_eq h (by omega)]
  have e2 : kD n (distN n ws) + 1 = dd n ws := by rw [e]; rfl
  obtain ⟨d1, d2, _⟩ := dd_spec h
  have hhi := h.hi
  refine ⟨e2, ?_, by omega⟩
  rw [e2, solD_eq h d1]
  rfl
end Brn
namespace Go.Ev.Burn
open Go Go.Ev
set_option maxRecDepth 1000000
set_option linter.unusedVariables false
set_option linter.unusedSimpArgs false
end Go.Ev.Burn
