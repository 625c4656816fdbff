/- The search of the burn chapter: what is asked. -/
import Derived.Test.YtpieoljeikpemaaDoorSf
import Derived.Test.YtpieoljeikpemaaDoorSp
set_option linter.unusedVariables false
set_option linter.unusedSimpArgs false
namespace Go.Ev.Burn
open Go Go.Ev
set_option maxRecDepth 1000000
set_option linter.unusedVariables false
noncomputable def S19 : Tab := S16
noncomputable def R0x : Tab := S19
noncomputable def S20 : Tab := R0x
noncomputable def S21 : Tab := S20
noncomputable def S22 : Tab := S21
end Go.Ev.Burn
namespace Go.Ev.Burn
open Go Go.Ev
set_option maxRecDepth 1000000
set_option linter.unusedVariables false
set_option linter.unusedSimpArgs false
theorem S19_ok : TabOK S19 := S16_ok
end Go.Ev.Burn
namespace Go.Ev.Burn
open Go Go.Ev
set_option maxRecDepth 1000000
set_option linter.unusedVariables false
set_option linter.unusedSimpArgs false
theorem R0x_ok : TabOK R0x := S19_ok
theorem S20_ok : TabOK S20 := by
  have h := R0x_ok
  exact h
theorem place_nil (n : Int) (ws : Ws) : Brn.openErr n ws [] = Brn.chk n ws := by
  rw [Brn.openErr_eq]
  unfold Brn.placeErr
  cases h : Brn.chk n ws == 0 with
  | true => simp at h; simp [h]
  | false => rfl
theorem S21_ok : TabOK S21 := by
  have h := S20_ok
  exact h
theorem S22_ok : TabOK S22 := by
  have h := S21_ok
  exact h
end Go.Ev.Burn
