/- The search of the burn chapter: its loop is what BSpec4 says. -/
import Derived.Test.YtpieoljeikpemaaDoorSe
import Derived.Test.YtpieoljeikpemaaDoorLa
set_option linter.unusedVariables false
set_option linter.unusedSimpArgs false
namespace Go.Ev.Burn
open Go Go.Ev
set_option maxRecDepth 1000000
set_option linter.unusedVariables false
set_option linter.unusedSimpArgs false
theorem c52_run : ∀ args H v H', (c52 args H).val = some (v, H') → CallOK S15 52 args H v H' := c52_ok S15_ok (by
  intro s r hv
  obtain ⟨hl, hv⟩ := guard_val hv
  simp only [Bool.and_eq_true, decide_eq_true_eq] at hl
  have hsl := sm_le hl.1
  rw [leaf_val hv, nf52]
  have hr : room (0 + s.length) 8 = true := room_ok (by omega) (by omega)
  simp only [decide_eq_true hl.2, cond_true, hr, Nat.zero_add]
  rw [Nat.zero_add] at hr
  simp only [hr, cond_true])
end Go.Ev.Burn
