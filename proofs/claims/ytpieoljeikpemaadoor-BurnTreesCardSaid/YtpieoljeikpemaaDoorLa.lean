/- Laws of the burn chapter: what they share. -/
import Derived.Test.YtpieoljeikpemaaDoorSd
import Derived.Test.YtpieoljeikpemaaDoorWj
import Derived.Test.YtpieoljeikpemaaDoorDr
import Derived.Test.YtpieoljeikpemaaDoorEvE
set_option linter.unusedVariables false
set_option linter.unusedSimpArgs false
namespace Go.Ev.Burn
open Go Go.Ev Go.Proofs Go.RowKit Go.ChangeShapes Go.WideShapes
set_option maxRecDepth 1000000
set_option linter.unusedVariables false
theorem works_ok : CallOK BurnC.TC 16 [] [] (vb true) [] :=
  evBody_sound (carried_ok (T := BurnC.T0) (fun _ _ h => fnsOf_spec h) (by kernel_rfl) 200 80).1 BurnC.ran16
theorem c16_run : ∀ args H v H', (c16 args H).val = some (v, H') → CallOK S14 16 args H v H' := by
  intro args H v H' hv
  unfold c16 at hv
  split at hv
  · cases leaf_val hv
    refine CallOK.tab ?_ ?_ works_ok <;> rfl
  · cases hv
theorem S15_ok : TabOK S15 := by
  have h := S14_ok
  have h := h.addCall (g := 16) (r := c16) fun a H v H' hv => by refine CallOK.tab ?_ ?_ (c16_run a H v H' hv) <;> rfl
  exact h
section read
variable {H : Type} {enc : TypeId × Value → H} {W : World} {base : Nat}
end read
end Go.Ev.Burn
