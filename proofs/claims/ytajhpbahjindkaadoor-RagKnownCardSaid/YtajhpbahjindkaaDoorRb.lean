/- The letters of each set: 32 closed runs. -/
import Derived.Test.YtajhpbahjindkaaDoorRa
set_option linter.unusedVariables false
set_option linter.unusedSimpArgs false
namespace Go.Ev.Rag
open Go Go.Ev Go.Proofs
set_option maxRecDepth 1000000
set_option maxHeartbeats 0
theorem T0_ok : TabOK T0 := ⟨fun f a H v H' hv => (by cases hv), fun f l b k H o k' H' hv => (by cases hv), fun f fn h => fnsOf_spec h, by kernel_rfl⟩
noncomputable def TC : Tab := carried T0 40 5
theorem TC_ok : TabOK TC := (carried_ok T0_ok.fns T0_ok.mixed 40 5).1
end Go.Ev.Rag
