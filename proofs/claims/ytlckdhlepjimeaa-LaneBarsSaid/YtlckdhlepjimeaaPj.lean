import Derived.Test.YtlckdhlepjimeaaP0
import Derived.Test.YtlckdhlepjimeaaP1
import Derived.Test.YtlckdhlepjimeaaP2
import Derived.Test.YtlckdhlepjimeaaP3
import Derived.Test.YtlckdhlepjimeaaP4
import Derived.Test.YtlckdhlepjimeaaPz
import Derived.Test.YtlckdhlepjimeaaEvE
set_option linter.unusedVariables false
set_option linter.unusedSimpArgs false
namespace Go.Ev
open Go Go.Proofs
theorem works15 : evBody TC 15 [] [] = some (vb true, []) :=
  evBody_of TC fn15_eq c15_eq (by kernel_rfl) (by
    rw [body15_eq]
    exact evL_step TC (i := 0) (n := 4) piece0 (evL_step TC (i := 4) (n := 1) piece4 (evL_step TC (i := 5) (n := 1) piece5 (evL_step TC (i := 6) (n := 5) piece6 (evL_step TC (i := 11) (n := 1) piece11 piece12)))))
end Go.Ev
namespace Go.Ev
open Go Go.Proofs
set_option maxRecDepth 1000000
set_option maxHeartbeats 0
theorem fns_ok : ∀ f fn, T0.fn f = some fn → T0.P.funcs[f]? = some fn ∧ fnOK fn = true := fun _ _ h => fnsOf_spec h
theorem mixed_ok : T0.P.follows .mixedOrders = true := by kernel_rfl
theorem TC_ok : TabOK TC := (carried_ok fns_ok mixed_ok 200 80).1
theorem works_ok : CallOK TC 15 [] [] (vb true) [] := evBody_sound TC_ok works15
end Go.Ev
