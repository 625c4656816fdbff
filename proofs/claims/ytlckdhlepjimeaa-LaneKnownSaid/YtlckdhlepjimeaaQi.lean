import Derived.Test.YtlckdhlepjimeaaQb
import Derived.Test.YtlckdhlepjimeaaQc
import Derived.Test.YtlckdhlepjimeaaQd
import Derived.Test.YtlckdhlepjimeaaQe
import Derived.Test.YtlckdhlepjimeaaQf
import Derived.Test.YtlckdhlepjimeaaQg
import Derived.Test.YtlckdhlepjimeaaQh
import Derived.Test.YtlckdhlepjimeaaEvE
namespace Go.Ev
open Go Go.Proofs
theorem ran9 : evBody T9 9 [] [] = some (vb true, []) :=
  evBody_of T9 fn9_eq cd9_eq (by kernel_rfl) (evL_step T9 (i := 0) (n := 6) piece9_0 (evL_step T9 (i := 6) (n := 5) piece9_6 (evL_step T9 (i := 11) (n := 1) piece9_11 (evL_step T9 (i := 12) (n := 2) piece9_12 (evL_step T9 (i := 14) (n := 2) piece9_14 (evL_step T9 (i := 16) (n := 3) piece9_16 (piece9_19)))))))
end Go.Ev

namespace Go.Ev
open Go Go.Proofs
theorem T9_ok : TabOK T9 := TC_ok.addCall (by
  intro args H v H' hv
  split at hv
  · simp only [Tree.val, Option.some.injEq, Prod.mk.injEq] at hv
    obtain ⟨rfl, rfl⟩ := hv
    exact works_ok
  · cases hv)
theorem known_ok : CallOK T9 9 [] [] (vb true) [] := evBody_sound T9_ok ran9
theorem known_calls (w : World) : Calls Try.prog 9 #[] w fun e w' => e = .returned (.bool true) ∧ RowKit.Grown w w' :=
  law_calls known_ok (fun g c ty h => by cases h) (us := []) (by simp [RelL])
end Go.Ev

