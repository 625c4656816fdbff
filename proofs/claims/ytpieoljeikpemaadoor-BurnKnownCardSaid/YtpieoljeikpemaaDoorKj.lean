import Derived.Test.YtpieoljeikpemaaDoorKa0
import Derived.Test.YtpieoljeikpemaaDoorKa1
import Derived.Test.YtpieoljeikpemaaDoorKa2
import Derived.Test.YtpieoljeikpemaaDoorKa3
import Derived.Test.YtpieoljeikpemaaDoorKa4
import Derived.Test.YtpieoljeikpemaaDoorKa5
import Derived.Test.YtpieoljeikpemaaDoorKa6
import Derived.Test.YtpieoljeikpemaaDoorKa7
import Derived.Test.YtpieoljeikpemaaDoorKa8
import Derived.Test.YtpieoljeikpemaaDoorKa9
import Derived.Test.YtpieoljeikpemaaDoorKa10
import Derived.Test.YtpieoljeikpemaaDoorKa11
import Derived.Test.YtpieoljeikpemaaDoorKa12
import Derived.Test.YtpieoljeikpemaaDoorKa13
import Derived.Test.YtpieoljeikpemaaDoorKa14
import Derived.Test.YtpieoljeikpemaaDoorKa15
namespace Go.Ev.BurnC
open Go Go.Ev Go.Proofs
set_option maxRecDepth 1000000
set_option maxHeartbeats 0
set_option linter.unusedVariables false
theorem reg6_18 : (body6.drop 18).take 1 = [Code.region rid6_18 arr6_18 false] := by kernel_rfl
theorem piece6_18 {R : Type} (k : Out → Fr → Hp → Option R) : evL T6 6 0 ((body6.drop 18).take 1) k fr6_18 hp6_18 = k .nrm fr6_19 hp6_19 := by
  rw [reg6_18]
  simp only [evL, evC, thenL]
  exact (evOps_step T6 (i := 0) (n := 72) piece6_18_0 (evOps_step T6 (i := 72) (n := 6) piece6_18_72 (evOps_step T6 (i := 78) (n := 6) piece6_18_78 (evOps_step T6 (i := 84) (n := 6) piece6_18_84 (evOps_step T6 (i := 90) (n := 9) piece6_18_90 (piece6_18_99 k))))))
theorem ran6 : evBody T6 6 [] [] = some (vb true, []) :=
  evBody_of T6 fn6_eq cd6_eq (by kernel_rfl) (evL_step T6 (i := 0) (n := 3) piece6_0 (evL_step T6 (i := 3) (n := 2) piece6_3 (evL_step T6 (i := 5) (n := 1) piece6_5 (evL_step T6 (i := 6) (n := 2) piece6_6 (evL_step T6 (i := 8) (n := 2) piece6_8 (evL_step T6 (i := 10) (n := 1) piece6_10 (evL_step T6 (i := 11) (n := 1) piece6_11 (evL_step T6 (i := 12) (n := 1) piece6_12 (evL_step T6 (i := 13) (n := 5) piece6_13 (evL_step T6 (i := 18) (n := 1) piece6_18 (piece6_19)))))))))))
end Go.Ev.BurnC

