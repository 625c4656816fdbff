import Derived.Test.YtpieoljeikpemaaDoorWa0
import Derived.Test.YtpieoljeikpemaaDoorWa1
import Derived.Test.YtpieoljeikpemaaDoorWa2
import Derived.Test.YtpieoljeikpemaaDoorWa3
import Derived.Test.YtpieoljeikpemaaDoorWa4
import Derived.Test.YtpieoljeikpemaaDoorWa5
import Derived.Test.YtpieoljeikpemaaDoorWa6
import Derived.Test.YtpieoljeikpemaaDoorWa7
import Derived.Test.YtpieoljeikpemaaDoorWa8
import Derived.Test.YtpieoljeikpemaaDoorWa9
import Derived.Test.YtpieoljeikpemaaDoorWa10
import Derived.Test.YtpieoljeikpemaaDoorWa11
import Derived.Test.YtpieoljeikpemaaDoorWa12
import Derived.Test.YtpieoljeikpemaaDoorWa13
namespace Go.Ev.BurnC
open Go Go.Ev Go.Proofs
set_option maxRecDepth 1000000
set_option maxHeartbeats 0
set_option linter.unusedVariables false
theorem reg16_14 : (body16.drop 14).take 1 = [Code.region rid16_14 arr16_14 false] := by kernel_rfl
theorem piece16_14 {R : Type} (k : Out → Fr → Hp → Option R) : evL TC 16 0 ((body16.drop 14).take 1) k fr16_14 hp16_14 = k .nrm fr16_15 hp16_15 := by
  rw [reg16_14]
  simp only [evL, evC, thenL]
  exact (evOps_step TC (i := 0) (n := 66) piece16_14_0 (evOps_step TC (i := 66) (n := 6) piece16_14_66 (evOps_step TC (i := 72) (n := 6) piece16_14_72 (evOps_step TC (i := 78) (n := 6) piece16_14_78 (piece16_14_84 k)))))
theorem ran16 : evBody TC 16 [] [] = some (vb true, []) :=
  evBody_of TC fn16_eq cd16_eq (by kernel_rfl) (evL_step TC (i := 0) (n := 2) piece16_0 (evL_step TC (i := 2) (n := 1) piece16_2 (evL_step TC (i := 3) (n := 1) piece16_3 (evL_step TC (i := 4) (n := 1) piece16_4 (evL_step TC (i := 5) (n := 1) piece16_5 (evL_step TC (i := 6) (n := 1) piece16_6 (evL_step TC (i := 7) (n := 1) piece16_7 (evL_step TC (i := 8) (n := 6) piece16_8 (evL_step TC (i := 14) (n := 1) piece16_14 (piece16_15))))))))))
end Go.Ev.BurnC
