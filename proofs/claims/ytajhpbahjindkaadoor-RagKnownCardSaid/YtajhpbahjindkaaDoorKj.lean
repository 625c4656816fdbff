import Derived.Test.YtajhpbahjindkaaDoorKa0
import Derived.Test.YtajhpbahjindkaaDoorKa1
import Derived.Test.YtajhpbahjindkaaDoorKa2
import Derived.Test.YtajhpbahjindkaaDoorKa3
import Derived.Test.YtajhpbahjindkaaDoorKa4
import Derived.Test.YtajhpbahjindkaaDoorKa5
import Derived.Test.YtajhpbahjindkaaDoorKa6
import Derived.Test.YtajhpbahjindkaaDoorKa8
set_option linter.unusedVariables false
set_option linter.unusedSimpArgs false
namespace Go.Ev.Rag
open Go Go.Ev Go.Proofs
set_option maxRecDepth 1000000
set_option maxHeartbeats 0
set_option linter.unusedVariables false
theorem ran8 : evBody TF 8 [] [] = some (vb true, []) :=
  evBody_of TF fn8_eq cd8_eq (by kernel_rfl) (evL_step TF (i := 0) (n := 4) piece8_0 (evL_step TF (i := 4) (n := 2) piece8_4 (evL_step TF (i := 6) (n := 1) piece8_6 (evL_step TF (i := 7) (n := 1) piece8_7 (evL_step TF (i := 8) (n := 2) piece8_8 (evL_step TF (i := 10) (n := 3) piece8_10 (evL_step TF (i := 13) (n := 2) piece8_13 (evL_step TF (i := 15) (n := 3) piece8_15 (evL_step TF (i := 18) (n := 1) piece8_18 (piece8_19))))))))))
end Go.Ev.Rag
