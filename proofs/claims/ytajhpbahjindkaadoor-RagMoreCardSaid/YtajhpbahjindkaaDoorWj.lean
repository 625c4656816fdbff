import Derived.Test.YtajhpbahjindkaaDoorWa0
import Derived.Test.YtajhpbahjindkaaDoorWa1
import Derived.Test.YtajhpbahjindkaaDoorWa2
import Derived.Test.YtajhpbahjindkaaDoorWa3
import Derived.Test.YtajhpbahjindkaaDoorWa4
import Derived.Test.YtajhpbahjindkaaDoorWa5
import Derived.Test.YtajhpbahjindkaaDoorWa6
set_option linter.unusedVariables false
set_option linter.unusedSimpArgs false
namespace Go.Ev.Rag
open Go Go.Ev Go.Proofs
set_option maxRecDepth 1000000
set_option maxHeartbeats 0
set_option linter.unusedVariables false
theorem ran16 : evBody TE 16 [] [] = some (vb true, []) :=
  evBody_of TE fn16_eq cd16_eq (by kernel_rfl) (evL_step TE (i := 0) (n := 4) piece16_0 (evL_step TE (i := 4) (n := 1) piece16_4 (evL_step TE (i := 5) (n := 3) piece16_5 (evL_step TE (i := 8) (n := 3) piece16_8 (evL_step TE (i := 11) (n := 2) piece16_11 (evL_step TE (i := 13) (n := 3) piece16_13 (evL_step TE (i := 16) (n := 1) piece16_16 (piece16_17))))))))
end Go.Ev.Rag
namespace Go.Ev.Rag
open Go Go.Ev Go.Proofs
set_option maxRecDepth 1000000
set_option maxHeartbeats 0
end Go.Ev.Rag
