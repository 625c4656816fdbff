import Derived.Test.YtlckdhlepjimeaaQa
namespace Go.Ev
open Go Go.Proofs
set_option maxRecDepth 1000000
set_option maxHeartbeats 0
theorem piece9_6 {R : Type} (k : Out → Fr → Hp → Option R) : evL T9 9 0 ((body9.drop 6).take 5) k fr9_6 hp9_6 = k .nrm fr9_11 hp9_11 := by kernel_rfl
end Go.Ev

