import Derived.Test.YtlckdhlepjimeaaQa
namespace Go.Ev
open Go Go.Proofs
set_option maxRecDepth 1000000
set_option maxHeartbeats 0
theorem piece9_12 {R : Type} (k : Out → Fr → Hp → Option R) : evL T9 9 0 ((body9.drop 12).take 2) k fr9_12 hp9_12 = k .nrm fr9_14 hp9_14 := by kernel_rfl
end Go.Ev

