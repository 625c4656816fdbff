import Derived.Test.YtlckdhlepjimeaaQa
namespace Go.Ev
open Go Go.Proofs
set_option maxRecDepth 1000000
set_option maxHeartbeats 0
theorem piece9_11 {R : Type} (k : Out → Fr → Hp → Option R) : evL T9 9 0 ((body9.drop 11).take 1) k fr9_11 hp9_11 = k .nrm fr9_12 hp9_12 := by kernel_rfl
end Go.Ev

