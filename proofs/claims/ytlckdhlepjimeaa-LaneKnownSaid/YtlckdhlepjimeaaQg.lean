import Derived.Test.YtlckdhlepjimeaaQa
namespace Go.Ev
open Go Go.Proofs
set_option maxRecDepth 1000000
set_option maxHeartbeats 0
theorem piece9_16 {R : Type} (k : Out → Fr → Hp → Option R) : evL T9 9 0 ((body9.drop 16).take 3) k fr9_16 hp9_16 = k .nrm fr9_19 hp9_19 := by kernel_rfl
end Go.Ev

