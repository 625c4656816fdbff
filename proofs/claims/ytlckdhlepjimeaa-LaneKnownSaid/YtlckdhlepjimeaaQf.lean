import Derived.Test.YtlckdhlepjimeaaQa
namespace Go.Ev
open Go Go.Proofs
set_option maxRecDepth 1000000
set_option maxHeartbeats 0
theorem piece9_14 {R : Type} (k : Out → Fr → Hp → Option R) : evL T9 9 0 ((body9.drop 14).take 2) k fr9_14 hp9_14 = k .nrm fr9_16 hp9_16 := by kernel_rfl
end Go.Ev

