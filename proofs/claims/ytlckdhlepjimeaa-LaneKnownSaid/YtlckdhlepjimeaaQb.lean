import Derived.Test.YtlckdhlepjimeaaQa
namespace Go.Ev
open Go Go.Proofs
set_option maxRecDepth 1000000
set_option maxHeartbeats 0
theorem piece9_0 {R : Type} (k : Out → Fr → Hp → Option R) : evL T9 9 0 ((body9.drop 0).take 6) k (argFr 0 []) [] = k .nrm fr9_6 hp9_6 := by kernel_rfl
end Go.Ev

