import Derived.Test.YtlckdhlepjimeaaQa
namespace Go.Ev
open Go Go.Proofs
set_option maxRecDepth 1000000
set_option maxHeartbeats 0
theorem piece9_19 : evL T9 9 0 (body9.drop 19) (endK T9 fn9 0) fr9_19 hp9_19 = some (vb true, []) := by kernel_rfl
end Go.Ev

