import Derived.Test.YtlckdhlepjimeaaPa
set_option linter.unusedVariables false
set_option linter.unusedSimpArgs false
namespace Go.Ev
open Go Go.Proofs
set_option maxRecDepth 1000000
set_option maxHeartbeats 0
noncomputable def fn15 : Func := match fnsOf Try.prog 15 with | some fn => fn | none => default
noncomputable def c15 : Code := match fn15.body with | some c => c | none => .skip
theorem fn15_eq : TC.fn 15 = some fn15 := by kernel_rfl
theorem c15_eq : fn15.body = some c15 := by kernel_rfl
theorem body15_eq : parts c15 = body15 := by kernel_rfl
theorem piece12 : evL TC 15 0 (body15.drop 12) (endK TC fn15 0) fr12 hp12 = some (vb true, []) := by kernel_rfl
end Go.Ev
