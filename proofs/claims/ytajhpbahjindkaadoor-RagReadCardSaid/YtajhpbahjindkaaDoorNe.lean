/- Arguments of the laws by numbers. -/
import Derived.Test.YtajhpbahjindkaaDoorRr
import Derived.Test.YtajhpbahjindkaaDoorNc
import Derived.Test.YtajhpbahjindkaaDoorEvF
set_option linter.unusedVariables false
set_option linter.unusedSimpArgs false
namespace Go.Ev.Rag
open Go Go.Ev Go.Proofs Go.RowKit Go.ChangeShapes Go.WideShapes
set_option maxRecDepth 1000000
set_option linter.unusedVariables false
section read
variable {H : Type} {enc : TypeId × Value → H} {W : World} {base : Nat}
theorem read_u8 {v : Value} {d : DataW H} {p : List MemPlace} (hv : Value.okWide Tryd.prog W .any base 5 v) (h : DataW.Trod enc Tryd.prog W 0 (fun _ => true) true 5 v d p) :
    ∃ n, v = .int .u8 n ∧ 0 ≤ n ∧ n < 256 := by
  obtain ⟨n, rfl, _, _, hw⟩ := open_int und5 hv h
  exact ⟨n, rfl, wf_u8 hw⟩
end read
end Go.Ev.Rag
