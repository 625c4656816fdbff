/- The reference's bags: walked. -/
import Derived.Test.YtajhpbahjindkaaDoorRe
import Derived.Test.YtajhpbahjindkaaDoorRf
set_option linter.unusedVariables false
set_option linter.unusedSimpArgs false
namespace Rgg
open Go
instance : LawfulBEq ByteArray where
  eq_of_beq {a b} h := by
    apply ByteArray.ext
    cases a; cases b
    exact eq_of_beq h
  rfl {a} := by
    cases a with
    | mk d => exact beq_self_eq_true d
theorem szs_get {l : List ByteArray} (h : szs l = true) {x : ByteArray} (hx : x ∈ l) : x.size ≤ 100000 := of_decide_eq_true (List.all_eq_true.1 h x hx)
end Rgg
namespace Go.Ev
open Go
end Go.Ev
namespace Go.Ev.Rag
open Go Go.Ev Go.Proofs
set_option maxRecDepth 1000000
set_option linter.unusedVariables false
set_option linter.unusedSimpArgs false
end Go.Ev.Rag
namespace Go.Ev.Rag
open Go Go.Ev Go.Proofs
set_option maxRecDepth 1000000
set_option linter.unusedVariables false
set_option linter.unusedSimpArgs false
end Go.Ev.Rag
namespace Rgg
open Go
end Rgg
namespace Go.Ev.Rag
open Go Go.Ev Go.Proofs
set_option maxRecDepth 1000000
set_option linter.unusedVariables false
set_option linter.unusedSimpArgs false
end Go.Ev.Rag
