/- What the rag seat's cards say of arguments, as the evaluator's values. -/
import Derived.Test.YtajhpbahjindkaaDoorDr
import Derived.Test.YtajhpbahjindkaaDoorEvE
import Derived.Test.YtajhpbahjindkaaDoorEvF
import Derived.Test.YtajhpbahjindkaaDoorRe
import Derived.ChangeMaps5
set_option linter.unusedVariables false
set_option linter.unusedSimpArgs false
namespace Go.Ev.Rag
open Go Go.Ev Go.Proofs Go.ChangeMaps Go.ChangeShapes Go.WideShapes Go.ChangeAt Go.RowKit
set_option linter.unusedVariables false
set_option maxRecDepth 1000000
theorem und3 : Tryd.prog.underlying 3 = some (.int .i64) := by kernel_rfl
theorem und9 : Tryd.prog.underlying 9 = some .string := by kernel_rfl
theorem und22 : Tryd.prog.underlying 22 = some (.slice 9) := by kernel_rfl
theorem cells9 : Tryd.prog.cellsOf 9 = 1 := by kernel_rfl
section read
variable {H : Type} {enc : TypeId × Value → H} {W : World} {base : Nat}
theorem read_num {v : Value} {d : DataW H} {p : List MemPlace} (hv : Value.okWide Tryd.prog W .any base 3 v) (h : DataW.Trod enc Tryd.prog W 0 (fun _ => true) true 3 v d p) :
    ∃ n, v = .int .i64 n := by
  obtain ⟨n, rfl, _⟩ := open_int und3 hv h
  exact ⟨n, rfl⟩
theorem read_strs {v : Value} {d : DataW H} {p : List MemPlace} (hv : Value.okWide Tryd.prog W .any base 22 v) (h : DataW.Trod enc Tryd.prog W 0 (fun _ => true) true 22 v d p) :
    ∃ l, (∀ L, Rel Tryd.prog (allOld W) W (lS l) L v) := by
  obtain ⟨fuel, h⟩ := h
  obtain ⟨a, len, cap, rfl⟩ := okWide_slice und22 hv
  obtain ⟨u, l, hu, hr⟩ := read_slice (q := .str) und22 cells9 rfl (fun fuel cs x hx => by
    obtain ⟨s, h1, _⟩ := DataW.trod_string und9 hx
    exact ⟨_, s, h1, fun F o hF => hF⟩) h
  simp [Value.cells] at hu
  subst hu
  exact ⟨l, hr⟩
end read
end Go.Ev.Rag
