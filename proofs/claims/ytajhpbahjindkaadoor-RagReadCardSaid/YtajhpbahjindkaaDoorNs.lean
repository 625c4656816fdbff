/- Arguments of the laws by numbers: four bytes. -/
import Derived.Test.YtajhpbahjindkaaDoorNo
set_option linter.unusedVariables false
set_option linter.unusedSimpArgs false
namespace Go.Ev.Rag
open Go Go.Ev Go.Proofs Go.RowKit Go.ChangeShapes Go.WideShapes
set_option maxRecDepth 1000000
set_option linter.unusedVariables false
theorem und64 : Tryd.prog.underlying 64 = some (.array 4 5) := by kernel_rfl
theorem arr64 : arrI Tryd.prog .u8 4 64 = true := by kernel_rfl
theorem cells64 : Tryd.prog.cellsOf 64 = 4 := by kernel_rfl
section read
variable {H : Type} {enc : TypeId × Value → H} {W : World} {base : Nat}
theorem read_arr4 {v : Value} {d : DataW H} {p : List MemPlace} (hv : Value.okWide Tryd.prog W .any base 64 v) (h : DataW.Trod enc Tryd.prog W 0 (fun _ => true) true 64 v d p) :
    ∃ l : List Int, (∀ L, Rel Tryd.prog (allOld W) W (.agg [.run (.int .u8) l] false) L v) ∧ l.length = 4 ∧ ∀ x ∈ l, 0 ≤ x ∧ x < 256 := by
  obtain ⟨fuel, h⟩ := h
  obtain ⟨cs, rfl, hs⟩ := agg_cells und64 hv
  obtain ⟨cs⟩ := cs
  obtain ⟨l, hl, hn, hw⟩ := trod_ints 4 arr64 h
  rw [cells64] at hn
  have hl : cs = l.map (Value.int .u8) := hl
  refine ⟨l, fun L => ⟨⟨cs⟩, rfl, ?_, ?_⟩, hn, fun x hx => wf_u8 (hw x hx)⟩
  · show cs.length = _
    rw [hl, List.length_map]; simp [contSize, segSize, ET.size]
  · exact ⟨fun e l' he => by cases he; exact cells_run (n := 4) (by rw [List.drop_zero, hl, List.take_of_length_le (by rw [List.length_map]; omega)]), (fun h => by cases h), trivial⟩
end read
end Go.Ev.Rag
