/- Arguments of the laws by numbers: five bytes. -/
import Derived.Test.YtajhpbahjindkaaDoorNe
set_option linter.unusedVariables false
set_option linter.unusedSimpArgs false
namespace Go.Ev.Rag
open Go Go.Ev Go.Proofs Go.RowKit Go.ChangeShapes Go.WideShapes
set_option maxRecDepth 1000000
set_option linter.unusedVariables false
theorem und53 : Tryd.prog.underlying 53 = some (.array 5 5) := by kernel_rfl
theorem arr53 : arrI Tryd.prog .u8 4 53 = true := by kernel_rfl
theorem cells53 : Tryd.prog.cellsOf 53 = 5 := by kernel_rfl
section read
variable {H : Type} {enc : TypeId × Value → H} {W : World} {base : Nat}
theorem agg_cells {v : Value} {t : TypeId} {n : Nat} {e : TypeId} (ht : Tryd.prog.underlying t = some (.array n e)) (hv : Value.okWide Tryd.prog W .any base t v) : ∃ cs, v = .agg cs ∧ cs.size = Tryd.prog.cellsOf t := by
  unfold Value.okWide at hv
  rw [ht] at hv
  obtain ⟨cs, h1, h2, _⟩ := hv
  exact ⟨cs, h1, h2⟩
theorem read_arr5 {v : Value} {d : DataW H} {p : List MemPlace} (hv : Value.okWide Tryd.prog W .any base 53 v) (h : DataW.Trod enc Tryd.prog W 0 (fun _ => true) true 53 v d p) :
    ∃ l : List Int, (∀ L, Rel Tryd.prog (allOld W) W (.agg [.run (.int .u8) l] false) L v) ∧ l.length = 5 ∧ ∀ x ∈ l, 0 ≤ x ∧ x < 256 := by
  obtain ⟨fuel, h⟩ := h
  obtain ⟨cs, rfl, hs⟩ := agg_cells und53 hv
  obtain ⟨cs⟩ := cs
  obtain ⟨l, hl, hn, hw⟩ := trod_ints 4 arr53 h
  rw [cells53] at hn
  have hl : cs = l.map (Value.int .u8) := hl
  refine ⟨l, fun L => ⟨⟨cs⟩, rfl, ?_, ?_⟩, hn, fun x hx => wf_u8 (hw x hx)⟩
  · show cs.length = _
    rw [hl, List.length_map]; simp [contSize, segSize, ET.size]
  · exact ⟨fun e l' he => by cases he; exact cells_run (n := 5) (by rw [List.drop_zero, hl, List.take_of_length_le (by rw [List.length_map]; omega)]), (fun h => by cases h), trivial⟩
end read
end Go.Ev.Rag
