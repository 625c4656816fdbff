/- The tables of the rag seat's cards lie where the evaluator looks for them. -/
import Derived.Test.YtajhpbahjindkaaDoorRd
import Derived.Test.YtajhpbahjindkaaDoorCards
import Derived.Test.YtajhpbahjindkaaDoorTie
import Derived.WalkKit
import Derived.ProofKit
import Derived.OpenShut
import Derived.Deep.DeepHandedRow
import Derived.Lib.LaidTab
import Derived.Stop.LaidErr
set_option linter.unusedVariables false
set_option linter.unusedSimpArgs false
namespace Go.Ev.Rag
open Go Go.Ev Go.Proofs
set_option linter.unusedVariables false
theorem gTab0 : Tryd.prog.globalNamed "math/bits.deBruijn32tab" = some 0 := by kernel_rfl
theorem gTab1 : Tryd.prog.globalNamed "math/bits.deBruijn64tab" = some 5 := by kernel_rfl
theorem gType0 : (Tryd.prog.globals[0]?).map (·.type) = some 95 := by kernel_rfl
theorem gType1 : (Tryd.prog.globals[5]?).map (·.type) = some 150 := by kernel_rfl
theorem und95 : Tryd.prog.underlying 95 = some (.array 32 5) := by kernel_rfl
theorem und150 : Tryd.prog.underlying 150 = some (.array 64 5) := by kernel_rfl
theorem und5 : Tryd.prog.underlying 5 = some (.int .u8) := by kernel_rfl
theorem cells95 : Tryd.prog.cellsOf 95 = 32 := by kernel_rfl
theorem cells150 : Tryd.prog.cellsOf 150 = 64 := by kernel_rfl
theorem cells5 : Tryd.prog.cellsOf 5 = 1 := by kernel_rfl
def laidB : List (String × DataW Unit) := [("math/bits.deBruijn32tab", YtajhpbahjindkaaDoor.Rows.laid_math_bits_deBruijn32tab), ("math/bits.deBruijn64tab", YtajhpbahjindkaaDoor.Rows.laid_math_bits_deBruijn64tab)]
theorem tables {W : World} (h : laidMetH Tryd.prog laidB W) : Lib.TabIs Tryd.prog W "math/bits.deBruijn32tab" .u8 tab32 ∧ Lib.TabIs Tryd.prog W "math/bits.deBruijn64tab" .u8 tab64 := by
  have h' : laidMet Tryd.prog [("math/bits.deBruijn32tab", Lib.tabData .u8 tab32), ("math/bits.deBruijn64tab", Lib.tabData .u8 tab64)] W := h
  exact ⟨Lib.tabIs_of_head gTab0 gType0 und95 und5 cells5 cells95 h', Lib.tabIs_of_head gTab1 gType1 und150 und5 cells5 cells150 h'.tail⟩
theorem run_of_cells {S : Stab} {W : World} {g : Nat} {l : List Int} (h : ∀ i, i < l.length → W.cell? ⟨g, i, none⟩ = some (.int .u8 (l.getD i 0))) : RunR S W (.int .u8) l (cellsAt W g) 0 := by
  intro i x hx
  have hi : i < l.length := by
    rcases Nat.lt_or_ge i l.length with h | h
    · exact h
    · rw [List.getElem?_eq_none h] at hx; cases hx
  have := h i hi
  simp only [ElR, ElR0, cellsAt, ET.size, Nat.mul_one, Nat.zero_add]
  rw [this]
  simp [List.getD, hx]
theorem cell_lt {W : World} {b o : Nat} {v : Value} (h : W.cell? ⟨b, o, none⟩ = some v) : b < W.heap.size := by
  rcases Nat.lt_or_ge b W.heap.size with h' | h'
  · exact h'
  · simp [World.cell?, h'] at h
theorem glob_ok {W : World} (h : laidMetH Tryd.prog laidB W) {T : Tab} (hP : T.P = Tryd.prog) (hg : T.glob = globB) : GlobOK T (allOld W) W := by
  obtain ⟨h0, h1⟩ := tables h
  intro g c ty hc
  rw [hg] at hc
  rw [hP]
  unfold globB at hc
  split at hc
  · cases hc
    have hr : RunR (allOld W) W (.int .u8) tab32 (cellsAt W 0) 0 := run_of_cells fun i hi => h0.cell gTab0 i hi
    have hb := cell_lt (h0.cell gTab0 0 (by decide))
    refine ⟨0, 0, rfl, ⟨fun e l he => ?_, (fun hs => by cases hs), trivial⟩, fun i _ => hb, fun t ht => ?_⟩
    · cases he; exact hr
    · cases ht; kernel_rfl
  · cases hc
    have hr : RunR (allOld W) W (.int .u8) tab64 (cellsAt W 5) 0 := run_of_cells fun i hi => h1.cell gTab1 i hi
    have hb := cell_lt (h1.cell gTab1 0 (by decide))
    refine ⟨5, 0, rfl, ⟨fun e l he => ?_, (fun hs => by cases hs), trivial⟩, fun i _ => hb, fun t ht => ?_⟩
    · cases he; exact hr
    · cases ht; kernel_rfl
  · cases hc
end Go.Ev.Rag
