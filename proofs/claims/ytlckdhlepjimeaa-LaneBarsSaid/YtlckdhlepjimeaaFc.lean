/- Rests exchanged, and families apart: tables and normal forms. -/
import Derived.Test.YtlckdhlepjimeaaFb
import Derived.Test.YtlckdhlepjimeaaSe
import Derived.Test.YtlckdhlepjimeaaSf
set_option linter.unusedVariables false
set_option linter.unusedSimpArgs false
namespace Go.Ev.Lane
open Go Go.Ev
set_option maxRecDepth 1000000
set_option maxHeartbeats 0
set_option linter.unusedVariables false
end Go.Ev.Lane
namespace Lan
open Go
theorem and_ne (s c : Nat) : (s &&& c != 0) = true ↔ ∃ i, s.testBit i = true ∧ c.testBit i = true := by
  constructor
  · intro h
    obtain ⟨i, hi⟩ := Nat.exists_testBit_of_ne_zero (bne_iff_ne.1 h)
    rw [Nat.testBit_and, Bool.and_eq_true] at hi
    exact ⟨i, hi⟩
  · rintro ⟨i, h1, h2⟩
    rw [bne_iff_ne]
    intro h
    have : (s &&& c).testBit i = true := by rw [Nat.testBit_and, h1, h2]; rfl
    rw [h, Nat.zero_testBit] at this
    cases this
theorem in16_mem {l : List Int} (h : in16 l = true) {y : Int} (hy : y ∈ l) : 0 ≤ y ∧ y < 16 := by
  unfold in16 at h
  rw [List.all_eq_true] at h
  have := h y hy
  simpa only [Bool.and_eq_true, decide_eq_true_eq] using this
theorem has_mem {l : List Int} {y : Int} : has l y = true ↔ y ∈ l := by
  unfold has
  rw [List.any_eq_true]
  constructor
  · rintro ⟨x, hx, h⟩; rw [← beq_iff_eq.1 h]; exact hx
  · intro h; exact ⟨y, h, by simp⟩
end Lan
namespace Go.Ev.Lane
open Go Go.Ev
set_option maxRecDepth 1000000
set_option linter.unusedVariables false
set_option linter.unusedSimpArgs false
end Go.Ev.Lane
namespace Go.Ev.Lane
open Go Go.Ev
set_option maxRecDepth 1000000
set_option linter.unusedVariables false
set_option linter.unusedSimpArgs false
end Go.Ev.Lane
