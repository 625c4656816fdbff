/- Sets that are told apart: the reference's side, walked. -/
import Derived.Test.YtajhpbahjindkaaDoorRl
import Derived.Test.YtajhpbahjindkaaDoorRg
import Derived.Test.YtajhpbahjindkaaDoorRk
import Derived.Test.YtajhpbahjindkaaDoorRh
set_option linter.unusedVariables false
set_option linter.unusedSimpArgs false
namespace Rgg
open Go
theorem sets_szs {K : Int} (h1 : 1 ≤ K) (h5 : K ≤ 5) : ∀ x ∈ setsL K, x.size ≤ 5 := by
  intro x hx
  unfold setsL at hx
  obtain ⟨n, hn, rfl⟩ := List.mem_map.1 hx
  refine word_sz n ?_
  have : K = 1 ∨ K = 2 ∨ K = 3 ∨ K = 4 ∨ K = 5 := by omega
  rcases this with rfl | rfl | rfl | rfl | rfl <;> revert n <;> decide
theorem szs_of {l : List ByteArray} (h : ∀ x ∈ l, x.size ≤ 5) : szs l = true := List.all_eq_true.2 fun y hy => decide_eq_true (by have := h y hy; omega)
end Rgg
namespace Go.Ev.Rag
open Go Go.Ev Go.Proofs
set_option maxRecDepth 1000000
set_option linter.unusedVariables false
set_option linter.unusedSimpArgs false
theorem c69_run : ∀ args H v H', (c69 args H).val = some (v, H') → CallOK Q7 69 args H v H' := c69_ok Q7_ok (by
  intro K s r hv
  obtain ⟨hl, hv2⟩ := guard_val hv
  simp only [Bool.and_eq_true, decide_eq_true_eq] at hl
  obtain ⟨⟨k1, k5⟩, hs⟩ := hl
  have hK := Rgg.setsL_len k1 k5
  refine (nf69 ..).trans ?_
  rw [decide_eq_true k1, decide_eq_true k5, decide_eq_true hs, Rgg.szs_of (Rgg.sets_szs k1 k5), show sm (Rgg.setsL K) = true from decide_eq_true (by omega), leaf_val hv2]; rfl)
theorem U1_ok : TabOK U1 := by
  have h := Q7_ok
  have h := h.addCall (g := 69) (r := c69) fun a H v H' hv => by refine CallOK.tab ?_ ?_ (c69_run a H v H' hv) <;> rfl
  exact h
end Go.Ev.Rag
namespace Rgg
open Go
theorem sub_zero : ∀ n, n < 32 → sub n 0 = true → n = 0 := by decide
end Rgg
