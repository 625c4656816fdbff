/- RagCubes: the law's body answers true. -/
import Derived.Test.YtajhpbahjindkaaDoorRq
import Derived.Test.YtajhpbahjindkaaDoorRp
import Derived.Test.YtajhpbahjindkaaDoorRn
set_option linter.unusedVariables false
set_option linter.unusedSimpArgs false
namespace Go.Ev.Rag
open Go Go.Ev Go.Proofs
set_option maxRecDepth 1000000
set_option linter.unusedVariables false
set_option linter.unusedSimpArgs false
theorem D1_ok : TabOK D1 := by
  have h := R3_ok
  have h := h.addCall (g := 26) (r := c26) fun a H v H' hv => by refine CallOK.tab ?_ ?_ (c26_run a H v H' hv) <;> rfl
  have h := h.addCall (g := 27) (r := c27) fun a H v H' hv => by refine CallOK.tab ?_ ?_ (c27_run a H v H' hv) <;> rfl
  have h := h.addCall (g := 28) (r := c28) fun a H v H' hv => by refine CallOK.tab ?_ ?_ (c28_run a H v H' hv) <;> rfl
  have h := h.addCall (g := 29) (r := c29) fun a H v H' hv => by refine CallOK.tab ?_ ?_ (c29_run a H v H' hv) <;> rfl
  have h := h.addCall (g := 15) (r := c15) fun a H v H' hv => by refine CallOK.tab ?_ ?_ (c15_run a H v H' hv) <;> rfl
  have h := h.addCall (g := 23) (r := c23) fun a H v H' hv => by refine CallOK.tab ?_ ?_ (c23_run a H v H' hv) <;> rfl
  exact h
theorem D2_ok : TabOK D2 := D1_ok.addCall (g := 16) (r := c16t) fun a H v H' hv => by refine CallOK.tab ?_ ?_ (c16t_run a H v H' hv) <;> rfl
theorem cu_sm (K : Int) (bags : List ByteArray) : sm (Rgg.cuL K bags) = true := by
  unfold Rgg.cuL
  cases h : Rgg.opE K bags == 0 with
  | false => rfl
  | true => obtain ⟨k1, k5, _⟩ := Rgg.opE_zero h; exact Rgg.wrt_sm k1 k5
theorem cubes_true (K : Int) (bags : List ByteArray) (m : Int) : evBody D2 4 [vi K, lS bags, vi m] [] = some (vb true, []) := by
  refine (nf4 ..).trans ?_
  by_cases h1 : 80 < bags.length
  · rw [decide_eq_true h1]; rfl
  rw [decide_eq_false h1, cond_false]
  cases h2 : Rgg.lng bags with
  | true => rfl
  | false =>
    have hb := lng_szs h2
    have hsz : Rgg.szs bags = true := List.all_eq_true.2 fun x hx => decide_eq_true (by have := hb x hx; omega)
    rw [hsz, show sm bags = true from decide_eq_true (by omega), ← Rgg.cu_eq, cu_sm, Rgg.ck_eq]
    simp only [beq_self_eq_true, Bool.and_self, cond_true, cond_false]
    rfl
end Go.Ev.Rag
