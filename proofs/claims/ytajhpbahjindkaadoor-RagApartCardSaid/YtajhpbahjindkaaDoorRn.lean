/- RagApart: the law's body answers true. -/
import Derived.Test.YtajhpbahjindkaaDoorRm
import Derived.Test.YtajhpbahjindkaaDoorRl
import Derived.Test.YtajhpbahjindkaaDoorRi
set_option linter.unusedVariables false
set_option linter.unusedSimpArgs false
namespace Go.Ev.Rag
open Go Go.Ev Go.Proofs
set_option maxRecDepth 1000000
set_option linter.unusedVariables false
set_option linter.unusedSimpArgs false
theorem V1_ok : TabOK V1 := by
  have h := P3_ok
  have h := h.addCall (g := 19) (r := c19) fun a H v H' hv => by refine CallOK.tab ?_ ?_ (c19_run a H v H' hv) <;> rfl
  have h := h.addCall (g := 21) (r := c21) fun a H v H' hv => by refine CallOK.tab ?_ ?_ (c21_run a H v H' hv) <;> rfl
  have h := h.addCall (g := 24) (r := c24) fun a H v H' hv => by refine CallOK.tab ?_ ?_ (c24_run a H v H' hv) <;> rfl
  have h := h.addCall (g := 18) (r := c18) fun a H v H' hv => by refine CallOK.tab ?_ ?_ (c18_run a H v H' hv) <;> rfl
  have h := h.addCall (g := 20) (r := c20) fun a H v H' hv => by refine CallOK.tab ?_ ?_ (c20_run a H v H' hv) <;> rfl
  have h := h.addCall (g := 22) (r := c22) fun a H v H' hv => by refine CallOK.tab ?_ ?_ (c22_run a H v H' hv) <;> rfl
  have h := h.addCall (g := 25) (r := c25) fun a H v H' hv => by refine CallOK.tab ?_ ?_ (c25_run a H v H' hv) <;> rfl
  have h := h.addCall (g := 15) (r := c15) fun a H v H' hv => by refine CallOK.tab ?_ ?_ (c15_run a H v H' hv) <;> rfl
  have h := h.addCall (g := 23) (r := c23) fun a H v H' hv => by refine CallOK.tab ?_ ?_ (c23_run a H v H' hv) <;> rfl
  exact h
theorem V2_ok : TabOK V2 := V1_ok.addCall (g := 16) (r := c16t) fun a H v H' hv => by refine CallOK.tab ?_ ?_ (c16t_run a H v H' hv) <;> rfl
theorem lng_szs {l : List ByteArray} (h : Rgg.lng l = false) : ∀ x ∈ l, x.size ≤ 30 := by
  intro x hx
  unfold Rgg.lng at h
  rw [List.any_eq_false] at h
  have := h x hx
  simp only [decide_eq_true_eq] at this
  omega
theorem ap_sm (K : Int) (bags : List ByteArray) : sm (Rgg.apL K bags) = true := by
  unfold Rgg.apL
  cases h : Rgg.opE K bags == 0 with
  | false => rfl
  | true => obtain ⟨k1, k5, _⟩ := Rgg.opE_zero h; exact Rgg.wrt_sm k1 k5
theorem apart_true (K : Int) (bags : List ByteArray) (s p : ByteArray) : evBody V2 3 [vi K, lS bags, vS s, vS p] [] = some (vb true, []) := by
  refine (nf3 ..).trans ?_
  by_cases h1 : 80 < bags.length
  · rw [decide_eq_true h1]; rfl
  rw [decide_eq_false h1, cond_false]
  cases h2 : Rgg.lng bags || Rgg.lng [s, p] with
  | true => rfl
  | false =>
    rw [Bool.or_eq_false_iff] at h2
    have hb := lng_szs h2.1
    have hsp := lng_szs h2.2
    have hs := hsp s (by simp)
    have hp := hsp p (by simp)
    have hsz : Rgg.szs bags = true := List.all_eq_true.2 fun x hx => decide_eq_true (by have := hb x hx; omega)
    rw [hsz, show sm bags = true from decide_eq_true (by omega), decide_eq_true (show s.size ≤ 100000 by omega), decide_eq_true (show p.size ≤ 100000 by omega), ← Rgg.ap_eq, ap_sm, ← Rgg.lgN_eq, ← Rgg.lgE_eq, ← (Rgg.ms_eq K bags s).1, ← (Rgg.ms_eq K bags s).2, ← Rgg.pv_eq, Rgg.ck_eq]
    simp only [beq_self_eq_true, Bool.and_self, cond_true, cond_false]
end Go.Ev.Rag
