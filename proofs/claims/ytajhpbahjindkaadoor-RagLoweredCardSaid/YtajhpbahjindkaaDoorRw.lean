/- The law RagLowered: tables and the body's normal form. -/
import Derived.Test.YtajhpbahjindkaaDoorRu
import Derived.Test.YtajhpbahjindkaaDoorRv
import Derived.Test.YtajhpbahjindkaaDoorRf
import Derived.Test.YtajhpbahjindkaaDoorRn
set_option linter.unusedVariables false
set_option linter.unusedSimpArgs false
namespace Go.Ev.Rag
open Go Go.Ev
set_option maxRecDepth 1000000
set_option maxHeartbeats 0
set_option linter.unusedVariables false
noncomputable def G1 : Tab := ((((((R3).addCall 30 c30).addCall 32 c32).addCall 31 c31).addCall 33 c33).addCall 15 c15).addCall 23 c23
noncomputable def G2 : Tab := G1.addCall 16 c16t
theorem nf5 (K k : Int) (bags : List ByteArray) : evBody G2 5 [vi K, lS bags, vi k] [] = (bif decide (80 < bags.length) then some (vb true, []) else bif Rgg.lng bags || Rgg.lng [] then some (vb true, []) else bif Rgg.szs bags && sm bags then bif Rgg.szs bags && sm bags && (Rgg.ckE K bags != 0 || Rgg.fxR K (Rgg.ofS K bags)) then bif sm (Rgg.lwL K bags k) && Rgg.lwL K bags k == Rgg.lwR K bags k then bif Rgg.lwE K bags k == Rgg.lwRE K bags k then bif sm (Rgg.lsL K bags) && Rgg.lsL K bags == Rgg.lsR K bags then bif Rgg.opE K bags == Rgg.ckE K bags then some (vb true, []) else some (vb false, []) else none else some (vb false, []) else none else none else none) := by kernel_rfl
end Go.Ev.Rag
namespace Go.Ev.Rag
open Go Go.Ev Go.Proofs
set_option maxRecDepth 1000000
set_option linter.unusedVariables false
set_option linter.unusedSimpArgs false
theorem G1_ok : TabOK G1 := by
  have h := R3_ok
  have h := h.addCall (g := 30) (r := c30) fun a H v H' hv => by refine CallOK.tab ?_ ?_ (c30_run a H v H' hv) <;> rfl
  have h := h.addCall (g := 32) (r := c32) fun a H v H' hv => by refine CallOK.tab ?_ ?_ (c32_run a H v H' hv) <;> rfl
  have h := h.addCall (g := 31) (r := c31) fun a H v H' hv => by refine CallOK.tab ?_ ?_ (c31_run a H v H' hv) <;> rfl
  have h := h.addCall (g := 33) (r := c33) fun a H v H' hv => by refine CallOK.tab ?_ ?_ (c33_run a H v H' hv) <;> rfl
  have h := h.addCall (g := 15) (r := c15) fun a H v H' hv => by refine CallOK.tab ?_ ?_ (c15_run a H v H' hv) <;> rfl
  have h := h.addCall (g := 23) (r := c23) fun a H v H' hv => by refine CallOK.tab ?_ ?_ (c23_run a H v H' hv) <;> rfl
  exact h
theorem G2_ok : TabOK G2 := G1_ok.addCall (g := 16) (r := c16t) fun a H v H' hv => by refine CallOK.tab ?_ ?_ (c16t_run a H v H' hv) <;> rfl
theorem lw_sm (K k : Int) (bags : List ByteArray) : sm (Rgg.lwL K bags k) = true := by
  unfold Rgg.lwL
  cases h : Rgg.lwE K bags k == 0 with
  | false => rfl
  | true =>
    cases ho : Rgg.opE K bags == 0 with
    | false =>
      unfold Rgg.lwE at h
      rw [ho, cond_false] at h
      rw [h] at ho; cases ho
    | true => obtain ⟨k1, k5, _⟩ := Rgg.opE_zero ho; exact Rgg.wrt_sm k1 k5
theorem ls_sm (K : Int) (bags : List ByteArray) : sm (Rgg.lsL K bags) = true := by
  unfold Rgg.lsL
  cases h : Rgg.opE K bags == 0 with
  | false => rfl
  | true => obtain ⟨k1, k5, _⟩ := Rgg.opE_zero h; exact Rgg.wrt_sm k1 k5
theorem lowered_true (K : Int) (bags : List ByteArray) (k : Int) : evBody G2 5 [vi K, lS bags, vi k] [] = some (vb true, []) := by
  refine (nf5 ..).trans ?_
  by_cases h1 : 80 < bags.length
  · rw [decide_eq_true h1]; rfl
  rw [decide_eq_false h1, cond_false]
  cases h2 : Rgg.lng bags with
  | true => rfl
  | false =>
    have hb := lng_szs h2
    have hsz : Rgg.szs bags = true := List.all_eq_true.2 fun x hx => decide_eq_true (by have := hb x hx; omega)
    have hfx : (Rgg.ckE K bags != 0 || Rgg.fxR K (Rgg.ofS K bags)) = true := by
      rw [Rgg.ck_eq]
      cases h : Rgg.opE K bags == 0 with
      | false => rw [bne, h]; rfl
      | true =>
        unfold Rgg.fxR
        rw [Rgg.rr_fix h, beq_self_eq_true, Bool.or_true]
    rw [hfx, hsz, show sm bags = true from decide_eq_true (by omega), ← Rgg.lwL_eq, ← Rgg.lwE_eq, ← Rgg.lsL_eq, lw_sm, ls_sm, Rgg.ck_eq]
    simp only [beq_self_eq_true, Bool.and_self, cond_true, cond_false]
    rfl
end Go.Ev.Rag
