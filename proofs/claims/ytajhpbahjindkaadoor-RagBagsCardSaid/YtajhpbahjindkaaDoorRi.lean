/- RagBags: the law's body answers true. -/
import Derived.Test.YtajhpbahjindkaaDoorRh
import Derived.Test.YtajhpbahjindkaaDoorWj
set_option linter.unusedVariables false
set_option linter.unusedSimpArgs false
namespace Go.Ev.Rag
open Go Go.Ev Go.Proofs
set_option maxRecDepth 1000000
set_option linter.unusedVariables false
set_option linter.unusedSimpArgs false
theorem c15_run : ∀ args H v H', (c15 args H).val = some (v, H') → CallOK Q8 15 args H v H' := c15_ok Q8_ok (by
  intro l m r hv
  refine (nf15 ..).trans ?_
  unfold c15t at hv
  by_cases h : 80 < l.length
  · rw [decide_eq_true h] at hv
    rw [decide_eq_true (show (l.length : Int) > 80 by omega), leaf_val (show (Tree.leaf _).val = some r from hv)]; rfl
  · rw [decide_eq_false h] at hv
    obtain ⟨hm, hv2⟩ := guard_val (show (Tree.br _ _ _).val = some r from hv)
    rw [decide_eq_false (show ¬ (l.length : Int) > 80 by omega), show sm l = true from decide_eq_true (by omega), hm, leaf_val hv2]
    cases Rgg.lng l <;> cases Rgg.lng m <;> rfl)
theorem c23_run : ∀ args H v H', (c23 args H).val = some (v, H') → CallOK Q8 23 args H v H' := c23_ok Q8_ok (by
  intro a b r hv
  obtain ⟨hl, hv2⟩ := guard_val hv
  refine (nf23 ..).trans ?_
  have h2 := hl
  simp only [Bool.and_eq_true] at h2
  obtain rfl := beq_iff_eq.1 h2.2
  rw [hl, leaf_val hv2, show ((a.length : Int) != (a.length : Int)) = false by rw [bne, beq_self_eq_true]; rfl]; rfl)
theorem c16t_run : ∀ args H v H', (c16t args H).val = some (v, H') → CallOK TE 16 args H v H' := by
  intro args H v H' hv
  unfold c16t at hv
  split at hv
  · cases leaf_val hv
    exact evBody_sound TE_ok ran16
  · cases hv
theorem S1_ok : TabOK S1 := by
  have h := R4_ok
  have h := h.addCall (g := 46) (r := c46) fun a H v H' hv => by refine CallOK.tab ?_ ?_ (c46_run a H v H' hv) <;> rfl
  have h := h.addCall (g := 41) (r := c41) fun a H v H' hv => by refine CallOK.tab ?_ ?_ (c41_run a H v H' hv) <;> rfl
  have h := h.addCall (g := 43) (r := c43) fun a H v H' hv => by refine CallOK.tab ?_ ?_ (c43_run a H v H' hv) <;> rfl
  have h := h.addCall (g := 44) (r := c44) fun a H v H' hv => by refine CallOK.tab ?_ ?_ (c44_run a H v H' hv) <;> rfl
  have h := h.addCall (g := 15) (r := c15) fun a H v H' hv => by refine CallOK.tab ?_ ?_ (c15_run a H v H' hv) <;> rfl
  have h := h.addCall (g := 23) (r := c23) fun a H v H' hv => by refine CallOK.tab ?_ ?_ (c23_run a H v H' hv) <;> rfl
  exact h
theorem S2_ok : TabOK S2 := S1_ok.addCall (g := 16) (r := c16t) fun a H v H' hv => by refine CallOK.tab ?_ ?_ (c16t_run a H v H' hv) <;> rfl
theorem bags_true (K : Int) (bags : List ByteArray) (s : ByteArray) : evBody S2 7 [vi K, lS bags, vS s] [] = some (vb true, []) := by
  refine (nf7 ..).trans ?_
  by_cases h1 : 80 < bags.length
  · rw [decide_eq_true h1]; rfl
  rw [decide_eq_false h1, cond_false]
  cases h2 : Rgg.lng bags || Rgg.lng [s] with
  | true => rfl
  | false =>
    rw [Bool.or_eq_false_iff] at h2
    have hsz : Rgg.szs bags = true := by
      unfold Rgg.szs
      rw [List.all_eq_true]
      intro x hx
      have := h2.1
      unfold Rgg.lng at this
      rw [List.any_eq_false] at this
      have := this x hx
      simp only [decide_eq_true_eq] at this
      exact decide_eq_true (by omega)
    have hs : s.size ≤ 100000 := by
      have := h2.2
      unfold Rgg.lng at this
      rw [List.any_eq_false] at this
      have := this s (by simp)
      simp only [decide_eq_true_eq] at this
      omega
    rw [hsz, show sm bags = true from decide_eq_true (by omega), decide_eq_true hs, ← Rgg.td_eq, ← Rgg.re_eq, ← Rgg.tc_eq, ← Rgg.me_eq, Rgg.ck_eq, Rgg.td_sm, Rgg.re_sm, Rgg.tc_sm]
    simp only [beq_self_eq_true, Bool.and_self, cond_true, cond_false]
end Go.Ev.Rag
