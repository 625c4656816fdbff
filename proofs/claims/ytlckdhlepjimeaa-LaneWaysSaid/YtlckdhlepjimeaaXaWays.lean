/- LaneWays: the body, walked. -/
import Derived.Test.YtlckdhlepjimeaaSe
import Derived.Test.YtlckdhlepjimeaaSf
import Derived.Test.YtlckdhlepjimeaaPj
set_option linter.unusedVariables false
set_option linter.unusedSimpArgs false
namespace Lan
open Go
theorem way_eq {a b fr to : Int} {sh ya ti : List Int} : ((bif wayE a b sh ya ti fr to == 0 then cv a b sh fr to else 0) == (bif wayE a b sh ya ti fr to == 0 then wc a b sh fr to else 0)) = true := by
  rw [beq_iff_eq]
  cases hw : wayE a b sh ya ti fr to == 0 with
  | false => rfl
  | true =>
    rw [cond_true, cond_true]
    have hw := beq_iff_eq.1 hw
    unfold wayE at hw
    cases hc : chk a b sh ya ti != 0 with
    | true => rw [hc, cond_true] at hw; rw [hw] at hc; cases hc
    | false =>
      rw [hc, cond_false] at hw
      have hk := chk_ok (by simpa using hc)
      cases hf : wrongB a b fr with
      | true => rw [hf] at hw; cases hw
      | false =>
        cases ht : wrongB a b to with
        | true => rw [hf, ht] at hw; cases hw
        | false => exact cv_wc hk.side hk.in16 (by rw [onP_wrong, hf]; rfl) (by rw [onP_wrong, ht]; rfl)
theorem row_cv {a b x : Int} {sh ya ti : List Int} (hk : ChkOK a b sh ya ti) (hx : x ∈ ya) : rowR a b sh ti x = ti.map fun t => cv a b sh x t := by
  unfold rowR
  exact List.map_congr_left fun t ht => (cv_wc hk.side hk.in16 (hk.yards x hx) (hk.tips t ht)).symm
theorem big_no {sh ya ti : List Int} (h : big sh ya ti = false) : Ev.sm sh = true ∧ Ev.sm ya = true ∧ Ev.sm ti = true := by
  unfold big at h
  simp only [Bool.or_eq_false_iff, decide_eq_false_iff_not] at h
  exact ⟨decide_eq_true (by omega), decide_eq_true (by omega), decide_eq_true (by omega)⟩
end Lan
namespace Go.Ev.Lane
open Go Go.Ev
set_option maxRecDepth 1000000
set_option linter.unusedVariables false
set_option linter.unusedSimpArgs false
theorem cTrue_run : ∀ args H v H', (cTrue args H).val = some (v, H') → CallOK U2 15 args H v H' := by
  intro args H v H' hv
  unfold cTrue at hv
  split at hv
  · cases leaf_val hv
    refine CallOK.tab ?_ ?_ works_ok <;> rfl
  · cases hv
theorem W0_ok : TabOK W0 := by
  have h := U2_ok
  have h := h.addCall (g := 16) (r := c16) fun a H v H' hv => by refine CallOK.tab ?_ ?_ (c16_run a H v H' hv) <;> rfl
  have h := h.addCall (g := 17) (r := c17) fun a H v H' hv => by refine CallOK.tab ?_ ?_ (c17_run a H v H' hv) <;> rfl
  have h := h.addCall (g := 19) (r := c19) fun a H v H' hv => by refine CallOK.tab ?_ ?_ (c19_run a H v H' hv) <;> rfl
  have h := h.addCall (g := 14) (r := c14) fun a H v H' hv => by refine CallOK.tab ?_ ?_ (c14_run a H v H' hv) <;> rfl
  exact h.addCall (g := 15) (r := cTrue) fun a H v H' hv => by refine CallOK.tab ?_ ?_ (cTrue_run a H v H' hv) <;> rfl
theorem W1_ok : TabOK W1 := mode_ok ((W0_ok.addCall (g := 18) (r := c18n1) fun a H v H' hv => by refine CallOK.tab ?_ ?_ (c18n1_run a H v H' hv) <;> rfl).addCall (g := 20) (r := c20n1) fun a H v H' hv => by refine CallOK.tab ?_ ?_ (c20n1_run a H v H' hv) <;> rfl)
theorem W2_ok : TabOK W2 := mode_ok ((W0_ok.addCall (g := 18) (r := c18n2) fun a H v H' hv => by refine CallOK.tab ?_ ?_ (c18n2_run a H v H' hv) <;> rfl).addCall (g := 20) (r := c20n2) fun a H v H' hv => by refine CallOK.tab ?_ ?_ (c20n2_run a H v H' hv) <;> rfl)
theorem W3_ok : TabOK W3 := mode_ok ((W0_ok.addCall (g := 18) (r := c18n3) fun a H v H' hv => by refine CallOK.tab ?_ ?_ (c18n3_run a H v H' hv) <;> rfl).addCall (g := 20) (r := c20n3) fun a H v H' hv => by refine CallOK.tab ?_ ?_ (c20n3_run a H v H' hv) <;> rfl)
theorem WE_ok : TabOK WE := (W0_ok.addCall (g := 18) (r := c18e) fun a H v H' hv => by refine CallOK.tab ?_ ?_ (c18e_run a H v H' hv) <;> rfl).addCall (g := 20) (r := c20g) fun a H v H' hv => by refine CallOK.tab ?_ ?_ (c20g_run a H v H' hv) <;> rfl
theorem smc {α : Type} (x y z : α) : sm [x] = true ∧ sm [x, y] = true ∧ sm [x, y, z] = true := ⟨rfl, rfl, rfl⟩
theorem ways_1 {y0 t0 fr to a b : Int} {sh : List Int} (h : Lan.chk a b sh [y0] [t0] = 0) : evBody W1 3 [aP a b sh, aX [y0] [t0], vi fr, vi to] [] = some (vb true, []) := by
  have hk := Lan.chk_ok h
  rw [nf3_1]
  cases hb : Lan.big sh [y0] [t0] with
  | true => rfl
  | false =>
    have hs := Lan.big_no hb
    have r0 := Lan.row_cv hk (x := y0) (by simp)
    simp only [List.map_cons, List.map_nil] at r0
    simp only [hs.1, hs.2.1, hs.2.2, h, r0, Lan.way_eq, beq_self_eq_true, decide_true, cond_true, cond_false, Bool.and_self, show sm [Lan.cv a b sh y0 t0] = true from rfl]
theorem ways_2 {y0 y1 t0 t1 fr to a b : Int} {sh : List Int} (h : Lan.chk a b sh [y0, y1] [t0, t1] = 0) : evBody W2 3 [aP a b sh, aX [y0, y1] [t0, t1], vi fr, vi to] [] = some (vb true, []) := by
  have hk := Lan.chk_ok h
  rw [nf3_2]
  cases hb : Lan.big sh [y0, y1] [t0, t1] with
  | true => rfl
  | false =>
    have hs := Lan.big_no hb
    have r0 := Lan.row_cv hk (x := y0) (by simp)
    have r1 := Lan.row_cv hk (x := y1) (by simp)
    simp only [List.map_cons, List.map_nil] at r0 r1
    simp only [hs.1, hs.2.1, hs.2.2, h, r0, r1, Lan.way_eq, beq_self_eq_true, decide_true, cond_true, cond_false, Bool.and_self, (smc (Lan.cv a b sh y0 t0) (Lan.cv a b sh y0 t1) 0).2.1, (smc (Lan.cv a b sh y1 t0) (Lan.cv a b sh y1 t1) 0).2.1]
theorem ways_3 {y0 y1 y2 t0 t1 t2 fr to a b : Int} {sh : List Int} (h : Lan.chk a b sh [y0, y1, y2] [t0, t1, t2] = 0) : evBody W3 3 [aP a b sh, aX [y0, y1, y2] [t0, t1, t2], vi fr, vi to] [] = some (vb true, []) := by
  have hk := Lan.chk_ok h
  rw [nf3_3]
  cases hb : Lan.big sh [y0, y1, y2] [t0, t1, t2] with
  | true => rfl
  | false =>
    have hs := Lan.big_no hb
    have r0 := Lan.row_cv hk (x := y0) (by simp)
    have r1 := Lan.row_cv hk (x := y1) (by simp)
    have r2 := Lan.row_cv hk (x := y2) (by simp)
    simp only [List.map_cons, List.map_nil] at r0 r1 r2
    simp only [hs.1, hs.2.1, hs.2.2, h, r0, r1, r2, Lan.way_eq, beq_self_eq_true, decide_true, cond_true, cond_false, Bool.and_self, (smc (Lan.cv a b sh y0 t0) (Lan.cv a b sh y0 t1) (Lan.cv a b sh y0 t2)).2.2, (smc (Lan.cv a b sh y1 t0) (Lan.cv a b sh y1 t1) (Lan.cv a b sh y1 t2)).2.2, (smc (Lan.cv a b sh y2 t0) (Lan.cv a b sh y2 t1) (Lan.cv a b sh y2 t2)).2.2]
theorem ways_e {fr to a b : Int} {sh ya ti : List Int} (h : Lan.chk a b sh ya ti ≠ 0) : evBody WE 3 [aP a b sh, aX ya ti, vi fr, vi to] [] = some (vb true, []) := by
  have h1 : (Lan.chk a b sh ya ti == 0) = false := beq_eq_false_iff_ne.2 h
  have h2 : (Lan.chk a b sh ya ti != 0) = true := by rw [bne, h1]; rfl
  rw [nf3_e]
  cases hb : Lan.big sh ya ti with
  | true => rfl
  | false =>
    have hs := Lan.big_no hb
    simp only [hs.1, hs.2.1, hs.2.2, h1, h2, Lan.way_eq, beq_self_eq_true, cond_true, cond_false, Bool.and_self]
theorem shapes {a b : Int} {sh ya ti : List Int} (h : Lan.chk a b sh ya ti = 0) : (∃ y0 t0, ya = [y0] ∧ ti = [t0]) ∨ (∃ y0 y1 t0 t1, ya = [y0, y1] ∧ ti = [t0, t1]) ∨ (∃ y0 y1 y2 t0 t1 t2, ya = [y0, y1, y2] ∧ ti = [t0, t1, t2]) := by
  have hk := Lan.chk_ok h
  have h1 := hk.len
  have h2 := hk.pos
  have h3 := hk.few
  match ya, ti, h1, h2, h3 with
  | [y0], [t0], _, _, _ => exact .inl ⟨_, _, rfl, rfl⟩
  | [y0, y1], [t0, t1], _, _, _ => exact .inr (.inl ⟨_, _, _, _, rfl, rfl⟩)
  | [y0, y1, y2], [t0, t1, t2], _, _, _ => exact .inr (.inr ⟨_, _, _, _, _, _, rfl, rfl⟩)
  | _ :: _ :: _ :: _ :: _, _, _, _, h => simp at h
end Go.Ev.Lane
