/- All four divisions: normal form. -/
import Derived.Test.YtfemekpcgieldaaTk
set_option linter.unusedVariables false
set_option linter.unusedSimpArgs false
namespace Go.Ev.Clm
open Go Go.Ev
set_option maxRecDepth 1000000
set_option linter.unusedVariables false
noncomputable def TO1 : Tab := { (((T32.addCall 17 c17o).addCall 19 c19o).addCall 21 c21o).addCall 30 c30o with nest := true }
theorem nf45 (l : List Int) (w : Int) : evBody TO1 45 [vi w, lI l] [] = (bif Clm.chk w l == 0 then bif decide (2 * w ≤ Clm.sumI l) then bif Clm.chk w l == 0 then bif Clm.chk w l == 0 then bif Clm.chk w l == 0 then bif Clm.divB w l (Clm.divV w l) then bif Clm.divB w l (Clm.gainV w l) then bif Clm.divB w l (Clm.lossV w l) then bif Clm.divB w l (Clm.avgV w l) then some (.tuple [.agg [osW 0 l.length, osW 1 l.length, .os 2 0 0 l.length true true true, .os 3 0 0 l.length true true true] true, vb true], [some ⟨[.run (.int .i64) (bif Clm.chk w l == 0 then bif decide (2 * w ≤ Clm.sumI l) then Clm.capped (120 * w) (Clm.times 60 l) else Clm.lessL (Clm.times 120 l) (Clm.capped (120 * (Clm.sumI l - w)) (Clm.times 60 l)) else [])], false, 3, false, false, none⟩, some ⟨[.run (.int .i64) (bif Clm.chk w l == 0 then Clm.capped (120 * w) (Clm.times 120 l) else [])], false, 3, false, false, none⟩, some ⟨[.run (.int .i64) (bif Clm.chk w l == 0 then Clm.lessL (Clm.times 120 l) (Clm.capped (120 * (Clm.sumI l - w)) (Clm.times 120 l)) else [])], false, 3, false, false, none⟩, some ⟨[.run (.int .i64) (bif Clm.chk w l == 0 then Clm.avgL w l else [])], false, 3, false, false, none⟩]) else none else none else none else none else none else none else none else bif Clm.chk w l == 0 then bif Clm.chk w l == 0 then bif Clm.chk w l == 0 then bif Clm.divB w l (Clm.divV w l) then bif Clm.divB w l (Clm.gainV w l) then bif Clm.divB w l (Clm.lossV w l) then bif Clm.divB w l (Clm.avgV w l) then some (.tuple [.agg [.os 0 0 0 l.length true true true, osW 1 l.length, .os 2 0 0 l.length true true true, .os 3 0 0 l.length true true true] true, vb true], [some ⟨[.run (.int .i64) (bif Clm.chk w l == 0 then bif decide (2 * w ≤ Clm.sumI l) then Clm.capped (120 * w) (Clm.times 60 l) else Clm.lessL (Clm.times 120 l) (Clm.capped (120 * (Clm.sumI l - w)) (Clm.times 60 l)) else [])], false, 3, false, false, none⟩, some ⟨[.run (.int .i64) (bif Clm.chk w l == 0 then Clm.capped (120 * w) (Clm.times 120 l) else [])], false, 3, false, false, none⟩, some ⟨[.run (.int .i64) (bif Clm.chk w l == 0 then Clm.lessL (Clm.times 120 l) (Clm.capped (120 * (Clm.sumI l - w)) (Clm.times 120 l)) else [])], false, 3, false, false, none⟩, some ⟨[.run (.int .i64) (bif Clm.chk w l == 0 then Clm.avgL w l else [])], false, 3, false, false, none⟩]) else none else none else none else none else none else none else none else none) := by kernel_rfl
def c45t (l : List Int) (w : Int) : Tree (AV × Hp) := .br (Clm.chk w l == 0) (.br (decide (2 * w ≤ Clm.sumI l)) (.leaf (.tuple [.agg [osW 0 l.length, osW 1 l.length, osT 2 l.length, osT 3 l.length] true, vb true], [some (rowI (Clm.divV w l) 3), some (rowI (Clm.gainV w l) 3), some (rowI (Clm.lossV w l) 3), some (rowI (Clm.avgV w l) 3)])) (.leaf (.tuple [.agg [osT 0 l.length, osW 1 l.length, osT 2 l.length, osT 3 l.length] true, vb true], [some (rowI (Clm.divV w l) 3), some (rowI (Clm.gainV w l) 3), some (rowI (Clm.lossV w l) 3), some (rowI (Clm.avgV w l) 3)]))) .fail
def c45 (args : List AV) (H : Hp) : Tree (AV × Hp) := match args, H with
  | [(.sc (.int .i64 w)), (.sl (.int .i64) l false)], [] => c45t l w
  | _, _ => .fail
theorem c45_ok {T : Tab} (hT : TabOK T) (h : ∀ (l : List Int) (w : Int) (r : AV × Hp), (c45t l w).val = some r → evBody T 45 [vi w, lI l] [] = some r) : ∀ args H v H', (c45 args H).val = some (v, H') → CallOK T 45 args H v H' := by
  intro args H v H' hv
  unfold c45 at hv
  split at hv
  · exact evBody_sound hT (h _ _ _ hv)
  · cases hv
end Go.Ev.Clm
namespace Go.Ev.Clm
open Go Go.Ev
set_option maxRecDepth 1000000
set_option linter.unusedVariables false
set_option linter.unusedSimpArgs false
theorem nest_ok {T : Tab} (h : TabOK T) : TabOK { T with nest := true } :=
  ⟨fun f a H v H' hv => by refine CallOK.tab ?_ ?_ (h.calls f a H v H' hv) <;> rfl, fun f l b k H o k' H' hv => by refine LoopOK.tab ?_ ?_ ?_ ?_ (h.loops f l b k H o k' H' hv) <;> rfl, h.fns, h.mixed⟩
theorem TO1_ok : TabOK TO1 := by
  have h := T32_ok
  have h := h.addCall (g := 17) (r := c17o) fun a H v H' hv => by refine CallOK.tab ?_ ?_ (c17o_run a H v H' hv) <;> rfl
  have h := h.addCall (g := 19) (r := c19o) fun a H v H' hv => by refine CallOK.tab ?_ ?_ (c19o_run a H v H' hv) <;> rfl
  have h := h.addCall (g := 21) (r := c21o) fun a H v H' hv => by refine CallOK.tab ?_ ?_ (c21o_run a H v H' hv) <;> rfl
  have h := h.addCall (g := 30) (r := c30o) fun a H v H' hv => by refine CallOK.tab ?_ ?_ (c30o_run a H v H' hv) <;> rfl
  exact nest_ok h
theorem c45_run : ∀ args H v H', (c45 args H).val = some (v, H') → CallOK TO1 45 args H v H' := c45_ok TO1_ok (by
  intro l w r hv
  obtain ⟨hl, hv2⟩ := guard_val hv
  have ok := Clm.ok_of (beq_iff_eq.1 hl)
  rw [nf45]
  simp only [hl, Clm.divB_of ok (Clm.rule_div ok), Clm.divB_of ok (Clm.gain_div ok).1, Clm.divB_of ok (Clm.loss_div ok).1, Clm.divB_of ok (Clm.avg_div ok).1, cond_true]
  rcases br_val hv2 with ⟨h, hv⟩ | ⟨h, hv⟩ <;> (rw [leaf_val hv, h]; unfold Clm.divV Clm.gainV Clm.lossV Clm.avgV; rw [hl, h]; rfl))
end Go.Ev.Clm
