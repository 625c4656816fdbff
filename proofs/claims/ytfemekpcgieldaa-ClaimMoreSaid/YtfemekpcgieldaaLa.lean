/- The laws ClaimRule and ClaimChecks: normal forms. -/
import Derived.Test.YtfemekpcgieldaaCa
import Derived.Test.YtfemekpcgieldaaTe
import Derived.Test.YtfemekpcgieldaaWj
import Derived.Test.YtfemekpcgieldaaEvE
set_option linter.unusedVariables false
set_option linter.unusedSimpArgs false
namespace Go.Ev.Clm
open Go Go.Ev
set_option maxRecDepth 1000000
set_option linter.unusedVariables false
noncomputable def T16 : Tab := (T15).addCall 16 c16
theorem nf3 (w : Int) (cs : List Int) : evBody T16 3 [vi w, lI cs] [] = (bif decide ((↑cs.length : Int) > 60) then some (vb true, []) else bif Clm.chk w cs == 0 then bif decide (2 * w ≤ Clm.sumI cs) then bif Clm.chk w cs == 0 then bif Clm.chk w cs == 0 then bif sm (Clm.divV w cs) then bif decide (Clm.divV w cs = Clm.divV w cs) then bif 0 == Clm.chk w cs then bif sm (Clm.gainV w cs) then bif decide (Clm.gainV w cs = Clm.gainV w cs) then bif 0 == Clm.chk w cs then bif sm (Clm.lossV w cs) then bif decide (Clm.lossV w cs = Clm.lossV w cs) then bif 0 == Clm.chk w cs then bif Clm.chk w cs == Clm.chk w cs then some (vb true, []) else some (vb false, []) else some (vb false, []) else some (vb false, []) else none else some (vb false, []) else some (vb false, []) else none else some (vb false, []) else some (vb false, []) else none else bif sm (Clm.divV w cs) then bif decide (Clm.divV w cs = Clm.divV w cs) then bif 0 == Clm.chk w cs then bif sm (Clm.gainV w cs) then bif decide (Clm.gainV w cs = Clm.gainV w cs) then bif 0 == Clm.chk w cs then bif decide ([] = Clm.lossV w cs) then bif Clm.chk w cs == Clm.chk w cs then bif Clm.chk w cs == Clm.chk w cs then some (vb true, []) else some (vb false, []) else some (vb false, []) else some (vb false, []) else some (vb false, []) else some (vb false, []) else none else some (vb false, []) else some (vb false, []) else none else bif Clm.chk w cs == 0 then bif sm (Clm.divV w cs) then bif decide (Clm.divV w cs = Clm.divV w cs) then bif 0 == Clm.chk w cs then bif decide ([] = Clm.gainV w cs) then bif Clm.chk w cs == Clm.chk w cs then bif sm (Clm.lossV w cs) then bif decide (Clm.lossV w cs = Clm.lossV w cs) then bif 0 == Clm.chk w cs then bif Clm.chk w cs == Clm.chk w cs then some (vb true, []) else some (vb false, []) else some (vb false, []) else some (vb false, []) else none else some (vb false, []) else some (vb false, []) else some (vb false, []) else some (vb false, []) else none else bif sm (Clm.divV w cs) then bif decide (Clm.divV w cs = Clm.divV w cs) then bif 0 == Clm.chk w cs then bif decide ([] = Clm.gainV w cs) then bif Clm.chk w cs == Clm.chk w cs then bif decide ([] = Clm.lossV w cs) then bif Clm.chk w cs == Clm.chk w cs then bif Clm.chk w cs == Clm.chk w cs then some (vb true, []) else some (vb false, []) else some (vb false, []) else some (vb false, []) else some (vb false, []) else some (vb false, []) else some (vb false, []) else some (vb false, []) else none else bif Clm.chk w cs == 0 then bif Clm.chk w cs == 0 then bif sm (Clm.divV w cs) then bif decide (Clm.divV w cs = Clm.divV w cs) then bif 0 == Clm.chk w cs then bif sm (Clm.gainV w cs) then bif decide (Clm.gainV w cs = Clm.gainV w cs) then bif 0 == Clm.chk w cs then bif sm (Clm.lossV w cs) then bif decide (Clm.lossV w cs = Clm.lossV w cs) then bif 0 == Clm.chk w cs then bif Clm.chk w cs == Clm.chk w cs then some (vb true, []) else some (vb false, []) else some (vb false, []) else some (vb false, []) else none else some (vb false, []) else some (vb false, []) else none else some (vb false, []) else some (vb false, []) else none else bif sm (Clm.divV w cs) then bif decide (Clm.divV w cs = Clm.divV w cs) then bif 0 == Clm.chk w cs then bif sm (Clm.gainV w cs) then bif decide (Clm.gainV w cs = Clm.gainV w cs) then bif 0 == Clm.chk w cs then bif decide ([] = Clm.lossV w cs) then bif Clm.chk w cs == Clm.chk w cs then bif Clm.chk w cs == Clm.chk w cs then some (vb true, []) else some (vb false, []) else some (vb false, []) else some (vb false, []) else some (vb false, []) else some (vb false, []) else none else some (vb false, []) else some (vb false, []) else none else bif Clm.chk w cs == 0 then bif sm (Clm.divV w cs) then bif decide (Clm.divV w cs = Clm.divV w cs) then bif 0 == Clm.chk w cs then bif decide ([] = Clm.gainV w cs) then bif Clm.chk w cs == Clm.chk w cs then bif sm (Clm.lossV w cs) then bif decide (Clm.lossV w cs = Clm.lossV w cs) then bif 0 == Clm.chk w cs then bif Clm.chk w cs == Clm.chk w cs then some (vb true, []) else some (vb false, []) else some (vb false, []) else some (vb false, []) else none else some (vb false, []) else some (vb false, []) else some (vb false, []) else some (vb false, []) else none else bif sm (Clm.divV w cs) then bif decide (Clm.divV w cs = Clm.divV w cs) then bif 0 == Clm.chk w cs then bif decide ([] = Clm.gainV w cs) then bif Clm.chk w cs == Clm.chk w cs then bif decide ([] = Clm.lossV w cs) then bif Clm.chk w cs == Clm.chk w cs then bif Clm.chk w cs == Clm.chk w cs then some (vb true, []) else some (vb false, []) else some (vb false, []) else some (vb false, []) else some (vb false, []) else some (vb false, []) else some (vb false, []) else some (vb false, []) else none else bif Clm.chk w cs == 0 then bif Clm.chk w cs == 0 then bif decide ([] = Clm.divV w cs) then bif Clm.chk w cs == Clm.chk w cs then bif sm (Clm.gainV w cs) then bif decide (Clm.gainV w cs = Clm.gainV w cs) then bif 0 == Clm.chk w cs then bif sm (Clm.lossV w cs) then bif decide (Clm.lossV w cs = Clm.lossV w cs) then bif 0 == Clm.chk w cs then bif Clm.chk w cs == Clm.chk w cs then some (vb true, []) else some (vb false, []) else some (vb false, []) else some (vb false, []) else none else some (vb false, []) else some (vb false, []) else none else some (vb false, []) else some (vb false, []) else bif decide ([] = Clm.divV w cs) then bif Clm.chk w cs == Clm.chk w cs then bif sm (Clm.gainV w cs) then bif decide (Clm.gainV w cs = Clm.gainV w cs) then bif 0 == Clm.chk w cs then bif decide ([] = Clm.lossV w cs) then bif Clm.chk w cs == Clm.chk w cs then bif Clm.chk w cs == Clm.chk w cs then some (vb true, []) else some (vb false, []) else some (vb false, []) else some (vb false, []) else some (vb false, []) else some (vb false, []) else none else some (vb false, []) else some (vb false, []) else bif Clm.chk w cs == 0 then bif decide ([] = Clm.divV w cs) then bif Clm.chk w cs == Clm.chk w cs then bif decide ([] = Clm.gainV w cs) then bif Clm.chk w cs == Clm.chk w cs then bif sm (Clm.lossV w cs) then bif decide (Clm.lossV w cs = Clm.lossV w cs) then bif 0 == Clm.chk w cs then bif Clm.chk w cs == Clm.chk w cs then some (vb true, []) else some (vb false, []) else some (vb false, []) else some (vb false, []) else none else some (vb false, []) else some (vb false, []) else some (vb false, []) else some (vb false, []) else bif decide ([] = Clm.divV w cs) then bif Clm.chk w cs == Clm.chk w cs then bif decide ([] = Clm.gainV w cs) then bif Clm.chk w cs == Clm.chk w cs then bif decide ([] = Clm.lossV w cs) then bif Clm.chk w cs == Clm.chk w cs then bif Clm.chk w cs == Clm.chk w cs then some (vb true, []) else some (vb false, []) else some (vb false, []) else some (vb false, []) else some (vb false, []) else some (vb false, []) else some (vb false, []) else some (vb false, [])) := by kernel_rfl
theorem nf5 (w i j : Int) (cs gs : List Int) : evBody T16 5 [vi w, lI cs, lI gs, vi i, vi j] [] = (bif decide ((↑cs.length : Int) > 60) then some (vb true, []) else bif decide ((↑gs.length : Int) > 60) then some (vb true, []) else bif Clm.why1 w cs gs == Clm.why1 w cs gs then bif Clm.why2 w cs gs == Clm.why2 w cs gs then bif Clm.whyE w cs gs == Clm.whyE w cs gs then bif Clm.validV w cs gs == Clm.validV w cs gs then bif Clm.provV w cs gs i j == Clm.provV w cs gs i j then some (vb true, []) else some (vb false, []) else some (vb false, []) else some (vb false, []) else some (vb false, []) else some (vb false, [])) := by kernel_rfl
end Go.Ev.Clm
namespace Go.Ev.Clm
open Go Go.Ev Go.Proofs
set_option maxRecDepth 1000000
set_option linter.unusedVariables false
set_option linter.unusedSimpArgs false
theorem TC_ok : TabOK ClaimC.TC := by
  have h : TabOK ClaimC.TB := (carried_ok (T := ClaimC.T0) (fun _ _ h => fnsOf_spec h) (by kernel_rfl) 200 80).1
  exact h.addCall (g := 32) (r := c32) fun a H v H' hv => by refine CallOK.tab ?_ ?_ (c32_run a H v H' hv) <;> rfl
theorem works_ok : CallOK ClaimC.TC 16 [] [] (vb true) [] := evBody_sound TC_ok ClaimC.ran16
theorem c16_run : ∀ args H v H', (c16 args H).val = some (v, H') → CallOK T15 16 args H v H' := by
  intro args H v H' hv
  unfold c16 at hv
  split at hv
  · cases leaf_val hv
    refine CallOK.tab ?_ ?_ works_ok <;> rfl
  · cases hv
theorem T16_ok : TabOK T16 := by
  have h := T15_ok
  have h := h.addCall (g := 16) (r := c16) fun a H v H' hv => by refine CallOK.tab ?_ ?_ (c16_run a H v H' hv) <;> rfl
  exact h
theorem small_div {w : Int} {cs : List Int} (h : (Clm.chk w cs == 0) = true) : sm (Clm.divV w cs) = true ∧ sm (Clm.gainV w cs) = true ∧ sm (Clm.lossV w cs) = true := by
  have ok := Clm.ok_of (beq_iff_eq.1 h)
  have h5 := ok.len
  have hl : ∀ n, (Clm.times n cs).length ≤ 5 := fun n => by rw [Clm.times_len]; exact h5
  have hc : ∀ t n, (Clm.capped t (Clm.times n cs)).length ≤ 5 := fun t n => by rw [Clm.capped_len]; exact hl n
  have hd : ∀ a b : List Int, a.length ≤ 5 → (Clm.lessL a b).length ≤ 5 := fun a b ha => by simp [Clm.lessL]; omega
  have s : ∀ l : List Int, l.length ≤ 5 → sm l = true := fun l hl => decide_eq_true (by omega)
  unfold Clm.divV Clm.gainV Clm.lossV
  rw [h]
  refine ⟨?_, s _ (hc _ _), s _ (hd _ _ (hl _))⟩
  cases decide (2 * w ≤ Clm.sumI cs)
  · exact s _ (hd _ _ (hl _))
  · exact s _ (hc _ _)
theorem rule_body (w : Int) (cs : List Int) : evBody T16 3 [vi w, lI cs] [] = some (vb true, []) := by
  rw [nf3]
  cases hc : Clm.chk w cs == 0 with
  | true =>
    obtain ⟨s1, s2, s3⟩ := small_div hc
    have hz := beq_iff_eq.1 hc
    simp only [cond_true, s1, s2, s3, decide_true, hz, beq_self_eq_true]
    cases decide ((cs.length : Int) > 60) <;> cases decide (2 * w ≤ Clm.sumI cs) <;> rfl
  | false =>
    have e1 : Clm.divV w cs = [] := by unfold Clm.divV; rw [hc]; rfl
    have e2 : Clm.gainV w cs = [] := by unfold Clm.gainV; rw [hc]; rfl
    have e3 : Clm.lossV w cs = [] := by unfold Clm.lossV; rw [hc]; rfl
    simp only [cond_false, e1, e2, e3, decide_true, beq_self_eq_true, cond_true]
    cases decide ((cs.length : Int) > 60) <;> rfl
theorem checks_body (w : Int) (cs gs : List Int) (i j : Int) : evBody T16 5 [vi w, lI cs, lI gs, vi i, vi j] [] = some (vb true, []) := by
  rw [nf5]
  simp only [beq_self_eq_true, cond_true]
  cases decide ((cs.length : Int) > 60) <;> cases decide ((gs.length : Int) > 60) <;> rfl
end Go.Ev.Clm
namespace Go.Ev.Clm
open Go Go.Ev Go.Proofs Go.RowKit Go.ChangeShapes Go.WideShapes
set_option maxRecDepth 1000000
set_option linter.unusedVariables false
section read
variable {H : Type} {enc : TypeId × Value → H} {W : World} {base : Nat}
theorem und3 : Try.prog.underlying 3 = some (.int .i64) := by kernel_rfl
theorem und22 : Try.prog.underlying 22 = some (.slice 3) := by kernel_rfl
theorem cells3 : Try.prog.cellsOf 3 = 1 := by kernel_rfl
theorem cells22 : Try.prog.cellsOf 22 = 1 := by kernel_rfl
theorem read_list {v : Value} {d : DataW H} {p : List MemPlace} (hv : Value.okWide Try.prog W .any base 22 v) (h : DataW.Trod enc Try.prog W 0 (fun _ => true) true 22 v d p) :
    ∃ l, (∀ L, Rel Try.prog (allOld W) W (lI l) L v) := by
  obtain ⟨fuel, h⟩ := h
  obtain ⟨a, len, cap, rfl⟩ := okWide_slice und22 hv
  obtain ⟨u, l, hu, hr, _⟩ := read_ints und22 und3 cells3 h
  simp [Value.cells] at hu
  subst hu
  exact ⟨l, hr⟩
theorem read_num {v : Value} {d : DataW H} {p : List MemPlace} (hv : Value.okWide Try.prog W .any base 3 v) (h : DataW.Trod enc Try.prog W 0 (fun _ => true) true 3 v d p) :
    ∃ n, v = .int .i64 n := by
  obtain ⟨n, rfl, _⟩ := open_int und3 hv h
  exact ⟨n, rfl⟩
theorem glob_ok {T : Tab} (hg : ∀ g, T.glob g = none) (W : World) : GlobOK T (allOld W) W := fun g c ty hc => by rw [hg] at hc; cases hc
end read
end Go.Ev.Clm
