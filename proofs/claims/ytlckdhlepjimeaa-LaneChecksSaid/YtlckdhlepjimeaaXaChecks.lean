/- LaneChecks: the body, walked. -/
import Derived.Test.YtlckdhlepjimeaaFc
import Derived.Test.YtlckdhlepjimeaaSg
import Derived.Test.YtlckdhlepjimeaaSe
import Derived.Test.YtlckdhlepjimeaaSb
import Derived.Test.YtlckdhlepjimeaaRs
set_option linter.unusedVariables false
set_option linter.unusedSimpArgs false
namespace Go.Ev.Lane
open Go Go.Ev
set_option maxRecDepth 1000000
set_option linter.unusedVariables false
set_option linter.unusedSimpArgs false
theorem Y10_ok : TabOK Y10 := by
  have h := Y9_ok
  have h := h.addCall (g := 35) (r := c35) fun a H v H' hv => by refine CallOK.tab ?_ ?_ (c35_run a H v H' hv) <;> rfl
  have h := h.addCall (g := 36) (r := c36) fun a H v H' hv => by refine CallOK.tab ?_ ?_ (c36_run a H v H' hv) <;> rfl
  have h := h.addCall (g := 32) (r := c32) fun a H v H' hv => by refine CallOK.tab ?_ ?_ (c32_run a H v H' hv) <;> rfl
  have h := h.addCall (g := 33) (r := c33) fun a H v H' hv => by refine CallOK.tab ?_ ?_ (c33_run a H v H' hv) <;> rfl
  have h := h.addCall (g := 20) (r := c20g) fun a H v H' hv => by refine CallOK.tab ?_ ?_ (c20g_run a H v H' hv) <;> rfl
  have h := h.addCall (g := 14) (r := c14) fun a H v H' hv => by refine CallOK.tab ?_ ?_ (c14_run a H v H' hv) <;> rfl
  exact h.addCall (g := 15) (r := cTrue) fun a H v H' hv => by refine CallOK.tab ?_ ?_ (cTrue_run a H v H' hv) <;> rfl
theorem ordL_len (a b : Int) (sh ya ti : List Int) (f : List (List Int)) : (Lan.ordL a b sh ya ti f).length ≤ f.length := by
  unfold Lan.ordL
  cases Lan.ordE a b sh ya ti f == 0 with
  | false => exact Nat.zero_le _
  | true =>
    have main : ∀ (f : List (List Int)) (i : Nat) (s : List Int), (Lan.errS (foldX (fun i s p => bif Lan.orErr a b sh ya ti i s p == 0 then .inr (s ++ [(Lan.idx ti (Lan.lastI p) : Int)]) else .inl (Lan.orErr a b sh ya ti i s p, i, s)) i f s)).length ≤ s.length + f.length := by
      intro f
      induction f with
      | nil => intro i s; exact Nat.le_refl _
      | cons x f ih =>
        intro i s
        simp only [foldX]
        cases Lan.orErr a b sh ya ti i s x == 0 with
        | false => simp only [cond_false, Lan.errS, List.length_cons]; omega
        | true =>
          have := ih (i + 1) (s ++ [(Lan.idx ti (Lan.lastI x) : Int)])
          simp only [List.length_append, List.length_singleton, List.length_cons, List.length_nil] at this ⊢
          simp only [cond_true]
          omega
    have := main f 0 []
    rw [List.length_nil, Nat.zero_add] at this
    exact this
theorem getD_len {f : List (List Int)} {K : Nat} (h : ∀ l ∈ f, l.length ≤ K) (i : Nat) : (f.getD i []).length ≤ K := by
  rcases Nat.lt_or_ge i f.length with hi | hi
  · exact h _ (List.mem_of_getElem? (getD_ln [] hi))
  · rw [List.getD_eq_getElem?_getD, List.getElem?_eq_none hi]; exact Nat.zero_le _
theorem swL_eqT {a b : Int} {sh ya ti : List Int} {f : List (List Int)} (hS : Lan.famS f = true) : Lan.eqT (Lan.swL a b sh ya ti f) (Lan.swL a b sh ya ti f) = true := by
  obtain ⟨h1, h2⟩ := famS_len hS
  unfold Lan.eqT
  have key : (sm (Lan.swL a b sh ya ti f) && (Lan.swL a b sh ya ti f).all fun l => sm l) = true := by
    unfold Lan.swL
    cases (Lan.ordE a b sh ya ti f == 0) && Lan.sL (Lan.swI f) with
    | false => rfl
    | true =>
      rw [cond_true, Bool.and_eq_true]
      refine ⟨decide_eq_true (by rw [swO_len]; omega), List.all_eq_true.2 fun l hl => decide_eq_true ?_⟩
      unfold Lan.swO at hl
      have g1 := getD_len h2
      rcases List.mem_or_eq_of_mem_set hl with hl | rfl
      · rcases List.mem_or_eq_of_mem_set hl with hl | rfl
        · have := h2 l hl; omega
        · have a1 := g1 (Lan.swi f).1
          have a2 := g1 (Lan.swi f).2.2
          simp only [List.length_append, List.length_take, List.length_drop]
          omega
      · have a1 := g1 (Lan.swi f).1
        have a2 := g1 (Lan.swi f).2.2
        simp only [List.length_append, List.length_take, List.length_drop]
        omega
  rw [key, decide_eq_true rfl]
  rfl
theorem checks_body (a b : Int) (sh ya ti : List Int) (f : List (List Int)) : evBody Y10 5 [aP a b sh, aX ya ti, lL f] [] = some (vb true, []) := by
  refine (nf5 ..).trans ?_
  cases hb : Lan.big sh ya ti with
  | true => rfl
  | false =>
    have hs := Lan.big_no hb
    cases hc : decide (20 < f.length) || Lan.crowd f with
    | true => rfl
    | false =>
      rw [Bool.or_eq_false_iff] at hc
      have h20 := of_decide_eq_false hc.1
      have hS : Lan.famS f = true := by
        unfold Lan.famS
        rw [Bool.and_eq_true, List.all_eq_true]
        refine ⟨decide_eq_true (by omega), fun l hl => decide_eq_true ?_⟩
        have := hc.2
        unfold Lan.crowd at this
        rw [List.any_eq_false] at this
        have := this l hl
        simp only [decide_eq_true_eq] at this
        omega
      obtain ⟨h4, h5⟩ := famS_sm hS
      have ho : sm (Lan.ordL a b sh ya ti f) = true := decide_eq_true (by have := ordL_len a b sh ya ti f; omega)
      have he := swL_eqT (a := a) (b := b) (sh := sh) (ya := ya) (ti := ti) hS
      simp only [cond_false, hs.1, hs.2.1, hs.2.2, h4, h5, hS, Bool.and_self, cond_true, ho, decide_true, beq_self_eq_true, he]
      cases Lan.swE a b sh ya ti f == 0 <;> rfl
end Go.Ev.Lane
namespace Go.Ev.Lane
open Go Go.Ev Go.Proofs Go.RowKit Go.ChangeShapes Go.WideShapes
set_option maxRecDepth 1000000
set_option linter.unusedVariables false
section read
variable {H : Type} {enc : TypeId × Value → H} {W : World} {base : Nat}
theorem und35 : Try.prog.underlying 35 = some (.slice 22) := by kernel_rfl
theorem read_family {v : Value} {d : DataW H} {p : List MemPlace} (hv : Value.okWide Try.prog W .any base 35 v) (h : DataW.Trod enc Try.prog W 0 (fun _ => true) true 35 v d p) :
    ∃ f, (∀ L, Rel Try.prog (allOld W) W (lL f) L v) := by
  obtain ⟨fuel, h⟩ := h
  obtain ⟨a, len, cap, rfl⟩ := okWide_slice und35 hv
  obtain ⟨u, l, hu, hr⟩ := read_lists und35 und22 und3 cells22 cells3 h
  simp [Value.cells] at hu
  subst hu
  exact ⟨l, hr⟩
end read
end Go.Ev.Lane
