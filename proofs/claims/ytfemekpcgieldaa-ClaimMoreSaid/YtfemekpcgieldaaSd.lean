/- What the laws ask of the houses, as booleans. -/
import Derived.Test.YtfemekpcgieldaaSc
import Derived.Test.YtfemekpcgieldaaSb
set_option linter.unusedVariables false
set_option linter.unusedSimpArgs false
namespace Clm
open Go
def dualB (cs a b : List Int) : Bool := decide (a.length = cs.length) && decide (b.length = cs.length) && sb a && sb b && (List.range cs.length).all fun (i : Nat) => at0 a i + at0 b i == 120 * at0 cs i
def splitB (cs c d : List Int) : Bool := decide (c.length = cs.length) && decide (d.length = cs.length) && sb d && (List.range cs.length).all fun (i : Nat) => at0 c i == 120 * at0 cs i + at0 d i
end Clm
namespace Clm
open Go
set_option linter.unusedVariables false
theorem half_at {w : Int} {cs : List Int} (h : OkW w cs) (hs : 2 * w = sumI cs) {i : Nat} (hi : i < cs.length) : at0 (capped (120 * w) (times 60 cs)) i = 60 * at0 cs i := by
  have hlo := h.lo
  have hhi := h.hi
  have L := h.lv (n := 60) (t := 120 * w) (.inl rfl) (by omega) ⟨2 * w, by omega⟩ (by omega)
  have hl := times_len 60 cs
  have S := sum_lt (a := capped (120 * w) (times 60 cs)) (b := times 60 cs) (by rw [L.len, hl]) fun j hj => by
    rw [L.len] at hj
    rw [L.gt j hj, times_at hj]
    omega
  have e : ¬ at0 (capped (120 * w) (times 60 cs)) i < 60 * at0 cs i := fun hlt => by
    have := S.2 ⟨i, by rw [L.len]; exact hi, by rw [times_at hi]; exact hlt⟩
    rw [L.sum, sum_times] at this
    omega
  have := L.gt i hi
  omega
theorem ok_rest {w : Int} {cs : List Int} (h : OkW w cs) : OkW (sumI cs - w) cs := ⟨h.ne, h.len, h.rng, by have := h.hi; omega, by have := h.lo; omega⟩
theorem rule_dual {w : Int} {cs : List Int} (h : OkW w cs) {i : Nat} (hi : i < cs.length) : at0 (divV w cs) i + at0 (divV (sumI cs - w) cs) i = 120 * at0 cs i := by
  have hr := ok_rest h
  have hl := times_len 120 cs
  have hlo := h.lo
  have hhi := h.hi
  rcases div_cases h with ⟨h1, e1⟩ | ⟨h1, e1⟩ <;> rcases div_cases hr with ⟨h2, e2⟩ | ⟨h2, e2⟩
  · have a := half_at h (by omega) hi
    have b := half_at hr (by omega) hi
    rw [e1, e2, a, b]
    omega
  · have L := h.lv (n := 60) (t := 120 * w) (.inl rfl) (by omega) ⟨2 * w, by omega⟩ (by omega)
    rw [e1, e2, show sumI cs - (sumI cs - w) = w by omega, at0_less (by omega) (by rw [L.len]; exact hi), times_at hi]
    omega
  · have L := h.lv (n := 60) (t := 120 * (sumI cs - w)) (.inl rfl) (by omega) ⟨2 * (sumI cs - w), by omega⟩ (by omega)
    rw [e1, e2, at0_less (by omega) (by rw [L.len]; exact hi), times_at hi]
    omega
  · omega
theorem gain_loss {w : Int} {cs : List Int} (h : OkW w cs) {i : Nat} (hi : i < cs.length) : at0 (gainV w cs) i + at0 (lossV (sumI cs - w) cs) i = 120 * at0 cs i := by
  have hr := ok_rest h
  have hl := times_len 120 cs
  have hlo := h.lo
  have hhi := h.hi
  have L := h.lv (n := 120) (t := 120 * w) (.inr rfl) (by omega) ⟨2 * w, by omega⟩ (by omega)
  rw [(gain_div h).2, (loss_div hr).2, show sumI cs - (sumI cs - w) = w by omega, at0_less (by omega) (by rw [L.len]; exact hi), times_at hi]
  omega
theorem avg_both {w : Int} {cs : List Int} (h : OkW w cs) {i : Nat} (hi : i < cs.length) : at0 (avgV w cs) i + at0 (avgV (sumI cs - w) cs) i = 120 * at0 cs i := by
  rw [(avg_div h).2, (avg_div (ok_rest h)).2, avgL_at hi, avgL_at hi]
  exact avg_dual h hi
theorem div_sb {w : Int} {cs gs : List Int} (ok : OkW w cs) (d : Div w cs gs) : sb gs = true := sb_of fun x hx => by
  obtain ⟨i, hi, rfl⟩ := List.getElem_of_mem hx
  have hg := d.g
  unfold okG at hg
  rw [List.all_eq_true] at hg
  have hl := d.len
  have m : (gs[i], cs[i]'(by omega)) ∈ gs.zip cs := by
    have : (gs.zip cs)[i]'(by simp; omega) = (gs[i], cs[i]'(by omega)) := List.getElem_zip
    rw [← this]; exact List.getElem_mem _
  have a := hg _ m
  have b := ok.rng (cs[i]'(by omega)) (List.getElem_mem _)
  simp only [inR, Bool.and_eq_true, decide_eq_true_eq] at a
  omega
theorem dualB_of {w u : Int} {cs a b : List Int} (h : OkW w cs) (hu : OkW u cs) (da : Div w cs a) (db : Div u cs b) (hs : ∀ i : Nat, i < cs.length → at0 a i + at0 b i = 120 * at0 cs i) : dualB cs a b = true := by
  unfold dualB
  rw [decide_eq_true da.len, decide_eq_true db.len, div_sb h da, div_sb hu db]
  simp only [Bool.true_and, List.all_eq_true, beq_iff_eq]
  exact fun i hi => hs i (List.mem_range.1 hi)
theorem times_two (n : Int) (cs : List Int) : times n (times 2 cs) = times (n * 2) cs := by
  unfold times
  rw [List.map_map]
  refine List.map_congr_left fun x _ => ?_
  show n * (2 * x) = n * 2 * x
  rw [Int.mul_assoc]
theorem qu_in {q : Qu} (h : q.Fit) {m : Int} (h1 : 1 ≤ m) : ∀ x ∈ quC q m, 1 ≤ x ∧ x ≤ m := fun x hx => by
  obtain ⟨y, hy, rfl⟩ := List.mem_map.1 hx
  have := tmod_in (h.c.2 y (List.mem_of_mem_take hy)).1 (show 0 < m by omega)
  omega
theorem ok_two {w v : Int} {cs : List Int} (h : OkW w cs) (hc : ∀ x ∈ cs, x ≤ 500) (h0 : 0 ≤ v) (h1 : v ≤ 2 * sumI cs) : OkW v (times 2 cs) :=
  ⟨h.times_ne 2, by rw [times_len]; exact h.len, fun x hx => by
    obtain ⟨y, hy, rfl⟩ := List.mem_map.1 hx
    have a := h.rng y hy
    have b := hc y hy
    omega, h0, by rw [sum_times]; exact h1⟩
theorem split_low {w : Int} {cs : List Int} (h : OkW w cs) (hc : ∀ x ∈ cs, x ≤ 500) : divV w (times 2 cs) = gainV w cs := by
  have hlo := h.lo
  have hhi := h.hi
  have k := ok_two h hc (v := w) (by omega) (by omega)
  rw [(gain_div h).2]
  rcases div_cases k with ⟨h1, e⟩ | ⟨h1, e⟩
  · rw [e, times_two]; rfl
  · rw [sum_times] at h1; omega
theorem split_high {w : Int} {cs : List Int} (h : OkW w cs) (hc : ∀ x ∈ cs, x ≤ 500) {i : Nat} (hi : i < cs.length) : at0 (divV (sumI cs + w) (times 2 cs)) i = 120 * at0 cs i + at0 (lossV w cs) i := by
  have hlo := h.lo
  have hhi := h.hi
  have k := ok_two h hc (v := sumI cs + w) (by omega) (by omega)
  have hl := times_len 120 cs
  have hl2 := times_len 2 cs
  have hl3 := times_len 120 (times 2 cs)
  have L := h.lv (n := 120) (t := 120 * (sumI cs - w)) (.inr rfl) (by omega) ⟨2 * (sumI cs - w), by omega⟩ (by omega)
  rw [(loss_div h).2, at0_less (by omega) (by rw [L.len]; exact hi), times_at hi]
  rcases div_cases k with ⟨h1, e⟩ | ⟨h1, e⟩
  · rw [sum_times] at h1
    have hw : w = 0 := by omega
    subst hw
    have a := half_at k (by rw [sum_times]; omega) (i := i) (by omega)
    rw [e, a, times_at hi]
    rw [times_two] at a
    simp only [Int.add_zero, Int.sub_zero] at a ⊢
    have a : at0 (capped (120 * sumI cs) (times 120 cs)) i = 60 * at0 (times 2 cs) i := a
    rw [a, times_at hi]
    omega
  · have e60 : times 60 (times 2 cs) = times 120 cs := times_two 60 cs
    rw [e, sum_times, show 2 * sumI cs - (sumI cs + w) = sumI cs - w by omega, e60, at0_less (by omega) (by rw [L.len]; exact hi), times_at (by omega), times_at hi]
    omega
end Clm
