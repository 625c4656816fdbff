/- One more than a division; less houses. -/
import Derived.Test.YtfemekpcgieldaaSd
import Derived.Test.YtfemekpcgieldaaSb
set_option linter.unusedVariables false
set_option linter.unusedSimpArgs false
namespace Clm
open Go
set_option linter.unusedVariables false
theorem more_val {w : Int} {cs gs : List Int} (h : OkW w cs) (d : Div w cs gs) : validV w cs (gs.set 0 (at0 gs 0 + 1)) = bif decide (at0 gs 0 + 1 > 120 * at0 cs 0) then 1 else 17 := by
  have hl := d.len
  have ne := h.ne
  cases cs with
  | nil => exact absurd rfl ne
  | cons c cs =>
    cases gs with
    | nil => simp at hl
    | cons g gs =>
      have hg := d.g
      unfold okG at hg
      rw [List.zip_cons_cons, List.all_cons, Bool.and_eq_true] at hg
      have hi := inR_iff.1 hg.1
      have hs := d.sum
      rw [sumI_cons] at hs
      simp only at hi
      show validV w (c :: cs) ((g + 1) :: gs) = bif decide (g + 1 > 120 * c) then 1 else 17
      unfold validV
      have e : okG (c :: cs) ((g + 1) :: gs) = inR (g + 1) 0 (120 * c) := by
        unfold okG
        rw [List.zip_cons_cons, List.all_cons, hg.2, Bool.and_true]
      rw [ok_iff h, decide_eq_true (show ((g + 1) :: gs).length = (c :: cs).length by simpa using hl), e, sumI_cons]
      have e2 : (g + 1 + sumI gs == 120 * w) = false := beq_eq_false_iff_ne.2 (by omega)
      rw [e2]
      cases hc : decide (g + 1 > 120 * c) with
      | true =>
        have hc := of_decide_eq_true hc
        have e3 : inR (g + 1) 0 (120 * c) = false := by
          rw [Bool.eq_false_iff]
          intro h3
          have := inR_iff.1 h3
          omega
        rw [e3]; rfl
      | false =>
        have hc := of_decide_eq_false hc
        have e3 : inR (g + 1) 0 (120 * c) = true := inR_iff.2 (by omega)
        rw [e3]; rfl
theorem less_val {w : Int} {cs gs : List Int} (h : OkW w cs) (hl : gs.length ≠ cs.length) : validV w cs gs = 5 := by
  unfold validV
  rw [ok_iff h, decide_eq_false hl]; rfl
theorem prov_val {w : Int} {cs gs : List Int} (hv : validV w cs gs = 0) {i j : Nat} (hi : i < cs.length) (hj : j < cs.length) : provV w cs gs i j = bif (i : Int) == (j : Int) then 6 else bif apartV cs gs i j then 0 else 14 := by
  unfold provV
  have e1 : inR (i : Int) 0 ((cs.length : Int) - 1) = true := inR_iff.2 (by omega)
  have e2 : inR (j : Int) 0 ((cs.length : Int) - 1) = true := inR_iff.2 (by omega)
  rw [hv, e1, e2]
  rfl
theorem prov_none {w : Int} {cs gs : List Int} (hv : validV w cs gs = 0) : provV w cs gs 0 (cs.length : Int) = 2 := by
  unfold provV
  have e2 : inR (cs.length : Int) 0 ((cs.length : Int) - 1) = false := by
    rw [Bool.eq_false_iff]
    intro h3
    have := inR_iff.1 h3
    omega
  rw [hv, e2]
  simp
end Clm
namespace Clm
open Go
set_option linter.unusedVariables false
def maxI (l : List Int) : Int := l.foldl max (at0 l 0)
def minI (l : List Int) : Int := l.foldl min (at0 l 0)
def lossL (cs l : List Int) : List Int := (List.range l.length).map fun (i : Nat) => 120 * at0 cs i - at0 l i
def mostI (cs l : List Int) : Int := (lossL cs l).foldl max 0
def bestB (cs a b : List Int) (g m : Int) : Bool := (List.range cs.length).all fun (i : Nat) => (at0 a i == min g (120 * at0 cs i)) && (120 * at0 cs i - at0 b i == min m (120 * at0 cs i))
end Clm
namespace Clm
open Go
set_option linter.unusedVariables false
theorem fold_max : ∀ (l : List Int) (s : Int), s ≤ l.foldl max s ∧ (∀ x ∈ l, x ≤ l.foldl max s) ∧ (l.foldl max s = s ∨ l.foldl max s ∈ l)
  | [], s => ⟨Int.le_refl _, fun x hx => (by cases hx), .inl rfl⟩
  | x :: l, s => by
    rw [List.foldl_cons]
    obtain ⟨a, b, c⟩ := fold_max l (max s x)
    generalize l.foldl max (max s x) = m at *
    refine ⟨by omega, fun y hy => ?_, ?_⟩
    · rcases List.mem_cons.1 hy with rfl | h
      · omega
      · exact b y h
    · rcases c with c | c
      · rcases Int.le_total x s with h | h
        · exact .inl (by omega)
        · exact .inr (by rw [show m = x by omega]; simp)
      · exact .inr (by simp [c])
theorem fold_min : ∀ (l : List Int) (s : Int), l.foldl min s ≤ s ∧ (∀ x ∈ l, l.foldl min s ≤ x) ∧ (l.foldl min s = s ∨ l.foldl min s ∈ l)
  | [], s => ⟨Int.le_refl _, fun x hx => (by cases hx), .inl rfl⟩
  | x :: l, s => by
    rw [List.foldl_cons]
    obtain ⟨a, b, c⟩ := fold_min l (min s x)
    generalize l.foldl min (min s x) = m at *
    refine ⟨by omega, fun y hy => ?_, ?_⟩
    · rcases List.mem_cons.1 hy with rfl | h
      · omega
      · exact b y h
    · rcases c with c | c
      · rcases Int.le_total s x with h | h
        · exact .inl (by omega)
        · exact .inr (by rw [show m = x by omega]; simp)
      · exact .inr (by simp [c])
theorem at_mem {l : List Int} {i : Nat} (hi : i < l.length) : at0 l i ∈ l := by rw [at0_lt hi]; exact List.getElem_mem hi
theorem mem_at {l : List Int} {x : Int} (h : x ∈ l) : ∃ i : Nat, i < l.length ∧ at0 l i = x := by
  obtain ⟨i, hi, rfl⟩ := List.getElem_of_mem h
  exact ⟨i, hi, at0_lt hi⟩
theorem maxI_at {l : List Int} (h : 1 ≤ l.length) : (∀ i : Nat, i < l.length → at0 l i ≤ maxI l) ∧ ∃ i : Nat, i < l.length ∧ at0 l i = maxI l := by
  obtain ⟨a, b, c⟩ := fold_max l (at0 l 0)
  refine ⟨fun i hi => b _ (at_mem hi), ?_⟩
  rcases c with c | c
  · exact ⟨0, by omega, c.symm⟩
  · exact mem_at c
theorem minI_at {l : List Int} (h : 1 ≤ l.length) : (∀ i : Nat, i < l.length → minI l ≤ at0 l i) ∧ ∃ i : Nat, i < l.length ∧ at0 l i = minI l := by
  obtain ⟨a, b, c⟩ := fold_min l (at0 l 0)
  refine ⟨fun i hi => b _ (at_mem hi), ?_⟩
  rcases c with c | c
  · exact ⟨0, by omega, c.symm⟩
  · exact mem_at c
theorem loss_at {cs l : List Int} {i : Nat} (hi : i < l.length) : (lossL cs l)[i]? = some (120 * at0 cs i - at0 l i) := map_get hi
theorem loss_len (cs l : List Int) : (lossL cs l).length = l.length := by simp [lossL]
theorem mostI_at (cs l : List Int) : 0 ≤ mostI cs l ∧ (∀ i : Nat, i < l.length → 120 * at0 cs i - at0 l i ≤ mostI cs l) ∧ (mostI cs l = 0 ∨ ∃ i : Nat, i < l.length ∧ 120 * at0 cs i - at0 l i = mostI cs l) := by
  obtain ⟨a, b, c⟩ := fold_max (lossL cs l) 0
  refine ⟨a, fun i hi => b _ (List.mem_of_getElem? (loss_at hi)), ?_⟩
  rcases c with c | c
  · exact .inl c
  · obtain ⟨i, hi, e⟩ := List.getElem_of_mem c
    rw [loss_len] at hi
    have := loss_at (cs := cs) hi
    rw [List.getElem?_eq_getElem (by rw [loss_len]; exact hi), e] at this
    exact .inr ⟨i, hi, (Option.some.inj this).symm⟩
theorem gain_lv {w : Int} {cs : List Int} (h : OkW w cs) : ∃ L : Int, 0 ≤ L ∧ (∀ i : Nat, i < cs.length → at0 (gainV w cs) i = min L (120 * at0 cs i)) ∧ ∃ i : Nat, i < cs.length ∧ L ≤ 120 * at0 cs i := by
  have hlo := h.lo
  have hhi := h.hi
  have L := h.lv (n := 120) (t := 120 * w) (.inr rfl) (by omega) ⟨2 * w, by omega⟩ (by omega)
  rw [(gain_div h).2]
  exact ⟨_, L.nn, L.gt, L.ex⟩
theorem loss_lv {w : Int} {cs : List Int} (h : OkW w cs) : ∃ L : Int, 0 ≤ L ∧ (∀ i : Nat, i < cs.length → 120 * at0 cs i - at0 (lossV w cs) i = min L (120 * at0 cs i)) ∧ ∃ i : Nat, i < cs.length ∧ L ≤ 120 * at0 cs i := by
  have hlo := h.lo
  have hhi := h.hi
  have hl := times_len 120 cs
  have L := h.lv (n := 120) (t := 120 * (sumI cs - w)) (.inr rfl) (by omega) ⟨2 * (sumI cs - w), by omega⟩ (by omega)
  rw [(loss_div h).2]
  refine ⟨_, L.nn, fun i hi => ?_, L.ex⟩
  rw [at0_less (by omega) (by rw [L.len]; exact hi), times_at hi, ← L.gt i hi]
  omega
theorem ok_ne {w : Int} {cs : List Int} (h : OkW w cs) : 1 ≤ cs.length := by
  have := h.ne
  cases cs with
  | nil => exact absurd rfl this
  | cons _ _ => simp
theorem max_gain {w : Int} {cs : List Int} (h : OkW w cs) : ∀ i : Nat, i < cs.length → at0 (gainV w cs) i = min (maxI (gainV w cs)) (120 * at0 cs i) := by
  obtain ⟨L, h0, h1, j, hj, h2⟩ := gain_lv h
  have hl := (gain_div h).1.len
  obtain ⟨a, k, hk, b⟩ := maxI_at (l := gainV w cs) (by rw [hl]; exact ok_ne h)
  have e : maxI (gainV w cs) = L := by
    have x := a j (by omega)
    rw [h1 j hj] at x
    rw [h1 k (by omega)] at b
    omega
  rw [e]
  exact h1
theorem max_loss {w : Int} {cs : List Int} (h : OkW w cs) : (∀ i : Nat, i < cs.length → 120 * at0 cs i - at0 (lossV w cs) i = min (mostI cs (lossV w cs)) (120 * at0 cs i)) ∧ ∃ i : Nat, i < cs.length ∧ mostI cs (lossV w cs) ≤ 120 * at0 cs i := by
  obtain ⟨L, h0, h1, j, hj, h2⟩ := loss_lv h
  have hl := (loss_div h).1.len
  obtain ⟨a, b, c⟩ := mostI_at cs (lossV w cs)
  have e : mostI cs (lossV w cs) = L := by
    have x := b j (by omega)
    rw [h1 j hj] at x
    rcases c with c | ⟨k, hk, c⟩
    · omega
    · rw [h1 k (by omega)] at c
      omega
  rw [e]
  exact ⟨h1, j, hj, h2⟩
theorem div_at {w : Int} {cs gs : List Int} (d : Div w cs gs) {i : Nat} (hi : i < cs.length) : 0 ≤ at0 gs i ∧ at0 gs i ≤ 120 * at0 cs i := by
  have hl := d.len
  have hg := d.g
  unfold okG at hg
  rw [List.all_eq_true] at hg
  have e1 : gs[i]? = some (at0 gs i) := by rw [at0_lt (by omega)]; exact List.getElem?_eq_getElem (by omega)
  have e2 : cs[i]? = some (at0 cs i) := by rw [at0_lt hi]; exact List.getElem?_eq_getElem hi
  have := hg _ (List.mem_of_getElem? ((List.getElem?_zip_eq_some (z := (at0 gs i, at0 cs i))).2 ⟨e1, e2⟩))
  simpa [inR] using this
theorem best_gain {w : Int} {cs gs : List Int} (h : OkW w cs) (d : Div w cs gs) : minI gs ≤ minI (gainV w cs) := by
  obtain ⟨L, h0, h1, j, hj, h2⟩ := gain_lv h
  have da := (gain_div h).1
  have hl := da.len
  have hg := d.len
  have hne := ok_ne h
  obtain ⟨a, k, hk, b⟩ := minI_at (l := gainV w cs) (by omega)
  obtain ⟨c, _⟩ := minI_at (l := gs) (by omega)
  rcases Int.lt_or_le (minI (gainV w cs)) (minI gs) with hlt | hle
  · exfalso
    have S := sum_lt (a := gainV w cs) (b := gs) (by omega) fun i hi => by
      have x := h1 i (by omega)
      have y := c i (by omega)
      have z := h1 k (by omega)
      have u := c k (by omega)
      have v := div_at d (i := k) (by omega)
      omega
    have := S.2 ⟨k, hk, by have u := c k (by omega); omega⟩
    rw [da.sum, d.sum] at this
    omega
  · exact hle
theorem best_loss {w : Int} {cs gs : List Int} (h : OkW w cs) (d : Div w cs gs) : mostI cs (lossV w cs) ≤ mostI cs gs := by
  obtain ⟨h1, j, hj, h2⟩ := max_loss h
  have db := (loss_div h).1
  have hl := db.len
  have hg := d.len
  obtain ⟨a, b, c⟩ := mostI_at cs gs
  rcases Int.lt_or_le (mostI cs gs) (mostI cs (lossV w cs)) with hlt | hle
  · exfalso
    have S := sum_lt (a := lossV w cs) (b := gs) (by omega) fun i hi => by
      have x := h1 i (by omega)
      have y := b i (by omega)
      have z := div_at d (i := i) (by omega)
      omega
    have := S.2 ⟨j, by omega, by
      have x := h1 j hj
      have y := b j (by omega)
      omega⟩
    rw [db.sum, d.sum] at this
    omega
  · exact hle
theorem best_ok {w : Int} {cs : List Int} (h : OkW w cs) : bestB cs (gainV w cs) (lossV w cs) (maxI (gainV w cs)) (mostI cs (lossV w cs)) = true := by
  unfold bestB
  simp only [Bool.and_eq_true, List.all_eq_true, beq_iff_eq]
  exact fun i hi => ⟨max_gain h i (List.mem_range.1 hi), (max_loss h).1 i (List.mem_range.1 hi)⟩
end Clm
