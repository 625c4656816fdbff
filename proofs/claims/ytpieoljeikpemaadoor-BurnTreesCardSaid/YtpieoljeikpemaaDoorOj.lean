/- Other numbers of the places: as many days, and as many lists of fires. -/
import Derived.Test.YtpieoljeikpemaaDoorOe
set_option linter.unusedVariables false
set_option linter.unusedSimpArgs false
namespace Brn
open Go
set_option linter.unusedVariables false
variable {n : Int} {ws : W}
structure Bij (m : Nat) (f g : Nat → Nat) : Prop where
  lt : ∀ i, i < m → f i < m
  ltg : ∀ i, i < m → g i < m
  gf : ∀ i, i < m → g (f i) = i
  fg : ∀ i, i < m → f (g i) = i
def ren (f : Nat → Nat) (w : Int × Int) : Int × Int := (min (f w.1.toNat : Int) (f w.2.toNat), max (f w.1.toNat : Int) (f w.2.toNat))
theorem way_mem {ws : W} {a b : Int} : way ws a b = true ↔ (a, b) ∈ ws := by
  unfold way
  rw [List.any_eq_true]
  constructor
  · rintro ⟨w, hw, h⟩
    have h' : w.1 = a ∧ w.2 = b := by simpa using h
    obtain ⟨x, y⟩ := w
    obtain ⟨rfl, rfl⟩ := h'
    exact hw
  · intro h; exact ⟨_, h, by simp⟩
theorem wayErr_iff {before : W} {w : Int × Int} : wayErr n before w = 0 ↔ good n w ∧ w ∉ before := by
  constructor
  · intro h
    unfold wayErr at h
    cases a : (!inR w.1 0 (n - 1) || !inR w.2 0 (n - 1)) with
    | true => rw [a] at h; cases h
    | false =>
      rw [a] at h
      simp only [cond_false] at h
      have a' : (0 ≤ w.1 ∧ w.1 ≤ n - 1) ∧ 0 ≤ w.2 ∧ w.2 ≤ n - 1 := by simpa [inR] using a
      cases b : decide (w.2 ≤ w.1) with
      | true => rw [b] at h; cases h
      | false =>
        rw [b] at h
        simp only [cond_false] at h
        have b' := of_decide_eq_false b
        cases c : way before w.1 w.2 with
        | true => rw [c] at h; cases h
        | false =>
          refine ⟨⟨by omega, by omega, by omega⟩, fun hm => ?_⟩
          rw [way_mem.2 hm] at c
          cases c
  · rintro ⟨hg, hn⟩
    refine wayErr_zero hg ?_
    cases c : way before w.1 w.2 with
    | false => rfl
    | true => exact absurd (way_mem.1 c) hn
theorem waysErr_iff : ∀ (k : Nat) (ws : W), ws.length = k → (waysErr n ws = 0 ↔ (∀ w ∈ ws, good n w) ∧ ws.Nodup)
  | 0, ws, h => by
    obtain rfl := List.length_eq_zero_iff.1 h
    exact ⟨fun _ => ⟨fun w hw => (by cases hw), List.nodup_nil⟩, fun _ => rfl⟩
  | k + 1, ws, h => by
    rcases List.eq_nil_or_concat ws with rfl | ⟨l, w, rfl⟩
    · cases h
    · have ih := waysErr_iff k l (by simpa using h)
      have e : l.concat w = l ++ [w] := by simp
      rw [e] at h ⊢
      rw [waysErr_snoc]
      cases hc : waysErr n l == 0 with
      | false =>
        have hc := beq_eq_false_iff_ne.1 hc
        simp only [cond_false]
        constructor
        · intro h0; exact absurd h0 hc
        · rintro ⟨h1, h2⟩
          exact absurd (ih.2 ⟨fun x hx => h1 x (by simp [hx]), (List.nodup_append.1 h2).1⟩) hc
      | true =>
        have hc := ih.1 (beq_iff_eq.1 hc)
        simp only [cond_true]
        rw [wayErr_iff, List.nodup_append]
        constructor
        · rintro ⟨h1, h2⟩
          refine ⟨fun x hx => ?_, hc.2, by simp, fun a ha b hb e9 => ?_⟩
          · rcases List.mem_append.1 hx with hx | hx
            · exact hc.1 x hx
            · rw [List.mem_singleton] at hx; subst hx; exact h1
          · rw [List.mem_singleton] at hb; subst hb; subst e9; exact h2 ha
        · rintro ⟨h1, h2, h3, h4⟩
          exact ⟨h1 w (by simp), fun hm => h4 w hm w (by simp) rfl⟩
theorem adj_iff {p q : Nat} : adjB ws p q = true ↔ ((p : Int), (q : Int)) ∈ ws ∨ ((q : Int), (p : Int)) ∈ ws := by
  unfold adjB
  rw [Bool.or_eq_true, way_mem, way_mem]
theorem chk_of (h : Ok n ws) : chk n ws = 0 := by
  have hlo := h.lo
  have hhi := h.hi
  have hf := h.few
  unfold chk
  rw [show inR n 1 9 = true by unfold inR; rw [decide_eq_true h.lo, decide_eq_true h.hi]; rfl, decide_eq_false (show ¬ 12 < ws.length by omega), h.ways]
  have e2 : near n ws 0 n = fil n (R (adjB ws) n.toNat n.toNat 0) := by
    unfold near
    rw [Int.min_self]
    exact nearK_fil h.good (a := 0) (by omega) _
  have : decide (((near n ws 0 n).length : Int) < n) = false := by
    rw [decide_eq_false_iff_not, e2]
    intro hlt
    obtain ⟨v, hv, hb⟩ := fil_len.1 hlt
    rw [h.all v hv] at hb; cases hb
  rw [this]
  rfl
theorem enB_iff (h : Ok n ws) {fs : List Int} (hf : ∀ p ∈ fs, 0 ≤ p ∧ p < n) (h0 : 0 < fs.length) : enB n ws fs = true ↔ ∀ v : Nat, v < n.toNat → bSet (adjB ws) n.toNat fs (fs.length - 1) v = true := by
  have hlo := h.lo
  rw [← enough_enB h hf h0]
  unfold enoughD
  rw [List.all_eq_true]
  constructor
  · intro ha v hv
    rw [← enD_eq h hf h0 (by omega)]
    exact ha v (List.mem_range.2 hv)
  · intro ha v hv
    have hv := List.mem_range.1 hv
    rw [enD_eq h hf h0 (by omega)]
    exact ha v hv
theorem best_mem (h : Ok n ws) : headL (best n ws) ∈ sols n ws (dd n ws : Int) := by
  obtain ⟨_, _, h3, _⟩ := dd_spec h
  unfold best at *
  cases hb : sols n ws (dd n ws : Int) with
  | nil => exact absurd hb h3
  | cons x l => simp [headL]
theorem best_in (h : Ok n ws) : (∀ p ∈ headL (best n ws), 0 ≤ p ∧ p < n) ∧ (headL (best n ws)).length = dd n ws ∧ enB n ws (headL (best n ws)) = true := by
  have hm := best_mem h
  have hlo := h.lo
  unfold sols solsF at hm
  rw [List.mem_filter] at hm
  have hr := exts_rng hm.1
  exact ⟨fun p hp => by have := hr p hp; omega, head_len h, hm.2⟩
end Brn
