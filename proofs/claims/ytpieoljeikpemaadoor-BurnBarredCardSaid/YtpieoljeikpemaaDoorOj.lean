/- Other numbers of the places: as many days, and as many lists of fires. -/
import Derived.Test.YtpieoljeikpemaaDoorOe
set_option linter.unusedVariables false
set_option linter.unusedSimpArgs false
namespace Brn
open Go
set_option linter.unusedVariables false
variable {n : Int} {ws : W}
structure Bij (m : Nat) (f g : Nat → Nat) : Prop where
  lt : ∀ i, i < m → f i < m
  ltg : ∀ i, i < m → g i < m
  gf : ∀ i, i < m → g (f i) = i
  fg : ∀ i, i < m → f (g i) = i
def ren (f : Nat → Nat) (w : Int × Int) : Int × Int := (min (f w.1.toNat : Int) (f w.2.toNat), max (f w.1.toNat : Int) (f w.2.toNat))
theorem way_mem {ws : W} {a b : Int} : way ws a b = true ↔ (a, b) ∈ ws := by
  unfold way
  rw [List.any_eq_true]
  constructor
  · rintro ⟨w, hw, h⟩
    have h' : w.1 = a ∧ w.2 = b := by simpa using h
    obtain ⟨x, y⟩ := w
    obtain ⟨rfl, rfl⟩ := h'
    exact hw
  · intro h; exact ⟨_, h, by simp⟩
theorem adj_iff {p q : Nat} : adjB ws p q = true ↔ ((p : Int), (q : Int)) ∈ ws ∨ ((q : Int), (p : Int)) ∈ ws := by
  unfold adjB
  rw [Bool.or_eq_true, way_mem, way_mem]
theorem enB_iff (h : Ok n ws) {fs : List Int} (hf : ∀ p ∈ fs, 0 ≤ p ∧ p < n) (h0 : 0 < fs.length) : enB n ws fs = true ↔ ∀ v : Nat, v < n.toNat → bSet (adjB ws) n.toNat fs (fs.length - 1) v = true := by
  have hlo := h.lo
  rw [← enough_enB h hf h0]
  unfold enoughD
  rw [List.all_eq_true]
  constructor
  · intro ha v hv
    rw [← enD_eq h hf h0 (by omega)]
    exact ha v (List.mem_range.2 hv)
  · intro ha v hv
    have hv := List.mem_range.1 hv
    rw [enD_eq h hf h0 (by omega)]
    exact ha v hv
theorem best_mem (h : Ok n ws) : headL (best n ws) ∈ sols n ws (dd n ws : Int) := by
  obtain ⟨_, _, h3, _⟩ := dd_spec h
  unfold best at *
  cases hb : sols n ws (dd n ws : Int) with
  | nil => exact absurd hb h3
  | cons x l => simp [headL]
theorem best_in (h : Ok n ws) : (∀ p ∈ headL (best n ws), 0 ≤ p ∧ p < n) ∧ (headL (best n ws)).length = dd n ws ∧ enB n ws (headL (best n ws)) = true := by
  have hm := best_mem h
  have hlo := h.lo
  unfold sols solsF at hm
  rw [List.mem_filter] at hm
  have hr := exts_rng hm.1
  exact ⟨fun p hp => by have := hr p hp; omega, head_len h, hm.2⟩
end Brn
