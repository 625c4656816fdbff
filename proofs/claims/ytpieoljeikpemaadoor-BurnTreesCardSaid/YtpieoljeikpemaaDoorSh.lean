/- Roots, rows, and places that bar days: plain definitions. -/
import Derived.Test.YtpieoljeikpemaaDoorSp
set_option linter.unusedVariables false
set_option linter.unusedSimpArgs false
namespace Brn
open Go
end Brn
namespace Brn
open Go
set_option linter.unusedVariables false
variable {n : Int} {ws : W}
theorem has_near (h : Ok n ws) {a b : Nat} (ha : (a : Int) < n) (hb : (b : Int) < n) (k : Nat) : has (near n ws a (k : Int)) b = R (adjB ws) n.toNat k a b := by
  rw [h.near ha, Bool.eq_iff_iff, has_iff, mem_fil, Int.toNat_natCast]
  exact ⟨fun x => x.2, fun x => ⟨⟨by omega, hb⟩, x⟩⟩
theorem far_lt (h : Ok n ws) {a b : Nat} (ha : (a : Int) < n) (hb : (b : Int) < n) (k : Nat) : decide ((farN n ws a b : Int) < ((k + 1 : Nat) : Int)) = R (adjB ws) n.toNat k a b := by
  have hf := (h.far ha hb).2
  have hhi := h.hi
  rw [Bool.eq_iff_iff, decide_eq_true_eq]
  constructor
  · intro hlt
    have hx : (List.range 10).findIdx (fun (k : Nat) => has (near n ws a (k : Int)) b) < (List.range 10).length := by rw [List.length_range]; exact Nat.lt_of_lt_of_le hf (by omega)
    have := List.findIdx_getElem (w := hx)
    simp only [List.getElem_range] at this
    rw [show (List.range 10).findIdx (fun (k : Nat) => has (near n ws a (k : Int)) b) = farN n ws a b from rfl, has_near h ha hb] at this
    exact R_mono (by omega) this
  · intro hr
    by_cases hk : k < 10
    · refine Int.lt_of_not_ge fun hge => ?_
      have := List.not_of_lt_findIdx (xs := List.range 10) (p := fun (k : Nat) => has (near n ws a (k : Int)) b) (i := k) (show k < farN n ws a b by omega)
      simp only [List.getElem_range] at this
      rw [has_near h ha hb, hr] at this
      cases this
    · omega
/-! bits -/
end Brn
