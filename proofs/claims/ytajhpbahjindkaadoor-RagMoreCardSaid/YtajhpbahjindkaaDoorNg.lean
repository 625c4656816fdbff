/- Sets that are told apart, and lowered bags: the mathematics. -/
import Derived.Test.YtajhpbahjindkaaDoorNd
set_option linter.unusedVariables false
set_option linter.unusedSimpArgs false
namespace Rgg
open Go
def shB (l : List Bool) (s : Nat) : Bool := (List.range 32).all fun i => !sub i s || at_ (tr l s) i
theorem tr_any {l : List Bool} {s i : Nat} (hs : s < 32) (hi : i < 32) : at_ (tr l s) i = (List.range 32).any fun b => at_ l b && (b &&& s == i) := by
  unfold tr
  exact at_trF hs 32 (Nat.le_refl _) i hi
theorem sh_iff {l : List Bool} {s : Nat} (hs : s < 32) : shB l s = true ↔ ∀ i, i < 32 → sub i s = true → ∃ b, b < 32 ∧ at_ l b = true ∧ b &&& s = i := by
  unfold shB
  rw [List.all_eq_true]
  constructor
  · intro h i hi hb
    have := h i (List.mem_range.2 hi)
    rw [hb, Bool.not_true, Bool.false_or, tr_any hs hi, List.any_eq_true] at this
    obtain ⟨b, hb, hh⟩ := this
    rw [Bool.and_eq_true, beq_iff_eq] at hh
    exact ⟨b, List.mem_range.1 hb, hh.1, hh.2⟩
  · intro h i hi
    have hi := List.mem_range.1 hi
    cases hb : sub i s with
    | false => rfl
    | true =>
      obtain ⟨b, h1, h2, h3⟩ := h i hi hb
      rw [Bool.not_true, Bool.false_or, tr_any hs hi, List.any_eq_true]
      exact ⟨b, List.mem_range.2 h1, by rw [h2, h3, beq_self_eq_true]; rfl⟩
theorem sh_miss {K : Int} (h1 : 1 ≤ K) (h5 : K ≤ 5) {l : List Bool} {s : Nat} (hs : s < 2 ^ K.toNat) : (miss K l s).isEmpty = shB l s := by
  have h2 := (two_k h1 h5).2
  rw [ms_words h1 h5, List.isEmpty_map, Bool.eq_iff_iff, List.isEmpty_iff, List.filter_eq_nil_iff]
  unfold shB
  rw [List.all_eq_true]
  constructor
  · intro h i hi
    have hi := List.mem_range.1 hi
    cases hb : sub i s with
    | false => rfl
    | true =>
      have := h i (ord_all K.toNat (by omega) (by omega) i (sub_le K.toNat (by omega) s hs i hi hb))
      rw [hb, Bool.true_and] at this
      cases ha : at_ (tr l s) i with
      | true => rfl
      | false => rw [ha] at this; exact absurd rfl this
  · intro h i hi e
    have := h i (List.mem_range.2 (ord_lt K.toNat (by omega) i hi))
    rw [Bool.and_eq_true] at e
    rw [e.1, Bool.not_true, Bool.false_or] at this
    rw [this] at e
    exact absurd e.2 (by decide)
end Rgg
