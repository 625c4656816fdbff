/- Sets told apart with the same rest: the mathematics. -/
import Derived.Test.YtajhpbahjindkaaDoorNi
import Derived.Test.YtajhpbahjindkaaDoorRq
import Derived.Test.YtajhpbahjindkaaDoorNg
import Derived.Test.YtajhpbahjindkaaDoorRo
set_option linter.unusedVariables false
set_option linter.unusedSimpArgs false
namespace Rgg
open Go
theorem cb1 : ∀ p, p < 32 → ∀ t, t < 32 → ∀ i, i < 32 → dif p i = 0 → t &&& i = 0 → dif (p ||| t) i = t := by decide +kernel
theorem cb2 : ∀ b, b < 32 → ∀ i, i < 32 → dif (b &&& i) i = 0 ∧ (b &&& i) ||| dif b i = b ∧ (dif b i) &&& i = 0 := by decide +kernel
theorem cb3b : ∀ j, j < 32 → ∀ i, i < 32 → sub j i = true → dif j i = 0 := by decide +kernel
theorem full_bnd : ∀ k, k < 6 → ∀ s, s < 2 ^ k → dif (2 ^ k - 1) s < 2 ^ k := by decide +kernel
theorem sub_fl : ∀ k, k < 6 → ∀ n, n < 2 ^ k → ∀ t, t < 32 → sub t (dif (2 ^ k - 1) n) = (decide (t < 2 ^ k) && (t &&& n == 0)) := by decide +kernel
theorem dif_fl : ∀ k, k < 6 → ∀ n, n < 2 ^ k → ∀ c, c < 2 ^ k → c &&& dif (2 ^ k - 1) n = dif c n := by decide +kernel
theorem at_ot {l : List Bool} {q n : Nat} (hn : n < 32) : at_ (otF l q) n = (decide (n < q) && !at_ l n) := at_otF hn
theorem pow_le32 {k : Nat} (hk : k ≤ 5) : 2 ^ k ≤ 32 := Nat.pow_le_pow_right (n := 2) (by decide) hk
theorem cu_iff {n k i : Nat} (hk : k ≤ 5) (hi : i < 2 ^ k) : (!shB (otF (fB n) (2 ^ k)) (dif (2 ^ k - 1) i)) = cu2 n (2 ^ k) i (2 ^ k) := by
  have h32 := pow_le32 hk
  have hc := full_bnd k (by omega) i hi
  rw [Bool.eq_iff_iff, Bool.not_eq_true', ← Bool.not_eq_true, sh_iff (by omega)]
  unfold cu2
  rw [List.any_eq_true]
  constructor
  · intro h
    refine Classical.byContradiction fun hno => h fun t ht hst => ?_
    rw [sub_fl k (by omega) i hi t ht, Bool.and_eq_true, decide_eq_true_eq, beq_iff_eq] at hst
    have hx : cu3 n i t (2 ^ k) = false := by
      cases hh : cu3 n i t (2 ^ k) with
      | false => rfl
      | true => exact absurd ⟨t, List.mem_range.2 hst.1, by rw [hst.2, hh]; rfl⟩ hno
    unfold cu3 at hx
    rw [List.all_eq_false] at hx
    obtain ⟨p, hp, hpx⟩ := hx
    have hp := List.mem_range.1 hp
    rw [Bool.or_eq_true, not_or, bne_iff_ne] at hpx
    have hd : dif p i = 0 := Classical.byContradiction fun e => hpx.1 e
    have hb := cb1 p (by omega) t ht i (by omega) hd hst.2
    have hlt : p ||| t < 2 ^ k := Nat.or_lt_two_pow hp hst.1
    refine ⟨p ||| t, by omega, ?_, ?_⟩
    · rw [at_ot (by omega), decide_eq_true hlt, at_fB (by omega)]
      cases hh : n.testBit (p ||| t) with
      | false => rfl
      | true => exact absurd hh hpx.2
    · rw [dif_fl k (by omega) i hi _ hlt]; exact hb
  · rintro ⟨t, ht, hh⟩ h
    have ht := List.mem_range.1 ht
    rw [Bool.and_eq_true, beq_iff_eq] at hh
    obtain ⟨b, b1, b2, b3⟩ := h t (by omega) (by rw [sub_fl k (by omega) i hi t (by omega), decide_eq_true ht, hh.1]; rfl)
    rw [at_ot b1, Bool.and_eq_true, decide_eq_true_eq, at_fB b1] at b2
    rw [dif_fl k (by omega) i hi b b2.1] at b3
    obtain ⟨c1, c2, c3⟩ := cb2 b b1 i (by omega)
    have h2 := hh.2
    unfold cu3 at h2
    rw [List.all_eq_true] at h2
    have := h2 (b &&& i) (List.mem_range.2 (Nat.lt_of_le_of_lt Nat.and_le_left b2.1))
    rw [c1, ← b3, c2] at this
    have hb := b2.2
    rw [Bool.not_eq_true'] at hb
    rw [hb] at this
    exact absurd this (by decide)
theorem len_ord {K : Int} (h1 : 1 ≤ K) (h5 : K ≤ 5) (p : Nat → Bool) : (wrt K p).length = ((List.range (2 ^ K.toNat)).filter p).length := by
  rw [srt_upTo h1 h5, List.length_map]
  exact (((ord_perm K.toNat (by omega) (by omega)).filter p).length_eq).symm
end Rgg
