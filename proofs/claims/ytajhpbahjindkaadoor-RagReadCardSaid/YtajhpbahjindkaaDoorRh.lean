/- Bags by letters and bags by bits answer alike. -/
import Derived.Test.YtajhpbahjindkaaDoorRg
import Derived.Test.YtajhpbahjindkaaDoorRd
import Derived.Test.YtajhpbahjindkaaDoorRf
set_option linter.unusedVariables false
set_option linter.unusedSimpArgs false
namespace Rgg
open Go
def wl (n L : Nat) : List UInt8 := ((List.range 5).filter fun k => decide (L ≤ k) && n.testBit k).map fun k => UInt8.ofNat (97 + k)
theorem wl_zero : ∀ n, n < 32 → wl n 0 = wordL n := by decide +kernel
theorem wl_end : ∀ L, L ≤ 5 → ∀ out, out < 32 → out < 2 ^ L → wl out L = [] := by decide +kernel
set_option synthInstance.maxHeartbeats 400000 in
set_option synthInstance.maxSize 100000 in
theorem wl_step : ∀ n, n < 32 → ∀ k, k < 5 → ∀ L, L ≤ k → ∀ out, out < 16 → out < 2 ^ L → n % 2 ^ (k + 1) = out ||| 2 ^ k → n % 2 ^ L = out ∧ UInt8.ofNat (97 + k) :: wl n (k + 1) = wl n L := by decide +kernel
theorem or_bnd : ∀ k, k < 5 → ∀ L, L ≤ k → ∀ out, out < 16 → out < 2 ^ L → out ||| 2 ^ k < 2 ^ (k + 1) := by decide +kernel
theorem rdS_word {K : Int} (h1 : 1 ≤ K) (hK : K ≤ 5) : ∀ (l : List UInt8) (L out n : Nat), L ≤ 5 → out < 2 ^ L → (L : Int) ≤ K → rdS K l ((L : Int) - 1) out = .inr n → n < 32 ∧ n < 2 ^ K.toNat ∧ n % 2 ^ L = out ∧ l = wl n L
  | [], L, out, n, hL, ho, hLK, e => by
    cases e
    have : out < 32 := Nat.lt_of_lt_of_le ho (Nat.pow_le_pow_right (n := 2) (by decide) hL)
    exact ⟨this, Nat.lt_of_lt_of_le ho (Nat.pow_le_pow_right (by decide) (by omega)), Nat.mod_eq_of_lt ho, (wl_end L hL out this ho).symm⟩
  | c :: l, L, out, n, hL, ho, hLK, e => by
    unfold rdS at e
    cases h1' : decide ((c.toNat : Int) - 97 < 0) || decide (K ≤ (c.toNat : Int) - 97) with
    | true => rw [h1'] at e; cases e
    | false =>
      rw [h1', cond_false] at e
      cases h2 : decide ((c.toNat : Int) - 97 ≤ (L : Int) - 1) with
      | true => rw [h2] at e; cases e
      | false =>
        rw [h2, cond_false] at e
        rw [Bool.or_eq_false_iff, decide_eq_false_iff_not, decide_eq_false_iff_not] at h1'
        have h2 := of_decide_eq_false h2
        have hc : (c.toNat : Int) - 97 = ((c.toNat - 97 + 1 : Nat) : Int) - 1 := by omega
        have hLk : L ≤ c.toNat - 97 := by omega
        have hk : c.toNat - 97 < 5 := by omega
        have ho16 : out < 16 := Nat.lt_of_lt_of_le ho (Nat.pow_le_pow_right (n := 2) (i := L) (j := 4) (by decide) (by omega))
        rw [hc] at e
        obtain ⟨a1, a2, a3, a4⟩ := rdS_word h1 hK l (c.toNat - 97 + 1) _ n (by omega) (or_bnd _ hk L hLk out ho16 ho) (by omega) e
        obtain ⟨b1, b2⟩ := wl_step n a1 _ hk L hLk out ho16 ho a3
        refine ⟨a1, a2, b1, ?_⟩
        rw [← b2, ← a4]
        congr 1
        apply UInt8.toNat_inj.1
        have : c.toNat < 256 := UInt8.toNat_lt c
        rw [UInt8.toNat_ofNat', Nat.mod_eq_of_lt (by omega)]; omega
theorem rd_word {K : Int} (h1 : 1 ≤ K) (hK : K ≤ 5) {s : ByteArray} {n : Nat} (h : rd K s = .inr n) : n < 32 ∧ n < 2 ^ K.toNat ∧ s = word n := by
  obtain ⟨a, b, _, d⟩ := rdS_word h1 hK (bts s) 0 0 n (by omega) (by decide) (by omega) h
  refine ⟨a, b, ?_⟩
  rw [wl_zero n a] at d
  apply ByteArray.ext
  apply Array.ext'
  exact d
theorem rdS_err {K : Int} : ∀ (l : List UInt8) (last : Int) (out : Nat) (e : Int), rdS K l last out = .inl e → e ≠ 0
  | [], _, _, _, h => by cases h
  | c :: l, last, out, e, h => by
    unfold rdS at h
    cases h1 : decide ((c.toNat : Int) - 97 < 0) || decide (K ≤ (c.toNat : Int) - 97) with
    | true => rw [h1] at h; cases h; decide
    | false =>
      rw [h1, cond_false] at h
      cases h2 : decide ((c.toNat : Int) - 97 ≤ last) with
      | true => rw [h2] at h; cases h; decide
      | false => rw [h2, cond_false] at h; exact rdS_err l _ _ e h
theorem rd_cases {K : Int} (h1 : 1 ≤ K) (hK : K ≤ 5) (s : ByteArray) : (rdE (rd K s) ≠ 0) ∨ (rdE (rd K s) = 0 ∧ rdV (rd K s) < 32 ∧ rdV (rd K s) < 2 ^ K.toNat ∧ s = word (rdV (rd K s))) := by
  cases h : rd K s with
  | inl e => exact .inl (rdS_err _ _ _ e h)
  | inr n => exact .inr ⟨rfl, rd_word h1 hK h⟩
theorem word_inj : ∀ n, n < 32 → ∀ m, m < 32 → (word n == word m) = decide (n = m) := by decide +kernel
end Rgg
namespace Rgg
open Go
theorem at_set' {l : List Bool} {n m : Nat} (hn : n < l.length) (v : Bool) : at_ (l.set n v) m = if n = m then v else at_ l m := by
  unfold at_
  rw [List.getD_eq_getElem?_getD, List.getD_eq_getElem?_getD, List.getElem?_set]
  by_cases h : n = m
  · subst h; rw [if_pos rfl, if_pos hn, if_pos rfl]; rfl
  · rw [if_neg h, if_neg h]
theorem at_trF {l : List Bool} {s : Nat} (hs : s < 32) : ∀ i, i ≤ 32 → ∀ n, n < 32 → at_ (trF l s i) n = (List.range i).any fun b => at_ l b && (b &&& s == n)
  | 0, _, n, hn => by
    show at_ (List.replicate 32 false) n = _
    unfold at_
    rw [List.getD_eq_getElem?_getD, List.getElem?_replicate, if_pos hn]; rfl
  | i + 1, hi, n, hn => by
    have ih := at_trF (l := l) hs i (by omega)
    have hlt := and_lt i (by omega) s hs
    rw [trF_succ, at_set' (by rw [trF_len]; exact hlt), List.range_succ, List.any_append, ← ih n hn]
    by_cases h : i &&& s = n
    · rw [if_pos h, h]; simp [h]
    · rw [if_neg h]; simp [h]
end Rgg
