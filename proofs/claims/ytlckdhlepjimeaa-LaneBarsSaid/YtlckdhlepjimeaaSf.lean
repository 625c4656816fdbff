/- Counts and ways: the plain law. -/
import Derived.Test.YtlckdhlepjimeaaSc
set_option linter.unusedVariables false
set_option linter.unusedSimpArgs false
namespace Lan
open Go
def S (F : Nat → Nat) : Nat → Nat
  | 0 => 0
  | f + 1 => S F f + F f
theorem S_congr {F G : Nat → Nat} : ∀ f, (∀ k, k < f → F k = G k) → S F f = S G f
  | 0, _ => rfl
  | f + 1, h => by rw [S, S, S_congr f fun k hk => h k (by omega), h f (by omega)]
theorem S_zero {F : Nat → Nat} : ∀ f, (∀ k, k < f → F k = 0) → S F f = 0
  | 0, _ => rfl
  | f + 1, h => by rw [S, S_zero f fun k hk => h k (by omega), h f (by omega)]
theorem sum2 (F : Nat → Nat) (c : Nat) (h : ∀ k, k ≠ 0 → k ≠ c → F k = 0) : ∀ f, S F f = (if 0 < f then F 0 else 0) + (if c ≠ 0 ∧ c < f then F c else 0)
  | 0 => by simp [S]
  | f + 1 => by
    rw [S, sum2 F c h f]
    by_cases h0 : f = 0
    · subst h0
      simp
    · by_cases hc : f = c
      · subst hc
        have h2 : f ≠ 0 ∧ f < f + 1 := by omega
        have h3 : 0 < f := by omega
        simp [h2, h3]
      · have h3 : 0 < f := by omega
        rw [h f h0 hc, if_pos h3, if_pos (show 0 < f + 1 by omega), Nat.add_zero]
        by_cases h4 : c ≠ 0 ∧ c < f
        · rw [if_pos h4, if_pos (show c ≠ 0 ∧ c < f + 1 by omega)]
        · rw [if_neg h4, if_neg (show ¬ (c ≠ 0 ∧ c < f + 1) by omega)]
theorem flat_len (g : Nat → List (List Int)) : ∀ f, ((List.range f).flatMap g).length = S (fun k => (g k).length) f
  | 0 => rfl
  | f + 1 => by
    rw [List.range_succ, List.flatMap_append, List.length_append, flat_len g f, S]
    simp
theorem wF_last (b to : Int) (sh : List Int) : ∀ (n f : Nat), f ≤ n → ∀ l l', lastI l = lastI l' → (wF b to sh f l).length = (wF b to sh f l').length
  | n, 0, _, l, l', _ => by rw [wF, wF]
  | 0, f + 1, h, _, _, _ => by omega
  | n + 1, f + 1, h, l, l', e => by
    rw [wF_succ, wF_succ, e]
    cases has sh (lastI l') with
    | true => rfl
    | false =>
      simp only [cond_false]
      unfold wN wB
      rw [List.length_append, List.length_append, flat_len, flat_len, e]
      congr 1
      · cases lastI l' == to <;> rfl
      · refine S_congr f fun k hk => ?_
        cases stepR b (lastI l') (lastI l' + 1 + k) with
        | false => rfl
        | true => exact wF_last b to sh n (f - k) (by omega) _ _ (by rw [last_snoc, last_snoc])
def g (a b to : Int) (sh : List Int) (x : Int) : Nat := (wF b to sh (a * b - x).toNat [x]).length
theorem g_out {a b to x : Int} {sh : List Int} (h : a * b ≤ x) : g a b to sh x = 0 := by
  unfold g
  rw [show (a * b - x).toNat = 0 by omega, wF]; rfl
theorem g_rec {a b to x : Int} {sh : List Int} (h : x < a * b) : g a b to sh x = bif has sh x then 0 else (bif x == to then 1 else 0) + S (fun k => bif stepR b x (x + 1 + k) then g a b to sh (x + 1 + k) else 0) (a * b - x - 1).toNat := by
  obtain ⟨f, hf⟩ : ∃ f : Nat, (a * b - x - 1).toNat = f := ⟨_, rfl⟩
  rw [hf]
  have e : g a b to sh x = (wF b to sh (f + 1) [x]).length := by unfold g; rw [show (a * b - x).toNat = f + 1 by omega]
  rw [e, wF_succ]
  show (bif has sh x then [] else wN b to sh f [x] f).length = _
  cases has sh x with
  | true => rfl
  | false =>
    rw [cond_false, cond_false]
    unfold wN wB
    rw [List.length_append, flat_len]
    show (bif x == to then [[x]] else []).length + _ = _
    congr 1
    · cases x == to <;> rfl
    · refine S_congr f fun k hk => ?_
      show (bif stepR b x (x + 1 + k) then wF b to sh (f - k) ([x] ++ [x + 1 + k]) else []).length = _
      cases stepR b x (x + 1 + k) with
      | false => rfl
      | true =>
        show (wF b to sh (f - k) ([x] ++ [x + 1 + k])).length = g a b to sh (x + 1 + k)
        unfold g
        rw [show (a * b - (x + 1 + k)).toNat = f - k by omega]
        exact wF_last b to sh _ _ (Nat.le_refl _) _ _ (last_snoc [x] _)
theorem g_shut {a b to x : Int} {sh : List Int} (h : has sh x = true) : g a b to sh x = 0 := by
  rcases Int.lt_or_le x (a * b) with hx | hx
  · rw [g_rec hx, h]; rfl
  · exact g_out hx
theorem g_far {a b to : Int} {sh : List Int} : ∀ (d : Nat) (x : Int), (a * b - x).toNat ≤ d → to < x → g a b to sh x = 0
  | 0, x, h, _ => g_out (by omega)
  | d + 1, x, h, ht => by
    rcases Int.lt_or_le x (a * b) with hx | hx
    · rw [g_rec hx]
      cases has sh x with
      | true => rfl
      | false =>
        rw [cond_false, show (x == to) = false from beq_eq_false_iff_ne.2 (by omega), cond_false, Nat.zero_add]
        refine S_zero _ fun k hk => ?_
        cases stepR b x (x + 1 + k) with
        | false => rfl
        | true => exact g_far d _ (by omega) (by omega)
    · exact g_out hx
theorem g_to {a b to : Int} {sh : List Int} (h : to < a * b) (hs : has sh to = false) : g a b to sh to = 1 := by
  rw [g_rec h, hs, cond_false, beq_self_eq_true, cond_true, S_zero]
  intro k hk
  cases stepR b to (to + 1 + k) with
  | false => rfl
  | true => exact g_far _ _ (Nat.le_refl _) (by omega)
def sg (a b to : Int) (sh l : List Int) : Nat := (l.map fun m => g a b to sh m).sum
theorem rd_sum {a b to x m : Int} {sh out : List Int} {s : Nat} (hm : 0 ≤ m) (hbit : ∀ y : Int, 0 ≤ y → y < a * b → s.testBit y.toNat = has sh y) :
    sg a b to sh (rdP a b x s m out) = sg a b to sh out + bif ((m == x + 1) && (m.tmod b == 0) && decide (1 < b)) || ((b == 1) && decide (0 < out.length)) then 0 else g a b to sh m := by
  cases hc : (((m == x + 1) && (m.tmod b == 0) && decide (1 < b)) || ((b == 1) && decide (0 < out.length))) with
  | true =>
    rw [Ev.Lane.rd_yes (by rw [hc]; rfl)]
    rfl
  | false =>
    cases hw : wrongB a b m with
    | true =>
      rw [Ev.Lane.rd_yes (by rw [hc, hw]; rfl)]
      unfold wrongB at hw
      simp only [Bool.or_eq_true, decide_eq_true_eq] at hw
      rw [cond_false, g_out (by omega)]
      rfl
    | false =>
      have hw' := hw
      unfold wrongB at hw'
      simp only [Bool.or_eq_false_iff, decide_eq_false_iff_not] at hw'
      cases ht : s.testBit m.toNat with
      | true =>
        rw [Ev.Lane.rd_yes (by rw [hc, hw, ht]; rfl), cond_false, g_shut (by rw [← hbit m hm (by omega)]; exact ht)]
        rfl
      | false =>
        rw [Ev.Lane.rd_no (by rw [hc, hw, ht]; rfl)]
        unfold sg
        simp
theorem g_step {a b to x : Int} {sh : List Int} {s : Nat} (hs : side a b = true) (x0 : 0 ≤ x) (x1 : x < a * b) (hx : x ≠ to) (hsh : has sh x = false) (hbit : ∀ y : Int, 0 ≤ y → y < a * b → s.testBit y.toNat = has sh y) :
    g a b to sh x = sg a b to sh (stP a b x s) := by
  obtain ⟨h1, h2, h3, h4⟩ := Ev.Lane.side_yes hs
  rw [g_rec x1, hsh, cond_false, show (x == to) = false from beq_eq_false_iff_ne.2 hx, cond_false, Nat.zero_add]
  obtain ⟨c, hcb⟩ : ∃ c : Nat, b = (c : Int) + 1 := ⟨(b - 1).toNat, by omega⟩
  rw [sum2 _ c (fun k k0 kc => by
    cases hst : stepR b x (x + 1 + k) with
    | false => rfl
    | true => rcases step_next hst with h | h <;> omega)]
  have e1 := rd_sum (a := a) (b := b) (to := to) (x := x) (m := x + 1) (out := []) (s := s) (by omega) hbit
  have e2 := rd_sum (a := a) (b := b) (to := to) (x := x) (m := x + b) (out := rdP a b x s (x + 1) []) (s := s) (by omega) hbit
  unfold stP
  rw [e2]
  have e0 : sg a b to sh [] = 0 := rfl
  rw [e0, Nat.zero_add, beq_self_eq_true, Bool.true_and, show decide (0 < ([] : List Int).length) = false from rfl, Bool.and_false, Bool.or_false] at e1
  have f0 : (if 0 < (a * b - x - 1).toNat then bif stepR b x (x + 1 + (0 : Nat)) then g a b to sh (x + 1 + (0 : Nat)) else 0 else 0) = bif stepR b x (x + 1) then g a b to sh (x + 1) else 0 := by
    rw [show x + 1 + ((0 : Nat) : Int) = x + 1 by omega]
    by_cases h : 0 < (a * b - x - 1).toNat
    · rw [if_pos h]
    · rw [if_neg h, g_out (x := x + 1) (by omega)]; cases stepR b x (x + 1) <;> rfl
  rw [f0]
  by_cases hb : b = 1
  · have hc0 : ¬ (c ≠ 0 ∧ c < (a * b - x - 1).toNat) := by omega
    rw [if_neg hc0, Nat.add_zero]
    have hst : stepR b x (x + 1) = true := by
      unfold stepR
      rw [hb]
      cases ((x + 1 == x + 1) && decide (0 < (x + 1).tmod 1)) <;> simp
    rw [hst, cond_true]
    have hd : decide (1 < b) = false := decide_eq_false (by omega)
    rw [hd, Bool.and_false, cond_false] at e1
    rw [hd, Bool.and_false, Bool.false_or, show (b == 1) = true from beq_iff_eq.2 hb, Bool.true_and]
    cases hl : decide (0 < (rdP a b x s (x + 1) []).length) with
    | true => rw [cond_true, e1]; rfl
    | false =>
      have hnil : rdP a b x s (x + 1) [] = [] := List.length_eq_zero_iff.1 (by have := of_decide_eq_false hl; omega)
      rw [hnil, e0] at e1
      rw [hnil, e0, cond_false, show x + b = x + 1 by omega, ← e1]
  · have hb2 : 1 < b := by omega
    have f1 : (if c ≠ 0 ∧ c < (a * b - x - 1).toNat then bif stepR b x (x + 1 + c) then g a b to sh (x + 1 + c) else 0 else 0) = g a b to sh (x + b) := by
      have hst : stepR b x (x + 1 + c) = true := by
        unfold stepR
        rw [show x + 1 + (c : Int) = x + b by omega]
        cases ((x + b == x + 1) && decide (0 < (x + b).tmod b)) <;> simp
      rw [hst, cond_true, show x + 1 + (c : Int) = x + b by omega]
      by_cases h : c ≠ 0 ∧ c < (a * b - x - 1).toNat
      · rw [if_pos h]
      · rw [if_neg h, g_out (x := x + b) (by omega)]
    rw [f1, show (x + b == x + 1) = false from beq_eq_false_iff_ne.2 (by omega), Bool.false_and, Bool.false_and, Bool.false_or, show (b == 1) = false from beq_eq_false_iff_ne.2 hb, Bool.false_and, cond_false, e1]
    congr 1
    rw [decide_eq_true hb2, Bool.and_true]
    have hnn : 0 ≤ (x + 1).tmod b := Int.tmod_nonneg _ (by omega)
    unfold stepR
    rw [beq_self_eq_true, Bool.true_and, show (x + 1 == x + b) = false from beq_eq_false_iff_ne.2 (by omega)]
    by_cases hm : (x + 1).tmod b = 0
    · rw [hm]; rfl
    · rw [decide_eq_true (show 0 < (x + 1).tmod b by omega), show ((x + 1).tmod b == 0) = false from beq_eq_false_iff_ne.2 hm]; rfl
end Lan
namespace Lan
open Go
theorem of_bit (y : Int) (hy : 0 ≤ y) : ∀ (l : List Int) (s : Nat), in16 l = true → (l.foldl (fun s x => s ||| 2 ^ x.toNat) s).testBit y.toNat = (s.testBit y.toNat || has l y)
  | [], s, _ => by simp [has]
  | x :: l, s, h => by
    unfold in16 at h
    rw [List.all_cons, Bool.and_eq_true] at h
    have hx := h.1
    simp only [Bool.and_eq_true, decide_eq_true_eq] at hx
    rw [List.foldl_cons, of_bit y hy l _ h.2, Nat.testBit_or, Nat.testBit_two_pow]
    unfold has
    rw [List.any_cons, Bool.or_assoc]
    congr 2
    rw [Bool.eq_iff_iff, decide_eq_true_eq, beq_iff_eq]
    omega
theorem ofN_bit {l : List Int} (h : in16 l = true) (y : Int) (hy : 0 ≤ y) : (ofN l).testBit y.toNat = has l y := by
  unfold ofN
  rw [of_bit y hy l 0 h, Nat.zero_testBit, Bool.false_or]
theorem st_above {a b x m : Int} {s : Nat} (hs : side a b = true) (h : m ∈ stP a b x s) : x < m := by
  obtain ⟨h1, h2, h3, h4⟩ := Ev.Lane.side_yes hs
  have rd : ∀ (q : Int) (out : List Int), x < q → (∀ y ∈ out, x < y) → ∀ y ∈ rdP a b x s q out, x < y := fun q out hq ho y hy => by
    unfold rdP at hy
    cases hc : (((q == x + 1) && (q.tmod b == 0) && decide (1 < b)) || ((b == 1) && decide (0 < out.length)) || wrongB a b q || s.testBit q.toNat) with
    | true => rw [hc] at hy; exact ho y hy
    | false =>
      rw [hc, cond_false, List.mem_append, List.mem_singleton] at hy
      rcases hy with hy | rfl
      · exact ho y hy
      · exact hq
  exact rd _ _ (by omega) (rd _ _ (by omega) (by simp)) m h
end Lan
