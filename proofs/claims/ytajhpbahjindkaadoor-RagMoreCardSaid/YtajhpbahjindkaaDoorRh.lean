/- Bags by letters and bags by bits answer alike. -/
import Derived.Test.YtajhpbahjindkaaDoorRg
import Derived.Test.YtajhpbahjindkaaDoorRd
import Derived.Test.YtajhpbahjindkaaDoorRf
set_option linter.unusedVariables false
set_option linter.unusedSimpArgs false
namespace Rgg
open Go
def wl (n L : Nat) : List UInt8 := ((List.range 5).filter fun k => decide (L ≤ k) && n.testBit k).map fun k => UInt8.ofNat (97 + k)
theorem wl_zero : ∀ n, n < 32 → wl n 0 = wordL n := by decide +kernel
theorem wl_end : ∀ L, L ≤ 5 → ∀ out, out < 32 → out < 2 ^ L → wl out L = [] := by decide +kernel
set_option synthInstance.maxHeartbeats 400000 in
set_option synthInstance.maxSize 100000 in
theorem wl_step : ∀ n, n < 32 → ∀ k, k < 5 → ∀ L, L ≤ k → ∀ out, out < 16 → out < 2 ^ L → n % 2 ^ (k + 1) = out ||| 2 ^ k → n % 2 ^ L = out ∧ UInt8.ofNat (97 + k) :: wl n (k + 1) = wl n L := by decide +kernel
theorem or_bnd : ∀ k, k < 5 → ∀ L, L ≤ k → ∀ out, out < 16 → out < 2 ^ L → out ||| 2 ^ k < 2 ^ (k + 1) := by decide +kernel
theorem rdS_word {K : Int} (h1 : 1 ≤ K) (hK : K ≤ 5) : ∀ (l : List UInt8) (L out n : Nat), L ≤ 5 → out < 2 ^ L → (L : Int) ≤ K → rdS K l ((L : Int) - 1) out = .inr n → n < 32 ∧ n < 2 ^ K.toNat ∧ n % 2 ^ L = out ∧ l = wl n L
  | [], L, out, n, hL, ho, hLK, e => by
    cases e
    have : out < 32 := Nat.lt_of_lt_of_le ho (Nat.pow_le_pow_right (n := 2) (by decide) hL)
    exact ⟨this, Nat.lt_of_lt_of_le ho (Nat.pow_le_pow_right (by decide) (by omega)), Nat.mod_eq_of_lt ho, (wl_end L hL out this ho).symm⟩
  | c :: l, L, out, n, hL, ho, hLK, e => by
    unfold rdS at e
    cases h1' : decide ((c.toNat : Int) - 97 < 0) || decide (K ≤ (c.toNat : Int) - 97) with
    | true => rw [h1'] at e; cases e
    | false =>
      rw [h1', cond_false] at e
      cases h2 : decide ((c.toNat : Int) - 97 ≤ (L : Int) - 1) with
      | true => rw [h2] at e; cases e
      | false =>
        rw [h2, cond_false] at e
        rw [Bool.or_eq_false_iff, decide_eq_false_iff_not, decide_eq_false_iff_not] at h1'
        have h2 := of_decide_eq_false h2
        have hc : (c.toNat : Int) - 97 = ((c.toNat - 97 + 1 : Nat) : Int) - 1 := by omega
        have hLk : L ≤ c.toNat - 97 := by omega
        have hk : c.toNat - 97 < 5 := by omega
        have ho16 : out < 16 := Nat.lt_of_lt_of_le ho (Nat.pow_le_pow_right (n := 2) (i := L) (j := 4) (by decide) (by omega))
        rw [hc] at e
        obtain ⟨a1, a2, a3, a4⟩ := rdS_word h1 hK l (c.toNat - 97 + 1) _ n (by omega) (or_bnd _ hk L hLk out ho16 ho) (by omega) e
        obtain ⟨b1, b2⟩ := wl_step n a1 _ hk L hLk out ho16 ho a3
        refine ⟨a1, a2, b1, ?_⟩
        rw [← b2, ← a4]
        congr 1
        apply UInt8.toNat_inj.1
        have : c.toNat < 256 := UInt8.toNat_lt c
        rw [UInt8.toNat_ofNat', Nat.mod_eq_of_lt (by omega)]; omega
theorem rd_word {K : Int} (h1 : 1 ≤ K) (hK : K ≤ 5) {s : ByteArray} {n : Nat} (h : rd K s = .inr n) : n < 32 ∧ n < 2 ^ K.toNat ∧ s = word n := by
  obtain ⟨a, b, _, d⟩ := rdS_word h1 hK (bts s) 0 0 n (by omega) (by decide) (by omega) h
  refine ⟨a, b, ?_⟩
  rw [wl_zero n a] at d
  apply ByteArray.ext
  apply Array.ext'
  exact d
theorem rdS_err {K : Int} : ∀ (l : List UInt8) (last : Int) (out : Nat) (e : Int), rdS K l last out = .inl e → e ≠ 0
  | [], _, _, _, h => by cases h
  | c :: l, last, out, e, h => by
    unfold rdS at h
    cases h1 : decide ((c.toNat : Int) - 97 < 0) || decide (K ≤ (c.toNat : Int) - 97) with
    | true => rw [h1] at h; cases h; decide
    | false =>
      rw [h1, cond_false] at h
      cases h2 : decide ((c.toNat : Int) - 97 ≤ last) with
      | true => rw [h2] at h; cases h; decide
      | false => rw [h2, cond_false] at h; exact rdS_err l _ _ e h
theorem rd_cases {K : Int} (h1 : 1 ≤ K) (hK : K ≤ 5) (s : ByteArray) : (rdE (rd K s) ≠ 0) ∨ (rdE (rd K s) = 0 ∧ rdV (rd K s) < 32 ∧ rdV (rd K s) < 2 ^ K.toNat ∧ s = word (rdV (rd K s))) := by
  cases h : rd K s with
  | inl e => exact .inl (rdS_err _ _ _ e h)
  | inr n => exact .inr ⟨rfl, rd_word h1 hK h⟩
theorem pr_eq {K : Int} (s : ByteArray) : prE K s = rdE (rd K s) := by
  have main : ∀ (k i : Nat) (last : Int) (out : Nat), i + k = (bts s).length → last = (if i = 0 then -1 else (((bts s).getD (i - 1) 0).toNat : Int) - 97) → (i = 0 → last = -1) →
      Erx.errE (Ev.foldX (fun i (u : Unit) p => bif prErr K s i u p == 0 then .inr () else .inl (prErr K s i u p, i, u)) i ((bts s).drop i) ()) = rdE (rdS K ((bts s).drop i) last out) := by
    intro k
    induction k with
    | zero =>
      intro i last out hk _ _
      rw [List.drop_of_length_le (by omega)]; rfl
    | succ k ih =>
      intro i last out hk hl _
      have hi : i < (bts s).length := by omega
      rw [List.drop_eq_getElem_cons hi]
      have hg : (bts s).getD i 0 = (bts s)[i] := by rw [List.getD_eq_getElem?_getD, List.getElem?_eq_getElem hi]; rfl
      generalize (bts s)[i] = c at hg ⊢
      unfold rdS
      simp only [Ev.foldX]
      have hb : (!inI ((c.toNat : Int) - 97) 0 (K - 1)) = (decide ((c.toNat : Int) - 97 < 0) || decide (K ≤ (c.toNat : Int) - 97)) := by
        unfold inI
        rw [Bool.eq_iff_iff]
        simp only [Bool.not_eq_true', Bool.and_eq_false_iff, decide_eq_false_iff_not, Bool.or_eq_true, decide_eq_true_eq]
        omega
      unfold prErr
      rw [hb]
      cases h2 : decide ((c.toNat : Int) - 97 < 0) || decide (K ≤ (c.toNat : Int) - 97) with
      | true => rfl
      | false =>
        rw [Bool.or_eq_false_iff, decide_eq_false_iff_not, decide_eq_false_iff_not] at h2
        have hd : (decide (0 < i) && decide (c.toNat ≤ ((bts s).getD (i - 1) 0).toNat)) = decide ((c.toNat : Int) - 97 ≤ last) := by
          rw [hl]
          by_cases h0 : i = 0
          · rw [if_pos h0, decide_eq_false (show ¬ 0 < i by omega)]
            symm
            exact decide_eq_false (by omega)
          · rw [if_neg h0, decide_eq_true (show 0 < i by omega), Bool.true_and]
            exact decide_eq_decide.2 (by omega)
        rw [hd]
        cases h3 : decide ((c.toNat : Int) - 97 ≤ last) with
        | true => rfl
        | false =>
          simp only [cond_false]
          have := ih (i + 1) ((c.toNat : Int) - 97) (out ||| 2 ^ (c.toNat - 97)) (by omega) (by rw [if_neg (by omega), Nat.add_sub_cancel, hg]) (by omega)
          exact this
  exact main (bts s).length 0 (-1) 0 (by omega) rfl (fun _ => rfl)
theorem word_inj : ∀ n, n < 32 → ∀ m, m < 32 → (word n == word m) = decide (n = m) := by decide +kernel
def Same (l : List Bool) (p : List ByteArray) : Prop := l.length = 32 ∧ (∀ n, n < 32 → at_ l n = hasS p (word n))
theorem at_set {l : List Bool} (hl : l.length = 32) {n m : Nat} (hn : n < 32) (hm : m < 32) : at_ (l.set n true) m = (decide (n = m) || at_ l m) := by
  unfold at_
  rw [List.getD_eq_getElem?_getD, List.getD_eq_getElem?_getD, List.getElem?_set]
  by_cases h : n = m
  · subst h; rw [if_pos rfl, if_pos (by omega), decide_eq_true rfl]; rfl
  · rw [if_neg h, decide_eq_false h, Bool.false_or]
theorem has_snoc (p : List ByteArray) (x y : ByteArray) : hasS (p ++ [x]) y = (hasS p y || x == y) := by
  unfold hasS
  rw [List.any_append]
  simp
theorem bags_fold {K : Int} (h1 : 1 ≤ K) (hK : K ≤ 5) (bags : List ByteArray) : ∀ (k i : Nat) (l : List Bool), i + k = bags.length → Same l (bags.take i) → (∀ x ∈ bags.take i, ∃ n, n < 32 ∧ n < 2 ^ K.toNat ∧ x = word n) →
    Erx.errE (Ev.foldX (fun i (u : Unit) p => bif ckErr K bags i u p == 0 then .inr () else .inl (ckErr K bags i u p, i, u)) i (bags.drop i) ()) = Erx.errE (Ev.foldX (fun i s p => bif opErr K i s p == 0 then .inr (opSt K i s p) else .inl (opErr K i s p, i, s)) i (bags.drop i) l) ∧
    (Erx.errE (Ev.foldX (fun i s p => bif opErr K i s p == 0 then .inr (opSt K i s p) else .inl (opErr K i s p, i, s)) i (bags.drop i) l) = 0 →
      Same (Erx.errS (Ev.foldX (fun i s p => bif opErr K i s p == 0 then .inr (opSt K i s p) else .inl (opErr K i s p, i, s)) i (bags.drop i) l)) bags ∧ ∀ x ∈ bags, ∃ n, n < 32 ∧ n < 2 ^ K.toNat ∧ x = word n) := by
  intro k
  induction k with
  | zero =>
    intro i l hk hs hw
    rw [List.take_of_length_le (by omega)] at hs hw
    rw [List.drop_of_length_le (by omega)]
    exact ⟨rfl, fun _ => ⟨hs, hw⟩⟩
  | succ k ih =>
    intro i l hk hs hw
    have hi : i < bags.length := by omega
    have htk := List.take_add_one (l := bags) (i := i)
    rw [List.getElem?_eq_getElem hi] at htk
    rw [List.drop_eq_getElem_cons hi]
    generalize bags[i] = x at htk ⊢
    simp only [Option.toList] at htk
    simp only [Ev.foldX]
    have hcx : ckErr K bags i () x = opErr K i l x := by
      unfold ckErr opErr
      rw [pr_eq]
      cases he : rdE (rd K x) != 0 with
      | true => rfl
      | false =>
        rcases rd_cases h1 hK x with h | ⟨a, b, _, d⟩
        · rw [bne, Bool.not_eq_false', beq_iff_eq] at he; exact absurd he h
        · rw [cond_false, cond_false, hs.2 _ b, ← d]
    rw [hcx]
    cases he : opErr K i l x == 0 with
    | false =>
      simp only [cond_false, Erx.errE]
      exact ⟨trivial, fun h => by rw [h] at he; cases he⟩
    | true =>
      simp only [cond_true]
      have he := beq_iff_eq.1 he
      unfold opErr at he
      rcases rd_cases h1 hK x with h | ⟨a, b, c, d⟩
      · rw [show (rdE (rd K x) != 0) = true by rw [bne, Bool.not_eq_true']; exact beq_false_of_ne h, cond_true] at he
        exact absurd he h
      · refine ih (i + 1) (opSt K i l x) (by omega) ⟨by unfold opSt; rw [List.length_set, hs.1], fun n hn => ?_⟩ (fun y hy => ?_)
        · unfold opSt
          rw [at_set hs.1 b hn, htk, has_snoc, hs.2 n hn]
          have : (x == word n) = decide (rdV (rd K x) = n) := by
            have := word_inj _ b n hn
            rw [← d] at this
            exact this
          rw [this, Bool.or_comm]
        · rw [htk] at hy
          rcases List.mem_append.1 hy with hy | hy
          · exact hw y hy
          · rw [List.mem_singleton] at hy
            subst hy
            exact ⟨_, b, c, d⟩
theorem ck_eq (K : Int) (bags : List ByteArray) : ckE K bags = opE K bags := by
  unfold ckE opE
  have hb : (!inI K 1 5) = (decide (K < 1) || decide (5 < K)) := by
    unfold inI
    rw [Bool.eq_iff_iff]
    simp only [Bool.not_eq_true', Bool.and_eq_false_iff, decide_eq_false_iff_not, Bool.or_eq_true, decide_eq_true_eq]
    omega
  rw [hb]
  cases h : decide (K < 1) || decide (5 < K) with
  | true => rfl
  | false =>
    rw [Bool.or_eq_false_iff, decide_eq_false_iff_not, decide_eq_false_iff_not] at h
    rw [cond_false, cond_false]
    congr 1
    exact (bags_fold (by omega) (by omega) bags bags.length 0 (List.replicate 32 false) (by omega) ⟨List.length_replicate, fun n hn => by
      unfold at_
      rw [List.getD_eq_getElem?_getD, List.getElem?_replicate, if_pos hn]; rfl⟩ (fun x hx => by simp at hx)).1
theorem op_same {K : Int} {bags : List ByteArray} (h : (opE K bags == 0) = true) : Same (opF K bags) bags ∧ ∀ x ∈ bags, ∃ n, n < 32 ∧ n < 2 ^ K.toNat ∧ x = word n := by
  obtain ⟨k1, k5, _, he⟩ := opE_zero h
  exact (bags_fold k1 k5 bags bags.length 0 (List.replicate 32 false) (by omega) ⟨List.length_replicate, fun n hn => by
    unfold at_
    rw [List.getD_eq_getElem?_getD, List.getElem?_replicate, if_pos hn]; rfl⟩ (fun x hx => by simp at hx)).2 he
end Rgg
namespace Rgg
open Go
theorem ord_perm : ∀ k, k < 6 → 1 ≤ k → (List.range (2 ^ k)).Perm (ordS k) := by decide +kernel
theorem ord_sorted : ∀ k, k < 6 → ((ordS k).map wordL).Pairwise (· ≤ ·) := by decide +kernel
theorem ord_lt : ∀ k, k < 6 → ∀ n ∈ ordS k, n < 32 := by decide +kernel
theorem srt_upTo {K : Int} (h1 : 1 ≤ K) (h5 : K ≤ 5) (p : Nat → Bool) : wrt K p = ((ordS K.toNat).filter p).map word := by
  unfold wrt upTo
  unfold Ev.srtS Ev.srtZ
  have e : (((List.range (2 ^ K.toNat)).filter p).map word).map (fun b => b.data.toList) = ((List.range (2 ^ K.toNat)).filter p).map wordL := by
    rw [List.map_map]; rfl
  rw [e]
  have hs : (((ordS K.toNat).filter p).map wordL).Pairwise (· ≤ ·) := (ord_sorted K.toNat (by omega)).sublist ((List.filter_sublist (p := p) (l := ordS K.toNat)).map wordL)
  rw [Ev.sort_uniq (Ev.msort_sorted _) hs ((List.mergeSort_perm _ _).trans (((ord_perm K.toNat (by omega) (by omega)).filter p).map wordL)), List.map_map]
  rfl
theorem at_set' {l : List Bool} {n m : Nat} (hn : n < l.length) (v : Bool) : at_ (l.set n v) m = if n = m then v else at_ l m := by
  unfold at_
  rw [List.getD_eq_getElem?_getD, List.getD_eq_getElem?_getD, List.getElem?_set]
  by_cases h : n = m
  · subst h; rw [if_pos rfl, if_pos hn, if_pos rfl]; rfl
  · rw [if_neg h, if_neg h]
theorem at_trF {l : List Bool} {s : Nat} (hs : s < 32) : ∀ i, i ≤ 32 → ∀ n, n < 32 → at_ (trF l s i) n = (List.range i).any fun b => at_ l b && (b &&& s == n)
  | 0, _, n, hn => by
    show at_ (List.replicate 32 false) n = _
    unfold at_
    rw [List.getD_eq_getElem?_getD, List.getElem?_replicate, if_pos hn]; rfl
  | i + 1, hi, n, hn => by
    have ih := at_trF (l := l) hs i (by omega)
    have hlt := and_lt i (by omega) s hs
    rw [trF_succ, at_set' (by rw [trF_len]; exact hlt), List.range_succ, List.any_append, ← ih n hn]
    by_cases h : i &&& s = n
    · rw [if_pos h, h]; simp [h]
    · rw [if_neg h]; simp [h]
theorem has_mem {l : List ByteArray} {x : ByteArray} : hasS l x = true ↔ x ∈ l := by
  unfold hasS
  rw [List.any_eq_true]
  constructor
  · rintro ⟨y, h1, h2⟩
    rw [beq_iff_eq] at h2
    exact h2 ▸ h1
  · intro h
    exact ⟨x, h, beq_self_eq_true x⟩
end Rgg
