/- Bags by numbers: what the program answers for them. -/
import Derived.Test.YtajhpbahjindkaaDoorNc
import Derived.Test.YtajhpbahjindkaaDoorRt
import Derived.Test.YtajhpbahjindkaaDoorRk
set_option linter.unusedVariables false
set_option linter.unusedSimpArgs false
namespace Rgg
open Go Go.Proofs
theorem ord_sub : ∀ k, k < 6 → 1 ≤ k → (ordS 5).filter (fun i => decide (i < 2 ^ k)) = ordS k := by decide +kernel
theorem rdS_num : ∀ k, k < 6 → 1 ≤ k → ∀ s, s < 2 ^ k → (match rdS (k : Nat) (wordL s) (-1) 0 with | .inl _ => false | .inr m => m == s) = true := by decide +kernel
theorem bts_word (s : Nat) : bts (word s) = wordL s := rfl
theorem rd_num {K : Int} (h1 : 1 ≤ K) (h5 : K ≤ 5) {s : Nat} (hs : s < 2 ^ K.toNat) : rd K (word s) = .inr s := by
  have := rdS_num K.toNat (by omega) (by omega) s hs
  unfold rd
  rw [bts_word]
  rw [show ((K.toNat : Nat) : Int) = K by omega] at this
  cases h : rdS K (wordL s) (-1) 0 with
  | inl e => rw [h] at this; cases this
  | inr m => rw [h] at this; rw [eq_of_beq this]
theorem sort_wrt (p : Nat → Bool) : wrt 5 p = ((ordS 5).filter p).map word := srt_upTo (by decide) (by decide) p
theorem wd_wl {K : Int} (h1 : 1 ≤ K) (h5 : K ≤ 5) {n : Nat} (h : ∀ i, i < 32 → n.testBit i = true → i < 2 ^ K.toNat) : wdL n = wlS K (fB n) := by
  unfold wdL wlS
  rw [sort_wrt, ← ord_sub K.toNat (by omega) (by omega), List.filter_filter]
  congr 1
  refine List.filter_congr fun i hi => ?_
  have hi := ord_lt 5 (by decide) i hi
  rw [at_fB hi]
  cases hb : n.testBit i with
  | false => rfl
  | true => rw [decide_eq_true (h i hi hb)]; rfl
theorem top_bits {K n : Nat} (h : n < 2 ^ 2 ^ K) : ∀ i, i < 32 → n.testBit i = true → i < 2 ^ K := by
  intro i _ hb
  refine Classical.byContradiction fun hi => ?_
  rw [Nat.testBit_lt_two_pow (Nat.lt_of_lt_of_le h (Nat.pow_le_pow_right (by decide) (by omega)))] at hb
  cases hb
theorem nd_zero (K : Int) (bags : List ByteArray) (hw : ∀ x ∈ bags, prE K x = 0) (hn : bags.Nodup) : ∀ (k i : Nat), i + k = bags.length → Erx.errE (Ev.foldX (fun i s p => bif ckErr K bags i s p == 0 then .inr () else .inl (ckErr K bags i s p, i, s)) i (bags.drop i) ()) = 0
  | 0, i, hk => by rw [List.drop_of_length_le (by omega)]; rfl
  | k + 1, i, hk => by
    have hi : i < bags.length := by omega
    rw [List.drop_eq_getElem_cons hi]
    simp only [Ev.foldX]
    have hc : ckErr K bags i () bags[i] = 0 := by
      unfold ckErr
      have hh : hasS (bags.take i) bags[i] = false := by
        cases h : hasS (bags.take i) bags[i] with
        | false => rfl
        | true =>
          have hm := has_mem.1 h
          obtain ⟨j, hj, e⟩ := List.mem_take_iff_getElem.1 hm
          have := (List.getElem_inj hn).1 e
          omega
      rw [hw _ (List.getElem_mem hi), hh]; rfl
    rw [hc]
    exact nd_zero K bags hw hn k (i + 1) (by omega)
theorem wl_len {K : Int} (h5 : K ≤ 5) (h1 : 1 ≤ K) (l : List Bool) : (wlS K l).length ≤ 32 := by
  unfold wlS
  rw [List.length_map]
  refine Nat.le_trans (List.length_filter_le _ _) ?_
  have : K = 1 ∨ K = 2 ∨ K = 3 ∨ K = 4 ∨ K = 5 := by omega
  rcases this with rfl | rfl | rfl | rfl | rfl <;> decide
theorem wl_nd {K : Int} (h5 : K ≤ 5) (l : List Bool) : (wlS K l).Nodup := by
  unfold wlS
  rw [List.Nodup, List.pairwise_map]
  refine List.Pairwise.imp_of_mem (fun {a b} ha hb hne => ?_) ((ord_nd K.toNat (by omega)).filter _)
  intro e
  have := word_inj a (ord_lt K.toNat (by omega) a (List.mem_filter.1 ha).1) b (ord_lt K.toNat (by omega) b (List.mem_filter.1 hb).1)
  rw [e, beq_self_eq_true] at this
  exact hne (of_decide_eq_true this.symm)
theorem op_wl {K : Int} (h1 : 1 ≤ K) (h5 : K ≤ 5) (l : List Bool) : opE K (wlS K l) = 0 := by
  rw [← ck_eq]
  unfold ckE
  have hr : inI K 1 5 = true := by
    unfold inI
    rw [decide_eq_true h1, decide_eq_true h5]; rfl
  rw [hr, decide_eq_false (show ¬ 32 < (wlS K l).length by have := wl_len h5 h1 l; omega)]
  refine nd_zero K (wlS K l) (fun x hx => ?_) (wl_nd h5 l) (wlS K l).length 0 (by omega)
  unfold wlS at hx
  obtain ⟨n, hn, rfl⟩ := List.mem_map.1 hx
  rw [pr_eq, rd_num h1 h5 (ord_bnd K.toNat (by omega) n (List.mem_filter.1 hn).1)]
  rfl
theorem opF_wl {K : Int} (h1 : 1 ≤ K) (h5 : K ≤ 5) {l : List Bool} (hl : l.length = 32) (ht : ∀ n, n < 32 → at_ l n = true → n < 2 ^ K.toNat) : opF K (wlS K l) = l := by
  have h := op_wl h1 h5 l
  obtain ⟨s1, _⟩ := op_same (K := K) (bags := wlS K l) (by rw [h]; rfl)
  obtain ⟨s2, _⟩ := bth_wl h1 h5 hl ht
  exact at_ext s1.1 hl fun n hn => by rw [s1.2 n hn, s2.2 n hn]
structure Pl (K : Int) (n : Nat) : Prop where
  k1 : 1 ≤ K
  k5 : K ≤ 5
  lt : n < 2 ^ 2 ^ K.toNat
namespace Pl
variable {K : Int} {n : Nat}
theorem top (h : Pl K n) : ∀ i, i < 32 → n.testBit i = true → i < 2 ^ K.toNat := top_bits h.lt
theorem topF (h : Pl K n) : ∀ i, i < 32 → at_ (fB n) i = true → i < 2 ^ K.toNat := fun i hi hb => h.top i hi (by rw [← at_fB hi]; exact hb)
theorem wl (h : Pl K n) : wdL n = wlS K (fB n) := wd_wl h.k1 h.k5 h.top
theorem opE (h : Pl K n) : opE K (wdL n) = 0 := by rw [h.wl]; exact op_wl h.k1 h.k5 _
theorem opF (h : Pl K n) : opF K (wdL n) = fB n := by rw [h.wl]; exact opF_wl h.k1 h.k5 (fB_len n) h.topF
theorem two (h : Pl K n) : 2 ^ K.toNat ≤ 32 := (two_k h.k1 h.k5).2
theorem n32 (h : Pl K n) : n < 4294967296 := Nat.lt_of_lt_of_le h.lt (Nat.pow_le_pow_right (n := 2) (by decide) h.two)
end Pl
theorem pl_of (k b : Int) : Pl (pK k) (pB k b) := ⟨by unfold pK; omega, by unfold pK; omega, Nat.mod_lt _ (Nat.two_pow_pos _)⟩
theorem sub_le : ∀ q, q < 6 → ∀ s, s < 2 ^ q → ∀ i, i < 32 → sub i s = true → i < 2 ^ q := by decide +kernel
end Rgg
