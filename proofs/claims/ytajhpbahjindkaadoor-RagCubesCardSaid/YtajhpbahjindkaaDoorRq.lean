/- Sets told apart with the same rest: bits and letters answer alike. -/
import Derived.Test.YtajhpbahjindkaaDoorRm
import Derived.Test.YtajhpbahjindkaaDoorRp
import Derived.Test.YtajhpbahjindkaaDoorRo
set_option linter.unusedVariables false
set_option linter.unusedSimpArgs false
namespace Rgg
open Go
theorem ord_nd : ∀ k, k < 6 → (ordS k).Nodup := by decide +kernel
theorem ord_bnd : ∀ k, k < 6 → ∀ n ∈ ordS k, n < 2 ^ k := by decide +kernel
theorem ord_all : ∀ k, k < 6 → 1 ≤ k → ∀ n, n < 2 ^ k → n ∈ ordS k := by decide +kernel
theorem wo_word : ∀ a, a < 32 → ∀ b, b < 32 → (woS (word a) (word b) == word (dif a b)) = true := by decide +kernel
theorem dfl_lt : ∀ a, a < 32 → ∀ b, b < 32 → dif a b < 32 := by decide +kernel
theorem cube_cnt : ∀ k, k < 6 → ∀ n ∈ ordS k, ∀ r ∈ ordS k, ((ordS k).filter fun c => dif c n == r).length = if (r &&& n == 0) = true then ((ordS k).filter fun c => sub c n).length else 0 := by decide +kernel
theorem sub_pos : ∀ k, k < 6 → 1 ≤ k → ∀ n ∈ ordS k, 0 < ((ordS k).filter fun c => sub c n).length := by decide +kernel
theorem dif_full : ∀ k, k < 6 → ∀ n ∈ ordS k, ∀ c ∈ ordS k, (c &&& dif (2 ^ k - 1) n) = dif c n := by decide +kernel
theorem sub_full : ∀ k, k < 6 → ∀ n ∈ ordS k, ∀ r ∈ ordS k, sub r (dif (2 ^ k - 1) n) = (r &&& n == 0) := by decide +kernel
theorem full_lt : ∀ k, k < 6 → ∀ n ∈ ordS k, dif (2 ^ k - 1) n < 32 := by decide +kernel
theorem nd_fold (K : Int) (bags : List ByteArray) : ∀ (k i : Nat), i + k = bags.length → (bags.take i).Nodup → Erx.errE (Ev.foldX (fun i s p => bif ckErr K bags i s p == 0 then .inr () else .inl (ckErr K bags i s p, i, s)) i (bags.drop i) ()) = 0 → bags.Nodup
  | 0, i, hk, hn, _ => by rwa [List.take_of_length_le (by omega)] at hn
  | k + 1, i, hk, hn, he => by
    have hi : i < bags.length := by omega
    rw [List.drop_eq_getElem_cons hi] at he
    simp only [Ev.foldX] at he
    cases hc : ckErr K bags i () bags[i] == 0 with
    | false => rw [hc] at he; simp only [cond_false, Erx.errE] at he; rw [he] at hc; cases hc
    | true =>
      rw [hc] at he
      simp only [cond_true] at he
      refine nd_fold K bags k (i + 1) (by omega) ?_ he
      have hc := beq_iff_eq.1 hc
      unfold ckErr at hc
      have hp : (prE K bags[i] != 0) = false := by
        cases h : prE K bags[i] != 0 with
        | false => rfl
        | true => rw [h, cond_true] at hc; rw [hc] at h; cases h
      rw [hp, cond_false] at hc
      have hh : hasS (bags.take i) bags[i] = false := by
        cases h : hasS (bags.take i) bags[i] with
        | false => rfl
        | true => rw [h, cond_true] at hc; cases hc
      have htk := List.take_add_one (l := bags) (i := i)
      rw [List.getElem?_eq_getElem hi] at htk
      simp only [Option.toList] at htk
      rw [htk, List.nodup_append]
      refine ⟨hn, by simp, fun a ha b hb => ?_⟩
      rw [List.mem_singleton] at hb
      subst hb
      intro e
      subst e
      rw [has_mem.2 ha] at hh
      cases hh
theorem bags_nd {K : Int} {bags : List ByteArray} (h : (opE K bags == 0) = true) : bags.Nodup := by
  rw [← ck_eq] at h
  have h := beq_iff_eq.1 h
  unfold ckE at h
  cases h1 : !inI K 1 5 with
  | true => rw [h1, cond_true] at h; cases h
  | false =>
    rw [h1, cond_false] at h
    cases h2 : decide (32 < bags.length) with
    | true => rw [h2, cond_true] at h; cases h
    | false =>
      rw [h2, cond_false] at h
      exact nd_fold K bags bags.length 0 (by omega) (by simp) h
theorem bags_perm {K : Int} {bags : List ByteArray} (h : (opE K bags == 0) = true) : bags.Perm (((ordS K.toNat).filter fun c => at_ (opF K bags) c).map word) := by
  obtain ⟨k1, k5, _⟩ := opE_zero h
  obtain ⟨hs, hw⟩ := op_same h
  refine (List.perm_ext_iff_of_nodup (bags_nd h) ?_).2 fun x => ?_
  · rw [List.Nodup, List.pairwise_map]
    refine List.Pairwise.imp_of_mem (fun {a b} ha hb hne => ?_) ((ord_nd K.toNat (by omega)).filter _)
    intro e
    have := word_inj a (ord_lt K.toNat (by omega) a (List.mem_filter.1 ha).1) b (ord_lt K.toNat (by omega) b (List.mem_filter.1 hb).1)
    rw [e, beq_self_eq_true] at this
    exact hne (of_decide_eq_true this.symm)
  · rw [List.mem_map]
    constructor
    · intro hx
      obtain ⟨n, h1, h2, h3⟩ := hw x hx
      refine ⟨n, List.mem_filter.2 ⟨ord_all K.toNat (by omega) (by omega) n h2, ?_⟩, h3.symm⟩
      rw [hs.2 n h1, ← h3]
      exact has_mem.2 hx
    · rintro ⟨n, hn, rfl⟩
      obtain ⟨h1, h2⟩ := List.mem_filter.1 hn
      rw [hs.2 n (ord_lt K.toNat (by omega) n h1)] at h2
      exact has_mem.1 h2
theorem cnt_words {K : Int} {bags : List ByteArray} (h : (opE K bags == 0) = true) {n r : Nat} (hn : n < 32) (hr : r < 32) : cntR bags (word n) (word r) = ((ordS K.toNat).filter fun c => at_ (opF K bags) c && (dif c n == r)).length := by
  obtain ⟨k1, k5, _⟩ := opE_zero h
  unfold cntR
  rw [((bags_perm h).filter _).length_eq, List.filter_map, List.length_map, List.filter_filter]
  congr 1
  refine List.filter_congr fun c hc => ?_
  have hc := ord_lt K.toNat (by omega) c hc
  show (woS (word c) (word n) == word r && at_ (opF K bags) c) = _
  rw [beq_iff_eq.1 (wo_word c hc n hn), word_inj _ (dfl_lt c hc n hn) r hr, Bool.and_comm]
  rfl
theorem at_otF {l : List Bool} {q n : Nat} (hn : n < 32) : at_ (otF l q) n = (decide (n < q) && !at_ l n) := by
  unfold at_ otF
  rw [List.getD_eq_getElem?_getD, List.getElem?_map, List.getElem?_range hn]
  rfl
theorem cu_one {K : Int} {bags : List ByteArray} (h : (opE K bags == 0) = true) {n r : Nat} (hn : n ∈ ordS K.toNat) (hr : r ∈ ordS K.toNat) : cuAt K bags (word n) (word r) = (sub r (dif (2 ^ K.toNat - 1) n) && !at_ (tr (otF (opF K bags) (2 ^ K.toNat)) (dif (2 ^ K.toNat - 1) n)) r) := by
  obtain ⟨k1, k5, _⟩ := opE_zero h
  have k6 : K.toNat < 6 := by omega
  have hn' := ord_lt _ k6 n hn
  have hr' := ord_lt _ k6 r hr
  have hcut := len_split (fun c => dif c n == r) (fun c => at_ (opF K bags) c && (dif c n == r)) (ordS K.toNat) (fun c _ hc => by simp only [Bool.and_eq_true] at hc; exact hc.2)
  have hpos := sub_pos _ k6 (by omega) n hn
  unfold cuAt
  rw [cnt_words h hn' hr', pa_words k1 k5 hn', List.length_map, sub_full _ k6 n hn r hr]
  rw [cube_cnt _ k6 n hn r hr] at hcut
  have hany : at_ (tr (otF (opF K bags) (2 ^ K.toNat)) (dif (2 ^ K.toNat - 1) n)) r = (ordS K.toNat).any fun c => (dif c n == r) && !(at_ (opF K bags) c && (dif c n == r)) := by
    unfold tr
    rw [at_trF (full_lt _ k6 n hn) 32 (Nat.le_refl _) r hr', Bool.eq_iff_iff, List.any_eq_true, List.any_eq_true]
    constructor
    · rintro ⟨c, hc, hh⟩
      rw [Bool.and_eq_true, at_otF (List.mem_range.1 hc), Bool.and_eq_true, decide_eq_true_eq, beq_iff_eq] at hh
      have hco := ord_all _ k6 (by omega) c hh.1.1
      refine ⟨c, hco, ?_⟩
      rw [dif_full _ k6 n hn c hco] at hh
      have h2 := hh.1.2
      rw [Bool.not_eq_true'] at h2
      rw [h2, hh.2, beq_self_eq_true]; rfl
    · rintro ⟨c, hc, hh⟩
      rw [Bool.and_eq_true, beq_iff_eq] at hh
      have hcb := ord_lt _ k6 c hc
      refine ⟨c, List.mem_range.2 hcb, ?_⟩
      rw [at_otF hcb, dif_full _ k6 n hn c hc, hh.1, beq_self_eq_true, Bool.and_true, decide_eq_true (ord_bnd _ k6 c hc), Bool.true_and]
      have h2 := hh.2
      rw [hh.1, beq_self_eq_true, Bool.and_true] at h2
      exact h2
  rw [hany]
  have hemp : ((ordS K.toNat).any fun c => (dif c n == r) && !(at_ (opF K bags) c && (dif c n == r))) = !decide (((ordS K.toNat).filter fun c => (dif c n == r) && !(at_ (opF K bags) c && (dif c n == r))).length = 0) := by
    cases ha : (ordS K.toNat).any fun c => (dif c n == r) && !(at_ (opF K bags) c && (dif c n == r)) with
    | false =>
      rw [List.any_eq_false] at ha
      rw [List.filter_eq_nil_iff.2 ha]; rfl
    | true =>
      rw [List.any_eq_true] at ha
      obtain ⟨c, hc, hh⟩ := ha
      symm
      rw [Bool.not_eq_true', decide_eq_false_iff_not, List.length_eq_zero_iff]
      intro h0
      exact List.filter_eq_nil_iff.1 h0 c hc hh
  rw [hemp, Bool.not_not]
  rw [Bool.eq_iff_iff, beq_iff_eq, Bool.and_eq_true, decide_eq_true_eq, Int.ofNat_inj]
  cases hz : (r &&& n == 0) with
  | true => rw [hz, if_pos rfl] at hcut; simp only [true_and]; omega
  | false => rw [hz, if_neg (by decide)] at hcut; simp only [Bool.false_eq_true, false_and, iff_false]; omega
theorem cu_eq (K : Int) (bags : List ByteArray) : cuL K bags = cbR K bags := by
  unfold cuL cbR
  rw [ck_eq]
  cases h : opE K bags == 0 with
  | false => rfl
  | true =>
    obtain ⟨k1, k5, _⟩ := opE_zero h
    rw [cond_true, cond_true, srt_upTo k1 k5, filt_sets]
    congr 1
    refine List.filter_congr fun n hn => ?_
    rw [ms_words k1 k5]
    unfold cuR setsL
    rw [List.any_map]
    have : (((ordS K.toNat).filter fun r => sub r (dif (2 ^ K.toNat - 1) n) && !at_ (tr (otF (opF K bags) (2 ^ K.toNat)) (dif (2 ^ K.toNat - 1) n)) r).map word).isEmpty = !(ordS K.toNat).any fun r => sub r (dif (2 ^ K.toNat - 1) n) && !at_ (tr (otF (opF K bags) (2 ^ K.toNat)) (dif (2 ^ K.toNat - 1) n)) r := by
      rw [List.isEmpty_map, Bool.eq_iff_iff, List.isEmpty_iff, List.filter_eq_nil_iff, Bool.not_eq_true', List.any_eq_false]
    rw [this, Bool.not_not]
    exact (any_congr fun r hr => cu_one h hn hr).symm
end Rgg
