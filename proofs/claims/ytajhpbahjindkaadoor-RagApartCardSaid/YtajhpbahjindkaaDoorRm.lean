/- Sets that are told apart: the reference's side, walked. -/
import Derived.Test.YtajhpbahjindkaaDoorRl
import Derived.Test.YtajhpbahjindkaaDoorRg
import Derived.Test.YtajhpbahjindkaaDoorRk
import Derived.Test.YtajhpbahjindkaaDoorRh
set_option linter.unusedVariables false
set_option linter.unusedSimpArgs false
namespace Rgg
open Go
theorem sets_szs {K : Int} (h1 : 1 ≤ K) (h5 : K ≤ 5) : ∀ x ∈ setsL K, x.size ≤ 5 := by
  intro x hx
  unfold setsL at hx
  obtain ⟨n, hn, rfl⟩ := List.mem_map.1 hx
  refine word_sz n ?_
  have : K = 1 ∨ K = 2 ∨ K = 3 ∨ K = 4 ∨ K = 5 := by omega
  rcases this with rfl | rfl | rfl | rfl | rfl <;> revert n <;> decide
theorem szs_of {l : List ByteArray} (h : ∀ x ∈ l, x.size ≤ 5) : szs l = true := List.all_eq_true.2 fun y hy => decide_eq_true (by have := h y hy; omega)
theorem sub_sz {K : Int} (h1 : 1 ≤ K) (h5 : K ≤ 5) (q : ByteArray → Bool) : szs ((setsL K).filter q) = true ∧ Ev.sm ((setsL K).filter q) = true :=
  ⟨szs_of fun x hx => sets_szs h1 h5 x (List.mem_filter.1 hx).1, decide_eq_true (Nat.le_trans (List.length_filter_le _ _) (by have := setsL_len h1 h5; omega))⟩
theorem filt_head (P : ByteArray → Bool) : ∀ (l : List ByteArray), l.any P = true → ∃ x, l[l.findIdx P]? = some x ∧ (l.filter P).headD ⟨#[]⟩ = x ∧ (l.filter P).isEmpty = false
  | [], h => by cases h
  | x :: l, h => by
    rw [List.any_cons] at h
    cases hx : P x with
    | true => exact ⟨x, by rw [List.findIdx_cons, hx]; rfl, by rw [List.filter_cons, hx]; rfl, by rw [List.filter_cons, hx]; rfl⟩
    | false =>
      rw [hx, Bool.false_or] at h
      obtain ⟨y, h1, h2, h3⟩ := filt_head P l h
      refine ⟨y, ?_, ?_, ?_⟩
      · rw [List.findIdx_cons, hx, cond_false, List.getElem?_cons_succ]; exact h1
      · rw [List.filter_cons, hx]; exact h2
      · rw [List.filter_cons, hx]; exact h3
theorem filt_none (P : ByteArray → Bool) (l : List ByteArray) (h : l.any P = false) : (l.filter P).isEmpty = true := by
  rw [List.isEmpty_iff, List.filter_eq_nil_iff]
  intro x hx
  rw [List.any_eq_false] at h
  exact h x hx
end Rgg
namespace Go.Ev.Rag
open Go Go.Ev Go.Proofs
set_option maxRecDepth 1000000
set_option linter.unusedVariables false
set_option linter.unusedSimpArgs false
theorem c69_run : ∀ args H v H', (c69 args H).val = some (v, H') → CallOK Q7 69 args H v H' := c69_ok Q7_ok (by
  intro K s r hv
  obtain ⟨hl, hv2⟩ := guard_val hv
  simp only [Bool.and_eq_true, decide_eq_true_eq] at hl
  obtain ⟨⟨k1, k5⟩, hs⟩ := hl
  have hK := Rgg.setsL_len k1 k5
  refine (nf69 ..).trans ?_
  rw [decide_eq_true k1, decide_eq_true k5, decide_eq_true hs, Rgg.szs_of (Rgg.sets_szs k1 k5), show sm (Rgg.setsL K) = true from decide_eq_true (by omega), leaf_val hv2]; rfl)
theorem c25_run : ∀ args H v H', (c25 args H).val = some (v, H') → CallOK Q7 25 args H v H' := c25_ok Q7_ok (by
  intro K l s p r hv
  obtain ⟨hl, hv2⟩ := guard_val hv
  simp only [Bool.and_eq_true, decide_eq_true_eq] at hl
  obtain ⟨⟨⟨hsm, hsz⟩, hs⟩, hp⟩ := hl
  refine (nf25 ..).trans ?_
  rw [hsz, decide_eq_true hs, leaf_val hv2]
  unfold Rgg.pvR Rgg.pvA
  cases h : Rgg.asE K l s == 0 with
  | false => simp only [Bool.and_self, cond_true, cond_false, h, Bool.false_and]
  | true =>
    obtain ⟨k1, k5, _⟩ := Rgg.ckE_zero (Rgg.asE_zero h).1
    have ht := (Rgg.sub_sz k1 k5 (fun x => Rgg.hasS (l.map fun b => Rgg.cmS b s) x)).2
    rw [decide_eq_true k1, decide_eq_true k5, decide_eq_true hp, hsm, show sm (Rgg.trR K l s) = true from ht]
    simp only [Bool.and_self, cond_true]
    cases h2 : Rgg.prE K p == 0 with
    | false => simp only [Bool.false_and, cond_false]
    | true =>
      rw [bne]
      cases h3 : Rgg.cmS p s == p with
      | false => rfl
      | true => cases Rgg.hasS (Rgg.trR K l s) p <;> rfl)
theorem U1_ok : TabOK U1 := by
  have h := Q7_ok
  have h := h.addCall (g := 69) (r := c69) fun a H v H' hv => by refine CallOK.tab ?_ ?_ (c69_run a H v H' hv) <;> rfl
  exact h
theorem c64_run : ∀ args H v H', (c64 args H).val = some (v, H') → CallOK U1 64 args H v H' := c64_ok U1_ok (by
  intro K l s r hv
  obtain ⟨hl, hv2⟩ := guard_val hv
  have h2 := hl
  simp only [Bool.and_eq_true, decide_eq_true_eq] at h2
  obtain ⟨⟨⟨⟨k1, k5⟩, hsm⟩, hsz⟩, hs⟩ := h2
  refine (nf64 ..).trans ?_
  rw [hl, decide_eq_true k1, decide_eq_true k5, decide_eq_true hs, leaf_val hv2]; rfl)
theorem U2_ok : TabOK U2 := by
  have h := U1_ok
  have h := h.addCall (g := 64) (r := c64) fun a H v H' hv => by refine CallOK.tab ?_ ?_ (c64_run a H v H' hv) <;> rfl
  exact h
theorem l18_7_run : ∀ base kv H o kv' H', (l18_7 base kv H).val = some (o, kv', H') → LoopOK U2 18 7 base kv H o kv' H' := l18_7_ok U2_ok (by kernel_rfl) (by
  intro K l al k r hv
  obtain ⟨hl, hv2⟩ := guard_val hv
  simp only [Bool.and_eq_true, decide_eq_true_eq] at hl
  obtain ⟨⟨⟨⟨⟨⟨k1, k5⟩, hsm⟩, hsz⟩, hsa⟩, hza⟩, rfl⟩ := hl
  have hsa := sm_le hsa
  obtain ⟨mm, hm⟩ := steps_of (T := U2) (fid := 18) (lid := 7) (base := 0) (c := lpc U2 18 7) al.length (fun i => [vi K, lS l, osW 0 ((al.take i).filter (Rgg.toR K l)).length, osW 1 al.length, vi (i : Nat)]) (fun i => [some (rS ((al.take i).filter (Rgg.toR K l))), some (rowS al 9)])
    (.ext 0, [vi K, lS l, osW 0 (al.filter (Rgg.toR K l)).length, osW 1 al.length, vi al.length], [some (rS (al.filter (Rgg.toR K l))), some (rowS al 9)])
    (fun i hi again => by
      refine (nl18 ..).trans ?_
      have hx := List.getElem?_eq_getElem hi
      generalize al[i] = x at hx
      have hxs := Rgg.szs_get hza (List.mem_of_getElem? hx)
      have hln := Rgg.filt_len (Rgg.toR K l) al i
      rw [Rgg.filt_succ _ hx, wrap_succ (by omega), room_ok (by omega) (by omega)]
      simp only [dec_lt hi, dec_ge, cond_true, toNat_cast, hx, oM, hsm, hsz, decide_eq_true k1, decide_eq_true k5, decide_eq_true hxs, Bool.and_self]
      cases Rgg.toR K l x with
      | true => simp only [cond_true, List.length_append, List.length_singleton, rS, Rgg.tyS_snoc]
      | false => rfl)
    (fun again => by
      refine (nl18 ..).trans ?_
      simp only [dec_ll, cond_false, List.take_length])
  exact ⟨mm, hm.trans (by rw [leaf_val hv2])⟩)
theorem U3_ok : TabOK U3 := by
  have h := U2_ok
  have h := h.addLoop (g := 18) (lid := 7) (r := l18_7) fun b k H o k' H' hv => by refine LoopOK.tab ?_ ?_ ?_ ?_ (l18_7_run b k H o k' H' hv) <;> rfl
  exact h
theorem c18_run : ∀ args H v H', (c18 args H).val = some (v, H') → CallOK U3 18 args H v H' := c18_ok U3_ok (by
  intro K l r hv
  obtain ⟨hl, hv2⟩ := guard_val hv
  simp only [Bool.and_eq_true, decide_eq_true_eq] at hl
  refine (nf18 ..).trans ?_
  rw [hl.1, leaf_val hv2, hl.2]
  unfold Rgg.apR
  cases h : Rgg.ckE K l == 0 with
  | true =>
    obtain ⟨k1, k5, _⟩ := Rgg.ckE_zero h
    have hK := Rgg.setsL_len k1 k5
    rw [show (Rgg.ckE K l != 0) = false by rw [bne, h]; rfl, decide_eq_true k1, decide_eq_true k5, beq_iff_eq.1 h, Rgg.szs_of (Rgg.sets_szs k1 k5), show sm (Rgg.setsL K) = true from decide_eq_true (by omega), decide_eq_true rfl]; rfl
  | false => rw [show (Rgg.ckE K l != 0) = true by rw [bne, h]; rfl]; rfl)
theorem U4_ok : TabOK U4 := by
  have h := U2_ok
  have h := h.addCall (g := 18) (r := c18) fun a H v H' hv => by refine CallOK.tab ?_ ?_ (c18_run a H v H' hv) <;> rfl
  exact h
theorem l20_8_run : ∀ base kv H o kv' H', (l20_8 base kv H).val = some (o, kv', H') → LoopOK U4 20 8 base kv H o kv' H' := l20_8_ok U4_ok (by kernel_rfl) (by
  intro l k ty r hv
  obtain ⟨hl, hv2⟩ := guard_val hv
  simp only [Bool.and_eq_true, decide_eq_true_eq] at hl
  obtain ⟨⟨hsm, hsz⟩, rfl⟩ := hl
  have hsm := sm_le hsm
  obtain ⟨mm, hm⟩ := steps_of (T := U4) (fid := 20) (lid := 8) (base := 0) (c := lpc U4 20 8) l.length (fun i => [osW 0 l.length, vi ((l.take i).foldl (fun n x => max n x.size) 0 : Nat), vi (i : Nat)]) (fun i => [some (rowS l ty)])
    (.ext 0, [osW 0 l.length, vi (Rgg.mxN l : Nat), vi l.length], [some (rowS l ty)])
    (fun i hi again => by
      refine (nl20 ..).trans ?_
      have hx := List.getElem?_eq_getElem hi
      generalize l[i] = x at hx
      rw [List.take_add_one, hx, wrap_succ (by omega)]
      simp only [dec_lt hi, dec_ge, cond_true, toNat_cast, hx, oM, Option.toList, List.foldl_append, List.foldl_cons, List.foldl_nil]
      generalize (l.take i).foldl (fun n x => max n x.size) 0 = q
      rw [show (if ((x.size : Nat) : Int) > (q : Nat) then ((x.size : Nat) : Int) else (q : Nat)) = ((max q x.size : Nat) : Int) by split <;> omega])
    (fun again => by
      refine (nl20 ..).trans ?_
      simp only [dec_ll, cond_false, List.take_length]
      rfl)
  exact ⟨mm, hm.trans (by rw [leaf_val hv2])⟩)
theorem l22_7_run : ∀ base kv H o kv' H', (l22_7 base kv H).val = some (o, kv', H') → LoopOK U2 22 7 base kv H o kv' H' := l22_7_ok U2_ok (by kernel_rfl) (by
  intro e l t k m ty tz r hv
  obtain ⟨hl, hv2⟩ := guard_val hv
  simp only [Bool.and_eq_true, decide_eq_true_eq] at hl
  obtain ⟨⟨⟨hsm, hst⟩, rfl⟩, rfl⟩ := hl
  have hsm := sm_le hsm
  obtain ⟨mm, hm⟩ := found_of (T := U2) (fid := 22) (lid := 7) (base := 0) (c := lpc U2 22 7) l (fun x => !Rgg.hasS t x) (fun i => [vS e, vi 0, osW 0 l.length, osW 1 t.length, vi i]) [some (rowS l ty), some (rowS t tz)]
    (fun i => (.ret, [vS (l.getD i ⟨#[]⟩), vi 0, osW 0 l.length, osW 1 t.length, vi i], [some (rowS l ty), some (rowS t tz)])) (.ext 0, [vS e, vi 0, osW 0 l.length, osW 1 t.length, vi l.length], [some (rowS l ty), some (rowS t tz)])
    (fun i x hx hlt again => by
      refine (nl22 ..).trans ?_
      simp only [dec_lt hlt, dec_ge, cond_true, toNat_cast, hx, oM, hst]
      rw [wrap_succ (by omega), List.getD_eq_getElem?_getD, hx]
      cases Rgg.hasS t x <;> rfl)
    (fun again => by
      refine (nl22 ..).trans ?_
      simp only [dec_ll, cond_false])
  refine ⟨mm, hm.trans ?_⟩
  cases h : l.any fun x => !Rgg.hasS t x with
  | false =>
    rw [Rgg.filt_none _ l h] at hv2
    rw [leaf_val (show (Tree.leaf _).val = some r from hv2)]; rfl
  | true =>
    obtain ⟨x, h1, h2, h3⟩ := Rgg.filt_head _ l h
    rw [h3, h2] at hv2
    rw [leaf_val (show (Tree.leaf _).val = some r from hv2), List.getD_eq_getElem?_getD, h1]; rfl)
theorem U5_ok : TabOK U5 := by
  have h := U4_ok
  have h := h.addLoop (g := 20) (lid := 8) (r := l20_8) fun b k H o k' H' hv => by refine LoopOK.tab ?_ ?_ ?_ ?_ (l20_8_run b k H o k' H' hv) <;> rfl
  have h := h.addLoop (g := 22) (lid := 7) (r := l22_7) fun b k H o k' H' hv => by refine LoopOK.tab ?_ ?_ ?_ ?_ (l22_7_run b k H o k' H' hv) <;> rfl
  exact h
theorem c20_run : ∀ args H v H', (c20 args H).val = some (v, H') → CallOK U5 20 args H v H' := c20_ok U5_ok (by
  intro K l r hv
  obtain ⟨hl, hv2⟩ := guard_val hv
  refine (nf20 ..).trans ?_
  rw [hl, leaf_val hv2]
  unfold Rgg.lgRN Rgg.lgRE
  cases h : Rgg.ckE K l == 0 with
  | false =>
    rw [show (Rgg.ckE K l != 0) = true by rw [bne, h]; rfl]
    simp only [Bool.false_and, cond_true, cond_false, h]
  | true =>
    obtain ⟨k1, k5, _⟩ := Rgg.ckE_zero h
    rw [show (Rgg.ckE K l != 0) = false by rw [bne, h]; rfl]
    simp only [Bool.true_and, cond_true, cond_false]
    cases h2 : (l.length : Int) == 0 with
    | true => rfl
    | false =>
      have hs : Rgg.szs (Rgg.apR K l) = true ∧ sm (Rgg.apR K l) = true := by
        unfold Rgg.apR
        rw [h]
        exact Rgg.sub_sz k1 k5 _
      rw [hs.1, hs.2]
      simp only [cond_false, h, Bool.and_self, cond_true, decide_true]
      rw [beq_iff_eq.1 h])
theorem c22_run : ∀ args H v H', (c22 args H).val = some (v, H') → CallOK U5 22 args H v H' := c22_ok U5_ok (by
  intro K l s r hv
  obtain ⟨hl, hv2⟩ := guard_val hv
  simp only [Bool.and_eq_true, decide_eq_true_eq] at hl
  obtain ⟨⟨hsm, hsz⟩, hs⟩ := hl
  refine (nf22 ..).trans ?_
  rw [hsz, decide_eq_true hs, leaf_val hv2, hsm]
  unfold Rgg.msRS Rgg.msRE Rgg.msRL
  cases h : Rgg.asE K l s == 0 with
  | false =>
    rw [show (Rgg.asE K l s != 0) = true by rw [bne, h]; rfl]; rfl
  | true =>
    obtain ⟨k1, k5, _⟩ := Rgg.ckE_zero (Rgg.asE_zero h).1
    have ht : sm (Rgg.trR K l s) = true := (Rgg.sub_sz k1 k5 _).2
    have hp : sm (Rgg.paR K s) = true := (Rgg.sub_sz k1 k5 _).2
    rw [show (Rgg.asE K l s != 0) = false by rw [bne, h]; rfl, decide_eq_true k1, decide_eq_true k5, ht, hp, decide_eq_true rfl, decide_eq_true rfl]
    simp only [Bool.and_self, cond_true, cond_false]
    cases (List.filter (fun x => !Rgg.hasS (Rgg.trR K l s) x) (Rgg.paR K s)).isEmpty <;> rfl)
end Go.Ev.Rag
namespace Rgg
open Go
theorem pa_fin : ∀ k, k < 6 → ∀ n, n ∈ ordS k → ∀ m, m < 32 → ((ordS k).any fun b => b &&& m == n) = sub n m := by decide +kernel
theorem sub_and : ∀ b, b < 32 → ∀ m, m < 32 → sub (b &&& m) m = true := by decide +kernel
theorem sub_dif : ∀ q, q < 32 → ∀ m, m < 32 → (dif q m != 0) = (word (q &&& m) != word q) := by decide +kernel
theorem zero_in : ∀ k, k < 6 → 1 ≤ k → 0 ∈ ordS k := by decide
theorem sub_zero : ∀ n, n < 32 → sub n 0 = true → n = 0 := by decide
theorem zero_sub (m : Nat) : sub 0 m = true := by unfold sub; rw [Nat.zero_and]; rfl
theorem any_map (l : List Nat) (s x : ByteArray) : hasS ((l.map word).map fun b => cmS b s) x = l.any fun b => cmS (word b) s == x := by
  unfold hasS
  rw [List.map_map, List.any_map]; rfl
theorem any_congr {l : List Nat} {p q : Nat → Bool} (h : ∀ b ∈ l, p b = q b) : l.any p = l.any q := by
  rw [Bool.eq_iff_iff, List.any_eq_true, List.any_eq_true]
  exact ⟨fun ⟨b, h1, h2⟩ => ⟨b, h1, by rw [← h b h1]; exact h2⟩, fun ⟨b, h1, h2⟩ => ⟨b, h1, by rw [h b h1]; exact h2⟩⟩
theorem pa_words {K : Int} (h1 : 1 ≤ K) (h5 : K ≤ 5) {m : Nat} (hm : m < 32) : paR K (word m) = ((ordS K.toNat).filter fun n => sub n m).map word := by
  unfold paR trR ofS
  rw [filt_sets]
  congr 1
  refine List.filter_congr fun n hn => ?_
  have hn32 := ord_lt K.toNat (by omega) n hn
  unfold setsL
  rw [any_map, ← pa_fin K.toNat (by omega) n hn m hm]
  refine any_congr fun b hb => ?_
  have hb32 := ord_lt K.toNat (by omega) b hb
  rw [eq_of_beq (cm_word b hb32 m hm), word_inj _ (and_lt b hb32 m hm) n hn32]
  rw [Bool.eq_iff_iff, decide_eq_true_eq, beq_iff_eq]
theorem tr_words {K : Int} {bags : List ByteArray} (h : (opE K bags == 0) = true) {m : Nat} (hm : m < 32) : trR K bags (word m) = ((ordS K.toNat).filter fun n => at_ (tr (opF K bags) m) n).map word := by
  obtain ⟨k1, k5, _⟩ := opE_zero h
  obtain ⟨⟨_, hs⟩, hw⟩ := op_same h
  unfold trR ofS
  rw [filt_sets]
  symm
  refine filt_congr k5 fun n hn => ?_
  unfold tr
  rw [at_trF hm 32 (Nat.le_refl _) n hn, Bool.eq_iff_iff, List.any_eq_true, has_mem, List.mem_map]
  constructor
  · rintro ⟨x, hx, hh⟩
    rw [List.mem_range] at hx
    simp only [Bool.and_eq_true, beq_iff_eq] at hh
    rw [hs x hx, has_mem] at hh
    exact ⟨word x, hh.1, by rw [eq_of_beq (cm_word x hx m hm), hh.2]⟩
  · rintro ⟨y, hy, he⟩
    obtain ⟨x, hx, _, rfl⟩ := hw y hy
    rw [eq_of_beq (cm_word x hx m hm)] at he
    refine ⟨x, List.mem_range.2 hx, ?_⟩
    rw [hs x hx, has_mem.2 hy, Bool.true_and, beq_iff_eq]
    have := word_inj _ (and_lt x hx m hm) n hn
    rw [he, beq_self_eq_true] at this
    exact of_decide_eq_true this.symm
theorem ms_words {K : Int} (h1 : 1 ≤ K) (h5 : K ≤ 5) (l : List Bool) (m : Nat) : miss K l m = ((ordS K.toNat).filter fun n => sub n m && !at_ (tr l m) n).map word := srt_upTo h1 h5 _
theorem tr_sub {K : Int} {bags : List ByteArray} {m n : Nat} (hm : m < 32) (hn : n < 32) (h : at_ (tr (opF K bags) m) n = true) : sub n m = true := by
  unfold tr at h
  rw [at_trF hm 32 (Nat.le_refl _) n hn, List.any_eq_true] at h
  obtain ⟨b, hb, hh⟩ := h
  simp only [Bool.and_eq_true, beq_iff_eq] at hh
  rw [← hh.2]
  exact sub_and b (List.mem_range.1 hb) m hm
theorem has_words {k : Nat} (hk : k < 6) (P : Nat → Bool) {n : Nat} (hn : n < 32) (hin : n ∈ ordS k) : hasS (((ordS k).filter P).map word) (word n) = P n := by
  rw [Bool.eq_iff_iff, has_mem, List.mem_map]
  constructor
  · rintro ⟨b, hb, he⟩
    obtain ⟨h1, h2⟩ := List.mem_filter.1 hb
    have := word_inj b (ord_lt k hk b h1) n hn
    rw [he, beq_self_eq_true] at this
    rw [← of_decide_eq_true this.symm]
    exact h2
  · intro h
    exact ⟨n, List.mem_filter.2 ⟨hin, h⟩, rfl⟩
theorem len_split (S T : Nat → Bool) : ∀ (l : List Nat), (∀ n ∈ l, T n = true → S n = true) → (l.filter S).length = (l.filter T).length + (l.filter fun n => S n && !T n).length
  | [], _ => rfl
  | x :: l, h => by
    have ih := len_split S T l (fun n hn => h n (List.mem_cons_of_mem _ hn))
    have hx := h x (by simp)
    rw [List.filter_cons, List.filter_cons, List.filter_cons]
    cases hS : S x <;> cases hT : T x
    · simpa [hS, hT] using ih
    · rw [hS] at hx; exact absurd (hx hT) (by simp)
    · simp [hS, hT]; omega
    · simp [hS, hT]; omega
theorem to_eq {K : Int} {bags : List ByteArray} (h : (opE K bags == 0) = true) {m : Nat} (hm : m < 32) : (miss K (opF K bags) m).isEmpty = toR K bags (word m) := by
  obtain ⟨k1, k5, _⟩ := opE_zero h
  unfold toR
  rw [ms_words k1 k5, tr_words h hm, pa_words k1 k5 hm, List.length_map, List.length_map]
  have := len_split (fun n => sub n m) (fun n => at_ (tr (opF K bags) m) n) (ordS K.toNat) (fun n hn ht => tr_sub hm (ord_lt K.toNat (by omega) n hn) ht)
  rw [this, Bool.eq_iff_iff, List.isEmpty_iff, beq_iff_eq, List.map_eq_nil_iff, ← List.length_eq_zero_iff]
  omega
theorem ap_eq (K : Int) (bags : List ByteArray) : apL K bags = apR K bags := by
  unfold apL apR
  rw [ck_eq]
  cases h : opE K bags == 0 with
  | false => rfl
  | true =>
    obtain ⟨k1, k5, _⟩ := opE_zero h
    rw [cond_true, cond_true, srt_upTo k1 k5, filt_sets]
    exact filt_congr k5 fun n hn => to_eq h hn
theorem ap_empty {K : Int} {bags : List ByteArray} (h : (opE K bags == 0) = true) : (apL K bags).isEmpty = ((bags.length : Int) == 0) := by
  obtain ⟨k1, k5, _⟩ := opE_zero h
  obtain ⟨⟨_, hs⟩, hw⟩ := op_same h
  have h0 := zero_in K.toNat (by omega) (by omega)
  unfold apL
  rw [h, cond_true, srt_upTo k1 k5]
  cases bags with
  | nil =>
    rw [show (((([] : List ByteArray).length : Nat) : Int) == 0) = true from rfl, List.isEmpty_iff, List.map_eq_nil_iff, List.filter_eq_nil_iff]
    intro m hm
    have hm32 := ord_lt K.toNat (by omega) m hm
    rw [ms_words k1 k5, List.isEmpty_iff, List.map_eq_nil_iff, List.filter_eq_nil_iff]
    intro hc
    refine hc 0 h0 ?_
    have : at_ (tr (opF K []) m) 0 = false := by
      unfold tr
      rw [at_trF hm32 32 (Nat.le_refl _) 0 (by omega), List.any_eq_false]
      intro b hb
      rw [hs b (List.mem_range.1 hb)]
      exact fun h => by cases h
    rw [zero_sub, this]; rfl
  | cons x t =>
    rw [show ((((x :: t).length : Nat) : Int) == 0) = false from beq_false_of_ne (by simp; omega)]
    rw [Bool.eq_false_iff]
    intro he
    rw [List.isEmpty_iff, List.map_eq_nil_iff, List.filter_eq_nil_iff] at he
    refine he 0 h0 ?_
    rw [ms_words k1 k5, List.isEmpty_iff, List.map_eq_nil_iff, List.filter_eq_nil_iff]
    intro n hn
    have hn32 := ord_lt K.toNat (by omega) n hn
    cases hz : sub n 0 with
    | false => simp
    | true =>
      obtain rfl := sub_zero n hn32 hz
      obtain ⟨y, hy, _, hxy⟩ := hw x (by simp)
      have : at_ (tr (opF K (x :: t)) 0) 0 = true := by
        unfold tr
        rw [at_trF (by omega) 32 (Nat.le_refl _) 0 (by omega), List.any_eq_true]
        refine ⟨y, List.mem_range.2 hy, ?_⟩
        rw [hs y hy, has_mem.2 (by rw [← hxy]; simp), Nat.and_zero]; rfl
      rw [this]; simp
theorem mx_size : ∀ (l : List ByteArray) (m : ByteArray), (l.foldl mxP m).size = l.foldl (fun n x => max n x.size) m.size
  | [], _ => rfl
  | x :: l, m => by
    rw [List.foldl_cons, List.foldl_cons, mx_size l]
    congr 1
    unfold mxP
    by_cases h : m.size < x.size
    · rw [decide_eq_true h, cond_true]; omega
    · rw [decide_eq_false h, cond_false]; omega
theorem mxS_size (x : ByteArray) (t : List ByteArray) : (mxS (x :: t)).size = mxN (x :: t) := by
  unfold mxS mxN
  rw [List.drop_one, List.tail_cons, mx_size, List.foldl_cons, Nat.zero_max]; rfl
theorem lgE_eq (K : Int) (bags : List ByteArray) : lgE K bags = lgRE K bags := by
  unfold lgE lgRE
  rw [ck_eq]
  cases h : opE K bags == 0 with
  | false => rfl
  | true =>
    rw [cond_true, Bool.true_and, ap_empty h, beq_iff_eq.1 h]
theorem lgN_eq (K : Int) (bags : List ByteArray) : lgN K bags = lgRN K bags := by
  unfold lgRN
  rw [← lgE_eq, ← ap_eq]
  unfold lgN lgE
  cases h : opE K bags == 0 with
  | false => rw [cond_false, cond_false, h]; rfl
  | true =>
    rw [cond_true, cond_true]
    cases apL K bags with
    | nil => rfl
    | cons x t => rw [← mxS_size]; rfl
theorem msL_eq {K : Int} {bags : List ByteArray} (h : (opE K bags == 0) = true) {m : Nat} (hm : m < 32) : miss K (opF K bags) m = msRL K bags (word m) := by
  obtain ⟨k1, k5, _⟩ := opE_zero h
  unfold msRL
  rw [ms_words k1 k5, pa_words k1 k5 hm, tr_words h hm, List.filter_map, List.filter_filter]
  congr 1
  refine List.filter_congr fun n hn => ?_
  have hn32 := ord_lt K.toNat (by omega) n hn
  show _ = (!hasS _ (word n) && sub n m)
  rw [has_words (by omega) _ hn32 hn, Bool.and_comm]
theorem ms_eq (K : Int) (bags : List ByteArray) (s : ByteArray) : msE K bags s = msRE K bags s ∧ msS K bags s = msRS K bags s := by
  unfold msE msRE msS msRS
  rw [← me_eq]
  cases h : meE K bags s == 0 with
  | false => exact ⟨rfl, rfl⟩
  | true =>
    obtain ⟨h1, h2⟩ := meE_zero h
    obtain ⟨k1, k5, _⟩ := opE_zero h1
    rcases rd_cases k1 k5 s with h' | ⟨_, b, _, d⟩
    · exact absurd (beq_iff_eq.1 h2) h'
    have : msL K bags s = msRL K bags s := by
      unfold msL
      rw [msL_eq h1 b, ← d]
    rw [this]
    exact ⟨rfl, rfl⟩
theorem pv_eq (K : Int) (bags : List ByteArray) (s p : ByteArray) : pvE K bags s p = pvR K bags s p := by
  unfold pvE pvR pvA
  rw [← me_eq]
  cases h : meE K bags s == 0 with
  | false => rw [cond_false, cond_false, h]; rfl
  | true =>
    obtain ⟨h1, h2⟩ := meE_zero h
    obtain ⟨k1, k5, _⟩ := opE_zero h1
    rw [cond_true, cond_true, pr_eq]
    cases hp : rdE (rd K p) == 0 with
    | false => rfl
    | true =>
      rw [cond_true, Bool.true_and, beq_iff_eq.1 hp]
      rcases rd_cases k1 k5 s with h' | ⟨_, b, _, d⟩
      · exact absurd (beq_iff_eq.1 h2) h'
      rcases rd_cases k1 k5 p with h' | ⟨_, b', c', d'⟩
      · exact absurd (beq_iff_eq.1 hp) h'
      congr 1
      generalize rdV (rd K s) = m at b d
      generalize rdV (rd K p) = q at b' c' d'
      subst d
      subst d'
      have hin : q ∈ ordS K.toNat := (ord_perm K.toNat (by omega) (by omega)).mem_iff.1 (List.mem_range.2 c')
      rw [sub_dif q b' m b, eq_of_beq (cm_word q b' m b), tr_words h1 b, has_words (by omega) _ b' hin]
end Rgg
