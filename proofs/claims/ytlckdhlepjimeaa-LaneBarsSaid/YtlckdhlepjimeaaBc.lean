/- Corners that bar the carts: sets of corners that are reached, and ways. -/
import Derived.Test.YtlckdhlepjimeaaBb
import Derived.Test.YtlckdhlepjimeaaFc
set_option linter.unusedVariables false
set_option linter.unusedSimpArgs false
namespace Lan
open Go
theorem has_app (l m : List Int) (x : Int) : has (l ++ m) x = (has l x || has m x) := by unfold has; rw [List.any_append]
theorem meet_snoc (w l : List Int) (x : Int) : meetB (w ++ [x]) l = (meetB w l || has l x) := by
  unfold meetB; rw [List.any_append]; simp only [List.any_cons, List.any_nil, Bool.or_false]
theorem last_mem {w : List Int} (h : w ≠ []) : lastI w ∈ w := List.mem_of_getElem? (last_get h)
theorem wF_sub (b to : Int) (sh : List Int) : ∀ (n f : Nat), f ≤ n → ∀ w v, v ∈ wF b to sh f w → ∀ x ∈ w, x ∈ v
  | _, 0, _, w, v, h, x, hx => by rw [wF] at h; cases h
  | 0, f + 1, hf, _, _, _, _, _ => by omega
  | n + 1, f + 1, hf, w, v, h, x, hx => by
    rw [wF_succ] at h
    cases hs : has sh (lastI w) with
    | true => rw [hs] at h; cases h
    | false =>
      rw [hs, cond_false] at h
      unfold wN wB at h
      rcases List.mem_append.1 h with h | h
      · cases ht : lastI w == to with
        | false => rw [ht] at h; cases h
        | true =>
          rw [ht, cond_true, List.mem_singleton] at h
          rw [h]; exact hx
      · obtain ⟨k, hk, h⟩ := List.mem_flatMap.1 h
        cases hst : stepR b (lastI w) (lastI w + 1 + k) with
        | false => rw [hst] at h; cases h
        | true =>
          rw [hst, cond_true] at h
          exact wF_sub b to sh n (f - k) (by omega) _ v h x (by simp [hx])
theorem wF_filter (b to : Int) (sh l : List Int) : ∀ (n f : Nat), f ≤ n → ∀ w, w ≠ [] → meetB w l = has l (lastI w) → wF b to (sh ++ l) f w = (wF b to sh f w).filter fun v => !meetB v l
  | _, 0, _, w, _, _ => by rw [wF, wF]; rfl
  | 0, f + 1, hf, _, _, _ => by omega
  | n + 1, f + 1, hf, w, hne, hm => by
    rw [wF_succ, wF_succ, has_app]
    cases hs : has sh (lastI w) with
    | true => rfl
    | false =>
      rw [Bool.false_or, cond_false]
      cases hl : has l (lastI w) with
      | true =>
        rw [cond_true]
        symm
        rw [List.filter_eq_nil_iff]
        intro v hv
        have hv' : v ∈ wF b to sh (f + 1) w := by rw [wF_succ, hs]; exact hv
        have hlast := wF_sub b to sh (f + 1) (f + 1) (Nat.le_refl _) w v hv' _ (last_mem hne)
        have : meetB v l = true := List.any_eq_true.2 ⟨_, hlast, hl⟩
        rw [this]; simp
      | false =>
        rw [cond_false]
        rw [hl] at hm
        unfold wN
        rw [List.filter_append, List.filter_flatMap]
        congr 1
        · unfold wB
          cases lastI w == to with
          | false => rfl
          | true => rw [cond_true, List.filter_cons, hm]; rfl
        · congr 1
          funext k
          cases hst : stepR b (lastI w) (lastI w + 1 + k) with
          | false => rfl
          | true => exact wF_filter b to sh l n (f - k) (by omega) _ (by simp) (by rw [meet_snoc, hm, last_snoc]; rfl)
theorem ins_mem (out : List (List Int)) (w v : List Int) : v ∈ insW out w ↔ v = w ∨ v ∈ out := by
  unfold insW
  rw [List.mem_append, List.mem_append, List.mem_singleton]
  have : v ∈ out ↔ v ∈ out.take (insAt out w) ∨ v ∈ out.drop (insAt out w) := by rw [← List.mem_append, List.take_append_drop]
  rw [this]
  constructor
  · rintro ((h | h) | h)
    · exact .inr (.inl h)
    · exact .inl h
    · exact .inr (.inr h)
  · rintro (h | h | h)
    · exact .inl (.inr h)
    · exact .inl (.inl h)
    · exact .inr h
theorem insF_mem (v : List Int) : ∀ (l out : List (List Int)), v ∈ l.foldl insW out ↔ v ∈ out ∨ v ∈ l
  | [], out => by simp
  | w :: l, out => by
    rw [List.foldl_cons, insF_mem v l, ins_mem, List.mem_cons]
    constructor
    · rintro ((h | h) | h)
      · exact .inr (.inl h)
      · exact .inl h
      · exact .inr (.inr h)
    · rintro (h | h | h)
      · exact .inl (.inr h)
      · exact .inl (.inl h)
      · exact .inr h
theorem fY_mem {a b : Int} {sh ti : List Int} {y : Int} {v : List Int} : v ∈ fY a b sh ti y ↔ ∃ t ∈ ti, v ∈ wR a b t sh [y] := by
  unfold fY
  have main : ∀ (l : List Int) (out : List (List Int)), v ∈ l.foldl (fun out t => (wR a b t sh [y]).foldl insW out) out ↔ v ∈ out ∨ ∃ t ∈ l, v ∈ wR a b t sh [y] := by
    intro l
    induction l with
    | nil => intro out; simp
    | cons t l ih =>
      intro out
      rw [List.foldl_cons, ih, insF_mem]
      constructor
      · rintro ((h | h) | ⟨t', ht, h⟩)
        · exact .inl h
        · exact .inr ⟨t, by simp, h⟩
        · exact .inr ⟨t', by simp [ht], h⟩
      · rintro (h | ⟨t', ht, h⟩)
        · exact .inl (.inl h)
        · rcases List.mem_cons.1 ht with rfl | ht
          · exact .inl (.inr h)
          · exact .inr ⟨t', ht, h⟩
  rw [main]
  simp
theorem last_one (y : Int) : lastI [y] = y := rfl
theorem g_zero {a b t y : Int} {sh l : List Int} : g a b t (sh ++ l) y = 0 ↔ ∀ v ∈ wR a b t sh [y], meetB v l = true := by
  unfold g wR
  rw [last_one, wF_filter b t sh l _ _ (Nat.le_refl _) [y] (by simp) (by unfold meetB; simp [last_one]), List.length_eq_zero_iff, List.filter_eq_nil_iff]
  constructor
  · intro h v hv
    have := h v hv
    cases hm : meetB v l with
    | true => rfl
    | false => rw [hm] at this; exact absurd rfl this
  · intro h v hv
    rw [h v hv]; simp
theorem barW_iff {a b y : Int} {sh ti l : List Int} : barW a b sh ti l y = true ↔ ∀ t ∈ ti, g a b t (sh ++ l) y = 0 := by
  unfold barW
  rw [List.all_eq_true]
  constructor
  · intro h t ht
    exact g_zero.2 fun v hv => h v (fY_mem.2 ⟨t, ht, hv⟩)
  · intro h v hv
    obtain ⟨t, ht, hv⟩ := fY_mem.1 hv
    exact g_zero.1 (h t ht) v hv
theorem lmet_succ (a b : Int) (s m i : Nat) : lmet a b s m (i + 1) = bif (lmet a b s m i).testBit i then lmet a b s m i ||| ofN (stP a b i s) else lmet a b s m i := by
  unfold lmet
  rw [List.range_succ, List.foldl_append]
  rfl
theorem sum_pos {l : List Nat} : 0 < l.sum ↔ ∃ x ∈ l, 0 < x := by
  induction l with
  | nil => simp
  | cons x l ih =>
    rw [List.sum_cons]
    constructor
    · intro h
      by_cases hx : 0 < x
      · exact ⟨x, by simp, hx⟩
      · obtain ⟨y, hy, h2⟩ := ih.1 (by omega)
        exact ⟨y, by simp [hy], h2⟩
    · rintro ⟨y, hy, h2⟩
      rcases List.mem_cons.1 hy with rfl | hy
      · omega
      · have := ih.2 ⟨y, hy, h2⟩
        omega
theorem sg_pos {a b t : Int} {sh l : List Int} : 0 < sg a b t sh l ↔ ∃ m ∈ l, 0 < g a b t sh m := by
  unfold sg
  rw [sum_pos]
  constructor
  · rintro ⟨x, hx, h⟩
    obtain ⟨m, hm, rfl⟩ := List.mem_map.1 hx
    exact ⟨m, hm, h⟩
  · rintro ⟨m, hm, h⟩
    exact ⟨_, List.mem_map.2 ⟨m, hm, rfl⟩, h⟩
theorem st_16 {a b x : Int} {s : Nat} (hs : side a b = true) : in16 (stP a b x s) = true := by
  have h := st_in a b x s
  have hab := (wrong_wrap hs).2.2
  unfold inL at h
  unfold in16
  rw [List.all_eq_true] at *
  intro m hm
  have := h m hm
  simp only [Bool.and_eq_true, decide_eq_true_eq] at *
  omega
theorem met_inv {a b t : Int} {sh ya : List Int} {s m : Nat} (hs : side a b = true) (t0 : 0 ≤ t) (t1 : t < a * b) (hbit : ∀ y : Int, 0 ≤ y → y < a * b → s.testBit y.toNat = has sh y)
    (hya : ∀ y ∈ ya, 0 ≤ y ∧ y < a * b) (hm : ∀ i : Nat, m.testBit i = true ↔ ((i : Int) ∈ ya ∧ has sh i = false)) :
    ∀ i : Nat, (i : Int) ≤ a * b → ((∃ y ∈ ya, 0 < g a b t sh y) ↔ (∃ k : Nat, i ≤ k ∧ (k : Int) < a * b ∧ (lmet a b s m i).testBit k = true ∧ 0 < g a b t sh k) ∨ (t < i ∧ (lmet a b s m i).testBit t.toNat = true)) ∧ ∀ k : Nat, (lmet a b s m i).testBit k = true → has sh k = false
  | 0, _ => by
    refine ⟨⟨?_, ?_⟩, fun k hk => ((hm k).1 hk).2⟩
    · rintro ⟨y, hy, hg⟩
      obtain ⟨y0, y1⟩ := hya y hy
      obtain ⟨k, rfl⟩ := Int.eq_ofNat_of_zero_le y0
      refine .inl ⟨k, Nat.zero_le _, y1, (hm k).2 ⟨hy, ?_⟩, hg⟩
      cases hh : has sh (k : Int) with
      | false => rfl
      | true => rw [g_shut hh] at hg; cases hg
    · rintro (⟨k, _, _, hk, hg⟩ | ⟨h, _⟩)
      · exact ⟨k, ((hm k).1 hk).1, hg⟩
      · omega
  | i + 1, hi => by
    obtain ⟨ih, ihs⟩ := met_inv hs t0 t1 hbit hya hm i (by omega)
    rw [ih, lmet_succ]
    cases hb : (lmet a b s m i).testBit i with
    | false =>
      rw [cond_false]
      refine ⟨⟨?_, ?_⟩, ihs⟩
      · rintro (⟨k, h1, h2, h3, h4⟩ | ⟨h1, h2⟩)
        · refine .inl ⟨k, ?_, h2, h3, h4⟩
          rcases Nat.eq_or_lt_of_le h1 with rfl | h
          · rw [hb] at h3; cases h3
          · exact h
        · exact .inr ⟨by omega, h2⟩
      · rintro (⟨k, h1, h2, h3, h4⟩ | ⟨h1, h2⟩)
        · exact .inl ⟨k, by omega, h2, h3, h4⟩
        · by_cases ht : t = (i : Int)
          · subst ht
            rw [show ((i : Int)).toNat = i from Int.toNat_natCast i, hb] at h2
            cases h2
          · exact .inr ⟨by omega, h2⟩
    | true =>
      rw [cond_true]
      have hsi := ihs i hb
      have hof : ∀ k : Nat, (lmet a b s m i ||| ofN (stP a b i s)).testBit k = ((lmet a b s m i).testBit k || has (stP a b i s) k) := fun k => by
        have := ofN_bit (st_16 (x := (i : Int)) (s := s) hs) (k : Int) (by omega)
        rw [show ((k : Int)).toNat = k from Int.toNat_natCast k] at this
        rw [Nat.testBit_or, this]
      have hst : ∀ k : Nat, has (stP a b i s) k = true → i < k ∧ (k : Int) < a * b ∧ has sh k = false := fun k hk => by
        have hmem := has_mem.1 hk
        have h1 := st_above hs hmem
        have h2 := st_in a b (i : Int) s
        unfold inL at h2
        rw [List.all_eq_true] at h2
        have h3 := h2 _ hmem
        simp only [Bool.and_eq_true, decide_eq_true_eq] at h3
        have h4 : (k : Int) < a * b := by omega
        refine ⟨by omega, h4, ?_⟩
        rw [← hbit k (by omega) h4, show ((k : Int)).toNat = k from Int.toNat_natCast k]
        have rd : ∀ (q : Int) (out : List Int), (∀ y ∈ out, s.testBit y.toNat = false) → ∀ y ∈ rdP a b i s q out, s.testBit y.toNat = false := fun q out ho y hy => by
          unfold rdP at hy
          cases hc : (((q == (i : Int) + 1) && (q.tmod b == 0) && decide (1 < b)) || ((b == 1) && decide (0 < out.length)) || wrongB a b q || s.testBit q.toNat) with
          | true => rw [hc] at hy; exact ho y hy
          | false =>
            rw [hc, cond_false, List.mem_append, List.mem_singleton] at hy
            rcases hy with hy | rfl
            · exact ho y hy
            · simp only [Bool.or_eq_false_iff] at hc
              exact hc.2
        have := rd _ _ (rd ((i : Int) + 1) [] (by simp)) _ hmem
        rwa [show ((k : Int)).toNat = k from Int.toNat_natCast k] at this
      refine ⟨⟨?_, ?_⟩, fun k hk => ?_⟩
      · rintro (⟨k, h1, h2, h3, h4⟩ | ⟨h1, h2⟩)
        · rcases Nat.eq_or_lt_of_le h1 with rfl | h
          · by_cases ht : (i : Int) = t
            · refine .inr ⟨by omega, ?_⟩
              rw [show t.toNat = i by omega, hof, hb]
              rfl
            · rw [g_step hs (by omega) h2 ht hsi hbit, sg_pos] at h4
              obtain ⟨q, hq, hg⟩ := h4
              have hqn : 0 ≤ q := by have := st_above hs hq; omega
              obtain ⟨k, rfl⟩ := Int.eq_ofNat_of_zero_le hqn
              obtain ⟨a1, a2, _⟩ := hst k (has_mem.2 hq)
              refine .inl ⟨k, a1, a2, ?_, hg⟩
              rw [hof, has_mem.2 hq, Bool.or_true]
          · refine .inl ⟨k, h, h2, ?_, h4⟩
            rw [hof, h3]; rfl
        · refine .inr ⟨by omega, ?_⟩
          rw [hof, h2]; rfl
      · rintro (⟨k, h1, h2, h3, h4⟩ | ⟨h1, h2⟩)
        · rw [hof, Bool.or_eq_true] at h3
          rcases h3 with h3 | h3
          · exact .inl ⟨k, by omega, h2, h3, h4⟩
          · refine .inl ⟨i, Nat.le_refl _, by omega, hb, ?_⟩
            by_cases ht : (i : Int) = t
            · rw [ht] at hsi ⊢
              rw [g_to t1 hsi]; exact Nat.one_pos
            · rw [g_step hs (by omega) (by omega) ht hsi hbit, sg_pos]
              exact ⟨k, has_mem.1 h3, h4⟩
        · by_cases ht : t = (i : Int)
          · subst ht
            refine .inl ⟨i, Nat.le_refl _, t1, hb, ?_⟩
            rw [g_to t1 hsi]; exact Nat.one_pos
          · refine .inr ⟨by omega, ?_⟩
            rw [hof, Bool.or_eq_true] at h2
            rcases h2 with h2 | h2
            · exact h2
            · have := (hst t.toNat h2).1
              omega
      · rw [hof, Bool.or_eq_true] at hk
        rcases hk with hk | hk
        · exact ihs k hk
        · exact (hst k hk).2.2
theorem lead_iff {a b : Int} {sh ya ti l : List Int} (hk : ChkOK a b sh ya ti) (hl : in16 l = true) : leadB a b sh ya ti (ofN l) = !(ya.all fun y => barW a b sh ti l y) := by
  have h16 := hk.in16
  have on : ∀ {x : Int}, onP a b x = true → 0 ≤ x ∧ x < a * b := fun {x} h => by
    unfold onP at h; simpa only [Bool.and_eq_true, decide_eq_true_eq] using h
  have hab := (wrong_wrap hk.side).2.2
  have hs16 : in16 (sh ++ l) = true := by unfold in16 at *; rw [List.all_append, h16, hl]; rfl
  have hy16 : in16 ya = true := by
    unfold in16; rw [List.all_eq_true]; intro y hy
    have := on (hk.yards y hy)
    simp only [Bool.and_eq_true, decide_eq_true_eq]; omega
  have ht16 : in16 ti = true := by
    unfold in16; rw [List.all_eq_true]; intro y hy
    have := on (hk.tips y hy)
    simp only [Bool.and_eq_true, decide_eq_true_eq]; omega
  have hb0 : ∀ i : Nat, (ofN l ||| ofN sh).testBit i = has (sh ++ l) i := fun i => by
    have h1 := ofN_bit hl (i : Int) (by omega)
    have h2 := ofN_bit h16 (i : Int) (by omega)
    rw [show ((i : Int)).toNat = i from Int.toNat_natCast i] at h1 h2
    rw [Nat.testBit_or, h1, h2, has_app, Bool.or_comm]
  have hbit : ∀ y : Int, 0 ≤ y → y < a * b → (ofN l ||| ofN sh).testBit y.toNat = has (sh ++ l) y := fun y y0 _ => by
    rw [hb0]; congr 1; omega
  have hm : ∀ i : Nat, (ofN ya &&& (65535 ^^^ (ofN l ||| ofN sh))).testBit i = true ↔ ((i : Int) ∈ ya ∧ has (sh ++ l) i = false) := fun i => by
    have h1 := ofN_bit hy16 (i : Int) (by omega)
    rw [show ((i : Int)).toNat = i from Int.toNat_natCast i] at h1
    rw [Nat.testBit_and, Nat.testBit_xor, hb0, h1, show (65535 : Nat) = 2 ^ 16 - 1 from rfl, Nat.testBit_two_pow_sub_one, Bool.and_eq_true, has_mem]
    constructor
    · rintro ⟨h2, h3⟩
      have := in16_mem hy16 h2
      rw [decide_eq_true (show i < 16 by omega)] at h3
      exact ⟨h2, by simpa using h3⟩
    · rintro ⟨h2, h3⟩
      have := in16_mem hy16 h2
      rw [decide_eq_true (show i < 16 by omega), h3]
      exact ⟨h2, rfl⟩
  have hya : ∀ y ∈ ya, 0 ≤ y ∧ y < a * b := fun y hy => on (hk.yards y hy)
  have key : leadB a b sh ya ti (ofN l) = true ↔ ∃ t ∈ ti, ∃ y ∈ ya, 0 < g a b t (sh ++ l) y := by
    unfold leadB
    rw [and_ne]
    have hfin : ∀ t ∈ ti, ((∃ y ∈ ya, 0 < g a b t (sh ++ l) y) ↔ (lmet a b (ofN l ||| ofN sh) (ofN ya &&& (65535 ^^^ (ofN l ||| ofN sh))) (a * b).toNat).testBit t.toNat = true) := fun t ht => by
      obtain ⟨t0, t1⟩ := on (hk.tips t ht)
      rw [(met_inv hk.side t0 t1 hbit hya hm (a * b).toNat (by omega)).1]
      constructor
      · rintro (⟨k, h1, h2, _⟩ | ⟨_, h⟩)
        · omega
        · exact h
      · intro h; exact .inr ⟨by omega, h⟩
    constructor
    · rintro ⟨i, h1, h2⟩
      have h3 := ofN_bit ht16 (i : Int) (by omega)
      rw [show ((i : Int)).toNat = i from Int.toNat_natCast i, h2] at h3
      have hi := has_mem.1 h3.symm
      exact ⟨i, hi, (hfin i hi).2 (by rw [show ((i : Int)).toNat = i from Int.toNat_natCast i]; exact h1)⟩
    · rintro ⟨t, ht, h⟩
      have t0 := (on (hk.tips t ht)).1
      exact ⟨t.toNat, (hfin t ht).1 h, by rw [ofN_bit ht16 t t0]; exact has_mem.2 ht⟩
  rw [Bool.eq_iff_iff, key, Bool.not_eq_true', List.all_eq_false]
  constructor
  · rintro ⟨t, ht, y, hy, h⟩
    refine ⟨y, hy, fun hb => ?_⟩
    have := barW_iff.1 hb t ht
    omega
  · rintro ⟨y, hy, h⟩
    have h1 : ¬ ∀ t ∈ ti, g a b t (sh ++ l) y = 0 := fun hh => h (barW_iff.2 hh)
    have h2 : ∃ t, ¬ (t ∈ ti → g a b t (sh ++ l) y = 0) := Classical.not_forall.1 h1
    obtain ⟨t, h3⟩ := h2
    have h4 : t ∈ ti ∧ ¬ g a b t (sh ++ l) y = 0 := by
      refine ⟨Classical.byContradiction fun hn => h3 fun hh => absurd hh hn, fun h0 => h3 fun _ => h0⟩
    exact ⟨t, h4.1, y, hy, by omega⟩
end Lan
namespace Lan
open Go
theorem andNot16 {s c : Nat} (hs : s < 65536) (hc : c < 65536) : IntKind.u16.wrap ((BitVec.ofInt 16 (s : Int) &&& ~~~BitVec.ofInt 16 (c : Int)).toNat : Int) = ((s &&& (65535 ^^^ c) : Nat) : Int) := by
  have h : s &&& (65535 ^^^ c) < 2 ^ 16 := Nat.and_lt_two_pow s (Nat.xor_lt_two_pow (by decide) hc)
  rw [show (BitVec.ofInt 16 (s : Int) &&& ~~~BitVec.ofInt 16 (c : Int)).toNat = s &&& (65535 ^^^ c) by
    rw [← BitVec.xor_allOnes, BitVec.toNat_and, BitVec.toNat_xor, BitVec.toNat_allOnes, BitVec.ofInt_natCast, BitVec.ofInt_natCast, BitVec.toNat_ofNat, BitVec.toNat_ofNat, Nat.mod_eq_of_lt hs, Nat.mod_eq_of_lt hc, Nat.xor_comm c]]
  exact wrap16 (by omega) (by omega)
theorem lmet_lt {a b : Int} {s m : Nat} (hs : side a b = true) (hm : m < 65536) : ∀ i, lmet a b s m i < 65536
  | 0 => hm
  | i + 1 => by
    rw [lmet_succ]
    cases (lmet a b s m i).testBit i with
    | false => exact lmet_lt hs hm i
    | true => exact Nat.or_lt_two_pow (n := 16) (lmet_lt hs hm i) (ofN_lt _ 0 (st_16 hs) (by decide))
end Lan
namespace Go.Ev
open Go
theorem seek2_of {T : Tab} {fid lid base : Nat} {c : Code} {α : Type} (g : Nat → Option α) (S : Nat → List AV) (H : Hp) (S2 : Nat → α → List AV) (H2 : Nat → α → Hp) (R : Nat → α → Out × List AV × Hp) (E : Out × List AV × Hp)
    (h2 : ∀ j x, ∀ again : List AV → Hp → Option (Out × List AV × Hp), lpStep T fid lid base c again (S2 j x) (H2 j x) = some (R j x)) :
    ∀ (k i : Nat), (∀ j, i ≤ j → j < i + k → ∀ again : List AV → Hp → Option (Out × List AV × Hp), lpStep T fid lid base c again (S j) H = match g j with | some r => again (S2 j r) (H2 j r) | none => again (S (j + 1)) H) →
    (∀ again : List AV → Hp → Option (Out × List AV × Hp), lpStep T fid lid base c again (S (i + k)) H = some E) →
    ∃ m, lpRun T fid lid base c m (S i) H = some (match (List.range' i k).findSome? fun j => (g j).map fun r => (j, r) with | some x => R x.1 x.2 | none => E)
  | 0, i, _, he => ⟨1, he _⟩
  | k + 1, i, h, he => by
    have h0 := h i (Nat.le_refl _) (by omega)
    rw [List.range'_succ, List.findSome?_cons]
    cases hg : g i with
    | some r =>
      refine ⟨2, ?_⟩
      show lpStep T fid lid base c _ (S i) H = _
      rw [h0, hg]
      exact h2 i r _
    | none =>
      obtain ⟨m, hm⟩ := seek2_of g S H S2 H2 R E h2 k (i + 1) (fun j h1 h2 => h j (by omega) (by omega)) (fun again => by rw [show i + 1 + k = i + (k + 1) by omega]; exact he again)
      refine ⟨m + 1, ?_⟩
      show lpStep T fid lid base c _ (S i) H = _
      rw [h0, hg]
      exact hm
theorem find_some {p : Nat → Bool} : ∀ l : List Nat, (l.findSome? fun j => (bif p j then some j else none : Option Nat).map fun r => (j, r)) = (l.find? p).map fun j => (j, j)
  | [] => rfl
  | x :: l => by
    rw [List.findSome?_cons, List.find?_cons]
    cases h : p x with
    | true => rfl
    | false => exact find_some l
end Go.Ev
namespace Go.Ev.Lane
open Go Go.Ev
set_option maxRecDepth 1000000
set_option linter.unusedVariables false
set_option linter.unusedSimpArgs false
theorem l91_4_run : ∀ base kv H o kv' H', (l91_4 base kv H).val = some (o, kv', H') → LoopOK Y6 91 4 base kv H o kv' H' := l91_4_ok Y6_ok (by kernel_rfl) (by
  intro sh ya ti a b s m q r hv
  obtain ⟨hl, hv2⟩ := guard_val hv
  simp only [Bool.and_eq_true, decide_eq_true_eq] at hl
  obtain ⟨⟨⟨⟨⟨hs, rfl⟩, s0⟩, s1⟩, m0⟩, m1⟩ := hl
  obtain ⟨e1, e2, e3⟩ := Lan.wrong_wrap hs
  obtain ⟨s, rfl⟩ := Int.eq_ofNat_of_zero_le s0
  obtain ⟨m, rfl⟩ := Int.eq_ofNat_of_zero_le m0
  rw [toNat_cast] at hv2
  rw [toNat_cast] at hv2
  obtain ⟨N, hN⟩ := Int.eq_ofNat_of_zero_le (show 0 ≤ a * b by omega)
  have hn : (a * b).toNat = N := by omega
  rw [hn] at hv2
  obtain ⟨mm, hm⟩ := steps_of (T := Y6) (fid := 91) (lid := 4) (base := 0) (c := lpc Y6 91 4) N (fun i => [vS s, ps 0, ps 1, vS (Lan.lmet a b s m i : Nat), vi (a * b), vi (i : Nat)]) (fun _ => [some (rP a b sh 24), some (rZ ya ti 26)])
    (.ext 0, [vS s, ps 0, ps 1, vS (Lan.lmet a b s m N : Nat), vi (a * b), vi (a * b)], [some (rP a b sh 24), some (rZ ya ti 26)])
    (fun i hi again => by
      have hlt := Lan.lmet_lt (s := s) hs (show m < 65536 by omega) i
      have hof := Lan.ofN_lt (Lan.stP a b i s) 0 (Lan.st_16 hs) (by decide)
      refine (nl91 ..).trans ?_
      rw [decide_eq_true (show (i : Int) < a * b by omega), dec_ge, show ((i : Int)).toNat = i from toNat_cast i, Lan.bit16 hlt (show i < 16 by omega), wrap_succ (by omega), Lan.lmet_succ]
      simp only [cond_true]
      cases hb : (Lan.lmet a b s m i).testBit i with
      | false => rfl
      | true =>
        simp only [cond_true, hs, decide_eq_true (show (i : Int) < 16 by omega), decide_eq_true s0, decide_eq_true s1, Bool.and_self, toNat_cast, stP_sm, Lan.st_16 hs, dec_ge]
        rw [show (List.foldl (fun s x => s ||| 2 ^ x.toNat) 0 (Lan.stP a b (i : Int) s)) = Lan.ofN (Lan.stP a b (i : Int) s) from rfl] at hof
        rw [Lan.or16 hlt hof])
    (fun again => by
      refine (nl91 ..).trans ?_
      rw [decide_eq_false (show ¬ (N : Int) < a * b by omega), hN]
      rfl)
  exact ⟨mm, hm.trans (by rw [leaf_val hv2])⟩)
theorem Z12_ok : TabOK Z12 := by
  have h := Y6_ok
  have h := h.addLoop (g := 91) (lid := 4) (r := l91_4) fun b k H o k' H' hv => by refine LoopOK.tab ?_ ?_ ?_ ?_ (l91_4_run b k H o k' H' hv) <;> rfl
  exact h
theorem ledG_ok {a b : Int} {sh ya ti : List Int} (h : Lan.ledG a b sh ya ti = true) : Lan.side a b = true ∧ sm sh = true ∧ sm ya = true ∧ sm ti = true ∧ Lan.in16 sh = true ∧ Lan.in16 ya = true ∧ Lan.in16 ti = true := by
  unfold Lan.ledG at h
  simp only [Bool.and_eq_true] at h
  exact ⟨h.1.1.1.1.1.1, h.1.1.1.1.1.2, h.1.1.1.1.2, h.1.1.1.2, h.1.1.2, h.1.2, h.2⟩
theorem c91_run : ∀ args H v H', (c91 args H).val = some (v, H') → CallOK Y6 91 args H v H' := fun a H v H' hv => by
  refine CallOK.tab ?_ ?_ (c91_ok Z12_ok (by
    intro sh ya ti a b s r hv
    obtain ⟨hl, hv2⟩ := guard_val hv
    simp only [Bool.and_eq_true, decide_eq_true_eq] at hl
    obtain ⟨⟨hG, s0⟩, s1⟩ := hl
    obtain ⟨hs, h1, h2, h3, h4, h5, h6⟩ := ledG_ok hG
    obtain ⟨s, rfl⟩ := Int.eq_ofNat_of_zero_le s0
    obtain ⟨e1, e2, e3⟩ := Lan.wrong_wrap hs
    have f1 : Lan.ofN sh < 65536 := Lan.ofN_lt sh 0 h4 (by decide)
    have f2 : Lan.ofN ya < 65536 := Lan.ofN_lt ya 0 h5 (by decide)
    have f3 : Lan.ofN ti < 65536 := Lan.ofN_lt ti 0 h6 (by decide)
    have f4 : s ||| Lan.ofN sh < 65536 := Nat.or_lt_two_pow (n := 16) (by omega) f1
    have f5 : Lan.ofN ya &&& (65535 ^^^ (s ||| Lan.ofN sh)) < 65536 := Nat.and_lt_two_pow (n := 16) _ (Nat.xor_lt_two_pow (by decide) f4)
    have f6 := Lan.lmet_lt (s := s ||| Lan.ofN sh) hs f5 (a * b).toNat
    refine (nf91 ..).trans ?_
    rw [leaf_val hv2, toNat_cast, Lan.or16 (show s < 65536 by omega) f1, Lan.andNot16 f2 f4, e1, toNat_cast, toNat_cast, Lan.and16 f6 f3]
    simp only [h1, h2, h3, h4, h5, h6, hs, dec_ge, decide_true, decide_eq_true (show ((s ||| Lan.ofN sh : Nat) : Int) < 65536 by omega), decide_eq_true (show ((Lan.ofN ya &&& (65535 ^^^ (s ||| Lan.ofN sh)) : Nat) : Int) < 65536 by omega), Bool.and_self, cond_true]
    have e : ((((Lan.lmet a b (s ||| Lan.ofN sh) (Lan.ofN ya &&& (65535 ^^^ (s ||| Lan.ofN sh))) (a * b).toNat &&& Lan.ofN ti : Nat) : Int)) != 0) = Lan.leadB a b sh ya ti s := by
      unfold Lan.leadB
      rw [Bool.eq_iff_iff, bne_iff_ne, bne_iff_ne]; omega
    rw [e]) a H v H' hv) <;> rfl
theorem Z13_ok : TabOK Z13 := by
  have h := Y6_ok
  have h := h.addCall (g := 91) (r := c91) fun a H v H' hv => by refine CallOK.tab ?_ ?_ (c91_run a H v H' hv) <;> rfl
  exact h
theorem chk_ledG {a b : Int} {sh ya ti : List Int} (hk : Lan.ChkOK a b sh ya ti) (h1 : sm sh = true) (h2 : sm ya = true) (h3 : sm ti = true) : Lan.ledG a b sh ya ti = true := by
  have on : ∀ {l : List Int}, (∀ x ∈ l, Lan.onP a b x = true) → Lan.in16 l = true := fun {l} h => by
    have hab := (Lan.wrong_wrap hk.side).2.2
    unfold Lan.in16; rw [List.all_eq_true]; intro y hy
    have := h y hy
    unfold Lan.onP at this
    simp only [Bool.and_eq_true, decide_eq_true_eq] at *; omega
  unfold Lan.ledG
  rw [hk.side, h1, h2, h3, hk.in16, on hk.yards, on hk.tips]; rfl
theorem asc_16 {a b : Int} {l : List Int} (hs : Lan.side a b = true) (h : Lan.ascE a b l = 0) : Lan.in16 l = true := by
  have hab := (Lan.wrong_wrap hs).2.2
  unfold Lan.in16; rw [List.all_eq_true]; intro y hy
  have := Lan.asc_in h y hy
  unfold Lan.onP at this
  simp only [Bool.and_eq_true, decide_eq_true_eq] at *; omega
theorem c39_run : ∀ args H v H', (c39 args H).val = some (v, H') → CallOK Z13 39 args H v H' := c39_ok Z13_ok (by
  intro sh ya ti l a b r hv
  obtain ⟨hl, hv2⟩ := guard_val hv
  simp only [Bool.and_eq_true] at hl
  obtain ⟨⟨⟨h1, h2⟩, h3⟩, h4⟩ := hl
  refine (nf39 ..).trans ?_
  rw [h1, h2, h3, leaf_val hv2]
  unfold Lan.prvP
  cases hc : Lan.chk a b sh ya ti != 0 with
  | true => rfl
  | false =>
    have hk := Lan.chk_ok (by simpa using hc)
    rw [h4, hk.side]
    cases ha : Lan.ascE a b l != 0 with
    | true => rfl
    | false =>
      have h16 := asc_16 hk.side (by simpa using ha)
      have f1 : Lan.ofN l < 65536 := Lan.ofN_lt l 0 h16 (by decide)
      rw [h16, chk_ledG hk h1 h2 h3, toNat_cast, show decide ((l.length : Int) ≥ (ya.length : Int)) = decide (ya.length ≤ l.length) by rw [decide_eq_decide]; omega]
      simp only [cond_true, cond_false, Bool.and_self, dec_ge, decide_eq_true (show (Lan.ofN l : Int) < 65536 by omega)]
      cases decide (ya.length ≤ l.length) <;> cases Lan.leadB a b sh ya ti (Lan.ofN l) <;> rfl)
theorem ZE_ok : TabOK ZE := mode_ok Z13_ok
theorem two16 {n m : Nat} (hn : n < 16) (hm : m < 16) : IntKind.u16.wrap ((BitVec.ofInt 16 (IntKind.u16.wrap (1 * 2 ^ min ((n : Int)).toNat 16)) ||| BitVec.ofInt 16 (IntKind.u16.wrap (1 * 2 ^ min ((m : Int)).toNat 16))).toNat : Int) = ((2 ^ n ||| 2 ^ m : Nat) : Int) ∧ 2 ^ n ||| 2 ^ m < 65536 := by
  have h1 : 2 ^ n < 65536 := Nat.pow_lt_pow_right (by decide) (show n < 16 from hn)
  have h2 : 2 ^ m < 65536 := Nat.pow_lt_pow_right (by decide) (show m < 16 from hm)
  rw [Lan.shl16 (x := (n : Int)) (by omega) (by omega), Lan.shl16 (x := (m : Int)) (by omega) (by omega), toNat_cast, toNat_cast]
  exact ⟨Lan.or16 h1 h2, Nat.or_lt_two_pow (n := 16) h1 h2⟩
theorem sk2_find (a b : Int) (sh ya ti : List Int) (n : Nat) : ((List.range' (n + 1) ((a * b).toNat - (n + 1))).findSome? fun j => (bif !Lan.leadB a b sh ya ti (2 ^ n ||| 2 ^ j) then some j else none : Option Nat).map fun r => (j, r)) = (Lan.sk2 a b sh ya ti n).map fun j => (j, j) := find_some (p := fun j => !Lan.leadB a b sh ya ti (2 ^ n ||| 2 ^ j)) _
theorem l37_13a_run : ∀ base kv H o kv' H', (l37_13a base kv H).val = some (o, kv', H') → LoopOK ZE 37 13 base kv H o kv' H' := l37_13a_ok ZE_ok (by kernel_rfl) (by
  intro sh ya ti a b n m q i r hv
  obtain ⟨hl, hv2⟩ := guard_val hv
  simp only [Bool.and_eq_true, decide_eq_true_eq] at hl
  obtain ⟨⟨⟨hG, n0⟩, n1⟩, rfl⟩ := hl
  obtain ⟨hs, h1, h2, h3, h4, h5, h6⟩ := ledG_ok hG
  obtain ⟨e1, e2, e3⟩ := Lan.wrong_wrap hs
  obtain ⟨n, rfl⟩ := Int.eq_ofNat_of_zero_le n0
  rw [toNat_cast] at hv2
  obtain ⟨N, hN⟩ := Int.eq_ofNat_of_zero_le (show 0 ≤ a * b by omega)
  have hn : (a * b).toNat = N := by omega
  obtain ⟨mm, hm⟩ := seek2_of (T := ZE) (fid := 37) (lid := 13) (base := 0) (c := lpc ZE 37 13) (fun j => (bif !Lan.leadB a b sh ya ti (2 ^ n ||| 2 ^ j) then some j else none : Option Nat))
    (fun j => [ps 0, ps 1, nSl, nSl, vi n, vi (j : Nat), vi q, vi i]) [some (rP a b sh 24), some (rZ ya ti 26)]
    (fun j x => [ps 0, ps 1, nSl, osT 2 2, vi n, vi (j + 1 : Nat), vi q, vi i]) (fun j x => [some (rP a b sh 24), some (rZ ya ti 26), some (rowI [(n : Int), (j : Int)] 3)])
    (fun j x => (.ext 2, [ps 0, ps 1, nSl, osT 2 2, vi n, vi (j + 1 : Nat), vi q, vi i], [some (rP a b sh 24), some (rZ ya ti 26), some (rowI [(n : Int), (j : Int)] 3)]))
    (.ext 2, [ps 0, ps 1, nSl, nSl, vi n, vi (a * b), vi q, vi i], [some (rP a b sh 24), some (rZ ya ti 26)])
    (fun j x again => by
      refine (nl37_13c ..).trans ?_
      rw [e1]
      cases decide (((j + 1 : Nat) : Int) < a * b) <;> rfl) (N - (n + 1)) (n + 1)
    (fun j j1 j2 again => by
      obtain ⟨t1, t2⟩ := two16 (n := n) (m := j) (by omega) (by omega)
      refine (nl37_13a ..).trans ?_
      rw [t1, e1, wrap_succ (by omega), toNat_cast, hG]
      simp only [decide_eq_true (show (j : Int) < a * b by omega), dec_ge, decide_eq_true (show ((2 ^ n ||| 2 ^ j : Nat) : Int) < 65536 by omega), cond_true, Bool.and_self]
      cases Lan.leadB a b sh ya ti (2 ^ n ||| 2 ^ j) <;> rfl)
    (fun again => by
      refine (nl37_13a ..).trans ?_
      rw [e1, decide_eq_false (show ¬ ((n + 1 + (N - (n + 1)) : Nat) : Int) < a * b by omega), show ((n + 1 + (N - (n + 1)) : Nat) : Int) = a * b by omega]
      rfl)
  refine ⟨mm, hm.trans ?_⟩
  rw [← hn, sk2_find]
  rcases br_val hv2 with ⟨h, hv3⟩ | ⟨h, hv3⟩
  · obtain ⟨x, hx⟩ := opt_some h
    rw [leaf_val hv3, hx]; rfl
  · rw [leaf_val hv3, opt_none h]; rfl)
theorem l37_13b_run : ∀ base kv H o kv' H', (l37_13b base kv H).val = some (o, kv', H') → LoopOK ZE 37 13 base kv H o kv' H' := l37_13b_ok ZE_ok (by kernel_rfl) (by
  intro sh ya ti a b z n m q i r hv
  obtain ⟨hl, hv2⟩ := guard_val hv
  simp only [Bool.and_eq_true, decide_eq_true_eq] at hl
  obtain ⟨⟨⟨hG, n0⟩, n1⟩, rfl⟩ := hl
  obtain ⟨hs, h1, h2, h3, h4, h5, h6⟩ := ledG_ok hG
  obtain ⟨e1, e2, e3⟩ := Lan.wrong_wrap hs
  obtain ⟨n, rfl⟩ := Int.eq_ofNat_of_zero_le n0
  rw [toNat_cast] at hv2
  obtain ⟨N, hN⟩ := Int.eq_ofNat_of_zero_le (show 0 ≤ a * b by omega)
  have hn : (a * b).toNat = N := by omega
  obtain ⟨mm, hm⟩ := seek2_of (T := ZE) (fid := 37) (lid := 13) (base := 0) (c := lpc ZE 37 13) (fun j => (bif !Lan.leadB a b sh ya ti (2 ^ n ||| 2 ^ j) then some j else none : Option Nat))
    (fun j => [ps 0, ps 1, osT 2 1, nSl, vi n, vi (j : Nat), vi q, vi i]) [some (rP a b sh 24), some (rZ ya ti 26), some (rowI [z] 3)]
    (fun j x => [ps 0, ps 1, osT 2 1, osT 3 2, vi n, vi (j + 1 : Nat), vi q, vi i]) (fun j x => [some (rP a b sh 24), some (rZ ya ti 26), some (rowI [z] 3), some (rowI [(n : Int), (j : Int)] 3)])
    (fun j x => (.ext 2, [ps 0, ps 1, osT 2 1, osT 3 2, vi n, vi (j + 1 : Nat), vi q, vi i], [some (rP a b sh 24), some (rZ ya ti 26), some (rowI [z] 3), some (rowI [(n : Int), (j : Int)] 3)]))
    (.ext 2, [ps 0, ps 1, osT 2 1, nSl, vi n, vi (a * b), vi q, vi i], [some (rP a b sh 24), some (rZ ya ti 26), some (rowI [z] 3)])
    (fun j x again => by
      refine (nl37_13d ..).trans ?_
      rw [e1]
      cases decide (((j + 1 : Nat) : Int) < a * b) <;> rfl) (N - (n + 1)) (n + 1)
    (fun j j1 j2 again => by
      obtain ⟨t1, t2⟩ := two16 (n := n) (m := j) (by omega) (by omega)
      refine (nl37_13b ..).trans ?_
      rw [t1, e1, wrap_succ (by omega), toNat_cast, hG]
      simp only [decide_eq_true (show (j : Int) < a * b by omega), dec_ge, decide_eq_true (show ((2 ^ n ||| 2 ^ j : Nat) : Int) < 65536 by omega), cond_true, Bool.and_self]
      cases Lan.leadB a b sh ya ti (2 ^ n ||| 2 ^ j) <;> rfl)
    (fun again => by
      refine (nl37_13b ..).trans ?_
      rw [e1, decide_eq_false (show ¬ ((n + 1 + (N - (n + 1)) : Nat) : Int) < a * b by omega), show ((n + 1 + (N - (n + 1)) : Nat) : Int) = a * b by omega]
      rfl)
  refine ⟨mm, hm.trans ?_⟩
  rw [← hn, sk2_find]
  rcases br_val hv2 with ⟨h, hv3⟩ | ⟨h, hv3⟩
  · obtain ⟨x, hx⟩ := opt_some h
    rw [leaf_val hv3, hx]; rfl
  · rw [leaf_val hv3, opt_none h]; rfl)
theorem l37_13c_run : ∀ base kv H o kv' H', (l37_13c base kv H).val = some (o, kv', H') → LoopOK ZE 37 13 base kv H o kv' H' := l37_13c_ok ZE_ok (by kernel_rfl) (by
  intro sh ya ti a b x y n m q i r hv
  refine ⟨1, (nl37_13c ..).trans ?_⟩
  rw [leaf_val hv]
  cases decide (m < IntKind.i64.wrap (a * b)) <;> rfl)
theorem l37_13d_run : ∀ base kv H o kv' H', (l37_13d base kv H).val = some (o, kv', H') → LoopOK ZE 37 13 base kv H o kv' H' := l37_13d_ok ZE_ok (by kernel_rfl) (by
  intro sh ya ti a b z x y n m q i r hv
  refine ⟨1, (nl37_13d ..).trans ?_⟩
  rw [leaf_val hv]
  cases decide (m < IntKind.i64.wrap (a * b)) <;> rfl)
theorem l37_13_run : ∀ base kv H o kv' H', (l37_13 base kv H).val = some (o, kv', H') → LoopOK ZE 37 13 base kv H o kv' H' := by
  intro base kv H o kv' H' hv
  unfold l37_13 at hv
  split at hv
  · exact l37_13a_run _ _ _ _ _ _ hv
  · exact l37_13b_run _ _ _ _ _ _ hv
  · exact l37_13c_run _ _ _ _ _ _ hv
  · exact l37_13d_run _ _ _ _ _ _ hv
theorem ZF_ok : TabOK ZF := ZE_ok.addLoop fun b k H o k' H' hv => by refine LoopOK.tab ?_ ?_ ?_ ?_ (l37_13_run b k H o k' H' hv) <;> rfl
def kvQ (o1 : Option Nat) (o2 : Option (Nat × Nat)) (q i : Int) : List AV := match o1, o2 with
  | none, none => [ps 0, ps 1, nSl, nSl, vi q, vi i]
  | some _, none => [ps 0, ps 1, osT 2 1, nSl, vi q, vi i]
  | none, some _ => [ps 0, ps 1, nSl, osT 2 2, vi q, vi i]
  | some _, some _ => [ps 0, ps 1, osT 2 1, osT 3 2, vi q, vi i]
def hpQ (a b : Int) (sh ya ti : List Int) (o1 : Option Nat) (o2 : Option (Nat × Nat)) : Hp := match o1, o2 with
  | none, none => [some (rP a b sh 24), some (rZ ya ti 26)]
  | some n, none => [some (rP a b sh 24), some (rZ ya ti 26), some (rowI [(n : Int)] 3)]
  | none, some x => [some (rP a b sh 24), some (rZ ya ti 26), some (rowI [(x.1 : Int), (x.2 : Int)] 3)]
  | some n, some x => [some (rP a b sh 24), some (rZ ya ti 26), some (rowI [(n : Int)] 3), some (rowI [(x.1 : Int), (x.2 : Int)] 3)]
theorem o1_succ (a b : Int) (sh ya ti : List Int) (i : Nat) : Lan.o1 a b sh ya ti (i + 1) = match Lan.o1 a b sh ya ti i with | some x => some x | none => bif Lan.sk1 a b sh ya ti i then some i else none := by
  unfold Lan.o1
  rw [List.range_succ, List.find?_append]
  cases (List.range i).find? fun n => Lan.sk1 a b sh ya ti n with
  | some x => rfl
  | none =>
    rw [List.find?_cons]
    cases Lan.sk1 a b sh ya ti i <;> rfl
theorem o2_succ (a b : Int) (sh ya ti : List Int) (i : Nat) : Lan.o2 a b sh ya ti (i + 1) = match Lan.o2 a b sh ya ti i with | some x => some x | none => (Lan.sk2 a b sh ya ti i).map fun m => (i, m) := by
  unfold Lan.o2
  rw [List.range_succ, List.findSome?_append]
  cases (List.range i).findSome? fun n => (Lan.sk2 a b sh ya ti n).map fun m => (n, m) with
  | some x => rfl
  | none =>
    rw [List.findSome?_cons]
    cases Lan.sk2 a b sh ya ti i <;> rfl
theorem l37_8_run : ∀ base kv H o kv' H', (l37_8 base kv H).val = some (o, kv', H') → LoopOK ZF 37 8 base kv H o kv' H' := l37_8_ok ZF_ok (by kernel_rfl) (by
  intro sh ya ti a b q r hv
  obtain ⟨hl, hv2⟩ := guard_val hv
  simp only [Bool.and_eq_true, decide_eq_true_eq] at hl
  obtain ⟨hG, rfl⟩ := hl
  obtain ⟨hs, h1, h2, h3, h4, h5, h6⟩ := ledG_ok hG
  obtain ⟨e1, e2, e3⟩ := Lan.wrong_wrap hs
  obtain ⟨N, hN⟩ := Int.eq_ofNat_of_zero_le (show 0 ≤ a * b by omega)
  have hn : (a * b).toNat = N := by omega
  obtain ⟨mm, hm⟩ := steps_of (T := ZF) (fid := 37) (lid := 8) (base := 0) (c := lpc ZF 37 8) N
    (fun i => kvQ (Lan.o1 a b sh ya ti i) (Lan.o2 a b sh ya ti i) (a * b) (i : Nat)) (fun i => hpQ a b sh ya ti (Lan.o1 a b sh ya ti i) (Lan.o2 a b sh ya ti i))
    (.ext 0, kvQ (Lan.o1 a b sh ya ti N) (Lan.o2 a b sh ya ti N) (a * b) (a * b), hpQ a b sh ya ti (Lan.o1 a b sh ya ti N) (Lan.o2 a b sh ya ti N))
    (fun i hi again => by
      have s1 : IntKind.u16.wrap (1 * 2 ^ min i 16) = ((2 ^ i : Nat) : Int) := by
        have := Lan.shl16 (x := (i : Int)) (by omega) (by omega)
        rwa [toNat_cast] at this
      have s2 : 2 ^ i < 65536 := Nat.pow_lt_pow_right (by decide) (show i < 16 by omega)
      have w1 : IntKind.i64.wrap ((i : Int) + 1) = ((i + 1 : Nat) : Int) := wrap_succ (by omega)
      have w2 : ((i + 1 : Nat) : Int) = (i : Int) + 1 := by omega
      have d1 : decide ((i : Int) < a * b) = true := decide_eq_true (by omega)
      have d2 : decide (((2 ^ i : Nat) : Int) < 65536) = true := decide_eq_true (by omega)
      have d3 : decide (((i + 1 : Nat) : Int) = (i : Int) + 1) = true := decide_eq_true w2
      rw [o1_succ, o2_succ]
      cases q1 : Lan.o1 a b sh ya ti i with
      | none =>
        cases q2 : Lan.o2 a b sh ya ti i with
        | none =>
          refine (nl37_8a ..).trans ?_
          simp only [s1, w1, toNat_cast, dec_ge, d1, d2, d3, hG, Bool.and_self, cond_true]
          unfold Lan.sk1
          cases Lan.leadB a b sh ya ti (2 ^ i) <;> cases hx : Lan.sk2 a b sh ya ti i <;> rfl
        | some x =>
          refine (nl37_8c ..).trans ?_
          simp only [s1, w1, toNat_cast, dec_ge, d1, d2, d3, hG, Bool.and_self, cond_true]
          unfold Lan.sk1
          cases Lan.leadB a b sh ya ti (2 ^ i) <;> rfl
      | some n =>
        cases q2 : Lan.o2 a b sh ya ti i with
        | none =>
          refine (nl37_8b ..).trans ?_
          simp only [s1, w1, toNat_cast, dec_ge, d1, d2, d3, hG, Bool.and_self, cond_true]
          cases hx : Lan.sk2 a b sh ya ti i <;> rfl
        | some x =>
          refine (nl37_8d ..).trans ?_
          simp only [w1, d1, cond_true]
          rfl)
    (fun again => by
      have d1 : decide ((N : Int) < a * b) = false := decide_eq_false (by omega)
      rw [← hN]
      cases q1 : Lan.o1 a b sh ya ti N with
      | none =>
        cases q2 : Lan.o2 a b sh ya ti N with
        | none => refine (nl37_8a ..).trans ?_; rw [hN, dec_ll]; rfl
        | some x => refine (nl37_8c ..).trans ?_; rw [hN, dec_ll]; rfl
      | some n =>
        cases q2 : Lan.o2 a b sh ya ti N with
        | none => refine (nl37_8b ..).trans ?_; rw [hN, dec_ll]; rfl
        | some x => refine (nl37_8d ..).trans ?_; rw [hN, dec_ll]; rfl)
  refine ⟨mm, hm.trans ?_⟩
  unfold Lan.n1 Lan.n2 at hv2
  rw [hn] at hv2
  rcases br_val hv2 with ⟨h, hv3⟩ | ⟨h, hv3⟩
  · obtain ⟨x, hx⟩ := opt_some h
    rw [hx] at hv3 ⊢
    rcases br_val hv3 with ⟨h', hv4⟩ | ⟨h', hv4⟩
    · obtain ⟨y, hy⟩ := opt_some h'
      rw [leaf_val hv4, hy]; rfl
    · rw [leaf_val hv4, opt_none h']; rfl
  · rw [opt_none h]
    rcases br_val hv3 with ⟨h', hv4⟩ | ⟨h', hv4⟩
    · obtain ⟨y, hy⟩ := opt_some h'
      rw [leaf_val hv4, hy]; rfl
    · rw [leaf_val hv4, opt_none h']; rfl)
theorem ZG_ok : TabOK ZG := ZE_ok.addLoop fun b k H o k' H' hv => by refine LoopOK.tab ?_ ?_ ?_ ?_ (l37_8_run b k H o k' H' hv) <;> rfl
theorem c37_run : ∀ args H v H', (c37 args H).val = some (v, H') → CallOK ZG 37 args H v H' := c37_ok ZG_ok (by
  intro sh ya ti a b r hv
  obtain ⟨hl, hv2⟩ := guard_val hv
  simp only [Bool.and_eq_true] at hl
  obtain ⟨⟨h1, h2⟩, h3⟩ := hl
  refine (nf37 ..).trans ?_
  rw [h1, h2, h3]
  rcases br_val hv2 with ⟨hc, hv3⟩ | ⟨hc, hv3⟩
  · rw [hc, leaf_val hv3]; rfl
  · have hk := Lan.chk_ok (by simpa using hc)
    have hG := chk_ledG hk h1 h2 h3
    have e1 := (Lan.wrong_wrap hk.side).1
    rw [hc, hG, e1, show decide ((ya.length : Int) > 1) = decide (1 < ya.length) by rw [decide_eq_decide]; omega, show decide ((ya.length : Int) > 2) = decide (2 < ya.length) by rw [decide_eq_decide]; omega]
    simp only [cond_true, cond_false, Bool.and_self, decide_true, Bool.true_and, show decide ((0 : Int) ≤ 0) = true from rfl, show decide ((0 : Int) < 65536) = true from rfl]
    rcases br_val hv3 with ⟨h, hv4⟩ | ⟨h, hv4⟩
    · rw [h, leaf_val hv4]; rfl
    · rw [h, cond_false]
      rcases br_val hv4 with ⟨h, hv5⟩ | ⟨h, hv5⟩
      · rw [Bool.and_eq_true] at h
        rw [h.1, h.2, leaf_val hv5]
        cases (Lan.o2 a b sh ya ti (a * b).toNat).isSome <;> rfl
      · rcases br_val hv5 with ⟨h', hv6⟩ | ⟨h', hv6⟩
        · rw [Bool.and_eq_true] at h'
          rw [leaf_val hv6]
          cases o1 : (Lan.o1 a b sh ya ti (a * b).toNat).isSome with
          | false => rw [h'.1, h'.2]; rfl
          | true =>
            rw [o1, Bool.true_and] at h
            rw [h, h'.1, h'.2]; rfl
        · rw [leaf_val hv6]
          cases o1 : (Lan.o1 a b sh ya ti (a * b).toNat).isSome with
          | false =>
            cases o2 : (Lan.o2 a b sh ya ti (a * b).toNat).isSome with
            | false => rfl
            | true => rw [o2, Bool.true_and] at h'; rw [h']; rfl
          | true =>
            rw [o1, Bool.true_and] at h
            rw [h]
            cases o2 : (Lan.o2 a b sh ya ti (a * b).toNat).isSome with
            | false => rfl
            | true => rw [o2, Bool.true_and] at h'; rw [h']; rfl)
end Go.Ev.Lane
