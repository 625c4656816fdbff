/- Sets that are told apart, and lowered bags: the mathematics. -/
import Derived.Test.YtajhpbahjindkaaDoorNd
set_option linter.unusedVariables false
set_option linter.unusedSimpArgs false
namespace Rgg
open Go
def shB (l : List Bool) (s : Nat) : Bool := (List.range 32).all fun i => !sub i s || at_ (tr l s) i
theorem tr_any {l : List Bool} {s i : Nat} (hs : s < 32) (hi : i < 32) : at_ (tr l s) i = (List.range 32).any fun b => at_ l b && (b &&& s == i) := by
  unfold tr
  exact at_trF hs 32 (Nat.le_refl _) i hi
theorem sh_iff {l : List Bool} {s : Nat} (hs : s < 32) : shB l s = true ↔ ∀ i, i < 32 → sub i s = true → ∃ b, b < 32 ∧ at_ l b = true ∧ b &&& s = i := by
  unfold shB
  rw [List.all_eq_true]
  constructor
  · intro h i hi hb
    have := h i (List.mem_range.2 hi)
    rw [hb, Bool.not_true, Bool.false_or, tr_any hs hi, List.any_eq_true] at this
    obtain ⟨b, hb, hh⟩ := this
    rw [Bool.and_eq_true, beq_iff_eq] at hh
    exact ⟨b, List.mem_range.1 hb, hh.1, hh.2⟩
  · intro h i hi
    have hi := List.mem_range.1 hi
    cases hb : sub i s with
    | false => rfl
    | true =>
      obtain ⟨b, h1, h2, h3⟩ := h i hi hb
      rw [Bool.not_true, Bool.false_or, tr_any hs hi, List.any_eq_true]
      exact ⟨b, List.mem_range.2 h1, by rw [h2, h3, beq_self_eq_true]; rfl⟩
theorem sh_miss {K : Int} (h1 : 1 ≤ K) (h5 : K ≤ 5) {l : List Bool} {s : Nat} (hs : s < 2 ^ K.toNat) : (miss K l s).isEmpty = shB l s := by
  have h2 := (two_k h1 h5).2
  rw [ms_words h1 h5, List.isEmpty_map, Bool.eq_iff_iff, List.isEmpty_iff, List.filter_eq_nil_iff]
  unfold shB
  rw [List.all_eq_true]
  constructor
  · intro h i hi
    have hi := List.mem_range.1 hi
    cases hb : sub i s with
    | false => rfl
    | true =>
      have := h i (ord_all K.toNat (by omega) (by omega) i (sub_le K.toNat (by omega) s hs i hi hb))
      rw [hb, Bool.true_and] at this
      cases ha : at_ (tr l s) i with
      | true => rfl
      | false => rw [ha] at this; exact absurd rfl this
  · intro h i hi e
    have := h i (List.mem_range.2 (ord_lt K.toNat (by omega) i hi))
    rw [Bool.and_eq_true] at e
    rw [e.1, Bool.not_true, Bool.false_or] at this
    rw [this] at e
    exact absurd e.2 (by decide)
theorem bt1 : ∀ b, b < 32 → ∀ s, s < 32 → ∀ k, k < 5 → s.testBit k = false → (b ||| 2 ^ k) &&& s = b &&& s := by decide +kernel
theorem bt2 : ∀ i, i < 32 → ∀ s, s < 32 → ∀ k, k < 5 → s.testBit k = true → sub i s = true → sub (i ||| 2 ^ k) s = true := by decide +kernel
theorem bt3 : ∀ b, b < 32 → ∀ s, s < 32 → ∀ k, k < 5 → s.testBit k = true → (b &&& s).testBit k = b.testBit k := by decide +kernel
theorem bt4 : ∀ b, b < 32 → ∀ s, s < 32 → ∀ k, k < 5 → b.testBit k = true → s.testBit k = true → (b ^^^ 2 ^ k) &&& s = (b &&& s) ^^^ 2 ^ k := by decide +kernel
theorem bt5 : ∀ i, i < 32 → ∀ k, k < 5 → i.testBit k = true → i ||| 2 ^ k = i := by decide +kernel
theorem sh_lower {l : List Bool} {k s : Nat} (k5 : k < 5) (hs : s < 32) (h : shB (loF l k 32) s = true) : shB l s = true := by
  rw [sh_iff hs] at h ⊢
  intro i hi hb
  cases hk : s.testBit k with
  | false =>
    obtain ⟨b, b1, b2, b3⟩ := h i hi hb
    cases hbk : b.testBit k with
    | true =>
      rw [lo_has b1 k5 hbk, Bool.and_eq_true] at b2
      exact ⟨b, b1, b2.1, b3⟩
    | false =>
      rw [lo_not b1 hbk, Bool.or_eq_true] at b2
      rcases b2 with b2 | b2
      · exact ⟨b, b1, b2, b3⟩
      · exact ⟨b ||| 2 ^ k, (or_in b b1 k k5).1, b2, by rw [bt1 b b1 s hs k k5 hk]; exact b3⟩
  | true =>
    obtain ⟨o1, o2, _⟩ := or_in i hi k k5
    obtain ⟨b, b1, b2, b3⟩ := h (i ||| 2 ^ k) o1 (bt2 i hi s hs k k5 hk hb)
    have hbk : b.testBit k = true := by rw [← bt3 b b1 s hs k k5 hk, b3]; exact o2
    rw [lo_has b1 k5 hbk, Bool.and_eq_true] at b2
    cases hik : i.testBit k with
    | true => exact ⟨b, b1, b2.1, by rw [b3, bt5 i hi k k5 hik]⟩
    | false =>
      obtain ⟨x1, _⟩ := xor_in b b1 k k5 hbk
      exact ⟨b ^^^ 2 ^ k, x1, b2.2, by rw [bt4 b b1 s hs k k5 hbk hk, b3]; exact or_un i hi k k5 hik⟩
theorem roF_succ (l : List Bool) (m : Nat) : roF l (m + 1) = loF (roF l m) m 32 := rfl
theorem sh_ro {l : List Bool} {s : Nat} (hs : s < 32) (m : Nat) (hm : m ≤ 5) (h : shB (roF l m) s = true) : shB l s = true := by
  induction m with
  | zero => exact h
  | succ m ih =>
    rw [roF_succ] at h
    exact ih (by omega) (sh_lower (by omega) hs h)
theorem bt6 : ∀ b, b < 32 → ∀ i, i < 32 → sub i b = true → (i = b ∨ ((List.range 5).any fun k => b.testBit k && sub i (b ^^^ 2 ^ k)) = true) := by decide +kernel
theorem bt7 : ∀ b, b < 32 → ∀ k, k < 5 → b.testBit k = true → b ^^^ 2 ^ k < b := by decide +kernel
theorem down {l : List Bool} (h : ∀ k, k < 5 → Sta l k) : ∀ (b : Nat), b < 32 → at_ l b = true → ∀ i, i < 32 → sub i b = true → at_ l i = true := by
  intro b
  induction b using Nat.strongRecOn with
  | ind b ih =>
    intro hb ha i hi hs
    rcases bt6 b hb i hi hs with rfl | e
    · exact ha
    · rw [List.any_eq_true] at e
      obtain ⟨k, hk, e⟩ := e
      have hk := List.mem_range.1 hk
      rw [Bool.and_eq_true] at e
      obtain ⟨x1, x2, x3, _⟩ := xor_in b hb k hk e.1
      exact ih _ (bt7 b hb k hk e.1) x1 (h k hk _ x1 x2 (by rw [x3]; exact ha)) i hi e.2
theorem sub_eq : ∀ b, b < 32 → ∀ i, i < 32 → sub i b = true → i &&& b = i ∧ b &&& i = i := by decide +kernel
theorem and_sub : ∀ b, b < 32 → ∀ s, s < 32 → b &&& s = s → sub s b = true := by decide +kernel
theorem sub_refl : ∀ b, b < 32 → sub b b = true := by decide +kernel
theorem sh_down {l : List Bool} (h : ∀ k, k < 5 → Sta l k) {s : Nat} (hs : s < 32) : shB l s = at_ l s := by
  rw [Bool.eq_iff_iff, sh_iff hs]
  constructor
  · intro hh
    obtain ⟨b, b1, b2, b3⟩ := hh s hs (sub_refl s hs)
    exact down h b b1 b2 s hs (and_sub b b1 s hs b3)
  · intro ha i hi hb
    exact ⟨i, hi, down h s hs ha i hi hb, (sub_eq s hs i hi hb).1⟩
theorem top_sta {l : List Bool} {q : Nat} (h : ∀ n, n < 32 → at_ l n = true → n < 2 ^ q) {k : Nat} (hk : k < 5) (hq : q ≤ k) : Sta l k := by
  intro s hs hb ha
  obtain ⟨o1, o2, _⟩ := or_in s hs k hk
  have h1 := h _ o1 ha
  have h2 := Nat.testBit_lt_two_pow (Nat.lt_of_lt_of_le h1 (Nat.pow_le_pow_right (by decide) hq))
  rw [h2] at o2; cases o2
theorem ro_all {l : List Bool} {q : Nat} (hq : q ≤ 5) (h : ∀ n, n < 32 → at_ l n = true → n < 2 ^ q) : ∀ k, k < 5 → Sta (roF l q) k := by
  intro k hk
  by_cases hkq : k < q
  · exact ro_sta l q hq k hkq
  · exact top_sta (ro_top (by omega) h q hq) hk (by omega)
def cntB (l : List Bool) : Nat := ((List.range 32).filter fun n => at_ l n).length
theorem pair_cnt (a b : Bool) : (a || b).toNat + (b && a).toNat = a.toNat + b.toNat := by cases a <;> cases b <;> rfl
def sumB (f : Nat → Nat) : Nat := ((List.range 32).map f).sum
theorem cnt_sum (l : List Bool) : cntB l = sumB fun n => (at_ l n).toNat := by
  unfold cntB sumB
  have : ∀ r : List Nat, (r.filter fun n => at_ l n).length = (r.map fun n => (at_ l n).toNat).sum := by
    intro r
    induction r with
    | nil => rfl
    | cons x t ih =>
      rw [List.filter_cons, List.map_cons, List.sum_cons, ← ih]
      cases at_ l x
      · simp
      · simp [Nat.add_comm]
  exact this _
theorem sum_pairs (f g : Nat → Nat) (k : Nat) (hk : k < 5) (h : ∀ n, n < 32 → n.testBit k = false → f n + f (n ||| 2 ^ k) = g n + g (n ||| 2 ^ k)) : sumB f = sumB g := by
  unfold sumB
  have e : ∀ u : Nat → Nat, ((List.range 32).map u).sum = u 0 + u 1 + u 2 + u 3 + u 4 + u 5 + u 6 + u 7 + u 8 + u 9 + u 10 + u 11 + u 12 + u 13 + u 14 + u 15 + u 16 + u 17 + u 18 + u 19 + u 20 + u 21 + u 22 + u 23 + u 24 + u 25 + u 26 + u 27 + u 28 + u 29 + u 30 + u 31 := by
    intro u
    show u 0 + (u 1 + (u 2 + (u 3 + (u 4 + (u 5 + (u 6 + (u 7 + (u 8 + (u 9 + (u 10 + (u 11 + (u 12 + (u 13 + (u 14 + (u 15 + (u 16 + (u 17 + (u 18 + (u 19 + (u 20 + (u 21 + (u 22 + (u 23 + (u 24 + (u 25 + (u 26 + (u 27 + (u 28 + (u 29 + (u 30 + (u 31 + 0))))))))))))))))))))))))))))))) = _
    omega
  rw [e, e]
  have : k = 0 ∨ k = 1 ∨ k = 2 ∨ k = 3 ∨ k = 4 := by omega
  rcases this with rfl | rfl | rfl | rfl | rfl
  · have h0 := h 0 (by decide) (by decide); have h1 := h 2 (by decide) (by decide); have h2 := h 4 (by decide) (by decide); have h3 := h 6 (by decide) (by decide)
    have h4 := h 8 (by decide) (by decide); have h5 := h 10 (by decide) (by decide); have h6 := h 12 (by decide) (by decide); have h7 := h 14 (by decide) (by decide)
    have h8 := h 16 (by decide) (by decide); have h9 := h 18 (by decide) (by decide); have h10 := h 20 (by decide) (by decide); have h11 := h 22 (by decide) (by decide)
    have h12 := h 24 (by decide) (by decide); have h13 := h 26 (by decide) (by decide); have h14 := h 28 (by decide) (by decide); have h15 := h 30 (by decide) (by decide)
    simp only [Nat.reducePow, Nat.reduceOr] at h0 h1 h2 h3 h4 h5 h6 h7 h8 h9 h10 h11 h12 h13 h14 h15
    omega
  · have h0 := h 0 (by decide) (by decide); have h1 := h 1 (by decide) (by decide); have h2 := h 4 (by decide) (by decide); have h3 := h 5 (by decide) (by decide)
    have h4 := h 8 (by decide) (by decide); have h5 := h 9 (by decide) (by decide); have h6 := h 12 (by decide) (by decide); have h7 := h 13 (by decide) (by decide)
    have h8 := h 16 (by decide) (by decide); have h9 := h 17 (by decide) (by decide); have h10 := h 20 (by decide) (by decide); have h11 := h 21 (by decide) (by decide)
    have h12 := h 24 (by decide) (by decide); have h13 := h 25 (by decide) (by decide); have h14 := h 28 (by decide) (by decide); have h15 := h 29 (by decide) (by decide)
    simp only [Nat.reducePow, Nat.reduceOr] at h0 h1 h2 h3 h4 h5 h6 h7 h8 h9 h10 h11 h12 h13 h14 h15
    omega
  · have h0 := h 0 (by decide) (by decide); have h1 := h 1 (by decide) (by decide); have h2 := h 2 (by decide) (by decide); have h3 := h 3 (by decide) (by decide)
    have h4 := h 8 (by decide) (by decide); have h5 := h 9 (by decide) (by decide); have h6 := h 10 (by decide) (by decide); have h7 := h 11 (by decide) (by decide)
    have h8 := h 16 (by decide) (by decide); have h9 := h 17 (by decide) (by decide); have h10 := h 18 (by decide) (by decide); have h11 := h 19 (by decide) (by decide)
    have h12 := h 24 (by decide) (by decide); have h13 := h 25 (by decide) (by decide); have h14 := h 26 (by decide) (by decide); have h15 := h 27 (by decide) (by decide)
    simp only [Nat.reducePow, Nat.reduceOr] at h0 h1 h2 h3 h4 h5 h6 h7 h8 h9 h10 h11 h12 h13 h14 h15
    omega
  · have h0 := h 0 (by decide) (by decide); have h1 := h 1 (by decide) (by decide); have h2 := h 2 (by decide) (by decide); have h3 := h 3 (by decide) (by decide)
    have h4 := h 4 (by decide) (by decide); have h5 := h 5 (by decide) (by decide); have h6 := h 6 (by decide) (by decide); have h7 := h 7 (by decide) (by decide)
    have h8 := h 16 (by decide) (by decide); have h9 := h 17 (by decide) (by decide); have h10 := h 18 (by decide) (by decide); have h11 := h 19 (by decide) (by decide)
    have h12 := h 20 (by decide) (by decide); have h13 := h 21 (by decide) (by decide); have h14 := h 22 (by decide) (by decide); have h15 := h 23 (by decide) (by decide)
    simp only [Nat.reducePow, Nat.reduceOr] at h0 h1 h2 h3 h4 h5 h6 h7 h8 h9 h10 h11 h12 h13 h14 h15
    omega
  · have h0 := h 0 (by decide) (by decide); have h1 := h 1 (by decide) (by decide); have h2 := h 2 (by decide) (by decide); have h3 := h 3 (by decide) (by decide)
    have h4 := h 4 (by decide) (by decide); have h5 := h 5 (by decide) (by decide); have h6 := h 6 (by decide) (by decide); have h7 := h 7 (by decide) (by decide)
    have h8 := h 8 (by decide) (by decide); have h9 := h 9 (by decide) (by decide); have h10 := h 10 (by decide) (by decide); have h11 := h 11 (by decide) (by decide)
    have h12 := h 12 (by decide) (by decide); have h13 := h 13 (by decide) (by decide); have h14 := h 14 (by decide) (by decide); have h15 := h 15 (by decide) (by decide)
    simp only [Nat.reducePow, Nat.reduceOr] at h0 h1 h2 h3 h4 h5 h6 h7 h8 h9 h10 h11 h12 h13 h14 h15
    omega
theorem cnt_lower {l : List Bool} {k : Nat} (k5 : k < 5) : cntB (loF l k 32) = cntB l := by
  rw [cnt_sum, cnt_sum]
  refine sum_pairs _ _ k k5 fun n hn hb => ?_
  obtain ⟨o1, o2, _⟩ := or_in n hn k k5
  rw [lo_not hn hb, lo_has o1 k5 o2, or_un n hn k k5 hb]
  exact pair_cnt _ _
theorem cnt_ro {l : List Bool} : ∀ m, m ≤ 5 → cntB (roF l m) = cntB l
  | 0, _ => rfl
  | m + 1, hm => (cnt_lower (by omega)).trans (cnt_ro m (by omega))
end Rgg
