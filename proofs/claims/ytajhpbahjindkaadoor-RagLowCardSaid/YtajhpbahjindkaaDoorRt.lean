/- Lowered bags: plain definitions. -/
import Derived.Test.YtajhpbahjindkaaDoorRo
import Derived.Test.YtajhpbahjindkaaDoorRq
set_option linter.unusedVariables false
set_option linter.unusedSimpArgs false
namespace Rgg
open Go
def loF (l : List Bool) (k i : Nat) : List Bool := match l with
  | [] => List.replicate 32 false
  | b :: t => (List.range 32).map fun n => bif n.testBit k then at_ (b :: t) n && (at_ (b :: t) (n ^^^ 2 ^ k) || !decide (n ^^^ 2 ^ k < i)) else at_ (b :: t) n || (decide (n < i) && at_ (b :: t) (n ||| 2 ^ k))
theorem loF_eq (l : List Bool) (k i : Nat) : loF l k i = (List.range 32).map fun n => bif n.testBit k then at_ l n && (at_ l (n ^^^ 2 ^ k) || !decide (n ^^^ 2 ^ k < i)) else at_ l n || (decide (n < i) && at_ l (n ||| 2 ^ k)) := by
  cases l with
  | nil =>
    have : ∀ n, at_ [] n = false := fun n => by unfold at_; rw [List.getD_eq_getElem?_getD]; simp
    simp only [this, Bool.false_and, Bool.or_self, Bool.and_false]
    show List.replicate 32 false = (List.range 32).map fun n => bif n.testBit k then false else false
    have h2 : (fun n : Nat => bif n.testBit k then false else false) = fun _ => false := by funext n; cases n.testBit k <;> rfl
    rw [h2, List.map_const', List.length_range]
  | cons b t => rfl
def loC (l : List Bool) (k i : Nat) : Bool := (List.range i).any fun s => !s.testBit k && at_ l (s ||| 2 ^ k) && !at_ l s
def roF (l : List Bool) : Nat → List Bool
  | 0 => l
  | k + 1 => loF (roF l k) k 32
def roC (l : List Bool) : Nat → Bool
  | 0 => false
  | k + 1 => loC (roF l k) k 32 || roC l k
def lwE (K : Int) (bags : List ByteArray) (k : Int) : Int := bif opE K bags == 0 then bif decide (0 ≤ k) && decide (k < K) then 0 else 2 else opE K bags
def lwL (K : Int) (bags : List ByteArray) (k : Int) : List ByteArray := bif lwE K bags k == 0 then wrt K (fun n => at_ (loF (opF K bags) k.toNat 32) n) else []
def lsL (K : Int) (bags : List ByteArray) : List ByteArray := bif opE K bags == 0 then wrt K (fun n => at_ (roF (opF K bags) K.toNat) n) else []
end Rgg
namespace Rgg
open Go
def wlS (K : Int) (l : List Bool) : List ByteArray := ((ordS K.toNat).filter fun n => at_ l n).map word
def Bth (K : Int) (l : List Bool) (p : List ByteArray) : Prop := Same l p ∧ ∀ x ∈ p, ∃ n, n < 32 ∧ n < 2 ^ K.toNat ∧ x = word n
theorem or_in : ∀ n, n < 32 → ∀ k, k < 5 → (n ||| 2 ^ k) < 32 ∧ (n ||| 2 ^ k).testBit k = true ∧ (n ||| 2 ^ k) ^^^ 2 ^ k < 32 := by decide +kernel
theorem or_un : ∀ n, n < 32 → ∀ k, k < 5 → n.testBit k = false → (n ||| 2 ^ k) ^^^ 2 ^ k = n := by decide +kernel
theorem xor_in : ∀ n, n < 32 → ∀ k, k < 5 → n.testBit k = true → n ^^^ 2 ^ k < 32 ∧ (n ^^^ 2 ^ k).testBit k = false ∧ (n ^^^ 2 ^ k) ||| 2 ^ k = n ∧ dif n (2 ^ k) = n ^^^ 2 ^ k := by decide +kernel
theorem dif_un : ∀ n, n < 32 → ∀ k, k < 5 → n.testBit k = false → dif n (2 ^ k) = n ∧ dif (n ||| 2 ^ k) (2 ^ k) = n := by decide +kernel
theorem dif_bit : ∀ n, n < 32 → ∀ k, k < 5 → (dif n (2 ^ k)).testBit k = false ∧ dif n (2 ^ k) < 32 ∧ (n = dif n (2 ^ k) ∨ n = dif n (2 ^ k) ||| 2 ^ k) := by decide +kernel
theorem or_bit1 : ∀ n, n < 32 → ∀ i, i < 5 → ∀ j, j < 5 → i ≠ j → (n ||| 2 ^ i).testBit j = n.testBit j := by decide +kernel
theorem or_bit2 : ∀ n, n < 32 → ∀ i, i < 5 → ∀ j, j < 5 → i ≠ j → (n ^^^ 2 ^ j).testBit i = n.testBit i := by decide +kernel
theorem or_bit3 : ∀ n, n < 32 → ∀ i, i < 5 → ∀ j, j < 5 → (n ||| 2 ^ i) ||| 2 ^ j = (n ||| 2 ^ j) ||| 2 ^ i := by decide +kernel
theorem or_xor : ∀ n, n < 32 → ∀ i, i < 5 → ∀ j, j < 5 → i ≠ j → n.testBit j = true → (n ||| 2 ^ i) ^^^ 2 ^ j = (n ^^^ 2 ^ j) ||| 2 ^ i := by decide +kernel
theorem or_top : ∀ q, q < 6 → ∀ n, n < 32 → ∀ k, k < 5 → (n ||| 2 ^ k) < 2 ^ q → n < 2 ^ q := by decide +kernel
theorem loF_len (l : List Bool) (k i : Nat) : (loF l k i).length = 32 := by rw [loF_eq]; rw [List.length_map, List.length_range]
theorem at_loF {l : List Bool} {k i n : Nat} (hn : n < 32) : at_ (loF l k i) n = bif n.testBit k then at_ l n && (at_ l (n ^^^ 2 ^ k) || !decide (n ^^^ 2 ^ k < i)) else at_ l n || (decide (n < i) && at_ l (n ||| 2 ^ k)) := by
  rw [loF_eq]
  conv => lhs; unfold at_
  rw [List.getD_eq_getElem?_getD, List.getElem?_map, List.getElem?_range hn]
  rfl
theorem lo_has {l : List Bool} {k n : Nat} (hn : n < 32) (hk : k < 5) (h : n.testBit k = true) : at_ (loF l k 32) n = (at_ l n && at_ l (n ^^^ 2 ^ k)) := by
  rw [at_loF hn, h, cond_true, decide_eq_true (xor_in n hn k hk h).1, Bool.not_true, Bool.or_false]
theorem lo_not {l : List Bool} {k n : Nat} (hn : n < 32) (h : n.testBit k = false) : at_ (loF l k 32) n = (at_ l n || at_ l (n ||| 2 ^ k)) := by
  rw [at_loF hn, h, cond_false, decide_eq_true hn, Bool.true_and]
theorem bth_wl {K : Int} (h1 : 1 ≤ K) (h5 : K ≤ 5) {l : List Bool} (hl : l.length = 32) (ht : ∀ n, n < 32 → at_ l n = true → n < 2 ^ K.toNat) : Bth K l (wlS K l) := by
  refine ⟨⟨hl, fun n hn => ?_⟩, fun x hx => ?_⟩
  · rw [Bool.eq_iff_iff, has_mem]
    unfold wlS
    rw [List.mem_map]
    constructor
    · intro h
      exact ⟨n, List.mem_filter.2 ⟨ord_all K.toNat (by omega) (by omega) n (ht n hn h), h⟩, rfl⟩
    · rintro ⟨m, hm, e⟩
      obtain ⟨hm1, hm2⟩ := List.mem_filter.1 hm
      have := word_inj n hn m (ord_lt K.toNat (by omega) m hm1)
      rw [e, beq_self_eq_true] at this
      rw [of_decide_eq_true this.symm]
      exact hm2
  · unfold wlS at hx
    rw [List.mem_map] at hx
    obtain ⟨m, hm, e⟩ := hx
    have hm1 := (List.mem_filter.1 hm).1
    exact ⟨m, ord_lt K.toNat (by omega) m hm1, ord_bnd K.toNat (by omega) m hm1, e.symm⟩
theorem lo_top {q : Nat} (hq : q < 6) {l : List Bool} (h : ∀ n, n < 32 → at_ l n = true → n < 2 ^ q) {k : Nat} (k5 : k < 5) : ∀ n, n < 32 → at_ (loF l k 32) n = true → n < 2 ^ q := by
  intro n hn ha
  cases hb : n.testBit k with
  | true => rw [lo_has hn k5 hb, Bool.and_eq_true] at ha; exact h n hn ha.1
  | false =>
    rw [lo_not hn hb, Bool.or_eq_true] at ha
    rcases ha with ha | ha
    · exact h n hn ha
    · exact or_top q hq n hn k k5 (h _ (or_in n hn k k5).1 ha)
theorem roF_len {l : List Bool} (hl : l.length = 32) : ∀ k, (roF l k).length = 32
  | 0 => hl
  | k + 1 => loF_len ..
theorem ro_top {q : Nat} (hq : q < 6) {l : List Bool} (h : ∀ n, n < 32 → at_ l n = true → n < 2 ^ q) : ∀ k, k ≤ 5 → ∀ n, n < 32 → at_ (roF l k) n = true → n < 2 ^ q
  | 0, _ => h
  | k + 1, hk => lo_top hq (ro_top hq h k (by omega)) (by omega)
theorem at_ext {l m : List Bool} (h1 : l.length = 32) (h2 : m.length = 32) (h : ∀ n, n < 32 → at_ l n = at_ m n) : l = m := by
  refine List.ext_getElem (by omega) fun n hn hm => ?_
  have := h n (by omega)
  unfold at_ at this
  rw [List.getD_eq_getElem?_getD, List.getD_eq_getElem?_getD, List.getElem?_eq_getElem hn, List.getElem?_eq_getElem hm] at this
  exact this
def Sta (l : List Bool) (k : Nat) : Prop := ∀ s, s < 32 → s.testBit k = false → at_ l (s ||| 2 ^ k) = true → at_ l s = true
theorem sta_iff {l : List Bool} {k : Nat} : Sta l k ↔ loC l k 32 = false := by
  unfold Sta loC
  rw [List.any_eq_false]
  simp only [List.mem_range, Bool.and_eq_true, Bool.not_eq_true', not_and, Bool.not_eq_false, and_imp]
theorem sta_fix {l : List Bool} (hl : l.length = 32) {k : Nat} (k5 : k < 5) (h : Sta l k) : loF l k 32 = l := by
  refine at_ext (loF_len ..) hl fun n hn => ?_
  cases hb : n.testBit k with
  | true =>
    rw [lo_has hn k5 hb]
    obtain ⟨x1, x2, x3, _⟩ := xor_in n hn k k5 hb
    cases ha : at_ l n with
    | false => rfl
    | true => rw [h _ x1 x2 (by rw [x3]; exact ha)]; rfl
  | false =>
    rw [lo_not hn hb]
    cases ha : at_ l (n ||| 2 ^ k) with
    | false => rw [Bool.or_false]
    | true => rw [h n hn hb ha]; rfl
theorem sta_now {l : List Bool} {k : Nat} (k5 : k < 5) : Sta (loF l k 32) k := by
  intro s hs hb ha
  obtain ⟨o1, o2, _⟩ := or_in s hs k k5
  rw [lo_has o1 k5 o2, Bool.and_eq_true] at ha
  rw [lo_not hs hb, ha.1, Bool.or_true]
theorem sta_keep {l : List Bool} {i j : Nat} (i5 : i < 5) (j5 : j < 5) (hij : i ≠ j) (h : Sta l i) : Sta (loF l j 32) i := by
  intro s hs hb ha
  obtain ⟨o1, _, _⟩ := or_in s hs i i5
  have p1 := or_bit1 s hs i i5 j j5 hij
  have p2 := or_bit2 s hs i i5 j j5 hij
  have p3 := or_bit3 s hs i i5 j j5
  cases hj : s.testBit j with
  | true =>
    rw [lo_has o1 j5 (p1.trans hj), Bool.and_eq_true, or_xor s hs i i5 j j5 hij hj] at ha
    obtain ⟨x1, _, _, _⟩ := xor_in s hs j j5 hj
    rw [lo_has hs j5 hj, h s hs hb ha.1, h _ x1 (p2.trans hb) ha.2]; rfl
  | false =>
    rw [lo_not o1 (p1.trans hj), Bool.or_eq_true] at ha
    rw [lo_not hs hj]
    rcases ha with ha | ha
    · rw [h s hs hb ha]; rfl
    · obtain ⟨q1, _, _⟩ := or_in s hs j j5
      have := or_bit1 s hs j j5 i i5 (Ne.symm hij)
      rw [p3] at ha
      rw [h _ q1 (this.trans hb) ha, Bool.or_true]
theorem ro_sta (l : List Bool) : ∀ m, m ≤ 5 → ∀ i, i < m → Sta (roF l m) i
  | 0, _, i, hi => by omega
  | m + 1, hm, i, hi => by
    show Sta (loF (roF l m) m 32) i
    by_cases e : i = m
    · subst e; exact sta_now (by omega)
    · exact sta_keep (by omega) (by omega) e (ro_sta l m (by omega) i (by omega))
theorem sta_ro {l : List Bool} (hl : l.length = 32) : ∀ m, m ≤ 5 → (∀ i, i < m → Sta l i) → roF l m = l ∧ roC l m = false
  | 0, _, _ => ⟨rfl, rfl⟩
  | m + 1, hm, h => by
    obtain ⟨h1, h2⟩ := sta_ro hl m (by omega) fun i hi => h i (by omega)
    constructor
    · show loF (roF l m) m 32 = l
      rw [h1]; exact sta_fix hl (by omega) (h m (by omega))
    · show (loC (roF l m) m 32 || roC l m) = false
      rw [h1, h2, sta_iff.1 (h m (by omega))]; rfl
theorem ro_fix {l : List Bool} (hl : l.length = 32) {m : Nat} (hm : m ≤ 5) : roF (roF l m) m = roF l m ∧ roC (roF l m) m = false := sta_ro (roF_len hl m) m hm (ro_sta l m hm)
end Rgg
