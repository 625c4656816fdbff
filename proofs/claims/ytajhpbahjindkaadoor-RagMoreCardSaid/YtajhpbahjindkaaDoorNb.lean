/- Bags by numbers: loops over bits, in plain terms. -/
import Derived.Test.YtajhpbahjindkaaDoorNa
import Derived.Test.YtajhpbahjindkaaDoorRt
set_option linter.unusedVariables false
set_option linter.unusedSimpArgs false
namespace Rgg
open Go Go.Proofs
theorem wrap_n32 {n : Nat} (h : n < 4294967296) : IntKind.u32.wrap (n : Int) = (n : Int) := by
  rw [wrap_u32']; omega
theorem of32 (n : Nat) (h : n < 4294967296) : (BitVec.ofInt 32 (n : Int)).toNat = n := by
  rw [BitVec.ofInt_natCast, BitVec.toNat_ofNat]; omega
theorem clr32 {n : Nat} (h0 : n ≠ 0) (h : n < 4294967296) : IntKind.u32.wrap ((BitVec.ofInt 32 (n : Int) &&& BitVec.ofInt 32 (IntKind.u32.wrap ((n : Int) - 1))).toNat : Int) = (clr n : Nat) := by
  rw [show (n : Int) - 1 = ((n - 1 : Nat) : Int) by omega, wrap_n32 (n := n - 1) (by omega), BitVec.toNat_and, of32 n h, of32 (n - 1) (by omega)]
  exact wrap_n32 (Nat.lt_of_le_of_lt Nat.and_le_left h)
theorem or32 {o s : Nat} (h : o < 4294967296) (hs : s < 32) : IntKind.u32.wrap ((BitVec.ofInt 32 (o : Int) ||| BitVec.ofInt 32 (IntKind.u32.wrap (1 * 2 ^ Min.min s 32))).toNat : Int) = ((o ||| 2 ^ s : Nat) : Int) := by
  have hp : 2 ^ s < 4294967296 := Nat.pow_lt_pow_right (by decide) hs
  have hm : Min.min s 32 = s := Nat.min_eq_left (by omega)
  rw [hm, show (1 * 2 ^ s : Int) = ((2 ^ s : Nat) : Int) by rw [Int.one_mul]; exact (Int.natCast_pow 2 s).symm, wrap_n32 (n := 2 ^ s) hp, BitVec.toNat_or, of32 o h, of32 _ hp]
  exact wrap_n32 (Nat.or_lt_two_pow (n := 32) h hp)
def rmN (n : Nat) : Nat → Nat
  | 0 => n
  | i + 1 => clr (rmN n i)
theorem bL_zero : bL 0 = [] := by decide
theorem rm_drop {n : Nat} (h : n < 4294967296) : ∀ i, i ≤ (bL n).length → bL (rmN n i) = (bL n).drop i ∧ rmN n i < 4294967296
  | 0, _ => ⟨rfl, h⟩
  | i + 1, hi => by
    obtain ⟨h1, h2⟩ := rm_drop h i (by omega)
    have h0 : rmN n i ≠ 0 := fun e => by
      rw [e, bL_zero] at h1
      have := congrArg List.length h1
      rw [List.length_drop, List.length_nil] at this
      omega
    obtain ⟨b1, b2, b3, _⟩ := bL_step h0 h2
    refine ⟨?_, Nat.lt_trans b3 h2⟩
    rw [b1] at h1
    have := congrArg List.tail h1
    rw [List.tail_drop] at this
    exact this
theorem rm_at {n : Nat} (h : n < 4294967296) {i : Nat} (hi : i < (bL n).length) : rmN n i ≠ 0 ∧ rmN n i < 4294967296 ∧ tzN (rmN n i) < 32 ∧ (bL n)[i]? = some (tzN (rmN n i)) := by
  obtain ⟨h1, h2⟩ := rm_drop h i (by omega)
  have h0 : rmN n i ≠ 0 := fun e => by
    rw [e, bL_zero] at h1
    have := congrArg List.length h1
    rw [List.length_drop, List.length_nil] at this
    omega
  obtain ⟨b1, b2, _, _⟩ := bL_step h0 h2
  refine ⟨h0, h2, b2, ?_⟩
  have := congrArg (fun l => l[0]?) (b1.symm.trans h1)
  simpa using this.symm
theorem rm_end {n : Nat} (h : n < 4294967296) : rmN n (bL n).length = 0 := by
  obtain ⟨h1, h2⟩ := rm_drop h _ (Nat.le_refl _)
  rw [List.drop_length] at h1
  refine Classical.byContradiction fun h0 => ?_
  obtain ⟨b1, _⟩ := bL_step h0 h2
  rw [b1] at h1; cases h1
def orF (g : Nat → Nat) (l : List Nat) : Nat := l.foldl (fun o b => o ||| 2 ^ g b) 0
theorem orF_bit (g : Nat → Nat) (j : Nat) : ∀ (l : List Nat) (a : Nat), (l.foldl (fun o b => o ||| 2 ^ g b) a).testBit j = (a.testBit j || l.any fun b => g b == j)
  | [], a => by simp
  | x :: l, a => by
    rw [List.foldl_cons, orF_bit g j l, Nat.testBit_or, Nat.testBit_two_pow, List.any_cons, Bool.or_assoc]
    rfl
theorem orF_snoc (g : Nat → Nat) (l : List Nat) (x : Nat) : orF g (l ++ [x]) = orF g l ||| 2 ^ g x := by
  unfold orF; rw [List.foldl_append]; rfl
theorem orF_lt {g : Nat → Nat} {l : List Nat} (h : ∀ b ∈ l, g b < 32) : orF g l < 4294967296 := by
  refine Nat.lt_pow_two_of_testBit (n := 32) _ fun i hi => ?_
  unfold orF
  rw [orF_bit, Nat.zero_testBit, Bool.false_or, List.any_eq_false]
  intro b hb e
  have := h b hb
  have := beq_iff_eq.1 e
  omega
theorem orF_mk {g : Nat → Nat} {n : Nat} {p : Nat → Bool} (hg : ∀ b, b < 32 → g b < 32) (h : ∀ j, j < 32 → ((List.range 32).any fun b => n.testBit b && g b == j) = p j) : orF g (bL n) = mk p 32 := by
  apply Nat.eq_of_testBit_eq
  intro j
  unfold orF
  rw [orF_bit, Nat.zero_testBit, Bool.false_or, testBit_mk]
  unfold bL
  rw [List.any_filter]
  by_cases hj : j < 32
  · rw [h j hj, decide_eq_true hj, Bool.true_and]
  · rw [decide_eq_false hj, Bool.false_and, List.any_eq_false]
    intro b hb e
    rw [Bool.and_eq_true, beq_iff_eq] at e
    have := hg b (List.mem_range.1 hb)
    omega
theorem bL_lt {n b : Nat} (h : b ∈ bL n) : b < 32 := List.mem_range.1 (List.mem_filter.1 h).1
theorem at_fB {n i : Nat} (h : i < 32) : at_ (fB n) i = n.testBit i := by
  unfold at_ fB
  rw [List.getD_eq_getElem?_getD, List.getElem?_map, List.getElem?_range h]; rfl
theorem fB_len (n : Nat) : (fB n).length = 32 := by unfold fB; rw [List.length_map, List.length_range]
theorem any_congr32 {p q : Nat → Bool} (h : ∀ b, b < 32 → p b = q b) : (List.range 32).any p = (List.range 32).any q := any_congr fun b hb => h b (List.mem_range.1 hb)
theorem tr_or {n s : Nat} (hs : s < 32) : orF (fun b => b &&& s) (bL n) = trN n s := by
  rw [trN_eq]
  refine orF_mk (fun b hb => and_lt b hb s hs) fun j hj => ?_
  unfold tr
  rw [at_trF hs 32 (Nat.le_refl _) j hj]
  exact any_congr32 fun b hb => by rw [at_fB hb]
end Rgg
