/- Numbers of 32 bits. -/
import Derived.Test.YtajhpbahjindkaaDoorEvA
import Derived.Test.YtajhpbahjindkaaDoorRt
import Derived.Test.YtajhpbahjindkaaDoorRc
import Derived.Shelf.Spec.TrailingZeros
set_option linter.unusedVariables false
set_option linter.unusedSimpArgs false
namespace Rgg
open Go
def mk (f : Nat → Bool) : Nat → Nat
  | 0 => 0
  | k + 1 => mk f k ||| (bif f k then 2 ^ k else 0)
theorem testBit_mk (f : Nat → Bool) (i : Nat) : ∀ k, (mk f k).testBit i = (decide (i < k) && f i)
  | 0 => by simp [mk]
  | k + 1 => by
    simp only [mk, Nat.testBit_or, testBit_mk f i k]
    by_cases h : i = k
    · subst h
      cases f i <;> simp
    · have h1 : decide (i < k + 1) = decide (i < k) := by simp; omega
      rw [h1]
      cases f k
      · simp
      · simp [Ne.symm h]
def fB (n : Nat) : List Bool := (List.range 32).map fun i => n.testBit i
def bL (n : Nat) : List Nat := (List.range 32).filter fun i => n.testBit i
def tzN (n : Nat) : Nat := (List.range 32).findIdx fun i => n.testBit i
def clr (n : Nat) : Nat := n &&& (n - 1)
theorem shape : ∀ n : Nat, n ≠ 0 → ∃ a q, n = 2 ^ a * (2 * q + 1) := by
  intro n
  induction n using Nat.strongRecOn with
  | ind n ih =>
    intro h
    rcases Nat.mod_two_eq_zero_or_one n with h2 | h2
    · obtain ⟨a, q, e⟩ := ih (n / 2) (by omega) (by omega)
      refine ⟨a + 1, q, ?_⟩
      rw [Nat.pow_succ, Nat.mul_comm (2 ^ a) 2, Nat.mul_assoc, ← e]; omega
    · exact ⟨0, n / 2, by omega⟩
theorem bit_odd (q j : Nat) : (2 * q + 1).testBit j = (decide (j = 0) || (decide (0 < j) && q.testBit (j - 1))) := by
  cases j with
  | zero => simp
  | succ t => rw [Nat.testBit_add_one, show (2 * q + 1) / 2 = q by omega]; simp
theorem bit_even (q j : Nat) : (2 * q).testBit j = (decide (0 < j) && q.testBit (j - 1)) := by
  cases j with
  | zero => simp
  | succ t => rw [Nat.testBit_add_one, show (2 * q) / 2 = q by omega]; simp
theorem bit_at (a q j : Nat) : (2 ^ a * (2 * q + 1)).testBit j = (decide (j = a) || (decide (a < j) && q.testBit (j - a - 1))) := by
  have := Nat.testBit_two_pow_mul_add (2 * q + 1) (b := 0) (i := a) (Nat.two_pow_pos a) j
  rw [Nat.add_zero] at this
  rw [this]
  by_cases h : j < a
  · rw [if_pos h, Nat.zero_testBit, decide_eq_false (show ¬ j = a by omega), decide_eq_false (show ¬ a < j by omega)]; rfl
  · rw [if_neg h, bit_odd, decide_eq_decide.2 (show j - a = 0 ↔ j = a by omega), decide_eq_decide.2 (show 0 < j - a ↔ a < j by omega)]
theorem clr_bit (a q j : Nat) : (clr (2 ^ a * (2 * q + 1))).testBit j = (decide (a < j) && q.testBit (j - a - 1)) := by
  have hp := Nat.two_pow_pos a
  have e : 2 ^ a * (2 * q + 1) - 1 = 2 ^ a * (2 * q) + (2 ^ a - 1) := by rw [Nat.mul_add, Nat.mul_one]; omega
  unfold clr
  rw [Nat.testBit_and, bit_at, e, Nat.testBit_two_pow_mul_add _ (show 2 ^ a - 1 < 2 ^ a by omega)]
  by_cases h : j < a
  · rw [decide_eq_false (show ¬ j = a by omega), decide_eq_false (show ¬ a < j by omega)]; simp
  · rw [if_neg h, bit_even]
    by_cases h2 : j = a
    · subst h2; simp
    · rw [decide_eq_false h2, decide_eq_true (show a < j by omega), decide_eq_true (show 0 < j - a by omega)]; simp
theorem tz_of {a q : Nat} (h : 2 ^ a * (2 * q + 1) < 2 ^ 32) : tzN (2 ^ a * (2 * q + 1)) = a ∧ a < 32 := by
  have ha : a < 32 := by
    refine (Nat.pow_lt_pow_iff_right (a := 2) (by decide)).1 (Nat.lt_of_le_of_lt ?_ h)
    exact Nat.le_mul_of_pos_right _ (by omega)
  refine ⟨?_, ha⟩
  unfold tzN
  rw [List.findIdx_eq (by rw [List.length_range]; exact ha)]
  refine ⟨?_, fun j hj => ?_⟩
  · rw [List.getElem_range, bit_at, decide_eq_true rfl]; rfl
  · rw [List.getElem_range, bit_at, decide_eq_false (show ¬ j = a by omega), decide_eq_false (show ¬ a < j by omega)]; rfl
theorem range_cut {a : Nat} (h : a < 32) : List.range 32 = List.range a ++ a :: List.range' (a + 1) (31 - a) := by
  rw [List.range_eq_range', List.range_eq_range', ← List.range'_succ, show 31 - a + 1 = 32 - a by omega]
  have := List.range'_append (s := 0) (m := a) (n := 32 - a) (step := 1)
  rw [show a + (32 - a) = 32 by omega, Nat.one_mul, Nat.zero_add] at this
  exact this.symm
theorem bL_step {n : Nat} (h0 : n ≠ 0) (h : n < 2 ^ 32) : bL n = tzN n :: bL (clr n) ∧ tzN n < 32 ∧ clr n < n ∧ n.testBit (tzN n) = true := by
  obtain ⟨a, q, rfl⟩ := shape n h0
  obtain ⟨e, ha⟩ := tz_of h
  rw [e]
  refine ⟨?_, ha, ?_, by rw [bit_at, decide_eq_true rfl]; rfl⟩
  · unfold bL
    rw [range_cut ha, List.filter_append, List.filter_append, List.filter_cons, List.filter_cons, bit_at, decide_eq_true rfl, clr_bit, decide_eq_false (Nat.lt_irrefl a)]
    have z1 : (List.range a).filter (fun i => (2 ^ a * (2 * q + 1)).testBit i) = [] := List.filter_eq_nil_iff.2 fun i hi => by
      have := List.mem_range.1 hi
      rw [bit_at, decide_eq_false (show ¬ i = a by omega), decide_eq_false (show ¬ a < i by omega)]; simp
    have z2 : (List.range a).filter (fun i => (clr (2 ^ a * (2 * q + 1))).testBit i) = [] := List.filter_eq_nil_iff.2 fun i hi => by
      have := List.mem_range.1 hi
      rw [clr_bit, decide_eq_false (show ¬ a < i by omega)]; simp
    rw [z1, z2]
    simp only [Bool.true_or, if_true, Bool.false_and, Bool.false_eq_true, if_false, List.nil_append]
    congr 1
    refine List.filter_congr fun i hi => ?_
    have := (List.mem_range'_1.1 hi).1
    rw [bit_at, clr_bit, decide_eq_false (show ¬ i = a by omega), Bool.false_or]
  · unfold clr
    refine Nat.lt_of_le_of_lt Nat.and_le_right (by omega)
theorem low_bit {n : Nat} (h0 : n ≠ 0) (h : n < 2 ^ 32) : n &&& (2 ^ 32 - n) = 2 ^ tzN n := by
  obtain ⟨a, q, rfl⟩ := shape n h0
  obtain ⟨e, ha⟩ := tz_of h
  rw [e]
  have hq : q < 2 ^ (31 - a) := by
    have h2 : 2 ^ 32 = 2 ^ a * (2 * 2 ^ (31 - a)) := by rw [show 2 * 2 ^ (31 - a) = 2 ^ (32 - a) by rw [show 32 - a = 31 - a + 1 by omega, Nat.pow_succ, Nat.mul_comm], ← Nat.pow_add, show a + (32 - a) = 32 by omega]
    rw [h2] at h
    have := Nat.lt_of_mul_lt_mul_left h
    omega
  have h2 : 2 ^ 32 - 2 ^ a * (2 * q + 1) = 2 ^ a * (2 * (2 ^ (31 - a) - (q + 1)) + 1) := by
    rw [show (2 : Nat) ^ 32 = 2 ^ a * (2 * 2 ^ (31 - a)) by rw [show 2 * 2 ^ (31 - a) = 2 ^ (32 - a) by rw [show 32 - a = 31 - a + 1 by omega, Nat.pow_succ, Nat.mul_comm], ← Nat.pow_add, show a + (32 - a) = 32 by omega], ← Nat.mul_sub]
    congr 1
    omega
  rw [h2]
  apply Nat.eq_of_testBit_eq
  intro j
  rw [Nat.testBit_and, bit_at, bit_at, Nat.testBit_two_pow]
  by_cases h3 : j = a
  · subst h3; simp
  · rw [decide_eq_false h3, decide_eq_false (Ne.symm h3), Bool.false_or, Bool.false_or, Nat.testBit_two_pow_sub_succ hq]
    cases decide (a < j) <;> cases q.testBit (j - a - 1) <;> simp
end Rgg
namespace Rgg
open Go
def wdL (n : Nat) : List ByteArray := wrt 5 fun i => n.testBit i
def stk : Nat → Nat → Nat
  | 0, x => x
  | _ + 1, x => x
theorem stk_eq (n x : Nat) : stk n x = x := by cases n <;> rfl
def trN (n s : Nat) : Nat := stk s (mk (fun i => at_ (tr (fB n) s) i) 32)
theorem trN_eq (n s : Nat) : trN n s = mk (fun i => at_ (tr (fB n) s) i) 32 := stk_eq ..
def in32 (n : Int) : Bool := match n with
  | .ofNat x => Nat.ble x 4294967295
  | .negSucc _ => false
def pK (k : Int) : Int := 1 + k % 5
def pB (k b : Int) : Nat := b.toNat % 2 ^ 2 ^ (pK k).toNat
end Rgg
namespace Go.Ev.Rag
open Go Go.Ev Go.Proofs
set_option maxRecDepth 1000000
set_option linter.unusedVariables false
def lay28Ren : Go.Shelf.Ren := { f := fun x => match x with | 28 => 51 | n => n, t := fun x => match x with | 25 => 63 | 27 => 38 | 53 => 95 | n => n, g := fun x => x }
theorem lay28 : Go.Proofs.Lays7.n28 Tryd.prog lay28Ren where
  mixed := by kernel_rfl
  f28 := Tryd.func51.trans (congrArg some (by kernel_rfl))
  t0 := Tryd.underlying0
  a0 := Tryd.isAgg0
  z0 := Tryd.sizeOf0
  v0 := Tryd.zeroValue0
  i0 := by kernel_rfl
  t3 := Tryd.underlying3
  a3 := Tryd.isAgg3
  z3 := Tryd.sizeOf3
  v3 := Tryd.zeroValue3
  i3 := by kernel_rfl
  t4 := Tryd.underlying4
  a4 := Tryd.isAgg4
  z4 := Tryd.sizeOf4
  v4 := Tryd.zeroValue4
  i4 := by kernel_rfl
  t5 := Tryd.underlying5
  a5 := Tryd.isAgg5
  z5 := Tryd.sizeOf5
  v5 := Tryd.zeroValue5
  i5 := by kernel_rfl
  t25 := Tryd.underlying63
  a25 := Tryd.isAgg63
  z25 := Tryd.sizeOf63
  v25 := Tryd.zeroValue63
  i25 := by kernel_rfl
  t27 := Tryd.underlying38
  a27 := Tryd.isAgg38
  z27 := Tryd.sizeOf38
  v27 := Tryd.zeroValue38
  i27 := by kernel_rfl
  t53 := Tryd.underlying95
  a53 := Tryd.isAgg95
  z53 := Tryd.sizeOf95
  v53 := Tryd.zeroValue95
  i53 := by kernel_rfl
  g0 := by kernel_rfl
theorem ctz_eq {x : Nat} (h0 : x ≠ 0) (h : x < 4294967296) : Lib.ctz 32 x = Rgg.tzN x := by
  obtain ⟨h1, h2⟩ := Lib.lowest_bit 32 x h0 h
  rw [Rgg.low_bit h0 h] at h1
  exact (Nat.pow_right_inj (by decide : 1 < 2)).1 h1.symm
theorem tab_get : ∀ j, j < 32 → tab32[j]? = some ((Lib.deBruijn32tab.getD j 0 : Nat) : Int) := by decide +kernel
theorem tab_at {S : Stab} {w : World} {L : Loc} {h : Hs} {ids : List Nat} (hst : St T0 S w L h ids) : TabAt 0 Lib.deBruijn32tab w := by
  have hg := hst.glob 0 _ _ rfl
  simp only [Rel] at hg
  obtain ⟨b, o, hp, hc, _⟩ := hg
  simp only [Value.pointer.injEq, Option.some.injEq, Addr.mk.injEq] at hp
  obtain ⟨rfl, ho, _⟩ := hp
  have ho : o = 0 := by
    simp only [List.take_zero, contSize] at ho
    omega
  subst ho
  intro j hj
  have hj : j < 32 := hj
  have := hc.1 (.int .u8) tab32 rfl j _ (tab_get j hj)
  simpa [ElR, ElR0, ET.size, cellsAt] using this
def c51 (args : List AV) (H : Hp) : Tree (AV × Hp) := match args, H with
  | [.sc (.int .u32 x)], [] => .br (decide (0 < x) && decide (x < 4294967296)) (.leaf (vi (Rgg.tzN x.toNat : Nat), [])) .fail
  | _, _ => .fail
theorem c51_run : ∀ args H v H', (c51 args H).val = some (v, H') → CallOK T0 51 args H v H' := by
  intro args H v H' hv
  unfold c51 at hv
  split at hv
  · rename_i x
    obtain ⟨hg, hv2⟩ := guard_val hv
    simp only [Bool.and_eq_true, decide_eq_true_eq] at hg
    obtain ⟨x, rfl⟩ := Int.eq_ofNat_of_zero_le (show 0 ≤ x by omega)
    rw [toNat_cast] at hv2
    cases leaf_val hv2
    refine ⟨⟨_, _, Tryd.func51, rfl, rfl⟩, Nat.le_refl _, fun S w L us hst hr => ?_⟩
    simp only [RelL, Rel] at hr
    obtain ⟨u, rest, rfl, rfl, rfl⟩ := hr
    refine (Any7.bits_TrailingZeros32 lay28 x (by omega) w fun _ => tab_at hst).mono ?_
    rintro e w' ⟨rfl, rfl⟩
    rw [ctz_eq (by omega) (by omega)]
    refine ⟨_, S, L, rfl, ?_, hst, Ext.refl _ _ _⟩
    simp only [Rel]
  · cases hv
end Go.Ev.Rag
namespace Go.Ev.Rag
open Go Go.Ev Go.Proofs
set_option maxRecDepth 1000000
set_option maxHeartbeats 0
theorem w38_0 : evBody TC 38 [vi 0] [] = some (.sc (.string (Rgg.word 0)), []) := by kernel_rfl
theorem w38_1 : evBody TC 38 [vi 1] [] = some (.sc (.string (Rgg.word 1)), []) := by kernel_rfl
theorem w38_2 : evBody TC 38 [vi 2] [] = some (.sc (.string (Rgg.word 2)), []) := by kernel_rfl
theorem w38_3 : evBody TC 38 [vi 3] [] = some (.sc (.string (Rgg.word 3)), []) := by kernel_rfl
theorem w38_4 : evBody TC 38 [vi 4] [] = some (.sc (.string (Rgg.word 4)), []) := by kernel_rfl
theorem w38_5 : evBody TC 38 [vi 5] [] = some (.sc (.string (Rgg.word 5)), []) := by kernel_rfl
theorem w38_6 : evBody TC 38 [vi 6] [] = some (.sc (.string (Rgg.word 6)), []) := by kernel_rfl
theorem w38_7 : evBody TC 38 [vi 7] [] = some (.sc (.string (Rgg.word 7)), []) := by kernel_rfl
theorem w38_8 : evBody TC 38 [vi 8] [] = some (.sc (.string (Rgg.word 8)), []) := by kernel_rfl
theorem w38_9 : evBody TC 38 [vi 9] [] = some (.sc (.string (Rgg.word 9)), []) := by kernel_rfl
theorem w38_10 : evBody TC 38 [vi 10] [] = some (.sc (.string (Rgg.word 10)), []) := by kernel_rfl
theorem w38_11 : evBody TC 38 [vi 11] [] = some (.sc (.string (Rgg.word 11)), []) := by kernel_rfl
theorem w38_12 : evBody TC 38 [vi 12] [] = some (.sc (.string (Rgg.word 12)), []) := by kernel_rfl
theorem w38_13 : evBody TC 38 [vi 13] [] = some (.sc (.string (Rgg.word 13)), []) := by kernel_rfl
theorem w38_14 : evBody TC 38 [vi 14] [] = some (.sc (.string (Rgg.word 14)), []) := by kernel_rfl
theorem w38_15 : evBody TC 38 [vi 15] [] = some (.sc (.string (Rgg.word 15)), []) := by kernel_rfl
theorem w38_16 : evBody TC 38 [vi 16] [] = some (.sc (.string (Rgg.word 16)), []) := by kernel_rfl
theorem w38_17 : evBody TC 38 [vi 17] [] = some (.sc (.string (Rgg.word 17)), []) := by kernel_rfl
theorem w38_18 : evBody TC 38 [vi 18] [] = some (.sc (.string (Rgg.word 18)), []) := by kernel_rfl
theorem w38_19 : evBody TC 38 [vi 19] [] = some (.sc (.string (Rgg.word 19)), []) := by kernel_rfl
theorem w38_20 : evBody TC 38 [vi 20] [] = some (.sc (.string (Rgg.word 20)), []) := by kernel_rfl
theorem w38_21 : evBody TC 38 [vi 21] [] = some (.sc (.string (Rgg.word 21)), []) := by kernel_rfl
theorem w38_22 : evBody TC 38 [vi 22] [] = some (.sc (.string (Rgg.word 22)), []) := by kernel_rfl
theorem w38_23 : evBody TC 38 [vi 23] [] = some (.sc (.string (Rgg.word 23)), []) := by kernel_rfl
theorem w38_24 : evBody TC 38 [vi 24] [] = some (.sc (.string (Rgg.word 24)), []) := by kernel_rfl
theorem w38_25 : evBody TC 38 [vi 25] [] = some (.sc (.string (Rgg.word 25)), []) := by kernel_rfl
theorem w38_26 : evBody TC 38 [vi 26] [] = some (.sc (.string (Rgg.word 26)), []) := by kernel_rfl
theorem w38_27 : evBody TC 38 [vi 27] [] = some (.sc (.string (Rgg.word 27)), []) := by kernel_rfl
theorem w38_28 : evBody TC 38 [vi 28] [] = some (.sc (.string (Rgg.word 28)), []) := by kernel_rfl
theorem w38_29 : evBody TC 38 [vi 29] [] = some (.sc (.string (Rgg.word 29)), []) := by kernel_rfl
theorem w38_30 : evBody TC 38 [vi 30] [] = some (.sc (.string (Rgg.word 30)), []) := by kernel_rfl
theorem w38_31 : evBody TC 38 [vi 31] [] = some (.sc (.string (Rgg.word 31)), []) := by kernel_rfl
theorem w38 : ∀ n, n < 32 → evBody TC 38 [vi (n : Nat)] [] = some (.sc (.string (Rgg.word n)), []) := by
  intro n hn
  match n, hn with
  | 0, _ => exact w38_0
  | 1, _ => exact w38_1
  | 2, _ => exact w38_2
  | 3, _ => exact w38_3
  | 4, _ => exact w38_4
  | 5, _ => exact w38_5
  | 6, _ => exact w38_6
  | 7, _ => exact w38_7
  | 8, _ => exact w38_8
  | 9, _ => exact w38_9
  | 10, _ => exact w38_10
  | 11, _ => exact w38_11
  | 12, _ => exact w38_12
  | 13, _ => exact w38_13
  | 14, _ => exact w38_14
  | 15, _ => exact w38_15
  | 16, _ => exact w38_16
  | 17, _ => exact w38_17
  | 18, _ => exact w38_18
  | 19, _ => exact w38_19
  | 20, _ => exact w38_20
  | 21, _ => exact w38_21
  | 22, _ => exact w38_22
  | 23, _ => exact w38_23
  | 24, _ => exact w38_24
  | 25, _ => exact w38_25
  | 26, _ => exact w38_26
  | 27, _ => exact w38_27
  | 28, _ => exact w38_28
  | 29, _ => exact w38_29
  | 30, _ => exact w38_30
  | 31, _ => exact w38_31
  | n + 32, h => omega
end Go.Ev.Rag
