/- Counts and ways: the plain law. -/
import Derived.Test.YtlckdhlepjimeaaSc
set_option linter.unusedVariables false
set_option linter.unusedSimpArgs false
namespace Lan
open Go
def S (F : Nat → Nat) : Nat → Nat
  | 0 => 0
  | f + 1 => S F f + F f
def g (a b to : Int) (sh : List Int) (x : Int) : Nat := (wF b to sh (a * b - x).toNat [x]).length
end Lan
namespace Lan
open Go
theorem of_bit (y : Int) (hy : 0 ≤ y) : ∀ (l : List Int) (s : Nat), in16 l = true → (l.foldl (fun s x => s ||| 2 ^ x.toNat) s).testBit y.toNat = (s.testBit y.toNat || has l y)
  | [], s, _ => by simp [has]
  | x :: l, s, h => by
    unfold in16 at h
    rw [List.all_cons, Bool.and_eq_true] at h
    have hx := h.1
    simp only [Bool.and_eq_true, decide_eq_true_eq] at hx
    rw [List.foldl_cons, of_bit y hy l _ h.2, Nat.testBit_or, Nat.testBit_two_pow]
    unfold has
    rw [List.any_cons, Bool.or_assoc]
    congr 2
    rw [Bool.eq_iff_iff, decide_eq_true_eq, beq_iff_eq]
    omega
theorem ofN_bit {l : List Int} (h : in16 l = true) (y : Int) (hy : 0 ≤ y) : (ofN l).testBit y.toNat = has l y := by
  unfold ofN
  rw [of_bit y hy l 0 h, Nat.zero_testBit, Bool.false_or]
end Lan
