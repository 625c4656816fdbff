/- The letters of each set: 32 closed runs. -/
import Derived.Test.YtajhpbahjindkaaDoorRa
set_option linter.unusedVariables false
set_option linter.unusedSimpArgs false
namespace Go.Ev.Rag
open Go Go.Ev Go.Proofs
set_option maxRecDepth 1000000
set_option maxHeartbeats 0
theorem T0_ok : TabOK T0 := ⟨fun f a H v H' hv => (by cases hv), fun f l b k H o k' H' hv => (by cases hv), fun f fn h => fnsOf_spec h, by kernel_rfl⟩
noncomputable def TC : Tab := carried T0 40 5
theorem TC_ok : TabOK TC := (carried_ok T0_ok.fns T0_ok.mixed 40 5).1
theorem w97_0 : evBody TC 97 [vi 0] [] = some (.sc (.string (Rgg.word 0)), []) := by kernel_rfl
theorem w97_1 : evBody TC 97 [vi 1] [] = some (.sc (.string (Rgg.word 1)), []) := by kernel_rfl
theorem w97_2 : evBody TC 97 [vi 2] [] = some (.sc (.string (Rgg.word 2)), []) := by kernel_rfl
theorem w97_3 : evBody TC 97 [vi 3] [] = some (.sc (.string (Rgg.word 3)), []) := by kernel_rfl
theorem w97_4 : evBody TC 97 [vi 4] [] = some (.sc (.string (Rgg.word 4)), []) := by kernel_rfl
theorem w97_5 : evBody TC 97 [vi 5] [] = some (.sc (.string (Rgg.word 5)), []) := by kernel_rfl
theorem w97_6 : evBody TC 97 [vi 6] [] = some (.sc (.string (Rgg.word 6)), []) := by kernel_rfl
theorem w97_7 : evBody TC 97 [vi 7] [] = some (.sc (.string (Rgg.word 7)), []) := by kernel_rfl
theorem w97_8 : evBody TC 97 [vi 8] [] = some (.sc (.string (Rgg.word 8)), []) := by kernel_rfl
theorem w97_9 : evBody TC 97 [vi 9] [] = some (.sc (.string (Rgg.word 9)), []) := by kernel_rfl
theorem w97_10 : evBody TC 97 [vi 10] [] = some (.sc (.string (Rgg.word 10)), []) := by kernel_rfl
theorem w97_11 : evBody TC 97 [vi 11] [] = some (.sc (.string (Rgg.word 11)), []) := by kernel_rfl
theorem w97_12 : evBody TC 97 [vi 12] [] = some (.sc (.string (Rgg.word 12)), []) := by kernel_rfl
theorem w97_13 : evBody TC 97 [vi 13] [] = some (.sc (.string (Rgg.word 13)), []) := by kernel_rfl
theorem w97_14 : evBody TC 97 [vi 14] [] = some (.sc (.string (Rgg.word 14)), []) := by kernel_rfl
theorem w97_15 : evBody TC 97 [vi 15] [] = some (.sc (.string (Rgg.word 15)), []) := by kernel_rfl
theorem w97_16 : evBody TC 97 [vi 16] [] = some (.sc (.string (Rgg.word 16)), []) := by kernel_rfl
theorem w97_17 : evBody TC 97 [vi 17] [] = some (.sc (.string (Rgg.word 17)), []) := by kernel_rfl
theorem w97_18 : evBody TC 97 [vi 18] [] = some (.sc (.string (Rgg.word 18)), []) := by kernel_rfl
theorem w97_19 : evBody TC 97 [vi 19] [] = some (.sc (.string (Rgg.word 19)), []) := by kernel_rfl
theorem w97_20 : evBody TC 97 [vi 20] [] = some (.sc (.string (Rgg.word 20)), []) := by kernel_rfl
theorem w97_21 : evBody TC 97 [vi 21] [] = some (.sc (.string (Rgg.word 21)), []) := by kernel_rfl
theorem w97_22 : evBody TC 97 [vi 22] [] = some (.sc (.string (Rgg.word 22)), []) := by kernel_rfl
theorem w97_23 : evBody TC 97 [vi 23] [] = some (.sc (.string (Rgg.word 23)), []) := by kernel_rfl
theorem w97_24 : evBody TC 97 [vi 24] [] = some (.sc (.string (Rgg.word 24)), []) := by kernel_rfl
theorem w97_25 : evBody TC 97 [vi 25] [] = some (.sc (.string (Rgg.word 25)), []) := by kernel_rfl
theorem w97_26 : evBody TC 97 [vi 26] [] = some (.sc (.string (Rgg.word 26)), []) := by kernel_rfl
theorem w97_27 : evBody TC 97 [vi 27] [] = some (.sc (.string (Rgg.word 27)), []) := by kernel_rfl
theorem w97_28 : evBody TC 97 [vi 28] [] = some (.sc (.string (Rgg.word 28)), []) := by kernel_rfl
theorem w97_29 : evBody TC 97 [vi 29] [] = some (.sc (.string (Rgg.word 29)), []) := by kernel_rfl
theorem w97_30 : evBody TC 97 [vi 30] [] = some (.sc (.string (Rgg.word 30)), []) := by kernel_rfl
theorem w97_31 : evBody TC 97 [vi 31] [] = some (.sc (.string (Rgg.word 31)), []) := by kernel_rfl
theorem w97 (n : Nat) (h : n < 32) : evBody TC 97 [vi (n : Nat)] [] = some (.sc (.string (Rgg.word n)), []) :=
  match n, h with
  | 0, _ => w97_0
  | 1, _ => w97_1
  | 2, _ => w97_2
  | 3, _ => w97_3
  | 4, _ => w97_4
  | 5, _ => w97_5
  | 6, _ => w97_6
  | 7, _ => w97_7
  | 8, _ => w97_8
  | 9, _ => w97_9
  | 10, _ => w97_10
  | 11, _ => w97_11
  | 12, _ => w97_12
  | 13, _ => w97_13
  | 14, _ => w97_14
  | 15, _ => w97_15
  | 16, _ => w97_16
  | 17, _ => w97_17
  | 18, _ => w97_18
  | 19, _ => w97_19
  | 20, _ => w97_20
  | 21, _ => w97_21
  | 22, _ => w97_22
  | 23, _ => w97_23
  | 24, _ => w97_24
  | 25, _ => w97_25
  | 26, _ => w97_26
  | 27, _ => w97_27
  | 28, _ => w97_28
  | 29, _ => w97_29
  | 30, _ => w97_30
  | 31, _ => w97_31
  | n + 32, h => absurd h (by omega)
end Go.Ev.Rag
