/- The law RagCubes: bounds, tables and the body's normal form. -/
import Derived.Test.YtajhpbahjindkaaDoorRo
import Derived.Test.YtajhpbahjindkaaDoorRf
set_option linter.unusedVariables false
set_option linter.unusedSimpArgs false
namespace Rgg
open Go
def boR (K m : Int) : Bool := decide (1 ≤ K) && decide (K ≤ 5)
def boS (K m : Int) : Bool := decide (0 ≤ m) && decide (m ≤ K)
def boN (K m : Int) : Nat := ((setsL K).filter fun x => decide ((x.size : Int) ≤ m)).length
def boV (K m : Int) : Int := bif boR K m && boS K m then (boN K m : Int) else 0
def boE (K m : Int) : Int := bif !boR K m then 1 else bif !boS K m then 2 else 0
end Rgg
namespace Go.Ev.Rag
open Go Go.Ev
set_option maxRecDepth 1000000
set_option maxHeartbeats 0
set_option linter.unusedVariables false
theorem nf28 (K m : Int) : evBody T0 28 [vi K, vi m] [] = (bif decide (K < 1) then some (.tuple [vi 0, vi 1], []) else bif decide (K > 5) then some (.tuple [vi 0, vi 1], []) else bif decide (m < 0) then some (.tuple [vi 0, vi 2], []) else bif decide (m > K) then some (.tuple [vi 0, vi 2], []) else none) := by kernel_rfl
def c28t (K m : Int) : Tree (AV × Hp) := .leaf (.tuple [vi (Rgg.boV K m), vi (Rgg.boE K m)], [])
def c28 (args : List AV) (H : Hp) : Tree (AV × Hp) := match args, H with
  | [(.sc (.int .i64 K)), (.sc (.int .i64 m))], [] => c28t K m
  | _, _ => .fail
end Go.Ev.Rag
namespace Go.Ev.Rag
open Go Go.Ev Go.Proofs
set_option maxRecDepth 1000000
set_option maxHeartbeats 0
theorem w28_1_0 : evBody TD 28 [vi 1, vi 0] [] = some (.tuple [vi (Rgg.boV 1 0), vi (Rgg.boE 1 0)], []) := by kernel_rfl
theorem w28_1_1 : evBody TD 28 [vi 1, vi 1] [] = some (.tuple [vi (Rgg.boV 1 1), vi (Rgg.boE 1 1)], []) := by kernel_rfl
theorem w28_2_0 : evBody TD 28 [vi 2, vi 0] [] = some (.tuple [vi (Rgg.boV 2 0), vi (Rgg.boE 2 0)], []) := by kernel_rfl
theorem w28_2_1 : evBody TD 28 [vi 2, vi 1] [] = some (.tuple [vi (Rgg.boV 2 1), vi (Rgg.boE 2 1)], []) := by kernel_rfl
theorem w28_2_2 : evBody TD 28 [vi 2, vi 2] [] = some (.tuple [vi (Rgg.boV 2 2), vi (Rgg.boE 2 2)], []) := by kernel_rfl
theorem w28_3_0 : evBody TD 28 [vi 3, vi 0] [] = some (.tuple [vi (Rgg.boV 3 0), vi (Rgg.boE 3 0)], []) := by kernel_rfl
theorem w28_3_1 : evBody TD 28 [vi 3, vi 1] [] = some (.tuple [vi (Rgg.boV 3 1), vi (Rgg.boE 3 1)], []) := by kernel_rfl
theorem w28_3_2 : evBody TD 28 [vi 3, vi 2] [] = some (.tuple [vi (Rgg.boV 3 2), vi (Rgg.boE 3 2)], []) := by kernel_rfl
theorem w28_3_3 : evBody TD 28 [vi 3, vi 3] [] = some (.tuple [vi (Rgg.boV 3 3), vi (Rgg.boE 3 3)], []) := by kernel_rfl
theorem w28_4_0 : evBody TD 28 [vi 4, vi 0] [] = some (.tuple [vi (Rgg.boV 4 0), vi (Rgg.boE 4 0)], []) := by kernel_rfl
theorem w28_4_1 : evBody TD 28 [vi 4, vi 1] [] = some (.tuple [vi (Rgg.boV 4 1), vi (Rgg.boE 4 1)], []) := by kernel_rfl
theorem w28_4_2 : evBody TD 28 [vi 4, vi 2] [] = some (.tuple [vi (Rgg.boV 4 2), vi (Rgg.boE 4 2)], []) := by kernel_rfl
theorem w28_4_3 : evBody TD 28 [vi 4, vi 3] [] = some (.tuple [vi (Rgg.boV 4 3), vi (Rgg.boE 4 3)], []) := by kernel_rfl
theorem w28_4_4 : evBody TD 28 [vi 4, vi 4] [] = some (.tuple [vi (Rgg.boV 4 4), vi (Rgg.boE 4 4)], []) := by kernel_rfl
theorem w28_5_0 : evBody TD 28 [vi 5, vi 0] [] = some (.tuple [vi (Rgg.boV 5 0), vi (Rgg.boE 5 0)], []) := by kernel_rfl
theorem w28_5_1 : evBody TD 28 [vi 5, vi 1] [] = some (.tuple [vi (Rgg.boV 5 1), vi (Rgg.boE 5 1)], []) := by kernel_rfl
theorem w28_5_2 : evBody TD 28 [vi 5, vi 2] [] = some (.tuple [vi (Rgg.boV 5 2), vi (Rgg.boE 5 2)], []) := by kernel_rfl
theorem w28_5_3 : evBody TD 28 [vi 5, vi 3] [] = some (.tuple [vi (Rgg.boV 5 3), vi (Rgg.boE 5 3)], []) := by kernel_rfl
theorem w28_5_4 : evBody TD 28 [vi 5, vi 4] [] = some (.tuple [vi (Rgg.boV 5 4), vi (Rgg.boE 5 4)], []) := by kernel_rfl
theorem w28_5_5 : evBody TD 28 [vi 5, vi 5] [] = some (.tuple [vi (Rgg.boV 5 5), vi (Rgg.boE 5 5)], []) := by kernel_rfl
theorem w28 (K m : Int) (h1 : 1 ≤ K) (h5 : K ≤ 5) (m0 : 0 ≤ m) (mK : m ≤ K) : evBody TD 28 [vi K, vi m] [] = some (.tuple [vi (Rgg.boV K m), vi (Rgg.boE K m)], []) := by
  have hK : K = 1 ∨ K = 2 ∨ K = 3 ∨ K = 4 ∨ K = 5 := by omega
  rcases hK with rfl | rfl | rfl | rfl | rfl
  · have hm : m = 0 ∨ m = 1 := by omega
    rcases hm with rfl | rfl
    · exact w28_1_0
    · exact w28_1_1
  · have hm : m = 0 ∨ m = 1 ∨ m = 2 := by omega
    rcases hm with rfl | rfl | rfl
    · exact w28_2_0
    · exact w28_2_1
    · exact w28_2_2
  · have hm : m = 0 ∨ m = 1 ∨ m = 2 ∨ m = 3 := by omega
    rcases hm with rfl | rfl | rfl | rfl
    · exact w28_3_0
    · exact w28_3_1
    · exact w28_3_2
    · exact w28_3_3
  · have hm : m = 0 ∨ m = 1 ∨ m = 2 ∨ m = 3 ∨ m = 4 := by omega
    rcases hm with rfl | rfl | rfl | rfl | rfl
    · exact w28_4_0
    · exact w28_4_1
    · exact w28_4_2
    · exact w28_4_3
    · exact w28_4_4
  · have hm : m = 0 ∨ m = 1 ∨ m = 2 ∨ m = 3 ∨ m = 4 ∨ m = 5 := by omega
    rcases hm with rfl | rfl | rfl | rfl | rfl | rfl
    · exact w28_5_0
    · exact w28_5_1
    · exact w28_5_2
    · exact w28_5_3
    · exact w28_5_4
    · exact w28_5_5
end Go.Ev.Rag
namespace Go.Ev.Rag
open Go Go.Ev Go.Proofs
set_option maxRecDepth 1000000
set_option linter.unusedVariables false
theorem c28_run : ∀ args H v H', (c28 args H).val = some (v, H') → CallOK T0 28 args H v H' := by
  intro args H v H' hv
  unfold c28 at hv
  split at hv
  · rename_i K m
    have hr := leaf_val hv
    cases hr
    by_cases h1 : K < 1
    · refine evBody_sound T0_ok ((nf28 ..).trans ?_)
      unfold Rgg.boV Rgg.boE Rgg.boR
      rw [decide_eq_true h1, decide_eq_false (show ¬ 1 ≤ K by omega)]; rfl
    by_cases h5 : K > 5
    · refine evBody_sound T0_ok ((nf28 ..).trans ?_)
      unfold Rgg.boV Rgg.boE Rgg.boR
      rw [decide_eq_false h1, decide_eq_true h5, decide_eq_true (show 1 ≤ K by omega), decide_eq_false (show ¬ K ≤ 5 by omega)]; rfl
    by_cases m0 : m < 0
    · refine evBody_sound T0_ok ((nf28 ..).trans ?_)
      unfold Rgg.boV Rgg.boE Rgg.boR Rgg.boS
      rw [decide_eq_false h1, decide_eq_false h5, decide_eq_true m0, decide_eq_true (show 1 ≤ K by omega), decide_eq_true (show K ≤ 5 by omega), decide_eq_false (show ¬ 0 ≤ m by omega)]; rfl
    by_cases mK : m > K
    · refine evBody_sound T0_ok ((nf28 ..).trans ?_)
      unfold Rgg.boV Rgg.boE Rgg.boR Rgg.boS
      rw [decide_eq_false h1, decide_eq_false h5, decide_eq_false m0, decide_eq_true mK, decide_eq_true (show 1 ≤ K by omega), decide_eq_true (show K ≤ 5 by omega), decide_eq_true (show 0 ≤ m by omega), decide_eq_false (show ¬ m ≤ K by omega)]; rfl
    · exact CallOK.tab (T := TD) (by rfl) (by rfl) (evBody_sound TD_ok (w28 K m (by omega) (by omega) (by omega) (by omega)))
  · cases hv
end Go.Ev.Rag
