/- Sets that are told apart: the program's side; tables and normal forms. -/
import Derived.Test.YtajhpbahjindkaaDoorRe
import Derived.Test.YtajhpbahjindkaaDoorRf
import Derived.Test.YtajhpbahjindkaaDoorRg
set_option linter.unusedVariables false
set_option linter.unusedSimpArgs false
namespace Rgg
open Go
def apL (K : Int) (bags : List ByteArray) : List ByteArray := bif opE K bags == 0 then wrt K (fun n => (miss K (opF K bags) n).isEmpty) else []
end Rgg
namespace Go.Ev.Rag
open Go Go.Ev
set_option maxRecDepth 1000000
set_option maxHeartbeats 0
set_option linter.unusedVariables false
theorem nf17 (K : Int) (bags : List ByteArray) : evBody R3 17 [vi K, lS bags] [] = (bif Rgg.opE K bags == 0 then bif decide ((Rgg.opF K bags).length = 32) && decide (1 ≤ K) && decide (K ≤ 5) && decide (1 ≤ K) && decide (K ≤ 5) then some (.tuple [.os 0 0 0 (Rgg.wrt K fun n => (Rgg.miss K (Rgg.opF K bags) n).isEmpty).length true false true, vi 0], [some ⟨[.run .str (Rgg.wrt K fun n => (Rgg.miss K (Rgg.opF K bags) n).isEmpty)], false, Rgg.tyS (Rgg.wrt K fun n => (Rgg.miss K (Rgg.opF K bags) n).isEmpty), false, false, none⟩]) else none else bif Rgg.opE K bags != 0 then some (.tuple [osW 0 0, vi (Rgg.opE K bags)], [some { c := [.run .str []], vr := false, ty := 0, fz := false, loose := false : Row }]) else none) := by kernel_rfl
def c17t (K : Int) (bags : List ByteArray) : Tree (AV × Hp) := .leaf (.tuple [osW 0 (Rgg.apL K bags).length, vi (Rgg.opE K bags)], [some (rS (Rgg.apL K bags))])
def c17 (args : List AV) (H : Hp) : Tree (AV × Hp) := match args, H with
  | [(.sc (.int .i64 K)), (.sl .str bags false)], [] => c17t K bags
  | _, _ => .fail
theorem c17_ok {T : Tab} (hT : TabOK T) (h : ∀ (K : Int) (bags : List ByteArray) (r : AV × Hp), (c17t K bags).val = some r → evBody T 17 [vi K, lS bags] [] = some r) : ∀ args H v H', (c17 args H).val = some (v, H') → CallOK T 17 args H v H' := by
  intro args H v H' hv
  unfold c17 at hv
  split at hv
  · exact evBody_sound hT (h _ _ _ hv)
  · cases hv
end Go.Ev.Rag
namespace Rgg
open Go
end Rgg
namespace Go.Ev.Rag
open Go Go.Ev Go.Proofs
set_option maxRecDepth 1000000
set_option linter.unusedVariables false
set_option linter.unusedSimpArgs false
theorem c17_run : ∀ args H v H', (c17 args H).val = some (v, H') → CallOK R3 17 args H v H' := c17_ok R3_ok (by
  intro K bags r hv
  refine (nf17 ..).trans ?_
  rw [leaf_val hv]
  unfold Rgg.apL
  cases h : Rgg.opE K bags == 0 with
  | true =>
    obtain ⟨k1, k5, _⟩ := Rgg.opE_zero h
    rw [beq_iff_eq.1 h, Rgg.opF_fam, decide_eq_true k1, decide_eq_true k5]; rfl
  | false => rw [bne, h]; rfl)
end Go.Ev.Rag
