/- Sets that are told apart: the reference's side; tables and normal forms. -/
import Derived.Test.YtajhpbahjindkaaDoorRf
import Derived.Test.YtajhpbahjindkaaDoorRk
set_option linter.unusedVariables false
set_option linter.unusedSimpArgs false
namespace Rgg
open Go
def paR (K : Int) (s : ByteArray) : List ByteArray := trR K (setsL K) s
end Rgg
namespace Go.Ev.Rag
open Go Go.Ev
set_option maxRecDepth 1000000
set_option maxHeartbeats 0
set_option linter.unusedVariables false
theorem nf69 (K : Int) (s : ByteArray) : evBody Q7 69 [vi K, vS s] [] = (bif decide (1 ≤ K) && decide (K ≤ 5) then bif decide (1 ≤ K) && decide (K ≤ 5) && sm (Rgg.setsL K) && Rgg.szs (Rgg.setsL K) && decide (s.size ≤ 100000) then some (.os 0 0 0 (Rgg.trR K (Rgg.setsL K) s).length true false true, [some ⟨[.run .str (Rgg.trR K (Rgg.setsL K) s)], false, Rgg.tyS (Rgg.trR K (Rgg.setsL K) s), false, false, none⟩]) else none else none) := by kernel_rfl
def c69t (K : Int) (s : ByteArray) : Tree (AV × Hp) := .br (decide (1 ≤ K) && decide (K ≤ 5) && decide (s.size ≤ 100000)) (.leaf (osW 0 (Rgg.paR K s).length, [some (rS (Rgg.paR K s))])) .fail
def c69 (args : List AV) (H : Hp) : Tree (AV × Hp) := match args, H with
  | [(.sc (.int .i64 K)), (.sc (.string s))], [] => c69t K s
  | _, _ => .fail
theorem c69_ok {T : Tab} (hT : TabOK T) (h : ∀ (K : Int) (s : ByteArray) (r : AV × Hp), (c69t K s).val = some r → evBody T 69 [vi K, vS s] [] = some r) : ∀ args H v H', (c69 args H).val = some (v, H') → CallOK T 69 args H v H' := by
  intro args H v H' hv
  unfold c69 at hv
  split at hv
  · exact evBody_sound hT (h _ _ _ hv)
  · cases hv
noncomputable def U1 : Tab := (Q7).addCall 69 c69
end Go.Ev.Rag
namespace Go.Ev.Rag
open Go Go.Ev
set_option maxRecDepth 1000000
set_option maxHeartbeats 0
set_option linter.unusedVariables false
end Go.Ev.Rag
