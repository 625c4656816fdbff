/- Sets that are told apart: the reference's side, walked. -/
import Derived.Test.YtajhpbahjindkaaDoorRl
import Derived.Test.YtajhpbahjindkaaDoorRg
import Derived.Test.YtajhpbahjindkaaDoorRk
import Derived.Test.YtajhpbahjindkaaDoorRh
set_option linter.unusedVariables false
set_option linter.unusedSimpArgs false
namespace Rgg
open Go
end Rgg
namespace Go.Ev.Rag
open Go Go.Ev Go.Proofs
set_option maxRecDepth 1000000
set_option linter.unusedVariables false
set_option linter.unusedSimpArgs false
end Go.Ev.Rag
namespace Rgg
open Go
theorem sub_zero : ∀ n, n < 32 → sub n 0 = true → n = 0 := by decide
theorem any_congr {l : List Nat} {p q : Nat → Bool} (h : ∀ b ∈ l, p b = q b) : l.any p = l.any q := by
  rw [Bool.eq_iff_iff, List.any_eq_true, List.any_eq_true]
  exact ⟨fun ⟨b, h1, h2⟩ => ⟨b, h1, by rw [← h b h1]; exact h2⟩, fun ⟨b, h1, h2⟩ => ⟨b, h1, by rw [h b h1]; exact h2⟩⟩
theorem ms_words {K : Int} (h1 : 1 ≤ K) (h5 : K ≤ 5) (l : List Bool) (m : Nat) : miss K l m = ((ordS K.toNat).filter fun n => sub n m && !at_ (tr l m) n).map word := srt_upTo h1 h5 _
end Rgg
