/- Numbers of 32 bits. -/
import Derived.Test.YtajhpbahjindkaaDoorEvA
import Derived.Test.YtajhpbahjindkaaDoorRt
import Derived.Test.YtajhpbahjindkaaDoorRc
import Derived.Shelf.Spec.TrailingZeros
set_option linter.unusedVariables false
set_option linter.unusedSimpArgs false
namespace Rgg
open Go
def mk (f : Nat → Bool) : Nat → Nat
  | 0 => 0
  | k + 1 => mk f k ||| (bif f k then 2 ^ k else 0)
theorem shape : ∀ n : Nat, n ≠ 0 → ∃ a q, n = 2 ^ a * (2 * q + 1) := by
  intro n
  induction n using Nat.strongRecOn with
  | ind n ih =>
    intro h
    rcases Nat.mod_two_eq_zero_or_one n with h2 | h2
    · obtain ⟨a, q, e⟩ := ih (n / 2) (by omega) (by omega)
      refine ⟨a + 1, q, ?_⟩
      rw [Nat.pow_succ, Nat.mul_comm (2 ^ a) 2, Nat.mul_assoc, ← e]; omega
    · exact ⟨0, n / 2, by omega⟩
end Rgg
namespace Rgg
open Go
end Rgg
namespace Go.Ev.Rag
open Go Go.Ev Go.Proofs
set_option maxRecDepth 1000000
set_option linter.unusedVariables false
end Go.Ev.Rag
namespace Go.Ev.Rag
open Go Go.Ev Go.Proofs
set_option maxRecDepth 1000000
set_option maxHeartbeats 0
end Go.Ev.Rag
