/- A loop whose states are known by the number of its rounds. -/
import Derived.Test.YtajhpbahjindkaaDoorEvE
set_option linter.unusedVariables false
set_option linter.unusedSimpArgs false
namespace Go.Ev
open Go
theorem steps_of {T : Tab} {fid lid base : Nat} {c : Code} (n : Nat) (S : Nat → List AV) (SH : Nat → Hp) (E : Out × List AV × Hp)
    (h : ∀ i, i < n → ∀ again : List AV → Hp → Option (Out × List AV × Hp), lpStep T fid lid base c again (S i) (SH i) = again (S (i + 1)) (SH (i + 1)))
    (he : ∀ again : List AV → Hp → Option (Out × List AV × Hp), lpStep T fid lid base c again (S n) (SH n) = some E) : ∃ m, lpRun T fid lid base c m (S 0) (SH 0) = some E :=
  lpRun_of (fun i : Nat => i ≤ n) S SH (fun _ => E) (fun i => n - i) (fun i hi again => by
    rcases Nat.lt_or_ge i n with hl | hl
    · exact .inr ⟨i + 1, hl, by omega, rfl, h i hl again⟩
    · obtain rfl : i = n := Nat.le_antisymm hi hl
      exact .inl (he again)) 0 (Nat.zero_le _)
end Go.Ev
