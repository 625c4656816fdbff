/- The search of the burn chapter: its loop is what BSpec4 says. -/
import Derived.Test.YtpieoljeikpemaaDoorSe
import Derived.Test.YtpieoljeikpemaaDoorLa
set_option linter.unusedVariables false
set_option linter.unusedSimpArgs false
namespace Go.Ev.Burn
open Go Go.Ev
set_option maxRecDepth 1000000
set_option linter.unusedVariables false
set_option linter.unusedSimpArgs false
def caseX {ρ σ τ : Type} (h : ρ → τ) (E : σ → τ) : Sum ρ σ → τ
  | .inl r => h r
  | .inr s => E s
def shN (rn : Int → Hp) (rs : Int → List Int → Hp) (s : Int × List Int) : Hp := match s.2 with
  | [] => rn s.1
  | x :: l => rs s.1 (x :: l)
end Go.Ev.Burn
namespace Go.Ev.Burn
open Go Go.Ev
set_option maxRecDepth 1000000
set_option linter.unusedVariables false
set_option linter.unusedSimpArgs false
end Go.Ev.Burn
namespace Go.Ev.Burn
open Go Go.Ev
set_option maxRecDepth 1000000
set_option linter.unusedVariables false
set_option linter.unusedSimpArgs false
set_option maxHeartbeats 4000000
end Go.Ev.Burn
namespace Go.Ev.Burn
open Go Go.Ev
set_option maxRecDepth 1000000
set_option linter.unusedVariables false
set_option linter.unusedSimpArgs false
set_option maxHeartbeats 4000000
theorem S16_ok : TabOK S16 := by
  have h := S15_ok
  exact h
end Go.Ev.Burn
