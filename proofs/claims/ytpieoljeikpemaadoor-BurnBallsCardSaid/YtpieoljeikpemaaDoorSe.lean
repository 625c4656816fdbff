/- The search of the burn chapter: tables and normal forms. -/
import Derived.Test.YtpieoljeikpemaaDoorSd
import Derived.Test.YtpieoljeikpemaaDoorSp
set_option linter.unusedVariables false
set_option linter.unusedSimpArgs false
namespace Go.Ev.Burn
open Go Go.Ev
set_option maxRecDepth 1000000
set_option linter.unusedVariables false
theorem nf52 (s : List Int) : evBody S15 52 [lI s] [] = (bif decide (0 < s.length) then bif bif decide (0 < s.length) then true else ([] : List Int).isEmpty then bif room (0 + s.length) 8 then some (osW 0 (0 + s.length), [some ⟨[.run (.int .i64) s], false, 3, false, false, none⟩]) else none else none else none) := by kernel_rfl
def c52t (s : List Int) : Tree (AV × Hp) := .br (sm s && decide (0 < s.length)) (.leaf (osW 0 s.length, [some (rowI s 3)])) .fail
def c52 (args : List AV) (H : Hp) : Tree (AV × Hp) := match args, H with
  | [(.sl (.int .i64) s false)], [] => c52t s
  | _, _ => .fail
theorem c52_ok {T : Tab} (hT : TabOK T) (h : ∀ (s : List Int) (r : AV × Hp), (c52t s).val = some r → evBody T 52 [lI s] [] = some r) : ∀ args H v H', (c52 args H).val = some (v, H') → CallOK T 52 args H v H' := by
  intro args H v H' hv
  unfold c52 at hv
  split at hv
  · exact evBody_sound hT (h _ _ hv)
  · cases hv
end Go.Ev.Burn
namespace Go.Ev.Burn
open Go Go.Ev
set_option maxRecDepth 1000000
set_option linter.unusedVariables false
def v0 : AV → Option Unit
  | .sc (.int .i64 0) => some ()
  | _ => none
end Go.Ev.Burn
