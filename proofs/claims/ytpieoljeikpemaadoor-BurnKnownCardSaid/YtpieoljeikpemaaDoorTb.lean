/- The tables of the burn seat, closed mode, with works. -/
import Derived.Test.YtpieoljeikpemaaDoorTa
namespace Go.Ev.BurnC
open Go Go.Ev Go.Proofs
noncomputable def T6 : Tab := TC.addCall 16 (fun args H => match args, H with | [], [] => .leaf (vb true, []) | _, _ => .fail)
end Go.Ev.BurnC

