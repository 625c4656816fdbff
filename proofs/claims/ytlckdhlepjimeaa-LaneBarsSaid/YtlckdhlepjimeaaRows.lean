/-
  No cell of these rows narrows 'for every input' (looked for: loops, veiled, ifaces, maps, wideKeys, modest, calm, conditions, laid).
  DERIVED. THE GIVEN ROWS OF THIS SEAT. 11 by the template 'for every input the law returns true; each argument reads behind the call as it read before'; 0 by the template 'total and deterministic' (their statements: YtlckdhlepjimeaaTotals.lean).
  GIVEN WITH THE SEED: the statements are not yours to turn. If you find one false, say at which input.
  Laid BY PROGRAM, IN A SANDBOX (cutbox-rows.mjs): the forced cells as the released guide's own fill.sh prints them over the translation 33dfa55f6a45cce9… (all of the seat's roots in one cut). By AI agents, Wed Nov 11 2026. No macro, syntax, notation, axiom, sorry.
-/
import Derived.Test.YtlckdhlepjimeaaChecked
import GoSem.Claim
import GoSem.ClaimJoined
import GoSem.ClaimMapViews
import Derived.JoinedTies
import Derived.KernelRfl
namespace Go.Proofs.Ytlckdhlepjimeaa
/- THE CELL 'sum', in the pinned program and in every row, IS THE sha256 OF THE DUMP (.gsa) THAT YtlckdhlepjimeaaProg.lean LOADS. Nothing in Lean hashes anything: it is a label: what it is worth is what the hold of that sum in a sandbox is worth. -/
noncomputable def Try.pinned : Pinned := { name := "ytlckdhlepjimeaa", sum := "33dfa55f6a45cce91aae023fdc69bf25970f55a413119c5cf14fbc89105e1b73", checked := Try.checked }
namespace Rows
def none {H : Type} : Left H := { results := [], args := [] }

/-- 'breezelaw04.LaneWays': WHATEVER THE INPUT: true; the input reads as it did. -/
def laneWaysSpec : ChangeSpec := { name := "laneWays", fn := fun _ => fun
  | [d1, d2, d3, d4] => { results := [.lit (.bool true)], args := [d1, d2, d3, d4] }
  | _ => none }
def laneWaysRow : OpenClaim := { program := "ytlckdhlepjimeaa", sum := "33dfa55f6a45cce91aae023fdc69bf25970f55a413119c5cf14fbc89105e1b73", func := "breeze/breezelaw04.LaneWays", spec := "laneWays", unfollowed := true, recurses := true, apart := false }
def LaneWaysSaid : Prop := laneWaysRow.holds Try.pinned (OpenSpec.ofChange laneWaysSpec)

/-- ITS FALSE NEIGHBOUR: 'it returns false'. Refute it at one input. -/
def laneWaysWrong : ChangeSpec := { name := "laneWays", fn := fun _ => fun
  | [d1, d2, d3, d4] => { results := [.lit (.bool false)], args := [d1, d2, d3, d4] }
  | _ => none }
def LaneWaysWrongFalsely : Prop := laneWaysRow.holds Try.pinned (OpenSpec.ofChange laneWaysWrong)

/-- 'breezelaw04.LaneCounts': WHATEVER THE INPUT: true; the input reads as it did. -/
def laneCountsSpec : ChangeSpec := { name := "laneCounts", fn := fun _ => fun
  | [d1, d2] => { results := [.lit (.bool true)], args := [d1, d2] }
  | _ => none }
def laneCountsRow : OpenClaim := { program := "ytlckdhlepjimeaa", sum := "33dfa55f6a45cce91aae023fdc69bf25970f55a413119c5cf14fbc89105e1b73", func := "breeze/breezelaw04.LaneCounts", spec := "laneCounts", unfollowed := true, recurses := true, apart := false }
def LaneCountsSaid : Prop := laneCountsRow.holds Try.pinned (OpenSpec.ofChange laneCountsSpec)

/-- ITS FALSE NEIGHBOUR: 'it returns false'. Refute it at one input. -/
def laneCountsWrong : ChangeSpec := { name := "laneCounts", fn := fun _ => fun
  | [d1, d2] => { results := [.lit (.bool false)], args := [d1, d2] }
  | _ => none }
def LaneCountsWrongFalsely : Prop := laneCountsRow.holds Try.pinned (OpenSpec.ofChange laneCountsWrong)

/-- 'breezelaw04.LaneChecks': WHATEVER THE INPUT: true; the input reads as it did. -/
def laneChecksSpec : ChangeSpec := { name := "laneChecks", fn := fun _ => fun
  | [d1, d2, d3] => { results := [.lit (.bool true)], args := [d1, d2, d3] }
  | _ => none }
def laneChecksRow : OpenClaim := { program := "ytlckdhlepjimeaa", sum := "33dfa55f6a45cce91aae023fdc69bf25970f55a413119c5cf14fbc89105e1b73", func := "breeze/breezelaw04.LaneChecks", spec := "laneChecks", unfollowed := true, recurses := true, apart := false }
def LaneChecksSaid : Prop := laneChecksRow.holds Try.pinned (OpenSpec.ofChange laneChecksSpec)

/-- ITS FALSE NEIGHBOUR: 'it returns false'. Refute it at one input. -/
def laneChecksWrong : ChangeSpec := { name := "laneChecks", fn := fun _ => fun
  | [d1, d2, d3] => { results := [.lit (.bool false)], args := [d1, d2, d3] }
  | _ => none }
def LaneChecksWrongFalsely : Prop := laneChecksRow.holds Try.pinned (OpenSpec.ofChange laneChecksWrong)

/-- 'breezelaw04.LaneBars': WHATEVER THE INPUT: true; the input reads as it did. -/
def laneBarsSpec : ChangeSpec := { name := "laneBars", fn := fun _ => fun
  | [d1, d2, d3] => { results := [.lit (.bool true)], args := [d1, d2, d3] }
  | _ => none }
def laneBarsRow : OpenClaim := { program := "ytlckdhlepjimeaa", sum := "33dfa55f6a45cce91aae023fdc69bf25970f55a413119c5cf14fbc89105e1b73", func := "breeze/breezelaw04.LaneBars", spec := "laneBars", unfollowed := true, recurses := true, apart := false }
def LaneBarsSaid : Prop := laneBarsRow.holds Try.pinned (OpenSpec.ofChange laneBarsSpec)

/-- ITS FALSE NEIGHBOUR: 'it returns false'. Refute it at one input. -/
def laneBarsWrong : ChangeSpec := { name := "laneBars", fn := fun _ => fun
  | [d1, d2, d3] => { results := [.lit (.bool false)], args := [d1, d2, d3] }
  | _ => none }
def LaneBarsWrongFalsely : Prop := laneBarsRow.holds Try.pinned (OpenSpec.ofChange laneBarsWrong)

/-- 'breezelaw04.LaneGessel': WHATEVER THE INPUT: true; the input reads as it did. -/
def laneGesselSpec : ChangeSpec := { name := "laneGessel", fn := fun _ => fun
  | [d] => { results := [.lit (.bool true)], args := [d] }
  | _ => none }
def laneGesselRow : OpenClaim := { program := "ytlckdhlepjimeaa", sum := "33dfa55f6a45cce91aae023fdc69bf25970f55a413119c5cf14fbc89105e1b73", func := "breeze/breezelaw04.LaneGessel", spec := "laneGessel", unfollowed := true, recurses := true, apart := false }
def LaneGesselSaid : Prop := laneGesselRow.holds Try.pinned (OpenSpec.ofChange laneGesselSpec)

/-- ITS FALSE NEIGHBOUR: 'it returns false'. Refute it at one input. -/
def laneGesselWrong : ChangeSpec := { name := "laneGessel", fn := fun _ => fun
  | [d] => { results := [.lit (.bool false)], args := [d] }
  | _ => none }
def LaneGesselWrongFalsely : Prop := laneGesselRow.holds Try.pinned (OpenSpec.ofChange laneGesselWrong)

/-- 'breezelaw04.LaneStraight': WHATEVER THE INPUT: true; the input reads as it did. -/
def laneStraightSpec : ChangeSpec := { name := "laneStraight", fn := fun _ => fun
  | [d1, d2, d3] => { results := [.lit (.bool true)], args := [d1, d2, d3] }
  | _ => none }
def laneStraightRow : OpenClaim := { program := "ytlckdhlepjimeaa", sum := "33dfa55f6a45cce91aae023fdc69bf25970f55a413119c5cf14fbc89105e1b73", func := "breeze/breezelaw04.LaneStraight", spec := "laneStraight", unfollowed := true, recurses := true, apart := false }
def LaneStraightSaid : Prop := laneStraightRow.holds Try.pinned (OpenSpec.ofChange laneStraightSpec)

/-- ITS FALSE NEIGHBOUR: 'it returns false'. Refute it at one input. -/
def laneStraightWrong : ChangeSpec := { name := "laneStraight", fn := fun _ => fun
  | [d1, d2, d3] => { results := [.lit (.bool false)], args := [d1, d2, d3] }
  | _ => none }
def LaneStraightWrongFalsely : Prop := laneStraightRow.holds Try.pinned (OpenSpec.ofChange laneStraightWrong)

/-- 'breezelaw04.LaneKnown': WHATEVER THE INPUT: true; the input reads as it did. -/
def laneKnownSpec : ChangeSpec := { name := "laneKnown", fn := fun _ => fun
  | [] => { results := [.lit (.bool true)], args := [] }
  | _ => none }
def laneKnownRow : OpenClaim := { program := "ytlckdhlepjimeaa", sum := "33dfa55f6a45cce91aae023fdc69bf25970f55a413119c5cf14fbc89105e1b73", func := "breeze/breezelaw04.LaneKnown", spec := "laneKnown", unfollowed := true, recurses := true, apart := false }
def LaneKnownSaid : Prop := laneKnownRow.holds Try.pinned (OpenSpec.ofChange laneKnownSpec)

/-- ITS FALSE NEIGHBOUR: 'it returns false'. Refute it at one input. -/
def laneKnownWrong : ChangeSpec := { name := "laneKnown", fn := fun _ => fun
  | [] => { results := [.lit (.bool false)], args := [] }
  | _ => none }
def LaneKnownWrongFalsely : Prop := laneKnownRow.holds Try.pinned (OpenSpec.ofChange laneKnownWrong)

/-- 'breezelaw04.LaneMenger': WHATEVER THE INPUT: true; the input reads as it did. -/
def laneMengerSpec : ChangeSpec := { name := "laneMenger", fn := fun _ => fun
  | [d] => { results := [.lit (.bool true)], args := [d] }
  | _ => none }
def laneMengerRow : OpenClaim := { program := "ytlckdhlepjimeaa", sum := "33dfa55f6a45cce91aae023fdc69bf25970f55a413119c5cf14fbc89105e1b73", func := "breeze/breezelaw04.LaneMenger", spec := "laneMenger", unfollowed := true, recurses := true, apart := false }
def LaneMengerSaid : Prop := laneMengerRow.holds Try.pinned (OpenSpec.ofChange laneMengerSpec)

/-- ITS FALSE NEIGHBOUR: 'it returns false'. Refute it at one input. -/
def laneMengerWrong : ChangeSpec := { name := "laneMenger", fn := fun _ => fun
  | [d] => { results := [.lit (.bool false)], args := [d] }
  | _ => none }
def LaneMengerWrongFalsely : Prop := laneMengerRow.holds Try.pinned (OpenSpec.ofChange laneMengerWrong)

/-- 'breezelaw04.LaneSwapped': WHATEVER THE INPUT: true; the input reads as it did. -/
def laneSwappedSpec : ChangeSpec := { name := "laneSwapped", fn := fun _ => fun
  | [d1, d2, d3] => { results := [.lit (.bool true)], args := [d1, d2, d3] }
  | _ => none }
def laneSwappedRow : OpenClaim := { program := "ytlckdhlepjimeaa", sum := "33dfa55f6a45cce91aae023fdc69bf25970f55a413119c5cf14fbc89105e1b73", func := "breeze/breezelaw04.LaneSwapped", spec := "laneSwapped", unfollowed := true, recurses := true, apart := false }
def LaneSwappedSaid : Prop := laneSwappedRow.holds Try.pinned (OpenSpec.ofChange laneSwappedSpec)

/-- ITS FALSE NEIGHBOUR: 'it returns false'. Refute it at one input. -/
def laneSwappedWrong : ChangeSpec := { name := "laneSwapped", fn := fun _ => fun
  | [d1, d2, d3] => { results := [.lit (.bool false)], args := [d1, d2, d3] }
  | _ => none }
def LaneSwappedWrongFalsely : Prop := laneSwappedRow.holds Try.pinned (OpenSpec.ofChange laneSwappedWrong)

/-- 'breezelaw04.LaneShut': WHATEVER THE INPUT: true; the input reads as it did. -/
def laneShutSpec : ChangeSpec := { name := "laneShut", fn := fun _ => fun
  | [d1, d2, d3, d4] => { results := [.lit (.bool true)], args := [d1, d2, d3, d4] }
  | _ => none }
def laneShutRow : OpenClaim := { program := "ytlckdhlepjimeaa", sum := "33dfa55f6a45cce91aae023fdc69bf25970f55a413119c5cf14fbc89105e1b73", func := "breeze/breezelaw04.LaneShut", spec := "laneShut", unfollowed := true, recurses := true, apart := false }
def LaneShutSaid : Prop := laneShutRow.holds Try.pinned (OpenSpec.ofChange laneShutSpec)

/-- ITS FALSE NEIGHBOUR: 'it returns false'. Refute it at one input. -/
def laneShutWrong : ChangeSpec := { name := "laneShut", fn := fun _ => fun
  | [d1, d2, d3, d4] => { results := [.lit (.bool false)], args := [d1, d2, d3, d4] }
  | _ => none }
def LaneShutWrongFalsely : Prop := laneShutRow.holds Try.pinned (OpenSpec.ofChange laneShutWrong)

/-- 'breezelaw04.LaneTurned': WHATEVER THE INPUT: true; the input reads as it did. -/
def laneTurnedSpec : ChangeSpec := { name := "laneTurned", fn := fun _ => fun
  | [d] => { results := [.lit (.bool true)], args := [d] }
  | _ => none }
def laneTurnedRow : OpenClaim := { program := "ytlckdhlepjimeaa", sum := "33dfa55f6a45cce91aae023fdc69bf25970f55a413119c5cf14fbc89105e1b73", func := "breeze/breezelaw04.LaneTurned", spec := "laneTurned", unfollowed := true, recurses := true, apart := false }
def LaneTurnedSaid : Prop := laneTurnedRow.holds Try.pinned (OpenSpec.ofChange laneTurnedSpec)

/-- ITS FALSE NEIGHBOUR: 'it returns false'. Refute it at one input. -/
def laneTurnedWrong : ChangeSpec := { name := "laneTurned", fn := fun _ => fun
  | [d] => { results := [.lit (.bool false)], args := [d] }
  | _ => none }
def LaneTurnedWrongFalsely : Prop := laneTurnedRow.holds Try.pinned (OpenSpec.ofChange laneTurnedWrong)

/- THE SECOND FORM. 'bulk': how many values and letters a reading holds, each counted each time it is reached (what is shared counts as often as it is met; a slice's spare places count too). A statement '..UptoSaid' is the law's where the arguments, and the package variables that the reading takes, are together of bulk at most 1048576: NARROWER than '..Said'. Prove '..Said' where nothing that the law and all that it calls make is longer than what came in: it says more and counts as full. Else prove '..UptoSaid'. A law counts once. -/
mutual
def uptoBulk {H : Type} : DataW H → Nat
  | .lit (.string bytes) => bytes.length + 1
  | .lit _ => 1
  | .nil => 1
  | .ptr d => uptoBulk d + 1
  | .slice elems spare => uptoBulkAll elems + uptoBulkAll spare + 1
  | .agg parts => uptoBulkAll parts + 1
  | .iface _ d => uptoBulk d + 1
  | .map entries => uptoBulkEntries entries + 1
  | .held _ => 1
def uptoBulkAll {H : Type} : List (DataW H) → Nat
  | [] => 0
  | d :: r => uptoBulk d + uptoBulkAll r
def uptoBulkEntries {H : Type} : List (Lit × DataW H) → Nat
  | [] => 0
  | x :: r => uptoBulkEntry x + uptoBulkEntries r
def uptoBulkEntry {H : Type} : Lit × DataW H → Nat
  | (.string bytes, d) => bytes.length + uptoBulk d + 1
  | (_, d) => uptoBulk d + 1
 end
def uptoSmall : (H : Type) → List (DataW H) → Bool := fun _ ds => decide (uptoBulkAll ds ≤ 1048576)
def OpenSpec.upto (s : _root_.Go.ChangeSpec) : _root_.Go.OpenSpec := { _root_.Go.OpenSpec.ofChange s with cond := some uptoSmall }

/-- 'breezelaw04.LaneWays', WHERE WHAT IT READS IS OF BULK AT MOST 1048576: true; the input reads as it did. -/
def laneWaysUptoRow : OpenClaim := { program := "ytlckdhlepjimeaa", sum := "33dfa55f6a45cce91aae023fdc69bf25970f55a413119c5cf14fbc89105e1b73", func := "breeze/breezelaw04.LaneWays", spec := "laneWays", unfollowed := true, recurses := true, apart := false, narrowed := true }
def LaneWaysUptoSaid : Prop := laneWaysUptoRow.holds Try.pinned (OpenSpec.upto laneWaysSpec)

/-- 'breezelaw04.LaneCounts', WHERE WHAT IT READS IS OF BULK AT MOST 1048576: true; the input reads as it did. -/
def laneCountsUptoRow : OpenClaim := { program := "ytlckdhlepjimeaa", sum := "33dfa55f6a45cce91aae023fdc69bf25970f55a413119c5cf14fbc89105e1b73", func := "breeze/breezelaw04.LaneCounts", spec := "laneCounts", unfollowed := true, recurses := true, apart := false, narrowed := true }
def LaneCountsUptoSaid : Prop := laneCountsUptoRow.holds Try.pinned (OpenSpec.upto laneCountsSpec)

/-- 'breezelaw04.LaneChecks', WHERE WHAT IT READS IS OF BULK AT MOST 1048576: true; the input reads as it did. -/
def laneChecksUptoRow : OpenClaim := { program := "ytlckdhlepjimeaa", sum := "33dfa55f6a45cce91aae023fdc69bf25970f55a413119c5cf14fbc89105e1b73", func := "breeze/breezelaw04.LaneChecks", spec := "laneChecks", unfollowed := true, recurses := true, apart := false, narrowed := true }
def LaneChecksUptoSaid : Prop := laneChecksUptoRow.holds Try.pinned (OpenSpec.upto laneChecksSpec)

/-- 'breezelaw04.LaneBars', WHERE WHAT IT READS IS OF BULK AT MOST 1048576: true; the input reads as it did. -/
def laneBarsUptoRow : OpenClaim := { program := "ytlckdhlepjimeaa", sum := "33dfa55f6a45cce91aae023fdc69bf25970f55a413119c5cf14fbc89105e1b73", func := "breeze/breezelaw04.LaneBars", spec := "laneBars", unfollowed := true, recurses := true, apart := false, narrowed := true }
def LaneBarsUptoSaid : Prop := laneBarsUptoRow.holds Try.pinned (OpenSpec.upto laneBarsSpec)

/-- 'breezelaw04.LaneGessel', WHERE WHAT IT READS IS OF BULK AT MOST 1048576: true; the input reads as it did. -/
def laneGesselUptoRow : OpenClaim := { program := "ytlckdhlepjimeaa", sum := "33dfa55f6a45cce91aae023fdc69bf25970f55a413119c5cf14fbc89105e1b73", func := "breeze/breezelaw04.LaneGessel", spec := "laneGessel", unfollowed := true, recurses := true, apart := false, narrowed := true }
def LaneGesselUptoSaid : Prop := laneGesselUptoRow.holds Try.pinned (OpenSpec.upto laneGesselSpec)

/-- 'breezelaw04.LaneStraight', WHERE WHAT IT READS IS OF BULK AT MOST 1048576: true; the input reads as it did. -/
def laneStraightUptoRow : OpenClaim := { program := "ytlckdhlepjimeaa", sum := "33dfa55f6a45cce91aae023fdc69bf25970f55a413119c5cf14fbc89105e1b73", func := "breeze/breezelaw04.LaneStraight", spec := "laneStraight", unfollowed := true, recurses := true, apart := false, narrowed := true }
def LaneStraightUptoSaid : Prop := laneStraightUptoRow.holds Try.pinned (OpenSpec.upto laneStraightSpec)

/-- 'breezelaw04.LaneKnown', WHERE WHAT IT READS IS OF BULK AT MOST 1048576: true; the input reads as it did. -/
def laneKnownUptoRow : OpenClaim := { program := "ytlckdhlepjimeaa", sum := "33dfa55f6a45cce91aae023fdc69bf25970f55a413119c5cf14fbc89105e1b73", func := "breeze/breezelaw04.LaneKnown", spec := "laneKnown", unfollowed := true, recurses := true, apart := false, narrowed := true }
def LaneKnownUptoSaid : Prop := laneKnownUptoRow.holds Try.pinned (OpenSpec.upto laneKnownSpec)

/-- 'breezelaw04.LaneMenger', WHERE WHAT IT READS IS OF BULK AT MOST 1048576: true; the input reads as it did. -/
def laneMengerUptoRow : OpenClaim := { program := "ytlckdhlepjimeaa", sum := "33dfa55f6a45cce91aae023fdc69bf25970f55a413119c5cf14fbc89105e1b73", func := "breeze/breezelaw04.LaneMenger", spec := "laneMenger", unfollowed := true, recurses := true, apart := false, narrowed := true }
def LaneMengerUptoSaid : Prop := laneMengerUptoRow.holds Try.pinned (OpenSpec.upto laneMengerSpec)

/-- 'breezelaw04.LaneSwapped', WHERE WHAT IT READS IS OF BULK AT MOST 1048576: true; the input reads as it did. -/
def laneSwappedUptoRow : OpenClaim := { program := "ytlckdhlepjimeaa", sum := "33dfa55f6a45cce91aae023fdc69bf25970f55a413119c5cf14fbc89105e1b73", func := "breeze/breezelaw04.LaneSwapped", spec := "laneSwapped", unfollowed := true, recurses := true, apart := false, narrowed := true }
def LaneSwappedUptoSaid : Prop := laneSwappedUptoRow.holds Try.pinned (OpenSpec.upto laneSwappedSpec)

/-- 'breezelaw04.LaneShut', WHERE WHAT IT READS IS OF BULK AT MOST 1048576: true; the input reads as it did. -/
def laneShutUptoRow : OpenClaim := { program := "ytlckdhlepjimeaa", sum := "33dfa55f6a45cce91aae023fdc69bf25970f55a413119c5cf14fbc89105e1b73", func := "breeze/breezelaw04.LaneShut", spec := "laneShut", unfollowed := true, recurses := true, apart := false, narrowed := true }
def LaneShutUptoSaid : Prop := laneShutUptoRow.holds Try.pinned (OpenSpec.upto laneShutSpec)

/-- 'breezelaw04.LaneTurned', WHERE WHAT IT READS IS OF BULK AT MOST 1048576: true; the input reads as it did. -/
def laneTurnedUptoRow : OpenClaim := { program := "ytlckdhlepjimeaa", sum := "33dfa55f6a45cce91aae023fdc69bf25970f55a413119c5cf14fbc89105e1b73", func := "breeze/breezelaw04.LaneTurned", spec := "laneTurned", unfollowed := true, recurses := true, apart := false, narrowed := true }
def LaneTurnedUptoSaid : Prop := laneTurnedUptoRow.holds Try.pinned (OpenSpec.upto laneTurnedSpec)

end Rows
end Go.Proofs.Ytlckdhlepjimeaa
