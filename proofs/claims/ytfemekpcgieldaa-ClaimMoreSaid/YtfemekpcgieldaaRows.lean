/-
  No cell of these rows narrows 'for every input' (looked for: loops, veiled, ifaces, maps, wideKeys, modest, calm, conditions, laid).
  DERIVED. THE GIVEN ROWS OF THIS SEAT. 13 by the template 'for every input the law returns true; each argument reads behind the call as it read before'; 0 by the template 'total and deterministic' (their statements: YtfemekpcgieldaaTotals.lean).
  GIVEN WITH THE SEED: the statements are not yours to turn. If you find one false, say at which input.
  Laid BY PROGRAM, IN A SANDBOX (cutbox-rows.mjs): the forced cells as the released guide's own fill.sh prints them over the translation bf34cbf56d0e11c6… (all of the seat's roots in one cut). By AI agents, Wed Nov 11 2026. No macro, syntax, notation, axiom, sorry.
-/
import Derived.Test.YtfemekpcgieldaaChecked
import GoSem.Claim
import GoSem.ClaimJoined
import GoSem.ClaimMapViews
import Derived.JoinedTies
import Derived.KernelRfl
namespace Go.Proofs.Ytfemekpcgieldaa
/- THE CELL 'sum', in the pinned program and in every row, IS THE sha256 OF THE DUMP (.gsa) THAT YtfemekpcgieldaaProg.lean LOADS. Nothing in Lean hashes anything: it is a label: what it is worth is what the hold of that sum in a sandbox is worth. -/
noncomputable def Try.pinned : Pinned := { name := "ytfemekpcgieldaa", sum := "bf34cbf56d0e11c65d71fcbda50573e52688e4caeb6cef5518da69df3e26041c", checked := Try.checked }
namespace Rows
def none {H : Type} : Left H := { results := [], args := [] }

/-- 'breezelaw01.ClaimRule': WHATEVER THE INPUT: true; the input reads as it did. -/
def claimRuleSpec : ChangeSpec := { name := "claimRule", fn := fun _ => fun
  | [d1, d2] => { results := [.lit (.bool true)], args := [d1, d2] }
  | _ => none }
def claimRuleRow : OpenClaim := { program := "ytfemekpcgieldaa", sum := "bf34cbf56d0e11c65d71fcbda50573e52688e4caeb6cef5518da69df3e26041c", func := "breeze/breezelaw01.ClaimRule", spec := "claimRule", unfollowed := true, recurses := true, apart := false }
def ClaimRuleSaid : Prop := claimRuleRow.holds Try.pinned (OpenSpec.ofChange claimRuleSpec)

/-- ITS FALSE NEIGHBOUR: 'it returns false'. Refute it at one input. -/
def claimRuleWrong : ChangeSpec := { name := "claimRule", fn := fun _ => fun
  | [d1, d2] => { results := [.lit (.bool false)], args := [d1, d2] }
  | _ => none }
def ClaimRuleWrongFalsely : Prop := claimRuleRow.holds Try.pinned (OpenSpec.ofChange claimRuleWrong)

/-- 'breezelaw01.ClaimOrders': WHATEVER THE INPUT: true; the input reads as it did. -/
def claimOrdersSpec : ChangeSpec := { name := "claimOrders", fn := fun _ => fun
  | [d1, d2, d3, d4, d5] => { results := [.lit (.bool true)], args := [d1, d2, d3, d4, d5] }
  | _ => none }
def claimOrdersRow : OpenClaim := { program := "ytfemekpcgieldaa", sum := "bf34cbf56d0e11c65d71fcbda50573e52688e4caeb6cef5518da69df3e26041c", func := "breeze/breezelaw01.ClaimOrders", spec := "claimOrders", unfollowed := true, recurses := true, apart := false }
def ClaimOrdersSaid : Prop := claimOrdersRow.holds Try.pinned (OpenSpec.ofChange claimOrdersSpec)

/-- ITS FALSE NEIGHBOUR: 'it returns false'. Refute it at one input. -/
def claimOrdersWrong : ChangeSpec := { name := "claimOrders", fn := fun _ => fun
  | [d1, d2, d3, d4, d5] => { results := [.lit (.bool false)], args := [d1, d2, d3, d4, d5] }
  | _ => none }
def ClaimOrdersWrongFalsely : Prop := claimOrdersRow.holds Try.pinned (OpenSpec.ofChange claimOrdersWrong)

/-- 'breezelaw01.ClaimChecks': WHATEVER THE INPUT: true; the input reads as it did. -/
def claimChecksSpec : ChangeSpec := { name := "claimChecks", fn := fun _ => fun
  | [d1, d2, d3, d4, d5] => { results := [.lit (.bool true)], args := [d1, d2, d3, d4, d5] }
  | _ => none }
def claimChecksRow : OpenClaim := { program := "ytfemekpcgieldaa", sum := "bf34cbf56d0e11c65d71fcbda50573e52688e4caeb6cef5518da69df3e26041c", func := "breeze/breezelaw01.ClaimChecks", spec := "claimChecks", unfollowed := true, recurses := true, apart := false }
def ClaimChecksSaid : Prop := claimChecksRow.holds Try.pinned (OpenSpec.ofChange claimChecksSpec)

/-- ITS FALSE NEIGHBOUR: 'it returns false'. Refute it at one input. -/
def claimChecksWrong : ChangeSpec := { name := "claimChecks", fn := fun _ => fun
  | [d1, d2, d3, d4, d5] => { results := [.lit (.bool false)], args := [d1, d2, d3, d4, d5] }
  | _ => none }
def ClaimChecksWrongFalsely : Prop := claimChecksRow.holds Try.pinned (OpenSpec.ofChange claimChecksWrong)

/-- 'breezelaw01.ClaimGarment': WHATEVER THE INPUT: true; the input reads as it did. -/
def claimGarmentSpec : ChangeSpec := { name := "claimGarment", fn := fun _ => fun
  | [d1, d2] => { results := [.lit (.bool true)], args := [d1, d2] }
  | _ => none }
def claimGarmentRow : OpenClaim := { program := "ytfemekpcgieldaa", sum := "bf34cbf56d0e11c65d71fcbda50573e52688e4caeb6cef5518da69df3e26041c", func := "breeze/breezelaw01.ClaimGarment", spec := "claimGarment", unfollowed := true, recurses := true, apart := false }
def ClaimGarmentSaid : Prop := claimGarmentRow.holds Try.pinned (OpenSpec.ofChange claimGarmentSpec)

/-- ITS FALSE NEIGHBOUR: 'it returns false'. Refute it at one input. -/
def claimGarmentWrong : ChangeSpec := { name := "claimGarment", fn := fun _ => fun
  | [d1, d2] => { results := [.lit (.bool false)], args := [d1, d2] }
  | _ => none }
def ClaimGarmentWrongFalsely : Prop := claimGarmentRow.holds Try.pinned (OpenSpec.ofChange claimGarmentWrong)

/-- 'breezelaw01.ClaimShown': WHATEVER THE INPUT: true; the input reads as it did. -/
def claimShownSpec : ChangeSpec := { name := "claimShown", fn := fun _ => fun
  | [d1, d2] => { results := [.lit (.bool true)], args := [d1, d2] }
  | _ => none }
def claimShownRow : OpenClaim := { program := "ytfemekpcgieldaa", sum := "bf34cbf56d0e11c65d71fcbda50573e52688e4caeb6cef5518da69df3e26041c", func := "breeze/breezelaw01.ClaimShown", spec := "claimShown", unfollowed := true, recurses := true, apart := false }
def ClaimShownSaid : Prop := claimShownRow.holds Try.pinned (OpenSpec.ofChange claimShownSpec)

/-- ITS FALSE NEIGHBOUR: 'it returns false'. Refute it at one input. -/
def claimShownWrong : ChangeSpec := { name := "claimShown", fn := fun _ => fun
  | [d1, d2] => { results := [.lit (.bool false)], args := [d1, d2] }
  | _ => none }
def ClaimShownWrongFalsely : Prop := claimShownRow.holds Try.pinned (OpenSpec.ofChange claimShownWrong)

/-- 'breezelaw01.ClaimDual': WHATEVER THE INPUT: true; the input reads as it did. -/
def claimDualSpec : ChangeSpec := { name := "claimDual", fn := fun _ => fun
  | [d] => { results := [.lit (.bool true)], args := [d] }
  | _ => none }
def claimDualRow : OpenClaim := { program := "ytfemekpcgieldaa", sum := "bf34cbf56d0e11c65d71fcbda50573e52688e4caeb6cef5518da69df3e26041c", func := "breeze/breezelaw01.ClaimDual", spec := "claimDual", unfollowed := true, recurses := true, apart := false }
def ClaimDualSaid : Prop := claimDualRow.holds Try.pinned (OpenSpec.ofChange claimDualSpec)

/-- ITS FALSE NEIGHBOUR: 'it returns false'. Refute it at one input. -/
def claimDualWrong : ChangeSpec := { name := "claimDual", fn := fun _ => fun
  | [d] => { results := [.lit (.bool false)], args := [d] }
  | _ => none }
def ClaimDualWrongFalsely : Prop := claimDualRow.holds Try.pinned (OpenSpec.ofChange claimDualWrong)

/-- 'breezelaw01.ClaimRanked': WHATEVER THE INPUT: true; the input reads as it did. -/
def claimRankedSpec : ChangeSpec := { name := "claimRanked", fn := fun _ => fun
  | [d1, d2] => { results := [.lit (.bool true)], args := [d1, d2] }
  | _ => none }
def claimRankedRow : OpenClaim := { program := "ytfemekpcgieldaa", sum := "bf34cbf56d0e11c65d71fcbda50573e52688e4caeb6cef5518da69df3e26041c", func := "breeze/breezelaw01.ClaimRanked", spec := "claimRanked", unfollowed := true, recurses := true, apart := false }
def ClaimRankedSaid : Prop := claimRankedRow.holds Try.pinned (OpenSpec.ofChange claimRankedSpec)

/-- ITS FALSE NEIGHBOUR: 'it returns false'. Refute it at one input. -/
def claimRankedWrong : ChangeSpec := { name := "claimRanked", fn := fun _ => fun
  | [d1, d2] => { results := [.lit (.bool false)], args := [d1, d2] }
  | _ => none }
def ClaimRankedWrongFalsely : Prop := claimRankedRow.holds Try.pinned (OpenSpec.ofChange claimRankedWrong)

/-- 'breezelaw01.ClaimPair': WHATEVER THE INPUT: true; the input reads as it did. -/
def claimPairSpec : ChangeSpec := { name := "claimPair", fn := fun _ => fun
  | [d1, d2, d3] => { results := [.lit (.bool true)], args := [d1, d2, d3] }
  | _ => none }
def claimPairRow : OpenClaim := { program := "ytfemekpcgieldaa", sum := "bf34cbf56d0e11c65d71fcbda50573e52688e4caeb6cef5518da69df3e26041c", func := "breeze/breezelaw01.ClaimPair", spec := "claimPair", unfollowed := true, recurses := true, apart := false }
def ClaimPairSaid : Prop := claimPairRow.holds Try.pinned (OpenSpec.ofChange claimPairSpec)

/-- ITS FALSE NEIGHBOUR: 'it returns false'. Refute it at one input. -/
def claimPairWrong : ChangeSpec := { name := "claimPair", fn := fun _ => fun
  | [d1, d2, d3] => { results := [.lit (.bool false)], args := [d1, d2, d3] }
  | _ => none }
def ClaimPairWrongFalsely : Prop := claimPairRow.holds Try.pinned (OpenSpec.ofChange claimPairWrong)

/-- 'breezelaw01.ClaimSplit': WHATEVER THE INPUT: true; the input reads as it did. -/
def claimSplitSpec : ChangeSpec := { name := "claimSplit", fn := fun _ => fun
  | [d] => { results := [.lit (.bool true)], args := [d] }
  | _ => none }
def claimSplitRow : OpenClaim := { program := "ytfemekpcgieldaa", sum := "bf34cbf56d0e11c65d71fcbda50573e52688e4caeb6cef5518da69df3e26041c", func := "breeze/breezelaw01.ClaimSplit", spec := "claimSplit", unfollowed := true, recurses := true, apart := false }
def ClaimSplitSaid : Prop := claimSplitRow.holds Try.pinned (OpenSpec.ofChange claimSplitSpec)

/-- ITS FALSE NEIGHBOUR: 'it returns false'. Refute it at one input. -/
def claimSplitWrong : ChangeSpec := { name := "claimSplit", fn := fun _ => fun
  | [d] => { results := [.lit (.bool false)], args := [d] }
  | _ => none }
def ClaimSplitWrongFalsely : Prop := claimSplitRow.holds Try.pinned (OpenSpec.ofChange claimSplitWrong)

/-- 'breezelaw01.ClaimKnown': WHATEVER THE INPUT: true; the input reads as it did. -/
def claimKnownSpec : ChangeSpec := { name := "claimKnown", fn := fun _ => fun
  | [] => { results := [.lit (.bool true)], args := [] }
  | _ => none }
def claimKnownRow : OpenClaim := { program := "ytfemekpcgieldaa", sum := "bf34cbf56d0e11c65d71fcbda50573e52688e4caeb6cef5518da69df3e26041c", func := "breeze/breezelaw01.ClaimKnown", spec := "claimKnown", unfollowed := true, recurses := true, apart := false }
def ClaimKnownSaid : Prop := claimKnownRow.holds Try.pinned (OpenSpec.ofChange claimKnownSpec)

/-- ITS FALSE NEIGHBOUR: 'it returns false'. Refute it at one input. -/
def claimKnownWrong : ChangeSpec := { name := "claimKnown", fn := fun _ => fun
  | [] => { results := [.lit (.bool false)], args := [] }
  | _ => none }
def ClaimKnownWrongFalsely : Prop := claimKnownRow.holds Try.pinned (OpenSpec.ofChange claimKnownWrong)

/-- 'breezelaw01.ClaimQueued': WHATEVER THE INPUT: true; the input reads as it did. -/
def claimQueuedSpec : ChangeSpec := { name := "claimQueued", fn := fun _ => fun
  | [d] => { results := [.lit (.bool true)], args := [d] }
  | _ => none }
def claimQueuedRow : OpenClaim := { program := "ytfemekpcgieldaa", sum := "bf34cbf56d0e11c65d71fcbda50573e52688e4caeb6cef5518da69df3e26041c", func := "breeze/breezelaw01.ClaimQueued", spec := "claimQueued", unfollowed := true, recurses := true, apart := false }
def ClaimQueuedSaid : Prop := claimQueuedRow.holds Try.pinned (OpenSpec.ofChange claimQueuedSpec)

/-- ITS FALSE NEIGHBOUR: 'it returns false'. Refute it at one input. -/
def claimQueuedWrong : ChangeSpec := { name := "claimQueued", fn := fun _ => fun
  | [d] => { results := [.lit (.bool false)], args := [d] }
  | _ => none }
def ClaimQueuedWrongFalsely : Prop := claimQueuedRow.holds Try.pinned (OpenSpec.ofChange claimQueuedWrong)

/-- 'breezelaw01.ClaimMore': WHATEVER THE INPUT: true; the input reads as it did. -/
def claimMoreSpec : ChangeSpec := { name := "claimMore", fn := fun _ => fun
  | [d1, d2] => { results := [.lit (.bool true)], args := [d1, d2] }
  | _ => none }
def claimMoreRow : OpenClaim := { program := "ytfemekpcgieldaa", sum := "bf34cbf56d0e11c65d71fcbda50573e52688e4caeb6cef5518da69df3e26041c", func := "breeze/breezelaw01.ClaimMore", spec := "claimMore", unfollowed := true, recurses := true, apart := false }
def ClaimMoreSaid : Prop := claimMoreRow.holds Try.pinned (OpenSpec.ofChange claimMoreSpec)

/-- ITS FALSE NEIGHBOUR: 'it returns false'. Refute it at one input. -/
def claimMoreWrong : ChangeSpec := { name := "claimMore", fn := fun _ => fun
  | [d1, d2] => { results := [.lit (.bool false)], args := [d1, d2] }
  | _ => none }
def ClaimMoreWrongFalsely : Prop := claimMoreRow.holds Try.pinned (OpenSpec.ofChange claimMoreWrong)

/-- 'breezelaw01.ClaimBest': WHATEVER THE INPUT: true; the input reads as it did. -/
def claimBestSpec : ChangeSpec := { name := "claimBest", fn := fun _ => fun
  | [d1, d2] => { results := [.lit (.bool true)], args := [d1, d2] }
  | _ => none }
def claimBestRow : OpenClaim := { program := "ytfemekpcgieldaa", sum := "bf34cbf56d0e11c65d71fcbda50573e52688e4caeb6cef5518da69df3e26041c", func := "breeze/breezelaw01.ClaimBest", spec := "claimBest", unfollowed := true, recurses := true, apart := false }
def ClaimBestSaid : Prop := claimBestRow.holds Try.pinned (OpenSpec.ofChange claimBestSpec)

/-- ITS FALSE NEIGHBOUR: 'it returns false'. Refute it at one input. -/
def claimBestWrong : ChangeSpec := { name := "claimBest", fn := fun _ => fun
  | [d1, d2] => { results := [.lit (.bool false)], args := [d1, d2] }
  | _ => none }
def ClaimBestWrongFalsely : Prop := claimBestRow.holds Try.pinned (OpenSpec.ofChange claimBestWrong)

/- THE SECOND FORM. 'bulk': how many values and letters a reading holds, each counted each time it is reached (what is shared counts as often as it is met; a slice's spare places count too). A statement '..UptoSaid' is the law's where the arguments, and the package variables that the reading takes, are together of bulk at most 1048576: NARROWER than '..Said'. Prove '..Said' where nothing that the law and all that it calls make is longer than what came in: it says more and counts as full. Else prove '..UptoSaid'. A law counts once. -/
mutual
def uptoBulk {H : Type} : DataW H → Nat
  | .lit (.string bytes) => bytes.length + 1
  | .lit _ => 1
  | .nil => 1
  | .ptr d => uptoBulk d + 1
  | .slice elems spare => uptoBulkAll elems + uptoBulkAll spare + 1
  | .agg parts => uptoBulkAll parts + 1
  | .iface _ d => uptoBulk d + 1
  | .map entries => uptoBulkEntries entries + 1
  | .held _ => 1
def uptoBulkAll {H : Type} : List (DataW H) → Nat
  | [] => 0
  | d :: r => uptoBulk d + uptoBulkAll r
def uptoBulkEntries {H : Type} : List (Lit × DataW H) → Nat
  | [] => 0
  | x :: r => uptoBulkEntry x + uptoBulkEntries r
def uptoBulkEntry {H : Type} : Lit × DataW H → Nat
  | (.string bytes, d) => bytes.length + uptoBulk d + 1
  | (_, d) => uptoBulk d + 1
 end
def uptoSmall : (H : Type) → List (DataW H) → Bool := fun _ ds => decide (uptoBulkAll ds ≤ 1048576)
def OpenSpec.upto (s : _root_.Go.ChangeSpec) : _root_.Go.OpenSpec := { _root_.Go.OpenSpec.ofChange s with cond := some uptoSmall }

/-- 'breezelaw01.ClaimRule', WHERE WHAT IT READS IS OF BULK AT MOST 1048576: true; the input reads as it did. -/
def claimRuleUptoRow : OpenClaim := { program := "ytfemekpcgieldaa", sum := "bf34cbf56d0e11c65d71fcbda50573e52688e4caeb6cef5518da69df3e26041c", func := "breeze/breezelaw01.ClaimRule", spec := "claimRule", unfollowed := true, recurses := true, apart := false, narrowed := true }
def ClaimRuleUptoSaid : Prop := claimRuleUptoRow.holds Try.pinned (OpenSpec.upto claimRuleSpec)

/-- 'breezelaw01.ClaimOrders', WHERE WHAT IT READS IS OF BULK AT MOST 1048576: true; the input reads as it did. -/
def claimOrdersUptoRow : OpenClaim := { program := "ytfemekpcgieldaa", sum := "bf34cbf56d0e11c65d71fcbda50573e52688e4caeb6cef5518da69df3e26041c", func := "breeze/breezelaw01.ClaimOrders", spec := "claimOrders", unfollowed := true, recurses := true, apart := false, narrowed := true }
def ClaimOrdersUptoSaid : Prop := claimOrdersUptoRow.holds Try.pinned (OpenSpec.upto claimOrdersSpec)

/-- 'breezelaw01.ClaimChecks', WHERE WHAT IT READS IS OF BULK AT MOST 1048576: true; the input reads as it did. -/
def claimChecksUptoRow : OpenClaim := { program := "ytfemekpcgieldaa", sum := "bf34cbf56d0e11c65d71fcbda50573e52688e4caeb6cef5518da69df3e26041c", func := "breeze/breezelaw01.ClaimChecks", spec := "claimChecks", unfollowed := true, recurses := true, apart := false, narrowed := true }
def ClaimChecksUptoSaid : Prop := claimChecksUptoRow.holds Try.pinned (OpenSpec.upto claimChecksSpec)

/-- 'breezelaw01.ClaimGarment', WHERE WHAT IT READS IS OF BULK AT MOST 1048576: true; the input reads as it did. -/
def claimGarmentUptoRow : OpenClaim := { program := "ytfemekpcgieldaa", sum := "bf34cbf56d0e11c65d71fcbda50573e52688e4caeb6cef5518da69df3e26041c", func := "breeze/breezelaw01.ClaimGarment", spec := "claimGarment", unfollowed := true, recurses := true, apart := false, narrowed := true }
def ClaimGarmentUptoSaid : Prop := claimGarmentUptoRow.holds Try.pinned (OpenSpec.upto claimGarmentSpec)

/-- 'breezelaw01.ClaimShown', WHERE WHAT IT READS IS OF BULK AT MOST 1048576: true; the input reads as it did. -/
def claimShownUptoRow : OpenClaim := { program := "ytfemekpcgieldaa", sum := "bf34cbf56d0e11c65d71fcbda50573e52688e4caeb6cef5518da69df3e26041c", func := "breeze/breezelaw01.ClaimShown", spec := "claimShown", unfollowed := true, recurses := true, apart := false, narrowed := true }
def ClaimShownUptoSaid : Prop := claimShownUptoRow.holds Try.pinned (OpenSpec.upto claimShownSpec)

/-- 'breezelaw01.ClaimDual', WHERE WHAT IT READS IS OF BULK AT MOST 1048576: true; the input reads as it did. -/
def claimDualUptoRow : OpenClaim := { program := "ytfemekpcgieldaa", sum := "bf34cbf56d0e11c65d71fcbda50573e52688e4caeb6cef5518da69df3e26041c", func := "breeze/breezelaw01.ClaimDual", spec := "claimDual", unfollowed := true, recurses := true, apart := false, narrowed := true }
def ClaimDualUptoSaid : Prop := claimDualUptoRow.holds Try.pinned (OpenSpec.upto claimDualSpec)

/-- 'breezelaw01.ClaimRanked', WHERE WHAT IT READS IS OF BULK AT MOST 1048576: true; the input reads as it did. -/
def claimRankedUptoRow : OpenClaim := { program := "ytfemekpcgieldaa", sum := "bf34cbf56d0e11c65d71fcbda50573e52688e4caeb6cef5518da69df3e26041c", func := "breeze/breezelaw01.ClaimRanked", spec := "claimRanked", unfollowed := true, recurses := true, apart := false, narrowed := true }
def ClaimRankedUptoSaid : Prop := claimRankedUptoRow.holds Try.pinned (OpenSpec.upto claimRankedSpec)

/-- 'breezelaw01.ClaimPair', WHERE WHAT IT READS IS OF BULK AT MOST 1048576: true; the input reads as it did. -/
def claimPairUptoRow : OpenClaim := { program := "ytfemekpcgieldaa", sum := "bf34cbf56d0e11c65d71fcbda50573e52688e4caeb6cef5518da69df3e26041c", func := "breeze/breezelaw01.ClaimPair", spec := "claimPair", unfollowed := true, recurses := true, apart := false, narrowed := true }
def ClaimPairUptoSaid : Prop := claimPairUptoRow.holds Try.pinned (OpenSpec.upto claimPairSpec)

/-- 'breezelaw01.ClaimSplit', WHERE WHAT IT READS IS OF BULK AT MOST 1048576: true; the input reads as it did. -/
def claimSplitUptoRow : OpenClaim := { program := "ytfemekpcgieldaa", sum := "bf34cbf56d0e11c65d71fcbda50573e52688e4caeb6cef5518da69df3e26041c", func := "breeze/breezelaw01.ClaimSplit", spec := "claimSplit", unfollowed := true, recurses := true, apart := false, narrowed := true }
def ClaimSplitUptoSaid : Prop := claimSplitUptoRow.holds Try.pinned (OpenSpec.upto claimSplitSpec)

/-- 'breezelaw01.ClaimKnown', WHERE WHAT IT READS IS OF BULK AT MOST 1048576: true; the input reads as it did. -/
def claimKnownUptoRow : OpenClaim := { program := "ytfemekpcgieldaa", sum := "bf34cbf56d0e11c65d71fcbda50573e52688e4caeb6cef5518da69df3e26041c", func := "breeze/breezelaw01.ClaimKnown", spec := "claimKnown", unfollowed := true, recurses := true, apart := false, narrowed := true }
def ClaimKnownUptoSaid : Prop := claimKnownUptoRow.holds Try.pinned (OpenSpec.upto claimKnownSpec)

/-- 'breezelaw01.ClaimQueued', WHERE WHAT IT READS IS OF BULK AT MOST 1048576: true; the input reads as it did. -/
def claimQueuedUptoRow : OpenClaim := { program := "ytfemekpcgieldaa", sum := "bf34cbf56d0e11c65d71fcbda50573e52688e4caeb6cef5518da69df3e26041c", func := "breeze/breezelaw01.ClaimQueued", spec := "claimQueued", unfollowed := true, recurses := true, apart := false, narrowed := true }
def ClaimQueuedUptoSaid : Prop := claimQueuedUptoRow.holds Try.pinned (OpenSpec.upto claimQueuedSpec)

/-- 'breezelaw01.ClaimMore', WHERE WHAT IT READS IS OF BULK AT MOST 1048576: true; the input reads as it did. -/
def claimMoreUptoRow : OpenClaim := { program := "ytfemekpcgieldaa", sum := "bf34cbf56d0e11c65d71fcbda50573e52688e4caeb6cef5518da69df3e26041c", func := "breeze/breezelaw01.ClaimMore", spec := "claimMore", unfollowed := true, recurses := true, apart := false, narrowed := true }
def ClaimMoreUptoSaid : Prop := claimMoreUptoRow.holds Try.pinned (OpenSpec.upto claimMoreSpec)

/-- 'breezelaw01.ClaimBest', WHERE WHAT IT READS IS OF BULK AT MOST 1048576: true; the input reads as it did. -/
def claimBestUptoRow : OpenClaim := { program := "ytfemekpcgieldaa", sum := "bf34cbf56d0e11c65d71fcbda50573e52688e4caeb6cef5518da69df3e26041c", func := "breeze/breezelaw01.ClaimBest", spec := "claimBest", unfollowed := true, recurses := true, apart := false, narrowed := true }
def ClaimBestUptoSaid : Prop := claimBestUptoRow.holds Try.pinned (OpenSpec.upto claimBestSpec)

end Rows
end Go.Proofs.Ytfemekpcgieldaa
