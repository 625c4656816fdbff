/-
  NARROWER THAN 'FOR EVERY INPUT', by the rows' own cells (each row's printed sentence says how): BurnHeaps: laid · BurnFewest: laid · BurnBars: laid · BurnKnown: laid · BurnRoot: laid · BurnBalls: laid · BurnTried: laid · BurnFar: laid · BurnNamed: laid · BurnBarred: laid · BurnTrees: laid · BurnShown: laid.
  DERIVED. THE GIVEN ROWS OF THIS SEAT. 12 by the template 'for every input the law returns true; each argument reads behind the call as it read before'; 0 by the template 'total and deterministic' (their statements: YtpieoljeikpemaaDoorTotals.lean).
  GIVEN WITH THE SEED: the statements are not yours to turn. If you find one false, say at which input.
  Laid BY PROGRAM, IN A SANDBOX (cutbox-rows.mjs): the forced cells as the released guide's own fill.sh prints them over the translation 7baf05b0900a2684… (all of the seat's roots in one cut). By AI agents, Wed Nov 11 2026. No macro, syntax, notation, axiom, sorry.
-/
import Derived.Test.YtpieoljeikpemaaDoorChecked
import GoSem.Claim
import GoSem.ClaimJoined
import GoSem.ClaimMapViews
import Derived.JoinedTies
import Derived.KernelRfl
namespace Go.Proofs.YtpieoljeikpemaaDoor
/- THE CELL 'sum', in the pinned program and in every row, IS THE sha256 OF THE DUMP (.gsa) THAT YtpieoljeikpemaaDoorProg.lean LOADS. Nothing in Lean hashes anything: it is a label: what it is worth is what the hold of that sum in a sandbox is worth. -/
noncomputable def Tryd.pinned : Pinned := { name := "ytpieoljeikpemaadoor", sum := "7baf05b0900a268497288f1ebef4ecdfa7899ac908002a5f593db50233d95f6c", checked := Tryd.checked }
namespace Rows
def none {H : Type} : Left H := { results := [], args := [] }

/- WHAT THE LISTED PACKAGE-LEVEL VARIABLES READ AS WHEN THE CALL BEGINS. Each datum BY PROGRAM (the guide's laid-datum.mjs) off the statement by which the dump's own 'gosem.cut.vars' lays the variable. In a bare row this is a premise. The card (YtpieoljeikpemaaDoorCards.lean) ties it to the program's text. -/
def laid_math_bits_deBruijn32tab {H : Type} : DataW H := .agg [.lit (.int .u8 0), .lit (.int .u8 1), .lit (.int .u8 28), .lit (.int .u8 2), .lit (.int .u8 29), .lit (.int .u8 14), .lit (.int .u8 24), .lit (.int .u8 3), .lit (.int .u8 30), .lit (.int .u8 22), .lit (.int .u8 20), .lit (.int .u8 15), .lit (.int .u8 25), .lit (.int .u8 17), .lit (.int .u8 4), .lit (.int .u8 8), .lit (.int .u8 31), .lit (.int .u8 27), .lit (.int .u8 13), .lit (.int .u8 23), .lit (.int .u8 21), .lit (.int .u8 19), .lit (.int .u8 16), .lit (.int .u8 7), .lit (.int .u8 26), .lit (.int .u8 12), .lit (.int .u8 18), .lit (.int .u8 6), .lit (.int .u8 11), .lit (.int .u8 5), .lit (.int .u8 10), .lit (.int .u8 9)]
def laid_math_bits_deBruijn64tab {H : Type} : DataW H := .agg [.lit (.int .u8 0), .lit (.int .u8 1), .lit (.int .u8 56), .lit (.int .u8 2), .lit (.int .u8 57), .lit (.int .u8 49), .lit (.int .u8 28), .lit (.int .u8 3), .lit (.int .u8 61), .lit (.int .u8 58), .lit (.int .u8 42), .lit (.int .u8 50), .lit (.int .u8 38), .lit (.int .u8 29), .lit (.int .u8 17), .lit (.int .u8 4), .lit (.int .u8 62), .lit (.int .u8 47), .lit (.int .u8 59), .lit (.int .u8 36), .lit (.int .u8 45), .lit (.int .u8 43), .lit (.int .u8 51), .lit (.int .u8 22), .lit (.int .u8 53), .lit (.int .u8 39), .lit (.int .u8 33), .lit (.int .u8 30), .lit (.int .u8 24), .lit (.int .u8 18), .lit (.int .u8 12), .lit (.int .u8 5), .lit (.int .u8 63), .lit (.int .u8 55), .lit (.int .u8 48), .lit (.int .u8 27), .lit (.int .u8 60), .lit (.int .u8 41), .lit (.int .u8 37), .lit (.int .u8 16), .lit (.int .u8 46), .lit (.int .u8 35), .lit (.int .u8 44), .lit (.int .u8 21), .lit (.int .u8 52), .lit (.int .u8 32), .lit (.int .u8 23), .lit (.int .u8 11), .lit (.int .u8 54), .lit (.int .u8 26), .lit (.int .u8 40), .lit (.int .u8 15), .lit (.int .u8 34), .lit (.int .u8 20), .lit (.int .u8 31), .lit (.int .u8 10), .lit (.int .u8 25), .lit (.int .u8 14), .lit (.int .u8 19), .lit (.int .u8 9), .lit (.int .u8 13), .lit (.int .u8 8), .lit (.int .u8 7), .lit (.int .u8 6)]

/-- 'breezelaw13.BurnHeaps': WHATEVER THE INPUT: true; the input reads as it did. -/
def burnHeapsSpec : ChangeSpec := { name := "burnHeaps", fn := fun _ => fun
  | [d1, d2, d3, d4, d5] => { results := [.lit (.bool true)], args := [d1, d2, d3, d4, d5] }
  | _ => none }
def burnHeapsRow : OpenClaim := { program := "ytpieoljeikpemaadoor", sum := "7baf05b0900a268497288f1ebef4ecdfa7899ac908002a5f593db50233d95f6c", func := "breeze/breezelaw13.BurnHeaps", spec := "burnHeaps", unfollowed := true, recurses := true, named := ["math/bits.deBruijn32tab", "math/bits.deBruijn64tab"], apart := false, laid := [("math/bits.deBruijn32tab", laid_math_bits_deBruijn32tab), ("math/bits.deBruijn64tab", laid_math_bits_deBruijn64tab)] }
def BurnHeapsSaid : Prop := burnHeapsRow.holds Tryd.pinned (OpenSpec.ofChange burnHeapsSpec)

/-- ITS FALSE NEIGHBOUR: 'it returns false'. Refute it at one input. -/
def burnHeapsWrong : ChangeSpec := { name := "burnHeaps", fn := fun _ => fun
  | [d1, d2, d3, d4, d5] => { results := [.lit (.bool false)], args := [d1, d2, d3, d4, d5] }
  | _ => none }
def BurnHeapsWrongFalsely : Prop := burnHeapsRow.holds Tryd.pinned (OpenSpec.ofChange burnHeapsWrong)

/-- 'breezelaw13.BurnFewest': WHATEVER THE INPUT: true; the input reads as it did. -/
def burnFewestSpec : ChangeSpec := { name := "burnFewest", fn := fun _ => fun
  | [d] => { results := [.lit (.bool true)], args := [d] }
  | _ => none }
def burnFewestRow : OpenClaim := { program := "ytpieoljeikpemaadoor", sum := "7baf05b0900a268497288f1ebef4ecdfa7899ac908002a5f593db50233d95f6c", func := "breeze/breezelaw13.BurnFewest", spec := "burnFewest", unfollowed := true, recurses := true, named := ["math/bits.deBruijn32tab", "math/bits.deBruijn64tab"], apart := false, laid := [("math/bits.deBruijn32tab", laid_math_bits_deBruijn32tab), ("math/bits.deBruijn64tab", laid_math_bits_deBruijn64tab)] }
def BurnFewestSaid : Prop := burnFewestRow.holds Tryd.pinned (OpenSpec.ofChange burnFewestSpec)

/-- ITS FALSE NEIGHBOUR: 'it returns false'. Refute it at one input. -/
def burnFewestWrong : ChangeSpec := { name := "burnFewest", fn := fun _ => fun
  | [d] => { results := [.lit (.bool false)], args := [d] }
  | _ => none }
def BurnFewestWrongFalsely : Prop := burnFewestRow.holds Tryd.pinned (OpenSpec.ofChange burnFewestWrong)

/-- 'breezelaw13.BurnBars': WHATEVER THE INPUT: true; the input reads as it did. -/
def burnBarsSpec : ChangeSpec := { name := "burnBars", fn := fun _ => fun
  | [d1, d2, d3, d4] => { results := [.lit (.bool true)], args := [d1, d2, d3, d4] }
  | _ => none }
def burnBarsRow : OpenClaim := { program := "ytpieoljeikpemaadoor", sum := "7baf05b0900a268497288f1ebef4ecdfa7899ac908002a5f593db50233d95f6c", func := "breeze/breezelaw13.BurnBars", spec := "burnBars", unfollowed := true, recurses := true, named := ["math/bits.deBruijn32tab", "math/bits.deBruijn64tab"], apart := false, laid := [("math/bits.deBruijn32tab", laid_math_bits_deBruijn32tab), ("math/bits.deBruijn64tab", laid_math_bits_deBruijn64tab)] }
def BurnBarsSaid : Prop := burnBarsRow.holds Tryd.pinned (OpenSpec.ofChange burnBarsSpec)

/-- ITS FALSE NEIGHBOUR: 'it returns false'. Refute it at one input. -/
def burnBarsWrong : ChangeSpec := { name := "burnBars", fn := fun _ => fun
  | [d1, d2, d3, d4] => { results := [.lit (.bool false)], args := [d1, d2, d3, d4] }
  | _ => none }
def BurnBarsWrongFalsely : Prop := burnBarsRow.holds Tryd.pinned (OpenSpec.ofChange burnBarsWrong)

/-- 'breezelaw13.BurnKnown': WHATEVER THE INPUT: true; the input reads as it did. -/
def burnKnownSpec : ChangeSpec := { name := "burnKnown", fn := fun _ => fun
  | [] => { results := [.lit (.bool true)], args := [] }
  | _ => none }
def burnKnownRow : OpenClaim := { program := "ytpieoljeikpemaadoor", sum := "7baf05b0900a268497288f1ebef4ecdfa7899ac908002a5f593db50233d95f6c", func := "breeze/breezelaw13.BurnKnown", spec := "burnKnown", unfollowed := true, recurses := true, named := ["math/bits.deBruijn32tab", "math/bits.deBruijn64tab"], apart := false, laid := [("math/bits.deBruijn32tab", laid_math_bits_deBruijn32tab), ("math/bits.deBruijn64tab", laid_math_bits_deBruijn64tab)] }
def BurnKnownSaid : Prop := burnKnownRow.holds Tryd.pinned (OpenSpec.ofChange burnKnownSpec)

/-- ITS FALSE NEIGHBOUR: 'it returns false'. Refute it at one input. -/
def burnKnownWrong : ChangeSpec := { name := "burnKnown", fn := fun _ => fun
  | [] => { results := [.lit (.bool false)], args := [] }
  | _ => none }
def BurnKnownWrongFalsely : Prop := burnKnownRow.holds Tryd.pinned (OpenSpec.ofChange burnKnownWrong)

/-- 'breezelaw13.BurnRoot': WHATEVER THE INPUT: true; the input reads as it did. -/
def burnRootSpec : ChangeSpec := { name := "burnRoot", fn := fun _ => fun
  | [d1, d2] => { results := [.lit (.bool true)], args := [d1, d2] }
  | _ => none }
def burnRootRow : OpenClaim := { program := "ytpieoljeikpemaadoor", sum := "7baf05b0900a268497288f1ebef4ecdfa7899ac908002a5f593db50233d95f6c", func := "breeze/breezelaw13.BurnRoot", spec := "burnRoot", unfollowed := true, recurses := true, named := ["math/bits.deBruijn32tab", "math/bits.deBruijn64tab"], apart := false, laid := [("math/bits.deBruijn32tab", laid_math_bits_deBruijn32tab), ("math/bits.deBruijn64tab", laid_math_bits_deBruijn64tab)] }
def BurnRootSaid : Prop := burnRootRow.holds Tryd.pinned (OpenSpec.ofChange burnRootSpec)

/-- ITS FALSE NEIGHBOUR: 'it returns false'. Refute it at one input. -/
def burnRootWrong : ChangeSpec := { name := "burnRoot", fn := fun _ => fun
  | [d1, d2] => { results := [.lit (.bool false)], args := [d1, d2] }
  | _ => none }
def BurnRootWrongFalsely : Prop := burnRootRow.holds Tryd.pinned (OpenSpec.ofChange burnRootWrong)

/-- 'breezelaw13.BurnBalls': WHATEVER THE INPUT: true; the input reads as it did. -/
def burnBallsSpec : ChangeSpec := { name := "burnBalls", fn := fun _ => fun
  | [d1, d2, d3] => { results := [.lit (.bool true)], args := [d1, d2, d3] }
  | _ => none }
def burnBallsRow : OpenClaim := { program := "ytpieoljeikpemaadoor", sum := "7baf05b0900a268497288f1ebef4ecdfa7899ac908002a5f593db50233d95f6c", func := "breeze/breezelaw13.BurnBalls", spec := "burnBalls", unfollowed := true, recurses := true, named := ["math/bits.deBruijn32tab", "math/bits.deBruijn64tab"], apart := false, laid := [("math/bits.deBruijn32tab", laid_math_bits_deBruijn32tab), ("math/bits.deBruijn64tab", laid_math_bits_deBruijn64tab)] }
def BurnBallsSaid : Prop := burnBallsRow.holds Tryd.pinned (OpenSpec.ofChange burnBallsSpec)

/-- ITS FALSE NEIGHBOUR: 'it returns false'. Refute it at one input. -/
def burnBallsWrong : ChangeSpec := { name := "burnBalls", fn := fun _ => fun
  | [d1, d2, d3] => { results := [.lit (.bool false)], args := [d1, d2, d3] }
  | _ => none }
def BurnBallsWrongFalsely : Prop := burnBallsRow.holds Tryd.pinned (OpenSpec.ofChange burnBallsWrong)

/-- 'breezelaw13.BurnTried': WHATEVER THE INPUT: true; the input reads as it did. -/
def burnTriedSpec : ChangeSpec := { name := "burnTried", fn := fun _ => fun
  | [d] => { results := [.lit (.bool true)], args := [d] }
  | _ => none }
def burnTriedRow : OpenClaim := { program := "ytpieoljeikpemaadoor", sum := "7baf05b0900a268497288f1ebef4ecdfa7899ac908002a5f593db50233d95f6c", func := "breeze/breezelaw13.BurnTried", spec := "burnTried", unfollowed := true, recurses := true, named := ["math/bits.deBruijn32tab", "math/bits.deBruijn64tab"], apart := false, laid := [("math/bits.deBruijn32tab", laid_math_bits_deBruijn32tab), ("math/bits.deBruijn64tab", laid_math_bits_deBruijn64tab)] }
def BurnTriedSaid : Prop := burnTriedRow.holds Tryd.pinned (OpenSpec.ofChange burnTriedSpec)

/-- ITS FALSE NEIGHBOUR: 'it returns false'. Refute it at one input. -/
def burnTriedWrong : ChangeSpec := { name := "burnTried", fn := fun _ => fun
  | [d] => { results := [.lit (.bool false)], args := [d] }
  | _ => none }
def BurnTriedWrongFalsely : Prop := burnTriedRow.holds Tryd.pinned (OpenSpec.ofChange burnTriedWrong)

/-- 'breezelaw13.BurnFar': WHATEVER THE INPUT: true; the input reads as it did. -/
def burnFarSpec : ChangeSpec := { name := "burnFar", fn := fun _ => fun
  | [d1, d2, d3] => { results := [.lit (.bool true)], args := [d1, d2, d3] }
  | _ => none }
def burnFarRow : OpenClaim := { program := "ytpieoljeikpemaadoor", sum := "7baf05b0900a268497288f1ebef4ecdfa7899ac908002a5f593db50233d95f6c", func := "breeze/breezelaw13.BurnFar", spec := "burnFar", unfollowed := true, recurses := true, named := ["math/bits.deBruijn32tab", "math/bits.deBruijn64tab"], apart := false, laid := [("math/bits.deBruijn32tab", laid_math_bits_deBruijn32tab), ("math/bits.deBruijn64tab", laid_math_bits_deBruijn64tab)] }
def BurnFarSaid : Prop := burnFarRow.holds Tryd.pinned (OpenSpec.ofChange burnFarSpec)

/-- ITS FALSE NEIGHBOUR: 'it returns false'. Refute it at one input. -/
def burnFarWrong : ChangeSpec := { name := "burnFar", fn := fun _ => fun
  | [d1, d2, d3] => { results := [.lit (.bool false)], args := [d1, d2, d3] }
  | _ => none }
def BurnFarWrongFalsely : Prop := burnFarRow.holds Tryd.pinned (OpenSpec.ofChange burnFarWrong)

/-- 'breezelaw13.BurnNamed': WHATEVER THE INPUT: true; the input reads as it did. -/
def burnNamedSpec : ChangeSpec := { name := "burnNamed", fn := fun _ => fun
  | [d1, d2] => { results := [.lit (.bool true)], args := [d1, d2] }
  | _ => none }
def burnNamedRow : OpenClaim := { program := "ytpieoljeikpemaadoor", sum := "7baf05b0900a268497288f1ebef4ecdfa7899ac908002a5f593db50233d95f6c", func := "breeze/breezelaw13.BurnNamed", spec := "burnNamed", unfollowed := true, recurses := true, named := ["math/bits.deBruijn32tab", "math/bits.deBruijn64tab"], apart := false, laid := [("math/bits.deBruijn32tab", laid_math_bits_deBruijn32tab), ("math/bits.deBruijn64tab", laid_math_bits_deBruijn64tab)] }
def BurnNamedSaid : Prop := burnNamedRow.holds Tryd.pinned (OpenSpec.ofChange burnNamedSpec)

/-- ITS FALSE NEIGHBOUR: 'it returns false'. Refute it at one input. -/
def burnNamedWrong : ChangeSpec := { name := "burnNamed", fn := fun _ => fun
  | [d1, d2] => { results := [.lit (.bool false)], args := [d1, d2] }
  | _ => none }
def BurnNamedWrongFalsely : Prop := burnNamedRow.holds Tryd.pinned (OpenSpec.ofChange burnNamedWrong)

/-- 'breezelaw13.BurnBarred': WHATEVER THE INPUT: true; the input reads as it did. -/
def burnBarredSpec : ChangeSpec := { name := "burnBarred", fn := fun _ => fun
  | [d1, d2] => { results := [.lit (.bool true)], args := [d1, d2] }
  | _ => none }
def burnBarredRow : OpenClaim := { program := "ytpieoljeikpemaadoor", sum := "7baf05b0900a268497288f1ebef4ecdfa7899ac908002a5f593db50233d95f6c", func := "breeze/breezelaw13.BurnBarred", spec := "burnBarred", unfollowed := true, recurses := true, named := ["math/bits.deBruijn32tab", "math/bits.deBruijn64tab"], apart := false, laid := [("math/bits.deBruijn32tab", laid_math_bits_deBruijn32tab), ("math/bits.deBruijn64tab", laid_math_bits_deBruijn64tab)] }
def BurnBarredSaid : Prop := burnBarredRow.holds Tryd.pinned (OpenSpec.ofChange burnBarredSpec)

/-- ITS FALSE NEIGHBOUR: 'it returns false'. Refute it at one input. -/
def burnBarredWrong : ChangeSpec := { name := "burnBarred", fn := fun _ => fun
  | [d1, d2] => { results := [.lit (.bool false)], args := [d1, d2] }
  | _ => none }
def BurnBarredWrongFalsely : Prop := burnBarredRow.holds Tryd.pinned (OpenSpec.ofChange burnBarredWrong)

/-- 'breezelaw13.BurnTrees': WHATEVER THE INPUT: true; the input reads as it did. -/
def burnTreesSpec : ChangeSpec := { name := "burnTrees", fn := fun _ => fun
  | [d] => { results := [.lit (.bool true)], args := [d] }
  | _ => none }
def burnTreesRow : OpenClaim := { program := "ytpieoljeikpemaadoor", sum := "7baf05b0900a268497288f1ebef4ecdfa7899ac908002a5f593db50233d95f6c", func := "breeze/breezelaw13.BurnTrees", spec := "burnTrees", unfollowed := true, recurses := true, named := ["math/bits.deBruijn32tab", "math/bits.deBruijn64tab"], apart := false, laid := [("math/bits.deBruijn32tab", laid_math_bits_deBruijn32tab), ("math/bits.deBruijn64tab", laid_math_bits_deBruijn64tab)] }
def BurnTreesSaid : Prop := burnTreesRow.holds Tryd.pinned (OpenSpec.ofChange burnTreesSpec)

/-- ITS FALSE NEIGHBOUR: 'it returns false'. Refute it at one input. -/
def burnTreesWrong : ChangeSpec := { name := "burnTrees", fn := fun _ => fun
  | [d] => { results := [.lit (.bool false)], args := [d] }
  | _ => none }
def BurnTreesWrongFalsely : Prop := burnTreesRow.holds Tryd.pinned (OpenSpec.ofChange burnTreesWrong)

/-- 'breezelaw13.BurnShown': WHATEVER THE INPUT: true; the input reads as it did. -/
def burnShownSpec : ChangeSpec := { name := "burnShown", fn := fun _ => fun
  | [d1, d2, d3, d4] => { results := [.lit (.bool true)], args := [d1, d2, d3, d4] }
  | _ => none }
def burnShownRow : OpenClaim := { program := "ytpieoljeikpemaadoor", sum := "7baf05b0900a268497288f1ebef4ecdfa7899ac908002a5f593db50233d95f6c", func := "breeze/breezelaw13.BurnShown", spec := "burnShown", unfollowed := true, recurses := true, named := ["math/bits.deBruijn32tab", "math/bits.deBruijn64tab"], apart := false, laid := [("math/bits.deBruijn32tab", laid_math_bits_deBruijn32tab), ("math/bits.deBruijn64tab", laid_math_bits_deBruijn64tab)] }
def BurnShownSaid : Prop := burnShownRow.holds Tryd.pinned (OpenSpec.ofChange burnShownSpec)

/-- ITS FALSE NEIGHBOUR: 'it returns false'. Refute it at one input. -/
def burnShownWrong : ChangeSpec := { name := "burnShown", fn := fun _ => fun
  | [d1, d2, d3, d4] => { results := [.lit (.bool false)], args := [d1, d2, d3, d4] }
  | _ => none }
def BurnShownWrongFalsely : Prop := burnShownRow.holds Tryd.pinned (OpenSpec.ofChange burnShownWrong)

/- THE SECOND FORM. 'bulk': how many values and letters a reading holds, each counted each time it is reached (what is shared counts as often as it is met; a slice's spare places count too). A statement '..UptoSaid' is the law's where the arguments, and the package variables that the reading takes, are together of bulk at most 1048576: NARROWER than '..Said'. Prove '..Said' where nothing that the law and all that it calls make is longer than what came in: it says more and counts as full. Else prove '..UptoSaid'. A law counts once. -/
mutual
def uptoBulk {H : Type} : DataW H → Nat
  | .lit (.string bytes) => bytes.length + 1
  | .lit _ => 1
  | .nil => 1
  | .ptr d => uptoBulk d + 1
  | .slice elems spare => uptoBulkAll elems + uptoBulkAll spare + 1
  | .agg parts => uptoBulkAll parts + 1
  | .iface _ d => uptoBulk d + 1
  | .map entries => uptoBulkEntries entries + 1
  | .held _ => 1
def uptoBulkAll {H : Type} : List (DataW H) → Nat
  | [] => 0
  | d :: r => uptoBulk d + uptoBulkAll r
def uptoBulkEntries {H : Type} : List (Lit × DataW H) → Nat
  | [] => 0
  | x :: r => uptoBulkEntry x + uptoBulkEntries r
def uptoBulkEntry {H : Type} : Lit × DataW H → Nat
  | (.string bytes, d) => bytes.length + uptoBulk d + 1
  | (_, d) => uptoBulk d + 1
 end
def uptoSmall : (H : Type) → List (DataW H) → Bool := fun _ ds => decide (uptoBulkAll ds ≤ 1048576)
def OpenSpec.upto (s : _root_.Go.ChangeSpec) : _root_.Go.OpenSpec := { _root_.Go.OpenSpec.ofChange s with cond := some uptoSmall }

/-- 'breezelaw13.BurnHeaps', WHERE WHAT IT READS IS OF BULK AT MOST 1048576: true; the input reads as it did. -/
def burnHeapsUptoRow : OpenClaim := { program := "ytpieoljeikpemaadoor", sum := "7baf05b0900a268497288f1ebef4ecdfa7899ac908002a5f593db50233d95f6c", func := "breeze/breezelaw13.BurnHeaps", spec := "burnHeaps", unfollowed := true, recurses := true, named := ["math/bits.deBruijn32tab", "math/bits.deBruijn64tab"], apart := false, laid := [("math/bits.deBruijn32tab", laid_math_bits_deBruijn32tab), ("math/bits.deBruijn64tab", laid_math_bits_deBruijn64tab)], narrowed := true }
def BurnHeapsUptoSaid : Prop := burnHeapsUptoRow.holds Tryd.pinned (OpenSpec.upto burnHeapsSpec)

/-- 'breezelaw13.BurnFewest', WHERE WHAT IT READS IS OF BULK AT MOST 1048576: true; the input reads as it did. -/
def burnFewestUptoRow : OpenClaim := { program := "ytpieoljeikpemaadoor", sum := "7baf05b0900a268497288f1ebef4ecdfa7899ac908002a5f593db50233d95f6c", func := "breeze/breezelaw13.BurnFewest", spec := "burnFewest", unfollowed := true, recurses := true, named := ["math/bits.deBruijn32tab", "math/bits.deBruijn64tab"], apart := false, laid := [("math/bits.deBruijn32tab", laid_math_bits_deBruijn32tab), ("math/bits.deBruijn64tab", laid_math_bits_deBruijn64tab)], narrowed := true }
def BurnFewestUptoSaid : Prop := burnFewestUptoRow.holds Tryd.pinned (OpenSpec.upto burnFewestSpec)

/-- 'breezelaw13.BurnBars', WHERE WHAT IT READS IS OF BULK AT MOST 1048576: true; the input reads as it did. -/
def burnBarsUptoRow : OpenClaim := { program := "ytpieoljeikpemaadoor", sum := "7baf05b0900a268497288f1ebef4ecdfa7899ac908002a5f593db50233d95f6c", func := "breeze/breezelaw13.BurnBars", spec := "burnBars", unfollowed := true, recurses := true, named := ["math/bits.deBruijn32tab", "math/bits.deBruijn64tab"], apart := false, laid := [("math/bits.deBruijn32tab", laid_math_bits_deBruijn32tab), ("math/bits.deBruijn64tab", laid_math_bits_deBruijn64tab)], narrowed := true }
def BurnBarsUptoSaid : Prop := burnBarsUptoRow.holds Tryd.pinned (OpenSpec.upto burnBarsSpec)

/-- 'breezelaw13.BurnKnown', WHERE WHAT IT READS IS OF BULK AT MOST 1048576: true; the input reads as it did. -/
def burnKnownUptoRow : OpenClaim := { program := "ytpieoljeikpemaadoor", sum := "7baf05b0900a268497288f1ebef4ecdfa7899ac908002a5f593db50233d95f6c", func := "breeze/breezelaw13.BurnKnown", spec := "burnKnown", unfollowed := true, recurses := true, named := ["math/bits.deBruijn32tab", "math/bits.deBruijn64tab"], apart := false, laid := [("math/bits.deBruijn32tab", laid_math_bits_deBruijn32tab), ("math/bits.deBruijn64tab", laid_math_bits_deBruijn64tab)], narrowed := true }
def BurnKnownUptoSaid : Prop := burnKnownUptoRow.holds Tryd.pinned (OpenSpec.upto burnKnownSpec)

/-- 'breezelaw13.BurnRoot', WHERE WHAT IT READS IS OF BULK AT MOST 1048576: true; the input reads as it did. -/
def burnRootUptoRow : OpenClaim := { program := "ytpieoljeikpemaadoor", sum := "7baf05b0900a268497288f1ebef4ecdfa7899ac908002a5f593db50233d95f6c", func := "breeze/breezelaw13.BurnRoot", spec := "burnRoot", unfollowed := true, recurses := true, named := ["math/bits.deBruijn32tab", "math/bits.deBruijn64tab"], apart := false, laid := [("math/bits.deBruijn32tab", laid_math_bits_deBruijn32tab), ("math/bits.deBruijn64tab", laid_math_bits_deBruijn64tab)], narrowed := true }
def BurnRootUptoSaid : Prop := burnRootUptoRow.holds Tryd.pinned (OpenSpec.upto burnRootSpec)

/-- 'breezelaw13.BurnBalls', WHERE WHAT IT READS IS OF BULK AT MOST 1048576: true; the input reads as it did. -/
def burnBallsUptoRow : OpenClaim := { program := "ytpieoljeikpemaadoor", sum := "7baf05b0900a268497288f1ebef4ecdfa7899ac908002a5f593db50233d95f6c", func := "breeze/breezelaw13.BurnBalls", spec := "burnBalls", unfollowed := true, recurses := true, named := ["math/bits.deBruijn32tab", "math/bits.deBruijn64tab"], apart := false, laid := [("math/bits.deBruijn32tab", laid_math_bits_deBruijn32tab), ("math/bits.deBruijn64tab", laid_math_bits_deBruijn64tab)], narrowed := true }
def BurnBallsUptoSaid : Prop := burnBallsUptoRow.holds Tryd.pinned (OpenSpec.upto burnBallsSpec)

/-- 'breezelaw13.BurnTried', WHERE WHAT IT READS IS OF BULK AT MOST 1048576: true; the input reads as it did. -/
def burnTriedUptoRow : OpenClaim := { program := "ytpieoljeikpemaadoor", sum := "7baf05b0900a268497288f1ebef4ecdfa7899ac908002a5f593db50233d95f6c", func := "breeze/breezelaw13.BurnTried", spec := "burnTried", unfollowed := true, recurses := true, named := ["math/bits.deBruijn32tab", "math/bits.deBruijn64tab"], apart := false, laid := [("math/bits.deBruijn32tab", laid_math_bits_deBruijn32tab), ("math/bits.deBruijn64tab", laid_math_bits_deBruijn64tab)], narrowed := true }
def BurnTriedUptoSaid : Prop := burnTriedUptoRow.holds Tryd.pinned (OpenSpec.upto burnTriedSpec)

/-- 'breezelaw13.BurnFar', WHERE WHAT IT READS IS OF BULK AT MOST 1048576: true; the input reads as it did. -/
def burnFarUptoRow : OpenClaim := { program := "ytpieoljeikpemaadoor", sum := "7baf05b0900a268497288f1ebef4ecdfa7899ac908002a5f593db50233d95f6c", func := "breeze/breezelaw13.BurnFar", spec := "burnFar", unfollowed := true, recurses := true, named := ["math/bits.deBruijn32tab", "math/bits.deBruijn64tab"], apart := false, laid := [("math/bits.deBruijn32tab", laid_math_bits_deBruijn32tab), ("math/bits.deBruijn64tab", laid_math_bits_deBruijn64tab)], narrowed := true }
def BurnFarUptoSaid : Prop := burnFarUptoRow.holds Tryd.pinned (OpenSpec.upto burnFarSpec)

/-- 'breezelaw13.BurnNamed', WHERE WHAT IT READS IS OF BULK AT MOST 1048576: true; the input reads as it did. -/
def burnNamedUptoRow : OpenClaim := { program := "ytpieoljeikpemaadoor", sum := "7baf05b0900a268497288f1ebef4ecdfa7899ac908002a5f593db50233d95f6c", func := "breeze/breezelaw13.BurnNamed", spec := "burnNamed", unfollowed := true, recurses := true, named := ["math/bits.deBruijn32tab", "math/bits.deBruijn64tab"], apart := false, laid := [("math/bits.deBruijn32tab", laid_math_bits_deBruijn32tab), ("math/bits.deBruijn64tab", laid_math_bits_deBruijn64tab)], narrowed := true }
def BurnNamedUptoSaid : Prop := burnNamedUptoRow.holds Tryd.pinned (OpenSpec.upto burnNamedSpec)

/-- 'breezelaw13.BurnBarred', WHERE WHAT IT READS IS OF BULK AT MOST 1048576: true; the input reads as it did. -/
def burnBarredUptoRow : OpenClaim := { program := "ytpieoljeikpemaadoor", sum := "7baf05b0900a268497288f1ebef4ecdfa7899ac908002a5f593db50233d95f6c", func := "breeze/breezelaw13.BurnBarred", spec := "burnBarred", unfollowed := true, recurses := true, named := ["math/bits.deBruijn32tab", "math/bits.deBruijn64tab"], apart := false, laid := [("math/bits.deBruijn32tab", laid_math_bits_deBruijn32tab), ("math/bits.deBruijn64tab", laid_math_bits_deBruijn64tab)], narrowed := true }
def BurnBarredUptoSaid : Prop := burnBarredUptoRow.holds Tryd.pinned (OpenSpec.upto burnBarredSpec)

/-- 'breezelaw13.BurnTrees', WHERE WHAT IT READS IS OF BULK AT MOST 1048576: true; the input reads as it did. -/
def burnTreesUptoRow : OpenClaim := { program := "ytpieoljeikpemaadoor", sum := "7baf05b0900a268497288f1ebef4ecdfa7899ac908002a5f593db50233d95f6c", func := "breeze/breezelaw13.BurnTrees", spec := "burnTrees", unfollowed := true, recurses := true, named := ["math/bits.deBruijn32tab", "math/bits.deBruijn64tab"], apart := false, laid := [("math/bits.deBruijn32tab", laid_math_bits_deBruijn32tab), ("math/bits.deBruijn64tab", laid_math_bits_deBruijn64tab)], narrowed := true }
def BurnTreesUptoSaid : Prop := burnTreesUptoRow.holds Tryd.pinned (OpenSpec.upto burnTreesSpec)

/-- 'breezelaw13.BurnShown', WHERE WHAT IT READS IS OF BULK AT MOST 1048576: true; the input reads as it did. -/
def burnShownUptoRow : OpenClaim := { program := "ytpieoljeikpemaadoor", sum := "7baf05b0900a268497288f1ebef4ecdfa7899ac908002a5f593db50233d95f6c", func := "breeze/breezelaw13.BurnShown", spec := "burnShown", unfollowed := true, recurses := true, named := ["math/bits.deBruijn32tab", "math/bits.deBruijn64tab"], apart := false, laid := [("math/bits.deBruijn32tab", laid_math_bits_deBruijn32tab), ("math/bits.deBruijn64tab", laid_math_bits_deBruijn64tab)], narrowed := true }
def BurnShownUptoSaid : Prop := burnShownUptoRow.holds Tryd.pinned (OpenSpec.upto burnShownSpec)

end Rows
end Go.Proofs.YtpieoljeikpemaaDoor
