/-
  NARROWER THAN 'FOR EVERY INPUT', by the rows' own cells (each row's printed sentence says how): RagApart: laid · RagCubes: laid · RagLowered: laid · RagMissing: laid · RagBags: laid · RagKnown: laid · RagNamed: laid · RagLow: laid · RagMore: laid · RagPajor: laid · RagSauer: laid · RagRead: laid.
  DERIVED. THE GIVEN ROWS OF THIS SEAT. 12 by the template 'for every input the law returns true; each argument reads behind the call as it read before'; 0 by the template 'total and deterministic' (their statements: YtajhpbahjindkaaDoorTotals.lean).
  GIVEN WITH THE SEED: the statements are not yours to turn. If you find one false, say at which input.
  Laid BY PROGRAM, IN A SANDBOX (cutbox-rows.mjs): the forced cells as the released guide's own fill.sh prints them over the translation b41ef77534d0eadb… (all of the seat's roots in one cut). By AI agents, Wed Nov 11 2026. No macro, syntax, notation, axiom, sorry.
-/
import Derived.Test.YtajhpbahjindkaaDoorChecked
import GoSem.PinnedTables
import GoSem.Claim
import GoSem.ClaimJoined
import GoSem.ClaimMapViews
import Derived.JoinedTies
import Derived.KernelRfl
namespace Go.Proofs.YtajhpbahjindkaaDoor
/- THE CELL 'sum', in the pinned program and in every row, IS THE sha256 OF THE DUMP (.gsa) THAT YtajhpbahjindkaaDoorProg.lean LOADS. Nothing in Lean hashes anything: it is a label: what it is worth is what the hold of that sum in a sandbox is worth. -/
noncomputable def Tryd.pinned : Pinned := { name := "ytajhpbahjindkaadoor", sum := "b41ef77534d0eadb28215345094a9503c396c5dc5ee7f25a0ef587ba66df34d4", checked := Tryd.checked }
namespace Rows
def none {H : Type} : Left H := { results := [], args := [] }

/- WHAT THE LISTED PACKAGE-LEVEL VARIABLES READ AS WHEN THE CALL BEGINS. Each datum BY PROGRAM (the guide's laid-datum.mjs) off the statement by which the dump's own 'gosem.cut.vars' lays the variable. In a bare row this is a premise. The card (YtajhpbahjindkaaDoorCards.lean) ties it to the program's text. -/
def laid_math_bits_deBruijn32tab {H : Type} : DataW H := .agg [.lit (.int .u8 0), .lit (.int .u8 1), .lit (.int .u8 28), .lit (.int .u8 2), .lit (.int .u8 29), .lit (.int .u8 14), .lit (.int .u8 24), .lit (.int .u8 3), .lit (.int .u8 30), .lit (.int .u8 22), .lit (.int .u8 20), .lit (.int .u8 15), .lit (.int .u8 25), .lit (.int .u8 17), .lit (.int .u8 4), .lit (.int .u8 8), .lit (.int .u8 31), .lit (.int .u8 27), .lit (.int .u8 13), .lit (.int .u8 23), .lit (.int .u8 21), .lit (.int .u8 19), .lit (.int .u8 16), .lit (.int .u8 7), .lit (.int .u8 26), .lit (.int .u8 12), .lit (.int .u8 18), .lit (.int .u8 6), .lit (.int .u8 11), .lit (.int .u8 5), .lit (.int .u8 10), .lit (.int .u8 9)]
def laid_math_bits_deBruijn64tab {H : Type} : DataW H := .agg [.lit (.int .u8 0), .lit (.int .u8 1), .lit (.int .u8 56), .lit (.int .u8 2), .lit (.int .u8 57), .lit (.int .u8 49), .lit (.int .u8 28), .lit (.int .u8 3), .lit (.int .u8 61), .lit (.int .u8 58), .lit (.int .u8 42), .lit (.int .u8 50), .lit (.int .u8 38), .lit (.int .u8 29), .lit (.int .u8 17), .lit (.int .u8 4), .lit (.int .u8 62), .lit (.int .u8 47), .lit (.int .u8 59), .lit (.int .u8 36), .lit (.int .u8 45), .lit (.int .u8 43), .lit (.int .u8 51), .lit (.int .u8 22), .lit (.int .u8 53), .lit (.int .u8 39), .lit (.int .u8 33), .lit (.int .u8 30), .lit (.int .u8 24), .lit (.int .u8 18), .lit (.int .u8 12), .lit (.int .u8 5), .lit (.int .u8 63), .lit (.int .u8 55), .lit (.int .u8 48), .lit (.int .u8 27), .lit (.int .u8 60), .lit (.int .u8 41), .lit (.int .u8 37), .lit (.int .u8 16), .lit (.int .u8 46), .lit (.int .u8 35), .lit (.int .u8 44), .lit (.int .u8 21), .lit (.int .u8 52), .lit (.int .u8 32), .lit (.int .u8 23), .lit (.int .u8 11), .lit (.int .u8 54), .lit (.int .u8 26), .lit (.int .u8 40), .lit (.int .u8 15), .lit (.int .u8 34), .lit (.int .u8 20), .lit (.int .u8 31), .lit (.int .u8 10), .lit (.int .u8 25), .lit (.int .u8 14), .lit (.int .u8 19), .lit (.int .u8 9), .lit (.int .u8 13), .lit (.int .u8 8), .lit (.int .u8 7), .lit (.int .u8 6)]
def laid_unicode_utf8_acceptRanges {H : Type} : DataW H := .agg [.agg [.lit (.int .u8 128), .lit (.int .u8 191)], .agg [.lit (.int .u8 160), .lit (.int .u8 191)], .agg [.lit (.int .u8 128), .lit (.int .u8 159)], .agg [.lit (.int .u8 144), .lit (.int .u8 191)], .agg [.lit (.int .u8 128), .lit (.int .u8 143)], .agg [.lit (.int .u8 0), .lit (.int .u8 0)], .agg [.lit (.int .u8 0), .lit (.int .u8 0)], .agg [.lit (.int .u8 0), .lit (.int .u8 0)], .agg [.lit (.int .u8 0), .lit (.int .u8 0)], .agg [.lit (.int .u8 0), .lit (.int .u8 0)], .agg [.lit (.int .u8 0), .lit (.int .u8 0)], .agg [.lit (.int .u8 0), .lit (.int .u8 0)], .agg [.lit (.int .u8 0), .lit (.int .u8 0)], .agg [.lit (.int .u8 0), .lit (.int .u8 0)], .agg [.lit (.int .u8 0), .lit (.int .u8 0)], .agg [.lit (.int .u8 0), .lit (.int .u8 0)]]
/-- One of Go's own tables, pinned by name: the form's constant. -/
def laid_unicode_CaseRanges : DataW Unit := Go.Pinned.caseRanges
/-- One of Go's own tables, pinned by name: the form's constant. -/
def laid_unicode_utf8_first : DataW Unit := Go.Pinned.utf8First

/-- 'breezelaw11.RagApart': WHATEVER THE INPUT: true; the input reads as it did. -/
def ragApartSpec : ChangeSpec := { name := "ragApart", fn := fun _ => fun
  | [d1, d2, d3, d4] => { results := [.lit (.bool true)], args := [d1, d2, d3, d4] }
  | _ => none }
def ragApartRow : OpenClaim := { program := "ytajhpbahjindkaadoor", sum := "b41ef77534d0eadb28215345094a9503c396c5dc5ee7f25a0ef587ba66df34d4", func := "breeze/breezelaw11.RagApart", spec := "ragApart", unfollowed := true, recurses := true, named := ["math/bits.deBruijn32tab", "math/bits.deBruijn64tab"], apart := false, laid := [("math/bits.deBruijn32tab", laid_math_bits_deBruijn32tab), ("math/bits.deBruijn64tab", laid_math_bits_deBruijn64tab)] }
def RagApartSaid : Prop := ragApartRow.holds Tryd.pinned (OpenSpec.ofChange ragApartSpec)

/-- ITS FALSE NEIGHBOUR: 'it returns false'. Refute it at one input. -/
def ragApartWrong : ChangeSpec := { name := "ragApart", fn := fun _ => fun
  | [d1, d2, d3, d4] => { results := [.lit (.bool false)], args := [d1, d2, d3, d4] }
  | _ => none }
def RagApartWrongFalsely : Prop := ragApartRow.holds Tryd.pinned (OpenSpec.ofChange ragApartWrong)

/-- 'breezelaw11.RagCubes': WHATEVER THE INPUT: true; the input reads as it did. -/
def ragCubesSpec : ChangeSpec := { name := "ragCubes", fn := fun _ => fun
  | [d1, d2, d3] => { results := [.lit (.bool true)], args := [d1, d2, d3] }
  | _ => none }
def ragCubesRow : OpenClaim := { program := "ytajhpbahjindkaadoor", sum := "b41ef77534d0eadb28215345094a9503c396c5dc5ee7f25a0ef587ba66df34d4", func := "breeze/breezelaw11.RagCubes", spec := "ragCubes", unfollowed := true, recurses := true, named := ["math/bits.deBruijn32tab", "math/bits.deBruijn64tab"], apart := false, laid := [("math/bits.deBruijn32tab", laid_math_bits_deBruijn32tab), ("math/bits.deBruijn64tab", laid_math_bits_deBruijn64tab)] }
def RagCubesSaid : Prop := ragCubesRow.holds Tryd.pinned (OpenSpec.ofChange ragCubesSpec)

/-- ITS FALSE NEIGHBOUR: 'it returns false'. Refute it at one input. -/
def ragCubesWrong : ChangeSpec := { name := "ragCubes", fn := fun _ => fun
  | [d1, d2, d3] => { results := [.lit (.bool false)], args := [d1, d2, d3] }
  | _ => none }
def RagCubesWrongFalsely : Prop := ragCubesRow.holds Tryd.pinned (OpenSpec.ofChange ragCubesWrong)

/-- 'breezelaw11.RagLowered': WHATEVER THE INPUT: true; the input reads as it did. -/
def ragLoweredSpec : ChangeSpec := { name := "ragLowered", fn := fun _ => fun
  | [d1, d2, d3] => { results := [.lit (.bool true)], args := [d1, d2, d3] }
  | _ => none }
def ragLoweredRow : OpenClaim := { program := "ytajhpbahjindkaadoor", sum := "b41ef77534d0eadb28215345094a9503c396c5dc5ee7f25a0ef587ba66df34d4", func := "breeze/breezelaw11.RagLowered", spec := "ragLowered", unfollowed := true, recurses := true, named := ["math/bits.deBruijn32tab", "math/bits.deBruijn64tab"], apart := false, laid := [("math/bits.deBruijn32tab", laid_math_bits_deBruijn32tab), ("math/bits.deBruijn64tab", laid_math_bits_deBruijn64tab)] }
def RagLoweredSaid : Prop := ragLoweredRow.holds Tryd.pinned (OpenSpec.ofChange ragLoweredSpec)

/-- ITS FALSE NEIGHBOUR: 'it returns false'. Refute it at one input. -/
def ragLoweredWrong : ChangeSpec := { name := "ragLowered", fn := fun _ => fun
  | [d1, d2, d3] => { results := [.lit (.bool false)], args := [d1, d2, d3] }
  | _ => none }
def RagLoweredWrongFalsely : Prop := ragLoweredRow.holds Tryd.pinned (OpenSpec.ofChange ragLoweredWrong)

/-- 'breezelaw11.RagMissing': WHATEVER THE INPUT: true; the input reads as it did. -/
def ragMissingSpec : ChangeSpec := { name := "ragMissing", fn := fun _ => fun
  | [d1, d2] => { results := [.lit (.bool true)], args := [d1, d2] }
  | _ => none }
def ragMissingRow : OpenClaim := { program := "ytajhpbahjindkaadoor", sum := "b41ef77534d0eadb28215345094a9503c396c5dc5ee7f25a0ef587ba66df34d4", func := "breeze/breezelaw11.RagMissing", spec := "ragMissing", unfollowed := true, recurses := true, named := ["math/bits.deBruijn32tab", "math/bits.deBruijn64tab"], apart := false, laid := [("math/bits.deBruijn32tab", laid_math_bits_deBruijn32tab), ("math/bits.deBruijn64tab", laid_math_bits_deBruijn64tab)] }
def RagMissingSaid : Prop := ragMissingRow.holds Tryd.pinned (OpenSpec.ofChange ragMissingSpec)

/-- ITS FALSE NEIGHBOUR: 'it returns false'. Refute it at one input. -/
def ragMissingWrong : ChangeSpec := { name := "ragMissing", fn := fun _ => fun
  | [d1, d2] => { results := [.lit (.bool false)], args := [d1, d2] }
  | _ => none }
def RagMissingWrongFalsely : Prop := ragMissingRow.holds Tryd.pinned (OpenSpec.ofChange ragMissingWrong)

/-- 'breezelaw11.RagBags': WHATEVER THE INPUT: true; the input reads as it did. -/
def ragBagsSpec : ChangeSpec := { name := "ragBags", fn := fun _ => fun
  | [d1, d2, d3] => { results := [.lit (.bool true)], args := [d1, d2, d3] }
  | _ => none }
def ragBagsRow : OpenClaim := { program := "ytajhpbahjindkaadoor", sum := "b41ef77534d0eadb28215345094a9503c396c5dc5ee7f25a0ef587ba66df34d4", func := "breeze/breezelaw11.RagBags", spec := "ragBags", unfollowed := true, recurses := true, named := ["math/bits.deBruijn32tab", "math/bits.deBruijn64tab"], apart := false, laid := [("math/bits.deBruijn32tab", laid_math_bits_deBruijn32tab), ("math/bits.deBruijn64tab", laid_math_bits_deBruijn64tab)] }
def RagBagsSaid : Prop := ragBagsRow.holds Tryd.pinned (OpenSpec.ofChange ragBagsSpec)

/-- ITS FALSE NEIGHBOUR: 'it returns false'. Refute it at one input. -/
def ragBagsWrong : ChangeSpec := { name := "ragBags", fn := fun _ => fun
  | [d1, d2, d3] => { results := [.lit (.bool false)], args := [d1, d2, d3] }
  | _ => none }
def RagBagsWrongFalsely : Prop := ragBagsRow.holds Tryd.pinned (OpenSpec.ofChange ragBagsWrong)

/-- 'breezelaw11.RagKnown': WHATEVER THE INPUT: true; the input reads as it did. -/
def ragKnownSpec : ChangeSpec := { name := "ragKnown", fn := fun _ => fun
  | [] => { results := [.lit (.bool true)], args := [] }
  | _ => none }
def ragKnownRow : OpenClaim := { program := "ytajhpbahjindkaadoor", sum := "b41ef77534d0eadb28215345094a9503c396c5dc5ee7f25a0ef587ba66df34d4", func := "breeze/breezelaw11.RagKnown", spec := "ragKnown", unfollowed := true, recurses := true, named := ["math/bits.deBruijn32tab", "math/bits.deBruijn64tab"], apart := false, laid := [("math/bits.deBruijn32tab", laid_math_bits_deBruijn32tab), ("math/bits.deBruijn64tab", laid_math_bits_deBruijn64tab)] }
def RagKnownSaid : Prop := ragKnownRow.holds Tryd.pinned (OpenSpec.ofChange ragKnownSpec)

/-- ITS FALSE NEIGHBOUR: 'it returns false'. Refute it at one input. -/
def ragKnownWrong : ChangeSpec := { name := "ragKnown", fn := fun _ => fun
  | [] => { results := [.lit (.bool false)], args := [] }
  | _ => none }
def RagKnownWrongFalsely : Prop := ragKnownRow.holds Tryd.pinned (OpenSpec.ofChange ragKnownWrong)

/-- 'breezelaw11.RagNamed': WHATEVER THE INPUT: true; the input reads as it did. -/
def ragNamedSpec : ChangeSpec := { name := "ragNamed", fn := fun _ => fun
  | [d1, d2] => { results := [.lit (.bool true)], args := [d1, d2] }
  | _ => none }
def ragNamedRow : OpenClaim := { program := "ytajhpbahjindkaadoor", sum := "b41ef77534d0eadb28215345094a9503c396c5dc5ee7f25a0ef587ba66df34d4", func := "breeze/breezelaw11.RagNamed", spec := "ragNamed", unfollowed := true, recurses := true, named := ["math/bits.deBruijn32tab", "math/bits.deBruijn64tab"], apart := false, laid := [("math/bits.deBruijn32tab", laid_math_bits_deBruijn32tab), ("math/bits.deBruijn64tab", laid_math_bits_deBruijn64tab)] }
def RagNamedSaid : Prop := ragNamedRow.holds Tryd.pinned (OpenSpec.ofChange ragNamedSpec)

/-- ITS FALSE NEIGHBOUR: 'it returns false'. Refute it at one input. -/
def ragNamedWrong : ChangeSpec := { name := "ragNamed", fn := fun _ => fun
  | [d1, d2] => { results := [.lit (.bool false)], args := [d1, d2] }
  | _ => none }
def RagNamedWrongFalsely : Prop := ragNamedRow.holds Tryd.pinned (OpenSpec.ofChange ragNamedWrong)

/-- 'breezelaw11.RagLow': WHATEVER THE INPUT: true; the input reads as it did. -/
def ragLowSpec : ChangeSpec := { name := "ragLow", fn := fun _ => fun
  | [d1, d2] => { results := [.lit (.bool true)], args := [d1, d2] }
  | _ => none }
def ragLowRow : OpenClaim := { program := "ytajhpbahjindkaadoor", sum := "b41ef77534d0eadb28215345094a9503c396c5dc5ee7f25a0ef587ba66df34d4", func := "breeze/breezelaw11.RagLow", spec := "ragLow", unfollowed := true, recurses := true, named := ["math/bits.deBruijn32tab", "math/bits.deBruijn64tab"], apart := false, laid := [("math/bits.deBruijn32tab", laid_math_bits_deBruijn32tab), ("math/bits.deBruijn64tab", laid_math_bits_deBruijn64tab)] }
def RagLowSaid : Prop := ragLowRow.holds Tryd.pinned (OpenSpec.ofChange ragLowSpec)

/-- ITS FALSE NEIGHBOUR: 'it returns false'. Refute it at one input. -/
def ragLowWrong : ChangeSpec := { name := "ragLow", fn := fun _ => fun
  | [d1, d2] => { results := [.lit (.bool false)], args := [d1, d2] }
  | _ => none }
def RagLowWrongFalsely : Prop := ragLowRow.holds Tryd.pinned (OpenSpec.ofChange ragLowWrong)

/-- 'breezelaw11.RagMore': WHATEVER THE INPUT: true; the input reads as it did. -/
def ragMoreSpec : ChangeSpec := { name := "ragMore", fn := fun _ => fun
  | [d1, d2] => { results := [.lit (.bool true)], args := [d1, d2] }
  | _ => none }
def ragMoreRow : OpenClaim := { program := "ytajhpbahjindkaadoor", sum := "b41ef77534d0eadb28215345094a9503c396c5dc5ee7f25a0ef587ba66df34d4", func := "breeze/breezelaw11.RagMore", spec := "ragMore", unfollowed := true, recurses := true, named := ["math/bits.deBruijn32tab", "math/bits.deBruijn64tab"], apart := false, laid := [("math/bits.deBruijn32tab", laid_math_bits_deBruijn32tab), ("math/bits.deBruijn64tab", laid_math_bits_deBruijn64tab)] }
def RagMoreSaid : Prop := ragMoreRow.holds Tryd.pinned (OpenSpec.ofChange ragMoreSpec)

/-- ITS FALSE NEIGHBOUR: 'it returns false'. Refute it at one input. -/
def ragMoreWrong : ChangeSpec := { name := "ragMore", fn := fun _ => fun
  | [d1, d2] => { results := [.lit (.bool false)], args := [d1, d2] }
  | _ => none }
def RagMoreWrongFalsely : Prop := ragMoreRow.holds Tryd.pinned (OpenSpec.ofChange ragMoreWrong)

/-- 'breezelaw11.RagPajor': WHATEVER THE INPUT: true; the input reads as it did. -/
def ragPajorSpec : ChangeSpec := { name := "ragPajor", fn := fun _ => fun
  | [d] => { results := [.lit (.bool true)], args := [d] }
  | _ => none }
def ragPajorRow : OpenClaim := { program := "ytajhpbahjindkaadoor", sum := "b41ef77534d0eadb28215345094a9503c396c5dc5ee7f25a0ef587ba66df34d4", func := "breeze/breezelaw11.RagPajor", spec := "ragPajor", unfollowed := true, recurses := true, named := ["math/bits.deBruijn32tab", "math/bits.deBruijn64tab"], apart := false, laid := [("math/bits.deBruijn32tab", laid_math_bits_deBruijn32tab), ("math/bits.deBruijn64tab", laid_math_bits_deBruijn64tab)] }
def RagPajorSaid : Prop := ragPajorRow.holds Tryd.pinned (OpenSpec.ofChange ragPajorSpec)

/-- ITS FALSE NEIGHBOUR: 'it returns false'. Refute it at one input. -/
def ragPajorWrong : ChangeSpec := { name := "ragPajor", fn := fun _ => fun
  | [d] => { results := [.lit (.bool false)], args := [d] }
  | _ => none }
def RagPajorWrongFalsely : Prop := ragPajorRow.holds Tryd.pinned (OpenSpec.ofChange ragPajorWrong)

/-- 'breezelaw11.RagSauer': WHATEVER THE INPUT: true; the input reads as it did. -/
def ragSauerSpec : ChangeSpec := { name := "ragSauer", fn := fun _ => fun
  | [d] => { results := [.lit (.bool true)], args := [d] }
  | _ => none }
def ragSauerRow : OpenClaim := { program := "ytajhpbahjindkaadoor", sum := "b41ef77534d0eadb28215345094a9503c396c5dc5ee7f25a0ef587ba66df34d4", func := "breeze/breezelaw11.RagSauer", spec := "ragSauer", unfollowed := true, recurses := true, named := ["math/bits.deBruijn32tab", "math/bits.deBruijn64tab"], apart := false, laid := [("math/bits.deBruijn32tab", laid_math_bits_deBruijn32tab), ("math/bits.deBruijn64tab", laid_math_bits_deBruijn64tab)] }
def RagSauerSaid : Prop := ragSauerRow.holds Tryd.pinned (OpenSpec.ofChange ragSauerSpec)

/-- ITS FALSE NEIGHBOUR: 'it returns false'. Refute it at one input. -/
def ragSauerWrong : ChangeSpec := { name := "ragSauer", fn := fun _ => fun
  | [d] => { results := [.lit (.bool false)], args := [d] }
  | _ => none }
def RagSauerWrongFalsely : Prop := ragSauerRow.holds Tryd.pinned (OpenSpec.ofChange ragSauerWrong)

/-- 'breezelaw11.RagRead': WHATEVER THE INPUT: true; the input reads as it did. -/
def ragReadSpec : ChangeSpec := { name := "ragRead", fn := fun _ => fun
  | [d1, d2, d3] => { results := [.lit (.bool true)], args := [d1, d2, d3] }
  | _ => none }
def ragReadRow : OpenClaim := { program := "ytajhpbahjindkaadoor", sum := "b41ef77534d0eadb28215345094a9503c396c5dc5ee7f25a0ef587ba66df34d4", func := "breeze/breezelaw11.RagRead", spec := "ragRead", inPlace := ["internal/abi.NoEscape", "internal/bytealg.MakeNoZero"], unfollowed := true, recurses := true, named := ["math/bits.deBruijn32tab", "math/bits.deBruijn64tab", "unicode/utf8.first", "unicode/utf8.acceptRanges", "unicode.CaseRanges"], apart := false, laid := [("math/bits.deBruijn32tab", laid_math_bits_deBruijn32tab), ("math/bits.deBruijn64tab", laid_math_bits_deBruijn64tab), ("unicode/utf8.acceptRanges", laid_unicode_utf8_acceptRanges), ("unicode.CaseRanges", laid_unicode_CaseRanges), ("unicode/utf8.first", laid_unicode_utf8_first)] }
def RagReadSaid : Prop := ragReadRow.holds Tryd.pinned (OpenSpec.ofChange ragReadSpec)

/-- ITS FALSE NEIGHBOUR: 'it returns false'. Refute it at one input. -/
def ragReadWrong : ChangeSpec := { name := "ragRead", fn := fun _ => fun
  | [d1, d2, d3] => { results := [.lit (.bool false)], args := [d1, d2, d3] }
  | _ => none }
def RagReadWrongFalsely : Prop := ragReadRow.holds Tryd.pinned (OpenSpec.ofChange ragReadWrong)

/- THE SECOND FORM. 'bulk': how many values and letters a reading holds, each counted each time it is reached (what is shared counts as often as it is met; a slice's spare places count too). A statement '..UptoSaid' is the law's where the arguments, and the package variables that the reading takes, are together of bulk at most 1048576: NARROWER than '..Said'. Prove '..Said' where nothing that the law and all that it calls make is longer than what came in: it says more and counts as full. Else prove '..UptoSaid'. A law counts once. -/
mutual
def uptoBulk {H : Type} : DataW H → Nat
  | .lit (.string bytes) => bytes.length + 1
  | .lit _ => 1
  | .nil => 1
  | .ptr d => uptoBulk d + 1
  | .slice elems spare => uptoBulkAll elems + uptoBulkAll spare + 1
  | .agg parts => uptoBulkAll parts + 1
  | .iface _ d => uptoBulk d + 1
  | .map entries => uptoBulkEntries entries + 1
  | .held _ => 1
def uptoBulkAll {H : Type} : List (DataW H) → Nat
  | [] => 0
  | d :: r => uptoBulk d + uptoBulkAll r
def uptoBulkEntries {H : Type} : List (Lit × DataW H) → Nat
  | [] => 0
  | x :: r => uptoBulkEntry x + uptoBulkEntries r
def uptoBulkEntry {H : Type} : Lit × DataW H → Nat
  | (.string bytes, d) => bytes.length + uptoBulk d + 1
  | (_, d) => uptoBulk d + 1
 end
def uptoSmall : (H : Type) → List (DataW H) → Bool := fun _ ds => decide (uptoBulkAll ds ≤ 1048576)
def OpenSpec.upto (s : _root_.Go.ChangeSpec) : _root_.Go.OpenSpec := { _root_.Go.OpenSpec.ofChange s with cond := some uptoSmall }

/-- 'breezelaw11.RagApart', WHERE WHAT IT READS IS OF BULK AT MOST 1048576: true; the input reads as it did. -/
def ragApartUptoRow : OpenClaim := { program := "ytajhpbahjindkaadoor", sum := "b41ef77534d0eadb28215345094a9503c396c5dc5ee7f25a0ef587ba66df34d4", func := "breeze/breezelaw11.RagApart", spec := "ragApart", unfollowed := true, recurses := true, named := ["math/bits.deBruijn32tab", "math/bits.deBruijn64tab"], apart := false, laid := [("math/bits.deBruijn32tab", laid_math_bits_deBruijn32tab), ("math/bits.deBruijn64tab", laid_math_bits_deBruijn64tab)], narrowed := true }
def RagApartUptoSaid : Prop := ragApartUptoRow.holds Tryd.pinned (OpenSpec.upto ragApartSpec)

/-- 'breezelaw11.RagCubes', WHERE WHAT IT READS IS OF BULK AT MOST 1048576: true; the input reads as it did. -/
def ragCubesUptoRow : OpenClaim := { program := "ytajhpbahjindkaadoor", sum := "b41ef77534d0eadb28215345094a9503c396c5dc5ee7f25a0ef587ba66df34d4", func := "breeze/breezelaw11.RagCubes", spec := "ragCubes", unfollowed := true, recurses := true, named := ["math/bits.deBruijn32tab", "math/bits.deBruijn64tab"], apart := false, laid := [("math/bits.deBruijn32tab", laid_math_bits_deBruijn32tab), ("math/bits.deBruijn64tab", laid_math_bits_deBruijn64tab)], narrowed := true }
def RagCubesUptoSaid : Prop := ragCubesUptoRow.holds Tryd.pinned (OpenSpec.upto ragCubesSpec)

/-- 'breezelaw11.RagLowered', WHERE WHAT IT READS IS OF BULK AT MOST 1048576: true; the input reads as it did. -/
def ragLoweredUptoRow : OpenClaim := { program := "ytajhpbahjindkaadoor", sum := "b41ef77534d0eadb28215345094a9503c396c5dc5ee7f25a0ef587ba66df34d4", func := "breeze/breezelaw11.RagLowered", spec := "ragLowered", unfollowed := true, recurses := true, named := ["math/bits.deBruijn32tab", "math/bits.deBruijn64tab"], apart := false, laid := [("math/bits.deBruijn32tab", laid_math_bits_deBruijn32tab), ("math/bits.deBruijn64tab", laid_math_bits_deBruijn64tab)], narrowed := true }
def RagLoweredUptoSaid : Prop := ragLoweredUptoRow.holds Tryd.pinned (OpenSpec.upto ragLoweredSpec)

/-- 'breezelaw11.RagMissing', WHERE WHAT IT READS IS OF BULK AT MOST 1048576: true; the input reads as it did. -/
def ragMissingUptoRow : OpenClaim := { program := "ytajhpbahjindkaadoor", sum := "b41ef77534d0eadb28215345094a9503c396c5dc5ee7f25a0ef587ba66df34d4", func := "breeze/breezelaw11.RagMissing", spec := "ragMissing", unfollowed := true, recurses := true, named := ["math/bits.deBruijn32tab", "math/bits.deBruijn64tab"], apart := false, laid := [("math/bits.deBruijn32tab", laid_math_bits_deBruijn32tab), ("math/bits.deBruijn64tab", laid_math_bits_deBruijn64tab)], narrowed := true }
def RagMissingUptoSaid : Prop := ragMissingUptoRow.holds Tryd.pinned (OpenSpec.upto ragMissingSpec)

/-- 'breezelaw11.RagBags', WHERE WHAT IT READS IS OF BULK AT MOST 1048576: true; the input reads as it did. -/
def ragBagsUptoRow : OpenClaim := { program := "ytajhpbahjindkaadoor", sum := "b41ef77534d0eadb28215345094a9503c396c5dc5ee7f25a0ef587ba66df34d4", func := "breeze/breezelaw11.RagBags", spec := "ragBags", unfollowed := true, recurses := true, named := ["math/bits.deBruijn32tab", "math/bits.deBruijn64tab"], apart := false, laid := [("math/bits.deBruijn32tab", laid_math_bits_deBruijn32tab), ("math/bits.deBruijn64tab", laid_math_bits_deBruijn64tab)], narrowed := true }
def RagBagsUptoSaid : Prop := ragBagsUptoRow.holds Tryd.pinned (OpenSpec.upto ragBagsSpec)

/-- 'breezelaw11.RagKnown', WHERE WHAT IT READS IS OF BULK AT MOST 1048576: true; the input reads as it did. -/
def ragKnownUptoRow : OpenClaim := { program := "ytajhpbahjindkaadoor", sum := "b41ef77534d0eadb28215345094a9503c396c5dc5ee7f25a0ef587ba66df34d4", func := "breeze/breezelaw11.RagKnown", spec := "ragKnown", unfollowed := true, recurses := true, named := ["math/bits.deBruijn32tab", "math/bits.deBruijn64tab"], apart := false, laid := [("math/bits.deBruijn32tab", laid_math_bits_deBruijn32tab), ("math/bits.deBruijn64tab", laid_math_bits_deBruijn64tab)], narrowed := true }
def RagKnownUptoSaid : Prop := ragKnownUptoRow.holds Tryd.pinned (OpenSpec.upto ragKnownSpec)

/-- 'breezelaw11.RagNamed', WHERE WHAT IT READS IS OF BULK AT MOST 1048576: true; the input reads as it did. -/
def ragNamedUptoRow : OpenClaim := { program := "ytajhpbahjindkaadoor", sum := "b41ef77534d0eadb28215345094a9503c396c5dc5ee7f25a0ef587ba66df34d4", func := "breeze/breezelaw11.RagNamed", spec := "ragNamed", unfollowed := true, recurses := true, named := ["math/bits.deBruijn32tab", "math/bits.deBruijn64tab"], apart := false, laid := [("math/bits.deBruijn32tab", laid_math_bits_deBruijn32tab), ("math/bits.deBruijn64tab", laid_math_bits_deBruijn64tab)], narrowed := true }
def RagNamedUptoSaid : Prop := ragNamedUptoRow.holds Tryd.pinned (OpenSpec.upto ragNamedSpec)

/-- 'breezelaw11.RagLow', WHERE WHAT IT READS IS OF BULK AT MOST 1048576: true; the input reads as it did. -/
def ragLowUptoRow : OpenClaim := { program := "ytajhpbahjindkaadoor", sum := "b41ef77534d0eadb28215345094a9503c396c5dc5ee7f25a0ef587ba66df34d4", func := "breeze/breezelaw11.RagLow", spec := "ragLow", unfollowed := true, recurses := true, named := ["math/bits.deBruijn32tab", "math/bits.deBruijn64tab"], apart := false, laid := [("math/bits.deBruijn32tab", laid_math_bits_deBruijn32tab), ("math/bits.deBruijn64tab", laid_math_bits_deBruijn64tab)], narrowed := true }
def RagLowUptoSaid : Prop := ragLowUptoRow.holds Tryd.pinned (OpenSpec.upto ragLowSpec)

/-- 'breezelaw11.RagMore', WHERE WHAT IT READS IS OF BULK AT MOST 1048576: true; the input reads as it did. -/
def ragMoreUptoRow : OpenClaim := { program := "ytajhpbahjindkaadoor", sum := "b41ef77534d0eadb28215345094a9503c396c5dc5ee7f25a0ef587ba66df34d4", func := "breeze/breezelaw11.RagMore", spec := "ragMore", unfollowed := true, recurses := true, named := ["math/bits.deBruijn32tab", "math/bits.deBruijn64tab"], apart := false, laid := [("math/bits.deBruijn32tab", laid_math_bits_deBruijn32tab), ("math/bits.deBruijn64tab", laid_math_bits_deBruijn64tab)], narrowed := true }
def RagMoreUptoSaid : Prop := ragMoreUptoRow.holds Tryd.pinned (OpenSpec.upto ragMoreSpec)

/-- 'breezelaw11.RagPajor', WHERE WHAT IT READS IS OF BULK AT MOST 1048576: true; the input reads as it did. -/
def ragPajorUptoRow : OpenClaim := { program := "ytajhpbahjindkaadoor", sum := "b41ef77534d0eadb28215345094a9503c396c5dc5ee7f25a0ef587ba66df34d4", func := "breeze/breezelaw11.RagPajor", spec := "ragPajor", unfollowed := true, recurses := true, named := ["math/bits.deBruijn32tab", "math/bits.deBruijn64tab"], apart := false, laid := [("math/bits.deBruijn32tab", laid_math_bits_deBruijn32tab), ("math/bits.deBruijn64tab", laid_math_bits_deBruijn64tab)], narrowed := true }
def RagPajorUptoSaid : Prop := ragPajorUptoRow.holds Tryd.pinned (OpenSpec.upto ragPajorSpec)

/-- 'breezelaw11.RagSauer', WHERE WHAT IT READS IS OF BULK AT MOST 1048576: true; the input reads as it did. -/
def ragSauerUptoRow : OpenClaim := { program := "ytajhpbahjindkaadoor", sum := "b41ef77534d0eadb28215345094a9503c396c5dc5ee7f25a0ef587ba66df34d4", func := "breeze/breezelaw11.RagSauer", spec := "ragSauer", unfollowed := true, recurses := true, named := ["math/bits.deBruijn32tab", "math/bits.deBruijn64tab"], apart := false, laid := [("math/bits.deBruijn32tab", laid_math_bits_deBruijn32tab), ("math/bits.deBruijn64tab", laid_math_bits_deBruijn64tab)], narrowed := true }
def RagSauerUptoSaid : Prop := ragSauerUptoRow.holds Tryd.pinned (OpenSpec.upto ragSauerSpec)

/-- 'breezelaw11.RagRead', WHERE WHAT IT READS IS OF BULK AT MOST 1048576: true; the input reads as it did. -/
def ragReadUptoRow : OpenClaim := { program := "ytajhpbahjindkaadoor", sum := "b41ef77534d0eadb28215345094a9503c396c5dc5ee7f25a0ef587ba66df34d4", func := "breeze/breezelaw11.RagRead", spec := "ragRead", inPlace := ["internal/abi.NoEscape", "internal/bytealg.MakeNoZero"], unfollowed := true, recurses := true, named := ["math/bits.deBruijn32tab", "math/bits.deBruijn64tab", "unicode/utf8.first", "unicode/utf8.acceptRanges", "unicode.CaseRanges"], apart := false, laid := [("math/bits.deBruijn32tab", laid_math_bits_deBruijn32tab), ("math/bits.deBruijn64tab", laid_math_bits_deBruijn64tab), ("unicode/utf8.acceptRanges", laid_unicode_utf8_acceptRanges), ("unicode.CaseRanges", laid_unicode_CaseRanges), ("unicode/utf8.first", laid_unicode_utf8_first)], narrowed := true }
def RagReadUptoSaid : Prop := ragReadUptoRow.holds Tryd.pinned (OpenSpec.upto ragReadSpec)

end Rows
end Go.Proofs.YtajhpbahjindkaaDoor
