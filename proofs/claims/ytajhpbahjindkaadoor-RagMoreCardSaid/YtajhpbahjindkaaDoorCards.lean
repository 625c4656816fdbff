/-
  DERIVED. GIVEN WITH THE SEED: THE CARDS: each row of YtajhpbahjindkaaDoorRows.lean that lists a variable, with what it lists TIED to the program's text (the seventh form; the later family's looks); each row that meets fmt, with fmt's text TOLD by the authors' own Lean function (tested against real Go, not proved from fmt's source: count such statements apart). THE CARD IS WHAT COUNTS. Prove the row's statement (the work); the ties are given (YtajhpbahjindkaaDoorTie.lean); close each card by the builder's one call (the guide's Derived/Test/ToyasCard.lean, 'card_holds'). Laid BY PROGRAM, IN A SANDBOX (cutbox-door.mjs). By AI agents, Wed Nov 11 2026. No macro, syntax, notation, axiom, sorry.
-/
import Derived.Test.YtajhpbahjindkaaDoorRows
import GoSem.ClaimSeven
namespace Go.Proofs.YtajhpbahjindkaaDoor
namespace Rows

/-- THE TIED CARD OF 'breezelaw11.RagApart'. -/
def ragApartCard : Claim7 := { stood := { row := ragApartRow, standIns := [], harness := (true, "595d481f42e03badc9c0f1234fd631d2426b055cf5ae7324119c255aa3788f57"), looks := false }, kinds := [], alts := [], laidByText := true, laidKinds := [.data, .data], laidTests := true, laidLooks := .later }
def RagApartCardSaid : Prop := Claim7.holds Tryd.pinned (.plain (OpenSpec.ofChange ragApartSpec)) ragApartCard

/-- THE TIED CARD OF 'breezelaw11.RagCubes'. -/
def ragCubesCard : Claim7 := { stood := { row := ragCubesRow, standIns := [], harness := (true, "595d481f42e03badc9c0f1234fd631d2426b055cf5ae7324119c255aa3788f57"), looks := false }, kinds := [], alts := [], laidByText := true, laidKinds := [.data, .data], laidTests := true, laidLooks := .later }
def RagCubesCardSaid : Prop := Claim7.holds Tryd.pinned (.plain (OpenSpec.ofChange ragCubesSpec)) ragCubesCard

/-- THE TIED CARD OF 'breezelaw11.RagLowered'. -/
def ragLoweredCard : Claim7 := { stood := { row := ragLoweredRow, standIns := [], harness := (true, "595d481f42e03badc9c0f1234fd631d2426b055cf5ae7324119c255aa3788f57"), looks := false }, kinds := [], alts := [], laidByText := true, laidKinds := [.data, .data], laidTests := true, laidLooks := .later }
def RagLoweredCardSaid : Prop := Claim7.holds Tryd.pinned (.plain (OpenSpec.ofChange ragLoweredSpec)) ragLoweredCard

/-- THE TIED CARD OF 'breezelaw11.RagMissing'. -/
def ragMissingCard : Claim7 := { stood := { row := ragMissingRow, standIns := [], harness := (true, "595d481f42e03badc9c0f1234fd631d2426b055cf5ae7324119c255aa3788f57"), looks := false }, kinds := [], alts := [], laidByText := true, laidKinds := [.data, .data], laidTests := true, laidLooks := .later }
def RagMissingCardSaid : Prop := Claim7.holds Tryd.pinned (.plain (OpenSpec.ofChange ragMissingSpec)) ragMissingCard

/-- THE TIED CARD OF 'breezelaw11.RagBags'. -/
def ragBagsCard : Claim7 := { stood := { row := ragBagsRow, standIns := [], harness := (true, "595d481f42e03badc9c0f1234fd631d2426b055cf5ae7324119c255aa3788f57"), looks := false }, kinds := [], alts := [], laidByText := true, laidKinds := [.data, .data], laidTests := true, laidLooks := .later }
def RagBagsCardSaid : Prop := Claim7.holds Tryd.pinned (.plain (OpenSpec.ofChange ragBagsSpec)) ragBagsCard

/-- THE TIED CARD OF 'breezelaw11.RagKnown'. -/
def ragKnownCard : Claim7 := { stood := { row := ragKnownRow, standIns := [], harness := (true, "595d481f42e03badc9c0f1234fd631d2426b055cf5ae7324119c255aa3788f57"), looks := false }, kinds := [], alts := [], laidByText := true, laidKinds := [.data, .data], laidTests := true, laidLooks := .later }
def RagKnownCardSaid : Prop := Claim7.holds Tryd.pinned (.plain (OpenSpec.ofChange ragKnownSpec)) ragKnownCard

/-- THE TIED CARD OF 'breezelaw11.RagNamed'. -/
def ragNamedCard : Claim7 := { stood := { row := ragNamedRow, standIns := [], harness := (true, "595d481f42e03badc9c0f1234fd631d2426b055cf5ae7324119c255aa3788f57"), looks := false }, kinds := [], alts := [], laidByText := true, laidKinds := [.data, .data], laidTests := true, laidLooks := .later }
def RagNamedCardSaid : Prop := Claim7.holds Tryd.pinned (.plain (OpenSpec.ofChange ragNamedSpec)) ragNamedCard

/-- THE TIED CARD OF 'breezelaw11.RagLow'. -/
def ragLowCard : Claim7 := { stood := { row := ragLowRow, standIns := [], harness := (true, "595d481f42e03badc9c0f1234fd631d2426b055cf5ae7324119c255aa3788f57"), looks := false }, kinds := [], alts := [], laidByText := true, laidKinds := [.data, .data], laidTests := true, laidLooks := .later }
def RagLowCardSaid : Prop := Claim7.holds Tryd.pinned (.plain (OpenSpec.ofChange ragLowSpec)) ragLowCard

/-- THE TIED CARD OF 'breezelaw11.RagMore'. -/
def ragMoreCard : Claim7 := { stood := { row := ragMoreRow, standIns := [], harness := (true, "595d481f42e03badc9c0f1234fd631d2426b055cf5ae7324119c255aa3788f57"), looks := false }, kinds := [], alts := [], laidByText := true, laidKinds := [.data, .data], laidTests := true, laidLooks := .later }
def RagMoreCardSaid : Prop := Claim7.holds Tryd.pinned (.plain (OpenSpec.ofChange ragMoreSpec)) ragMoreCard

/-- THE TIED CARD OF 'breezelaw11.RagPajor'. -/
def ragPajorCard : Claim7 := { stood := { row := ragPajorRow, standIns := [], harness := (true, "595d481f42e03badc9c0f1234fd631d2426b055cf5ae7324119c255aa3788f57"), looks := false }, kinds := [], alts := [], laidByText := true, laidKinds := [.data, .data], laidTests := true, laidLooks := .later }
def RagPajorCardSaid : Prop := Claim7.holds Tryd.pinned (.plain (OpenSpec.ofChange ragPajorSpec)) ragPajorCard

/-- THE TIED CARD OF 'breezelaw11.RagSauer'. -/
def ragSauerCard : Claim7 := { stood := { row := ragSauerRow, standIns := [], harness := (true, "595d481f42e03badc9c0f1234fd631d2426b055cf5ae7324119c255aa3788f57"), looks := false }, kinds := [], alts := [], laidByText := true, laidKinds := [.data, .data], laidTests := true, laidLooks := .later }
def RagSauerCardSaid : Prop := Claim7.holds Tryd.pinned (.plain (OpenSpec.ofChange ragSauerSpec)) ragSauerCard

/-- THE TIED CARD OF 'breezelaw11.RagRead'. -/
def ragReadCard : Claim7 := { stood := { row := ragReadRow, standIns := [], harness := (true, "595d481f42e03badc9c0f1234fd631d2426b055cf5ae7324119c255aa3788f57"), looks := false }, kinds := [], alts := [], laidByText := true, laidKinds := [.data, .data, .data, .pinned, .pinned], laidTests := true, laidLooks := .later }
def RagReadCardSaid : Prop := Claim7.holds Tryd.pinned (.plain (OpenSpec.ofChange ragReadSpec)) ragReadCard

/-- THE SECOND FORM's CARD OF 'breezelaw11.RagApart'. -/
def ragApartUptoCard : Claim7 := { stood := { row := ragApartUptoRow, standIns := [], harness := (true, "595d481f42e03badc9c0f1234fd631d2426b055cf5ae7324119c255aa3788f57"), looks := false }, kinds := [], alts := [], laidByText := true, laidKinds := [.data, .data], laidTests := true, laidLooks := .later }
def RagApartUptoCardSaid : Prop := Claim7.holds Tryd.pinned (.plain (OpenSpec.upto ragApartSpec)) ragApartUptoCard

/-- THE SECOND FORM's CARD OF 'breezelaw11.RagCubes'. -/
def ragCubesUptoCard : Claim7 := { stood := { row := ragCubesUptoRow, standIns := [], harness := (true, "595d481f42e03badc9c0f1234fd631d2426b055cf5ae7324119c255aa3788f57"), looks := false }, kinds := [], alts := [], laidByText := true, laidKinds := [.data, .data], laidTests := true, laidLooks := .later }
def RagCubesUptoCardSaid : Prop := Claim7.holds Tryd.pinned (.plain (OpenSpec.upto ragCubesSpec)) ragCubesUptoCard

/-- THE SECOND FORM's CARD OF 'breezelaw11.RagLowered'. -/
def ragLoweredUptoCard : Claim7 := { stood := { row := ragLoweredUptoRow, standIns := [], harness := (true, "595d481f42e03badc9c0f1234fd631d2426b055cf5ae7324119c255aa3788f57"), looks := false }, kinds := [], alts := [], laidByText := true, laidKinds := [.data, .data], laidTests := true, laidLooks := .later }
def RagLoweredUptoCardSaid : Prop := Claim7.holds Tryd.pinned (.plain (OpenSpec.upto ragLoweredSpec)) ragLoweredUptoCard

/-- THE SECOND FORM's CARD OF 'breezelaw11.RagMissing'. -/
def ragMissingUptoCard : Claim7 := { stood := { row := ragMissingUptoRow, standIns := [], harness := (true, "595d481f42e03badc9c0f1234fd631d2426b055cf5ae7324119c255aa3788f57"), looks := false }, kinds := [], alts := [], laidByText := true, laidKinds := [.data, .data], laidTests := true, laidLooks := .later }
def RagMissingUptoCardSaid : Prop := Claim7.holds Tryd.pinned (.plain (OpenSpec.upto ragMissingSpec)) ragMissingUptoCard

/-- THE SECOND FORM's CARD OF 'breezelaw11.RagBags'. -/
def ragBagsUptoCard : Claim7 := { stood := { row := ragBagsUptoRow, standIns := [], harness := (true, "595d481f42e03badc9c0f1234fd631d2426b055cf5ae7324119c255aa3788f57"), looks := false }, kinds := [], alts := [], laidByText := true, laidKinds := [.data, .data], laidTests := true, laidLooks := .later }
def RagBagsUptoCardSaid : Prop := Claim7.holds Tryd.pinned (.plain (OpenSpec.upto ragBagsSpec)) ragBagsUptoCard

/-- THE SECOND FORM's CARD OF 'breezelaw11.RagKnown'. -/
def ragKnownUptoCard : Claim7 := { stood := { row := ragKnownUptoRow, standIns := [], harness := (true, "595d481f42e03badc9c0f1234fd631d2426b055cf5ae7324119c255aa3788f57"), looks := false }, kinds := [], alts := [], laidByText := true, laidKinds := [.data, .data], laidTests := true, laidLooks := .later }
def RagKnownUptoCardSaid : Prop := Claim7.holds Tryd.pinned (.plain (OpenSpec.upto ragKnownSpec)) ragKnownUptoCard

/-- THE SECOND FORM's CARD OF 'breezelaw11.RagNamed'. -/
def ragNamedUptoCard : Claim7 := { stood := { row := ragNamedUptoRow, standIns := [], harness := (true, "595d481f42e03badc9c0f1234fd631d2426b055cf5ae7324119c255aa3788f57"), looks := false }, kinds := [], alts := [], laidByText := true, laidKinds := [.data, .data], laidTests := true, laidLooks := .later }
def RagNamedUptoCardSaid : Prop := Claim7.holds Tryd.pinned (.plain (OpenSpec.upto ragNamedSpec)) ragNamedUptoCard

/-- THE SECOND FORM's CARD OF 'breezelaw11.RagLow'. -/
def ragLowUptoCard : Claim7 := { stood := { row := ragLowUptoRow, standIns := [], harness := (true, "595d481f42e03badc9c0f1234fd631d2426b055cf5ae7324119c255aa3788f57"), looks := false }, kinds := [], alts := [], laidByText := true, laidKinds := [.data, .data], laidTests := true, laidLooks := .later }
def RagLowUptoCardSaid : Prop := Claim7.holds Tryd.pinned (.plain (OpenSpec.upto ragLowSpec)) ragLowUptoCard

/-- THE SECOND FORM's CARD OF 'breezelaw11.RagMore'. -/
def ragMoreUptoCard : Claim7 := { stood := { row := ragMoreUptoRow, standIns := [], harness := (true, "595d481f42e03badc9c0f1234fd631d2426b055cf5ae7324119c255aa3788f57"), looks := false }, kinds := [], alts := [], laidByText := true, laidKinds := [.data, .data], laidTests := true, laidLooks := .later }
def RagMoreUptoCardSaid : Prop := Claim7.holds Tryd.pinned (.plain (OpenSpec.upto ragMoreSpec)) ragMoreUptoCard

/-- THE SECOND FORM's CARD OF 'breezelaw11.RagPajor'. -/
def ragPajorUptoCard : Claim7 := { stood := { row := ragPajorUptoRow, standIns := [], harness := (true, "595d481f42e03badc9c0f1234fd631d2426b055cf5ae7324119c255aa3788f57"), looks := false }, kinds := [], alts := [], laidByText := true, laidKinds := [.data, .data], laidTests := true, laidLooks := .later }
def RagPajorUptoCardSaid : Prop := Claim7.holds Tryd.pinned (.plain (OpenSpec.upto ragPajorSpec)) ragPajorUptoCard

/-- THE SECOND FORM's CARD OF 'breezelaw11.RagSauer'. -/
def ragSauerUptoCard : Claim7 := { stood := { row := ragSauerUptoRow, standIns := [], harness := (true, "595d481f42e03badc9c0f1234fd631d2426b055cf5ae7324119c255aa3788f57"), looks := false }, kinds := [], alts := [], laidByText := true, laidKinds := [.data, .data], laidTests := true, laidLooks := .later }
def RagSauerUptoCardSaid : Prop := Claim7.holds Tryd.pinned (.plain (OpenSpec.upto ragSauerSpec)) ragSauerUptoCard

/-- THE SECOND FORM's CARD OF 'breezelaw11.RagRead'. -/
def ragReadUptoCard : Claim7 := { stood := { row := ragReadUptoRow, standIns := [], harness := (true, "595d481f42e03badc9c0f1234fd631d2426b055cf5ae7324119c255aa3788f57"), looks := false }, kinds := [], alts := [], laidByText := true, laidKinds := [.data, .data, .data, .pinned, .pinned], laidTests := true, laidLooks := .later }
def RagReadUptoCardSaid : Prop := Claim7.holds Tryd.pinned (.plain (OpenSpec.upto ragReadSpec)) ragReadUptoCard
end Rows
end Go.Proofs.YtajhpbahjindkaaDoor
