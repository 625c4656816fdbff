/-
  DERIVED. GIVEN WITH THE SEED: THE CARDS: each row of YtpieoljeikpemaaDoorRows.lean that lists a variable, with what it lists TIED to the program's text (the seventh form; the later family's looks); each row that meets fmt, with fmt's text TOLD by the authors' own Lean function (tested against real Go, not proved from fmt's source: count such statements apart). THE CARD IS WHAT COUNTS. Prove the row's statement (the work); the ties are given (YtpieoljeikpemaaDoorTie.lean); close each card by the builder's one call (the guide's Derived/Test/ToyasCard.lean, 'card_holds'). Laid BY PROGRAM, IN A SANDBOX (cutbox-door.mjs). By AI agents, Wed Nov 11 2026. No macro, syntax, notation, axiom, sorry.
-/
import Derived.Test.YtpieoljeikpemaaDoorRows
import GoSem.ClaimSeven
namespace Go.Proofs.YtpieoljeikpemaaDoor
namespace Rows

/-- THE TIED CARD OF 'breezelaw13.BurnHeaps'. -/
def burnHeapsCard : Claim7 := { stood := { row := burnHeapsRow, standIns := [], harness := (true, "74417b4cca5a2d0f78e13e45b617f33ccfe677014fff3298302d41a275231a3f"), looks := false }, kinds := [], alts := [], laidByText := true, laidKinds := [.data, .data], laidTests := true, laidLooks := .later }
def BurnHeapsCardSaid : Prop := Claim7.holds Tryd.pinned (.plain (OpenSpec.ofChange burnHeapsSpec)) burnHeapsCard

/-- THE TIED CARD OF 'breezelaw13.BurnFewest'. -/
def burnFewestCard : Claim7 := { stood := { row := burnFewestRow, standIns := [], harness := (true, "74417b4cca5a2d0f78e13e45b617f33ccfe677014fff3298302d41a275231a3f"), looks := false }, kinds := [], alts := [], laidByText := true, laidKinds := [.data, .data], laidTests := true, laidLooks := .later }
def BurnFewestCardSaid : Prop := Claim7.holds Tryd.pinned (.plain (OpenSpec.ofChange burnFewestSpec)) burnFewestCard

/-- THE TIED CARD OF 'breezelaw13.BurnBars'. -/
def burnBarsCard : Claim7 := { stood := { row := burnBarsRow, standIns := [], harness := (true, "74417b4cca5a2d0f78e13e45b617f33ccfe677014fff3298302d41a275231a3f"), looks := false }, kinds := [], alts := [], laidByText := true, laidKinds := [.data, .data], laidTests := true, laidLooks := .later }
def BurnBarsCardSaid : Prop := Claim7.holds Tryd.pinned (.plain (OpenSpec.ofChange burnBarsSpec)) burnBarsCard

/-- THE TIED CARD OF 'breezelaw13.BurnKnown'. -/
def burnKnownCard : Claim7 := { stood := { row := burnKnownRow, standIns := [], harness := (true, "74417b4cca5a2d0f78e13e45b617f33ccfe677014fff3298302d41a275231a3f"), looks := false }, kinds := [], alts := [], laidByText := true, laidKinds := [.data, .data], laidTests := true, laidLooks := .later }
def BurnKnownCardSaid : Prop := Claim7.holds Tryd.pinned (.plain (OpenSpec.ofChange burnKnownSpec)) burnKnownCard

/-- THE TIED CARD OF 'breezelaw13.BurnRoot'. -/
def burnRootCard : Claim7 := { stood := { row := burnRootRow, standIns := [], harness := (true, "74417b4cca5a2d0f78e13e45b617f33ccfe677014fff3298302d41a275231a3f"), looks := false }, kinds := [], alts := [], laidByText := true, laidKinds := [.data, .data], laidTests := true, laidLooks := .later }
def BurnRootCardSaid : Prop := Claim7.holds Tryd.pinned (.plain (OpenSpec.ofChange burnRootSpec)) burnRootCard

/-- THE TIED CARD OF 'breezelaw13.BurnBalls'. -/
def burnBallsCard : Claim7 := { stood := { row := burnBallsRow, standIns := [], harness := (true, "74417b4cca5a2d0f78e13e45b617f33ccfe677014fff3298302d41a275231a3f"), looks := false }, kinds := [], alts := [], laidByText := true, laidKinds := [.data, .data], laidTests := true, laidLooks := .later }
def BurnBallsCardSaid : Prop := Claim7.holds Tryd.pinned (.plain (OpenSpec.ofChange burnBallsSpec)) burnBallsCard

/-- THE TIED CARD OF 'breezelaw13.BurnTried'. -/
def burnTriedCard : Claim7 := { stood := { row := burnTriedRow, standIns := [], harness := (true, "74417b4cca5a2d0f78e13e45b617f33ccfe677014fff3298302d41a275231a3f"), looks := false }, kinds := [], alts := [], laidByText := true, laidKinds := [.data, .data], laidTests := true, laidLooks := .later }
def BurnTriedCardSaid : Prop := Claim7.holds Tryd.pinned (.plain (OpenSpec.ofChange burnTriedSpec)) burnTriedCard

/-- THE TIED CARD OF 'breezelaw13.BurnFar'. -/
def burnFarCard : Claim7 := { stood := { row := burnFarRow, standIns := [], harness := (true, "74417b4cca5a2d0f78e13e45b617f33ccfe677014fff3298302d41a275231a3f"), looks := false }, kinds := [], alts := [], laidByText := true, laidKinds := [.data, .data], laidTests := true, laidLooks := .later }
def BurnFarCardSaid : Prop := Claim7.holds Tryd.pinned (.plain (OpenSpec.ofChange burnFarSpec)) burnFarCard

/-- THE TIED CARD OF 'breezelaw13.BurnNamed'. -/
def burnNamedCard : Claim7 := { stood := { row := burnNamedRow, standIns := [], harness := (true, "74417b4cca5a2d0f78e13e45b617f33ccfe677014fff3298302d41a275231a3f"), looks := false }, kinds := [], alts := [], laidByText := true, laidKinds := [.data, .data], laidTests := true, laidLooks := .later }
def BurnNamedCardSaid : Prop := Claim7.holds Tryd.pinned (.plain (OpenSpec.ofChange burnNamedSpec)) burnNamedCard

/-- THE TIED CARD OF 'breezelaw13.BurnBarred'. -/
def burnBarredCard : Claim7 := { stood := { row := burnBarredRow, standIns := [], harness := (true, "74417b4cca5a2d0f78e13e45b617f33ccfe677014fff3298302d41a275231a3f"), looks := false }, kinds := [], alts := [], laidByText := true, laidKinds := [.data, .data], laidTests := true, laidLooks := .later }
def BurnBarredCardSaid : Prop := Claim7.holds Tryd.pinned (.plain (OpenSpec.ofChange burnBarredSpec)) burnBarredCard

/-- THE TIED CARD OF 'breezelaw13.BurnTrees'. -/
def burnTreesCard : Claim7 := { stood := { row := burnTreesRow, standIns := [], harness := (true, "74417b4cca5a2d0f78e13e45b617f33ccfe677014fff3298302d41a275231a3f"), looks := false }, kinds := [], alts := [], laidByText := true, laidKinds := [.data, .data], laidTests := true, laidLooks := .later }
def BurnTreesCardSaid : Prop := Claim7.holds Tryd.pinned (.plain (OpenSpec.ofChange burnTreesSpec)) burnTreesCard

/-- THE TIED CARD OF 'breezelaw13.BurnShown'. -/
def burnShownCard : Claim7 := { stood := { row := burnShownRow, standIns := [], harness := (true, "74417b4cca5a2d0f78e13e45b617f33ccfe677014fff3298302d41a275231a3f"), looks := false }, kinds := [], alts := [], laidByText := true, laidKinds := [.data, .data], laidTests := true, laidLooks := .later }
def BurnShownCardSaid : Prop := Claim7.holds Tryd.pinned (.plain (OpenSpec.ofChange burnShownSpec)) burnShownCard

/-- THE SECOND FORM's CARD OF 'breezelaw13.BurnHeaps'. -/
def burnHeapsUptoCard : Claim7 := { stood := { row := burnHeapsUptoRow, standIns := [], harness := (true, "74417b4cca5a2d0f78e13e45b617f33ccfe677014fff3298302d41a275231a3f"), looks := false }, kinds := [], alts := [], laidByText := true, laidKinds := [.data, .data], laidTests := true, laidLooks := .later }
def BurnHeapsUptoCardSaid : Prop := Claim7.holds Tryd.pinned (.plain (OpenSpec.upto burnHeapsSpec)) burnHeapsUptoCard

/-- THE SECOND FORM's CARD OF 'breezelaw13.BurnFewest'. -/
def burnFewestUptoCard : Claim7 := { stood := { row := burnFewestUptoRow, standIns := [], harness := (true, "74417b4cca5a2d0f78e13e45b617f33ccfe677014fff3298302d41a275231a3f"), looks := false }, kinds := [], alts := [], laidByText := true, laidKinds := [.data, .data], laidTests := true, laidLooks := .later }
def BurnFewestUptoCardSaid : Prop := Claim7.holds Tryd.pinned (.plain (OpenSpec.upto burnFewestSpec)) burnFewestUptoCard

/-- THE SECOND FORM's CARD OF 'breezelaw13.BurnBars'. -/
def burnBarsUptoCard : Claim7 := { stood := { row := burnBarsUptoRow, standIns := [], harness := (true, "74417b4cca5a2d0f78e13e45b617f33ccfe677014fff3298302d41a275231a3f"), looks := false }, kinds := [], alts := [], laidByText := true, laidKinds := [.data, .data], laidTests := true, laidLooks := .later }
def BurnBarsUptoCardSaid : Prop := Claim7.holds Tryd.pinned (.plain (OpenSpec.upto burnBarsSpec)) burnBarsUptoCard

/-- THE SECOND FORM's CARD OF 'breezelaw13.BurnKnown'. -/
def burnKnownUptoCard : Claim7 := { stood := { row := burnKnownUptoRow, standIns := [], harness := (true, "74417b4cca5a2d0f78e13e45b617f33ccfe677014fff3298302d41a275231a3f"), looks := false }, kinds := [], alts := [], laidByText := true, laidKinds := [.data, .data], laidTests := true, laidLooks := .later }
def BurnKnownUptoCardSaid : Prop := Claim7.holds Tryd.pinned (.plain (OpenSpec.upto burnKnownSpec)) burnKnownUptoCard

/-- THE SECOND FORM's CARD OF 'breezelaw13.BurnRoot'. -/
def burnRootUptoCard : Claim7 := { stood := { row := burnRootUptoRow, standIns := [], harness := (true, "74417b4cca5a2d0f78e13e45b617f33ccfe677014fff3298302d41a275231a3f"), looks := false }, kinds := [], alts := [], laidByText := true, laidKinds := [.data, .data], laidTests := true, laidLooks := .later }
def BurnRootUptoCardSaid : Prop := Claim7.holds Tryd.pinned (.plain (OpenSpec.upto burnRootSpec)) burnRootUptoCard

/-- THE SECOND FORM's CARD OF 'breezelaw13.BurnBalls'. -/
def burnBallsUptoCard : Claim7 := { stood := { row := burnBallsUptoRow, standIns := [], harness := (true, "74417b4cca5a2d0f78e13e45b617f33ccfe677014fff3298302d41a275231a3f"), looks := false }, kinds := [], alts := [], laidByText := true, laidKinds := [.data, .data], laidTests := true, laidLooks := .later }
def BurnBallsUptoCardSaid : Prop := Claim7.holds Tryd.pinned (.plain (OpenSpec.upto burnBallsSpec)) burnBallsUptoCard

/-- THE SECOND FORM's CARD OF 'breezelaw13.BurnTried'. -/
def burnTriedUptoCard : Claim7 := { stood := { row := burnTriedUptoRow, standIns := [], harness := (true, "74417b4cca5a2d0f78e13e45b617f33ccfe677014fff3298302d41a275231a3f"), looks := false }, kinds := [], alts := [], laidByText := true, laidKinds := [.data, .data], laidTests := true, laidLooks := .later }
def BurnTriedUptoCardSaid : Prop := Claim7.holds Tryd.pinned (.plain (OpenSpec.upto burnTriedSpec)) burnTriedUptoCard

/-- THE SECOND FORM's CARD OF 'breezelaw13.BurnFar'. -/
def burnFarUptoCard : Claim7 := { stood := { row := burnFarUptoRow, standIns := [], harness := (true, "74417b4cca5a2d0f78e13e45b617f33ccfe677014fff3298302d41a275231a3f"), looks := false }, kinds := [], alts := [], laidByText := true, laidKinds := [.data, .data], laidTests := true, laidLooks := .later }
def BurnFarUptoCardSaid : Prop := Claim7.holds Tryd.pinned (.plain (OpenSpec.upto burnFarSpec)) burnFarUptoCard

/-- THE SECOND FORM's CARD OF 'breezelaw13.BurnNamed'. -/
def burnNamedUptoCard : Claim7 := { stood := { row := burnNamedUptoRow, standIns := [], harness := (true, "74417b4cca5a2d0f78e13e45b617f33ccfe677014fff3298302d41a275231a3f"), looks := false }, kinds := [], alts := [], laidByText := true, laidKinds := [.data, .data], laidTests := true, laidLooks := .later }
def BurnNamedUptoCardSaid : Prop := Claim7.holds Tryd.pinned (.plain (OpenSpec.upto burnNamedSpec)) burnNamedUptoCard

/-- THE SECOND FORM's CARD OF 'breezelaw13.BurnBarred'. -/
def burnBarredUptoCard : Claim7 := { stood := { row := burnBarredUptoRow, standIns := [], harness := (true, "74417b4cca5a2d0f78e13e45b617f33ccfe677014fff3298302d41a275231a3f"), looks := false }, kinds := [], alts := [], laidByText := true, laidKinds := [.data, .data], laidTests := true, laidLooks := .later }
def BurnBarredUptoCardSaid : Prop := Claim7.holds Tryd.pinned (.plain (OpenSpec.upto burnBarredSpec)) burnBarredUptoCard

/-- THE SECOND FORM's CARD OF 'breezelaw13.BurnTrees'. -/
def burnTreesUptoCard : Claim7 := { stood := { row := burnTreesUptoRow, standIns := [], harness := (true, "74417b4cca5a2d0f78e13e45b617f33ccfe677014fff3298302d41a275231a3f"), looks := false }, kinds := [], alts := [], laidByText := true, laidKinds := [.data, .data], laidTests := true, laidLooks := .later }
def BurnTreesUptoCardSaid : Prop := Claim7.holds Tryd.pinned (.plain (OpenSpec.upto burnTreesSpec)) burnTreesUptoCard

/-- THE SECOND FORM's CARD OF 'breezelaw13.BurnShown'. -/
def burnShownUptoCard : Claim7 := { stood := { row := burnShownUptoRow, standIns := [], harness := (true, "74417b4cca5a2d0f78e13e45b617f33ccfe677014fff3298302d41a275231a3f"), looks := false }, kinds := [], alts := [], laidByText := true, laidKinds := [.data, .data], laidTests := true, laidLooks := .later }
def BurnShownUptoCardSaid : Prop := Claim7.holds Tryd.pinned (.plain (OpenSpec.upto burnShownSpec)) burnShownUptoCard
end Rows
end Go.Proofs.YtpieoljeikpemaaDoor
