/-
  DERIVED. GIVEN WITH THE SEED: THE CARDS: each row of YthbekddpnkammaaDoorRows.lean that lists a variable, with what it lists TIED to the program's text (the seventh form; the later family's looks); each row that meets fmt, with fmt's text TOLD by the authors' own Lean function (tested against real Go, not proved from fmt's source: count such statements apart). THE CARD IS WHAT COUNTS. Prove the row's statement (the work); the ties are given (YthbekddpnkammaaDoorTie.lean); close each card by the builder's one call (the guide's Derived/Test/ToyasCard.lean, 'card_holds'). Laid BY PROGRAM, IN A SANDBOX (cutbox-door.mjs). By AI agents, Wed Nov 11 2026. No macro, syntax, notation, axiom, sorry.
-/
import Derived.Test.YthbekddpnkammaaDoorRows
import GoSem.ClaimSeven
namespace Go.Proofs.YthbekddpnkammaaDoor
namespace Rows

/-- THE TIED CARD OF 'meridianlaw4.SpotsMoved'. -/
def spotsMovedCard : Claim7 := { stood := { row := spotsMovedRow, standIns := [], harness := (true, "c9dc5c97818010b9566d127e21aee0d641a34eccd157d901b514a6778f0100bb"), looks := true }, kinds := [], alts := [], laidByText := true, laidKinds := [.sentinel, .sentinel], laidTests := true, laidLooks := .later }
def SpotsMovedCardSaid : Prop := Claim7.holds Tryd.pinned (.plain (OpenSpec.ofChange spotsMovedSpec)) spotsMovedCard

/-- THE TIED CARD OF 'meridianlaw4.SpotsGround'. -/
def spotsGroundCard : Claim7 := { stood := { row := spotsGroundRow, standIns := [], harness := (true, "c9dc5c97818010b9566d127e21aee0d641a34eccd157d901b514a6778f0100bb"), looks := true }, kinds := [], alts := [], laidByText := true, laidKinds := [.handle, .sentinel, .sentinel, .sentinel, .sentinel, .sentinel, .sentinel, .sentinel, .sentinel, .sentinel, .sentinel], laidTests := true, laidLooks := .later }
def SpotsGroundCardSaid : Prop := Claim7.holds Tryd.pinned (.plain (OpenSpec.ofChange spotsGroundSpec)) spotsGroundCard

/-- THE TIED CARD OF 'meridianlaw4.SpotsFound'. -/
def spotsFoundCard : Claim7 := { stood := { row := spotsFoundRow, standIns := [], harness := (true, "c9dc5c97818010b9566d127e21aee0d641a34eccd157d901b514a6778f0100bb"), looks := true }, kinds := [], alts := [], laidByText := true, laidKinds := [.handle, .sentinel, .sentinel, .sentinel, .sentinel, .sentinel, .sentinel, .sentinel, .sentinel, .sentinel, .sentinel], laidTests := true, laidLooks := .later }
def SpotsFoundCardSaid : Prop := Claim7.holds Tryd.pinned (.plain (OpenSpec.ofChange spotsFoundSpec)) spotsFoundCard

/-- THE SECOND FORM's CARD OF 'meridianlaw4.SpotsMoved'. -/
def spotsMovedUptoCard : Claim7 := { stood := { row := spotsMovedUptoRow, standIns := [], harness := (true, "c9dc5c97818010b9566d127e21aee0d641a34eccd157d901b514a6778f0100bb"), looks := true }, kinds := [], alts := [], laidByText := true, laidKinds := [.sentinel, .sentinel], laidTests := true, laidLooks := .later }
def SpotsMovedUptoCardSaid : Prop := Claim7.holds Tryd.pinned (.plain (OpenSpec.upto spotsMovedSpec)) spotsMovedUptoCard

/-- THE SECOND FORM's CARD OF 'meridianlaw4.SpotsGround'. -/
def spotsGroundUptoCard : Claim7 := { stood := { row := spotsGroundUptoRow, standIns := [], harness := (true, "c9dc5c97818010b9566d127e21aee0d641a34eccd157d901b514a6778f0100bb"), looks := true }, kinds := [], alts := [], laidByText := true, laidKinds := [.handle, .sentinel, .sentinel, .sentinel, .sentinel, .sentinel, .sentinel, .sentinel, .sentinel, .sentinel, .sentinel], laidTests := true, laidLooks := .later }
def SpotsGroundUptoCardSaid : Prop := Claim7.holds Tryd.pinned (.plain (OpenSpec.upto spotsGroundSpec)) spotsGroundUptoCard

/-- THE SECOND FORM's CARD OF 'meridianlaw4.SpotsFound'. -/
def spotsFoundUptoCard : Claim7 := { stood := { row := spotsFoundUptoRow, standIns := [], harness := (true, "c9dc5c97818010b9566d127e21aee0d641a34eccd157d901b514a6778f0100bb"), looks := true }, kinds := [], alts := [], laidByText := true, laidKinds := [.handle, .sentinel, .sentinel, .sentinel, .sentinel, .sentinel, .sentinel, .sentinel, .sentinel, .sentinel, .sentinel], laidTests := true, laidLooks := .later }
def SpotsFoundUptoCardSaid : Prop := Claim7.holds Tryd.pinned (.plain (OpenSpec.upto spotsFoundSpec)) spotsFoundUptoCard
end Rows
end Go.Proofs.YthbekddpnkammaaDoor
