/-
  DERIVED. GIVEN WITH THE SEED: THE CARDS: each row of YtjcmpkkflboaoaaGreatDoorRows.lean that lists a variable, with what it lists TIED to the program's text (the seventh form; the later family's looks); each row that meets fmt, with fmt's text TOLD by the authors' own Lean function (tested against real Go, not proved from fmt's source: count such statements apart). THE CARD IS WHAT COUNTS. Prove the row's statement (the work); the ties are given (YtjcmpkkflboaoaaGreatDoorTie.lean); close each card by the builder's one call (the guide's Derived/Test/ToyasCard.lean, 'card_holds'). Laid BY PROGRAM, IN A SANDBOX (cutbox-door.mjs). By AI agents, Wed Nov 11 2026. No macro, syntax, notation, axiom, sorry.
-/
import Derived.Test.YtjcmpkkflboaoaaGreatDoorRows
import GoSem.ClaimSeven
namespace Go.Proofs.YtjcmpkkflboaoaaGreatDoor
namespace Rows

/-- THE TIED CARD OF 'meridianlaw4.FrameFiles'. -/
def frameFilesCard : Claim7 := { stood := { row := frameFilesRow, standIns := [], harness := (true, "ce0fa68a6eb6554de686b4e78390297fc5644b574645642f3d41a3395220eba9"), looks := true }, kinds := [], alts := [], laidByText := true, laidKinds := [.data, .data, .data, .data, .handle, .sentinel, .sentinel, .sentinel, .sentinel, .sentinel, .sentinel, .sentinel, .sentinel, .sentinel, .sentinel, .sentinel, .sentinel, .pinned], laidTests := true, laidLooks := .later }
def FrameFilesCardSaid : Prop := Claim7.holds Tryz.pinned (.plain (OpenSpec.ofChange frameFilesSpec)) frameFilesCard

/-- THE TIED CARD OF 'meridianlaw4.FrameReads'. -/
def frameReadsCard : Claim7 := { stood := { row := frameReadsRow, standIns := [], harness := (true, "ce0fa68a6eb6554de686b4e78390297fc5644b574645642f3d41a3395220eba9"), looks := true }, kinds := [], alts := [], laidByText := true, laidKinds := [.data, .data, .data, .data, .handle, .sentinel, .sentinel, .sentinel, .sentinel, .sentinel, .sentinel, .sentinel, .sentinel, .sentinel, .sentinel, .sentinel, .sentinel, .pinned], laidTests := true, laidLooks := .later }
def FrameReadsCardSaid : Prop := Claim7.holds Tryz.pinned (.plain (OpenSpec.ofChange frameReadsSpec)) frameReadsCard

/-- THE SECOND FORM's CARD OF 'meridianlaw4.FrameFiles'. -/
def frameFilesUptoCard : Claim7 := { stood := { row := frameFilesUptoRow, standIns := [], harness := (true, "ce0fa68a6eb6554de686b4e78390297fc5644b574645642f3d41a3395220eba9"), looks := true }, kinds := [], alts := [], laidByText := true, laidKinds := [.data, .data, .data, .data, .handle, .sentinel, .sentinel, .sentinel, .sentinel, .sentinel, .sentinel, .sentinel, .sentinel, .sentinel, .sentinel, .sentinel, .sentinel, .pinned], laidTests := true, laidLooks := .later }
def FrameFilesUptoCardSaid : Prop := Claim7.holds Tryz.pinned (.plain (OpenSpec.upto frameFilesSpec)) frameFilesUptoCard

/-- THE SECOND FORM's CARD OF 'meridianlaw4.FrameReads'. -/
def frameReadsUptoCard : Claim7 := { stood := { row := frameReadsUptoRow, standIns := [], harness := (true, "ce0fa68a6eb6554de686b4e78390297fc5644b574645642f3d41a3395220eba9"), looks := true }, kinds := [], alts := [], laidByText := true, laidKinds := [.data, .data, .data, .data, .handle, .sentinel, .sentinel, .sentinel, .sentinel, .sentinel, .sentinel, .sentinel, .sentinel, .sentinel, .sentinel, .sentinel, .sentinel, .pinned], laidTests := true, laidLooks := .later }
def FrameReadsUptoCardSaid : Prop := Claim7.holds Tryz.pinned (.plain (OpenSpec.upto frameReadsSpec)) frameReadsUptoCard
end Rows
end Go.Proofs.YtjcmpkkflboaoaaGreatDoor
