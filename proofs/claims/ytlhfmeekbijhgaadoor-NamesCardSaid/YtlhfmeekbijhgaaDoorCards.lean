/-
  DERIVED. GIVEN WITH THE SEED: THE CARDS: each row of YtlhfmeekbijhgaaDoorRows.lean that lists a variable, with what it lists TIED to the program's text (the seventh form; the later family's looks); each row that meets fmt, with fmt's text TOLD by the authors' own Lean function (tested against real Go, not proved from fmt's source: count such statements apart). THE CARD IS WHAT COUNTS. Prove the row's statement (the work); the ties are given (YtlhfmeekbijhgaaDoorTie.lean); close each card by the builder's one call (the guide's Derived/Test/ToyasCard.lean, 'card_holds'). Laid BY PROGRAM, IN A SANDBOX (cutbox-door.mjs). By AI agents, Wed Nov 11 2026. No macro, syntax, notation, axiom, sorry.
-/
import Derived.Test.YtlhfmeekbijhgaaDoorRows
import GoSem.ClaimSeven
namespace Go.Proofs.YtlhfmeekbijhgaaDoor
namespace Rows

/-- THE TIED CARD OF 'meridianlaw1.TickOrder'. -/
def tickOrderCard : Claim7 := { stood := { row := tickOrderRow, standIns := [], harness := (true, "6d9dcf61d3513dd1db6669b7c133961aec61846d82d9267efa7d1bfc0ea1a18a"), looks := true }, kinds := [], alts := [], laidByText := true, laidKinds := [.sentinel, .sentinel, .sentinel], laidTests := true, laidLooks := .later }
def TickOrderCardSaid : Prop := Claim7.holds Tryd.pinned (.plain (OpenSpec.ofChange tickOrderSpec)) tickOrderCard

/-- THE TIED CARD OF 'meridianlaw1.Names'. -/
def namesCard : Claim7 := { stood := { row := namesRow, standIns := [], harness := (true, "6d9dcf61d3513dd1db6669b7c133961aec61846d82d9267efa7d1bfc0ea1a18a"), looks := true }, kinds := [], alts := [], laidByText := true, laidKinds := [.handle, .sentinel, .sentinel, .sentinel, .sentinel, .sentinel, .sentinel, .sentinel, .sentinel, .sentinel, .sentinel], laidTests := true, laidLooks := .later }
def NamesCardSaid : Prop := Claim7.holds Tryd.pinned (.plain (OpenSpec.ofChange namesSpec)) namesCard

/-- THE TIED CARD OF 'meridianlaw1.TickJulian'. -/
def tickJulianCard : Claim7 := { stood := { row := tickJulianRow, standIns := [], harness := (true, "6d9dcf61d3513dd1db6669b7c133961aec61846d82d9267efa7d1bfc0ea1a18a"), looks := true }, kinds := [], alts := [], laidByText := true, laidKinds := [.handle, .sentinel, .sentinel, .sentinel, .sentinel, .sentinel, .sentinel, .sentinel, .sentinel, .sentinel, .sentinel], laidTests := true, laidLooks := .later }
def TickJulianCardSaid : Prop := Claim7.holds Tryd.pinned (.plain (OpenSpec.ofChange tickJulianSpec)) tickJulianCard

/-- THE TIED CARD OF 'meridianlaw4.SpotsLabels'. -/
def spotsLabelsCard : Claim7 := { stood := { row := spotsLabelsRow, standIns := [], harness := (true, "6d9dcf61d3513dd1db6669b7c133961aec61846d82d9267efa7d1bfc0ea1a18a"), looks := true }, kinds := [], alts := [], laidByText := true, laidKinds := [.handle, .sentinel, .sentinel, .sentinel, .sentinel, .sentinel, .sentinel, .sentinel, .sentinel, .sentinel, .sentinel], laidTests := true, laidLooks := .later }
def SpotsLabelsCardSaid : Prop := Claim7.holds Tryd.pinned (.plain (OpenSpec.ofChange spotsLabelsSpec)) spotsLabelsCard

/-- THE SECOND FORM's CARD OF 'meridianlaw1.TickOrder'. -/
def tickOrderUptoCard : Claim7 := { stood := { row := tickOrderUptoRow, standIns := [], harness := (true, "6d9dcf61d3513dd1db6669b7c133961aec61846d82d9267efa7d1bfc0ea1a18a"), looks := true }, kinds := [], alts := [], laidByText := true, laidKinds := [.sentinel, .sentinel, .sentinel], laidTests := true, laidLooks := .later }
def TickOrderUptoCardSaid : Prop := Claim7.holds Tryd.pinned (.plain (OpenSpec.upto tickOrderSpec)) tickOrderUptoCard

/-- THE SECOND FORM's CARD OF 'meridianlaw1.Names'. -/
def namesUptoCard : Claim7 := { stood := { row := namesUptoRow, standIns := [], harness := (true, "6d9dcf61d3513dd1db6669b7c133961aec61846d82d9267efa7d1bfc0ea1a18a"), looks := true }, kinds := [], alts := [], laidByText := true, laidKinds := [.handle, .sentinel, .sentinel, .sentinel, .sentinel, .sentinel, .sentinel, .sentinel, .sentinel, .sentinel, .sentinel], laidTests := true, laidLooks := .later }
def NamesUptoCardSaid : Prop := Claim7.holds Tryd.pinned (.plain (OpenSpec.upto namesSpec)) namesUptoCard

/-- THE SECOND FORM's CARD OF 'meridianlaw1.TickJulian'. -/
def tickJulianUptoCard : Claim7 := { stood := { row := tickJulianUptoRow, standIns := [], harness := (true, "6d9dcf61d3513dd1db6669b7c133961aec61846d82d9267efa7d1bfc0ea1a18a"), looks := true }, kinds := [], alts := [], laidByText := true, laidKinds := [.handle, .sentinel, .sentinel, .sentinel, .sentinel, .sentinel, .sentinel, .sentinel, .sentinel, .sentinel, .sentinel], laidTests := true, laidLooks := .later }
def TickJulianUptoCardSaid : Prop := Claim7.holds Tryd.pinned (.plain (OpenSpec.upto tickJulianSpec)) tickJulianUptoCard

/-- THE SECOND FORM's CARD OF 'meridianlaw4.SpotsLabels'. -/
def spotsLabelsUptoCard : Claim7 := { stood := { row := spotsLabelsUptoRow, standIns := [], harness := (true, "6d9dcf61d3513dd1db6669b7c133961aec61846d82d9267efa7d1bfc0ea1a18a"), looks := true }, kinds := [], alts := [], laidByText := true, laidKinds := [.handle, .sentinel, .sentinel, .sentinel, .sentinel, .sentinel, .sentinel, .sentinel, .sentinel, .sentinel, .sentinel], laidTests := true, laidLooks := .later }
def SpotsLabelsUptoCardSaid : Prop := Claim7.holds Tryd.pinned (.plain (OpenSpec.upto spotsLabelsSpec)) spotsLabelsUptoCard
end Rows
end Go.Proofs.YtlhfmeekbijhgaaDoor
