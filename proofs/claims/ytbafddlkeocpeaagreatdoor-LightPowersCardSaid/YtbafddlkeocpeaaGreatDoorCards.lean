/-
  DERIVED. GIVEN WITH THE SEED: THE CARDS: each row of YtbafddlkeocpeaaGreatDoorRows.lean that lists a variable, with what it lists TIED to the program's text (the seventh form; the later family's looks); each row that meets fmt, with fmt's text TOLD by the authors' own Lean function (tested against real Go, not proved from fmt's source: count such statements apart). THE CARD IS WHAT COUNTS. Prove the row's statement (the work); the ties are given (YtbafddlkeocpeaaGreatDoorTie.lean); close each card by the builder's one call (the guide's Derived/Test/ToyasCard.lean, 'card_holds'). Laid BY PROGRAM, IN A SANDBOX (cutbox-door.mjs). By AI agents, Wed Nov 11 2026. No macro, syntax, notation, axiom, sorry.
-/
import Derived.Test.YtbafddlkeocpeaaGreatDoorRows
import GoSem.ClaimSeven
namespace Go.Proofs.YtbafddlkeocpeaaGreatDoor
namespace Rows

/-- THE TIED CARD OF 'meridianlaw4.LightPowers'. -/
def lightPowersCard : Claim7 := { stood := { row := lightPowersRow, standIns := [], harness := (true, "e799238afa6b2e53bf00ce9695d091e3be7bc9a12054242af71c8f7b3f49d23a"), looks := true }, kinds := [], alts := [], laidByText := true, laidKinds := [.data, .data, .handle, .sentinel, .sentinel, .sentinel, .sentinel, .sentinel, .sentinel, .sentinel, .sentinel, .sentinel, .sentinel, .data, .data, .data, .data, .data], laidTests := true, laidLooks := .later }
def LightPowersCardSaid : Prop := Claim7.holds Tryz.pinned (.plain (OpenSpec.ofChange lightPowersSpec)) lightPowersCard

/-- THE SECOND FORM's CARD OF 'meridianlaw4.LightPowers'. -/
def lightPowersUptoCard : Claim7 := { stood := { row := lightPowersUptoRow, standIns := [], harness := (true, "e799238afa6b2e53bf00ce9695d091e3be7bc9a12054242af71c8f7b3f49d23a"), looks := true }, kinds := [], alts := [], laidByText := true, laidKinds := [.data, .data, .handle, .sentinel, .sentinel, .sentinel, .sentinel, .sentinel, .sentinel, .sentinel, .sentinel, .sentinel, .sentinel, .data, .data, .data, .data, .data], laidTests := true, laidLooks := .later }
def LightPowersUptoCardSaid : Prop := Claim7.holds Tryz.pinned (.plain (OpenSpec.upto lightPowersSpec)) lightPowersUptoCard
end Rows
end Go.Proofs.YtbafddlkeocpeaaGreatDoor
