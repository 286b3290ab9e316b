/-
  DERIVED. GIVEN WITH THE SEED: THE CARDS: each row of YtmkdcnemocdefaaGreatFmtRows.lean that lists a variable, with what it lists TIED to the program's text (the seventh form; the later family's looks); each row that meets fmt, with fmt's text TOLD by the authors' own Lean function (tested against real Go, not proved from fmt's source: count such statements apart). THE CARD IS WHAT COUNTS. Prove the row's statement (the work); the ties are given (YtmkdcnemocdefaaGreatFmtTie.lean); close each card by the builder's one call (the guide's Derived/Test/ToyasCard.lean, 'card_holds'). Laid BY PROGRAM, IN A SANDBOX (cutbox-door.mjs). By AI agents, Wed Nov 11 2026. No macro, syntax, notation, axiom, sorry.
-/
import Derived.Test.YtmkdcnemocdefaaGreatFmtRows
import GoSem.ClaimSeven
namespace Go.Proofs.YtmkdcnemocdefaaGreatFmt
namespace Rows

/-- THE TOLD AND TIED CARD OF 'meridianlaw1.BitsSums'. -/
def bitsSumsCard : Claim7 := { stood := { row := bitsSumsRow, standIns := [], harness := (true, "0b1c70361dc04afb60c0a0917cb5d7f9df4a29da735bdc9f07ac713d5b74530c"), looks := true }, told := true, laidByText := true, laidKinds := [.data, .data, .data, .data, .data, .data, .data, .data, .data, .pinned], laidTests := true, laidLooks := .later, goes := false }
def BitsSumsToldSaid : Prop := Claim7.holds Tryz.pinned (.plain (OpenSpec.ofChange bitsSumsSpec)) bitsSumsCard
/-- ITS FALSE NEIGHBOUR. Refute it at one input. -/
def BitsSumsToldWrongFalsely : Prop := Claim7.holds Tryz.pinned (.plain (OpenSpec.ofChange bitsSumsWrong)) bitsSumsCard
end Rows
end Go.Proofs.YtmkdcnemocdefaaGreatFmt
