/-
  DERIVED. GIVEN WITH THE SEED: THE CARDS: each row of YtegnjiecninlaaaDoorRows.lean that lists a variable, with what it lists TIED to the program's text (the seventh form; the later family's looks); each row that meets fmt, with fmt's text TOLD by the authors' own Lean function (tested against real Go, not proved from fmt's source: count such statements apart). THE CARD IS WHAT COUNTS. Prove the row's statement (the work); the ties are given (YtegnjiecninlaaaDoorTie.lean); close each card by the builder's one call (the guide's Derived/Test/ToyasCard.lean, 'card_holds'). Laid BY PROGRAM, IN A SANDBOX (cutbox-door.mjs). By AI agents, Wed Nov 11 2026. No macro, syntax, notation, axiom, sorry.
-/
import Derived.Test.YtegnjiecninlaaaDoorRows
import GoSem.ClaimSeven
namespace Go.Proofs.YtegnjiecninlaaaDoor
namespace Rows

/-- THE TIED CARD OF 'meridianlaw1.TickJulian'. -/
def tickJulianCard : Claim7 := { stood := { row := tickJulianRow, standIns := [], harness := (true, "65e3583344ed0f9554293830e9a86fe07bbc9c6501f177d2b46ed7c08adc5f20"), looks := true }, kinds := [], alts := [], laidByText := true, laidKinds := [.handle, .sentinel, .sentinel, .sentinel, .sentinel, .sentinel, .sentinel, .sentinel, .sentinel, .sentinel, .sentinel], laidTests := true, laidLooks := .later }
def TickJulianCardSaid : Prop := Claim7.holds Tryd.pinned (.plain (OpenSpec.ofChange tickJulianSpec)) tickJulianCard

/-- THE TIED CARD OF 'meridianlaw4.SpotsLabels'. -/
def spotsLabelsCard : Claim7 := { stood := { row := spotsLabelsRow, standIns := [], harness := (true, "65e3583344ed0f9554293830e9a86fe07bbc9c6501f177d2b46ed7c08adc5f20"), looks := true }, kinds := [], alts := [], laidByText := true, laidKinds := [.handle, .sentinel, .sentinel, .sentinel, .sentinel, .sentinel, .sentinel, .sentinel, .sentinel, .sentinel, .sentinel], laidTests := true, laidLooks := .later }
def SpotsLabelsCardSaid : Prop := Claim7.holds Tryd.pinned (.plain (OpenSpec.ofChange spotsLabelsSpec)) spotsLabelsCard

/-- THE TIED CARD OF 'meridianlaw1.TickDays'. -/
def tickDaysCard : Claim7 := { stood := { row := tickDaysRow, standIns := [], harness := (true, "65e3583344ed0f9554293830e9a86fe07bbc9c6501f177d2b46ed7c08adc5f20"), looks := true }, kinds := [], alts := [], laidByText := true, laidKinds := [.handle, .sentinel, .sentinel, .sentinel, .sentinel, .sentinel, .sentinel, .sentinel, .sentinel, .sentinel, .sentinel], laidTests := true, laidLooks := .later }
def TickDaysCardSaid : Prop := Claim7.holds Tryd.pinned (.plain (OpenSpec.ofChange tickDaysSpec)) tickDaysCard

/-- THE TIED CARD OF 'meridianlaw4.FrameCleans'. -/
def frameCleansCard : Claim7 := { stood := { row := frameCleansRow, standIns := [], harness := (true, "65e3583344ed0f9554293830e9a86fe07bbc9c6501f177d2b46ed7c08adc5f20"), looks := true }, kinds := [], alts := [], laidByText := true, laidKinds := [.handle, .sentinel, .sentinel, .sentinel, .sentinel, .sentinel, .sentinel, .sentinel, .sentinel, .sentinel, .sentinel], laidTests := true, laidLooks := .later }
def FrameCleansCardSaid : Prop := Claim7.holds Tryd.pinned (.plain (OpenSpec.ofChange frameCleansSpec)) frameCleansCard

/-- THE TIED CARD OF 'meridianlaw1.TickTables'. -/
def tickTablesCard : Claim7 := { stood := { row := tickTablesRow, standIns := [], harness := (true, "65e3583344ed0f9554293830e9a86fe07bbc9c6501f177d2b46ed7c08adc5f20"), looks := true }, kinds := [], alts := [], laidByText := true, laidKinds := [.handle, .sentinel, .sentinel, .sentinel, .sentinel, .sentinel, .sentinel, .sentinel, .sentinel, .sentinel, .sentinel], laidTests := true, laidLooks := .later }
def TickTablesCardSaid : Prop := Claim7.holds Tryd.pinned (.plain (OpenSpec.ofChange tickTablesSpec)) tickTablesCard

/-- THE TIED CARD OF 'meridianlaw1.TickStamps'. -/
def tickStampsCard : Claim7 := { stood := { row := tickStampsRow, standIns := [], harness := (true, "65e3583344ed0f9554293830e9a86fe07bbc9c6501f177d2b46ed7c08adc5f20"), looks := true }, kinds := [], alts := [], laidByText := true, laidKinds := [.handle, .sentinel, .sentinel, .sentinel, .sentinel, .sentinel, .sentinel, .sentinel, .sentinel, .sentinel, .sentinel], laidTests := true, laidLooks := .later }
def TickStampsCardSaid : Prop := Claim7.holds Tryd.pinned (.plain (OpenSpec.ofChange tickStampsSpec)) tickStampsCard

/-- THE TIED CARD OF 'meridianlaw1.ArcReads'. -/
def arcReadsCard : Claim7 := { stood := { row := arcReadsRow, standIns := [], harness := (true, "65e3583344ed0f9554293830e9a86fe07bbc9c6501f177d2b46ed7c08adc5f20"), looks := true }, kinds := [], alts := [], laidByText := true, laidKinds := [.handle, .sentinel, .sentinel, .sentinel, .sentinel, .sentinel, .sentinel, .sentinel, .sentinel, .sentinel, .sentinel], laidTests := true, laidLooks := .later }
def ArcReadsCardSaid : Prop := Claim7.holds Tryd.pinned (.plain (OpenSpec.ofChange arcReadsSpec)) arcReadsCard

/-- THE TIED CARD OF 'meridianlaw1.ArcTexts'. -/
def arcTextsCard : Claim7 := { stood := { row := arcTextsRow, standIns := [], harness := (true, "65e3583344ed0f9554293830e9a86fe07bbc9c6501f177d2b46ed7c08adc5f20"), looks := true }, kinds := [], alts := [], laidByText := true, laidKinds := [.data, .data, .data], laidTests := true, laidLooks := .later }
def ArcTextsCardSaid : Prop := Claim7.holds Tryd.pinned (.plain (OpenSpec.ofChange arcTextsSpec)) arcTextsCard

/-- THE TIED CARD OF 'meridianlaw1.BitsTexts'. -/
def bitsTextsCard : Claim7 := { stood := { row := bitsTextsRow, standIns := [], harness := (true, "65e3583344ed0f9554293830e9a86fe07bbc9c6501f177d2b46ed7c08adc5f20"), looks := true }, kinds := [], alts := [], laidByText := true, laidKinds := [.data, .data, .data, .handle, .sentinel, .sentinel, .sentinel, .sentinel, .sentinel, .sentinel, .sentinel, .sentinel, .sentinel, .sentinel], laidTests := true, laidLooks := .later }
def BitsTextsCardSaid : Prop := Claim7.holds Tryd.pinned (.plain (OpenSpec.ofChange bitsTextsSpec)) bitsTextsCard

/-- THE TIED CARD OF 'meridianlaw1.ArcBack'. -/
def arcBackCard : Claim7 := { stood := { row := arcBackRow, standIns := [], harness := (true, "65e3583344ed0f9554293830e9a86fe07bbc9c6501f177d2b46ed7c08adc5f20"), looks := true }, kinds := [], alts := [], laidByText := true, laidKinds := [.data, .data, .data, .sentinel], laidTests := true, laidLooks := .later }
def ArcBackCardSaid : Prop := Claim7.holds Tryd.pinned (.plain (OpenSpec.ofChange arcBackSpec)) arcBackCard

/-- THE SECOND FORM's CARD OF 'meridianlaw1.TickJulian'. -/
def tickJulianUptoCard : Claim7 := { stood := { row := tickJulianUptoRow, standIns := [], harness := (true, "65e3583344ed0f9554293830e9a86fe07bbc9c6501f177d2b46ed7c08adc5f20"), looks := true }, kinds := [], alts := [], laidByText := true, laidKinds := [.handle, .sentinel, .sentinel, .sentinel, .sentinel, .sentinel, .sentinel, .sentinel, .sentinel, .sentinel, .sentinel], laidTests := true, laidLooks := .later }
def TickJulianUptoCardSaid : Prop := Claim7.holds Tryd.pinned (.plain (OpenSpec.upto tickJulianSpec)) tickJulianUptoCard

/-- THE SECOND FORM's CARD OF 'meridianlaw4.SpotsLabels'. -/
def spotsLabelsUptoCard : Claim7 := { stood := { row := spotsLabelsUptoRow, standIns := [], harness := (true, "65e3583344ed0f9554293830e9a86fe07bbc9c6501f177d2b46ed7c08adc5f20"), looks := true }, kinds := [], alts := [], laidByText := true, laidKinds := [.handle, .sentinel, .sentinel, .sentinel, .sentinel, .sentinel, .sentinel, .sentinel, .sentinel, .sentinel, .sentinel], laidTests := true, laidLooks := .later }
def SpotsLabelsUptoCardSaid : Prop := Claim7.holds Tryd.pinned (.plain (OpenSpec.upto spotsLabelsSpec)) spotsLabelsUptoCard

/-- THE SECOND FORM's CARD OF 'meridianlaw1.TickDays'. -/
def tickDaysUptoCard : Claim7 := { stood := { row := tickDaysUptoRow, standIns := [], harness := (true, "65e3583344ed0f9554293830e9a86fe07bbc9c6501f177d2b46ed7c08adc5f20"), looks := true }, kinds := [], alts := [], laidByText := true, laidKinds := [.handle, .sentinel, .sentinel, .sentinel, .sentinel, .sentinel, .sentinel, .sentinel, .sentinel, .sentinel, .sentinel], laidTests := true, laidLooks := .later }
def TickDaysUptoCardSaid : Prop := Claim7.holds Tryd.pinned (.plain (OpenSpec.upto tickDaysSpec)) tickDaysUptoCard

/-- THE SECOND FORM's CARD OF 'meridianlaw4.FrameCleans'. -/
def frameCleansUptoCard : Claim7 := { stood := { row := frameCleansUptoRow, standIns := [], harness := (true, "65e3583344ed0f9554293830e9a86fe07bbc9c6501f177d2b46ed7c08adc5f20"), looks := true }, kinds := [], alts := [], laidByText := true, laidKinds := [.handle, .sentinel, .sentinel, .sentinel, .sentinel, .sentinel, .sentinel, .sentinel, .sentinel, .sentinel, .sentinel], laidTests := true, laidLooks := .later }
def FrameCleansUptoCardSaid : Prop := Claim7.holds Tryd.pinned (.plain (OpenSpec.upto frameCleansSpec)) frameCleansUptoCard

/-- THE SECOND FORM's CARD OF 'meridianlaw1.TickTables'. -/
def tickTablesUptoCard : Claim7 := { stood := { row := tickTablesUptoRow, standIns := [], harness := (true, "65e3583344ed0f9554293830e9a86fe07bbc9c6501f177d2b46ed7c08adc5f20"), looks := true }, kinds := [], alts := [], laidByText := true, laidKinds := [.handle, .sentinel, .sentinel, .sentinel, .sentinel, .sentinel, .sentinel, .sentinel, .sentinel, .sentinel, .sentinel], laidTests := true, laidLooks := .later }
def TickTablesUptoCardSaid : Prop := Claim7.holds Tryd.pinned (.plain (OpenSpec.upto tickTablesSpec)) tickTablesUptoCard

/-- THE SECOND FORM's CARD OF 'meridianlaw1.TickStamps'. -/
def tickStampsUptoCard : Claim7 := { stood := { row := tickStampsUptoRow, standIns := [], harness := (true, "65e3583344ed0f9554293830e9a86fe07bbc9c6501f177d2b46ed7c08adc5f20"), looks := true }, kinds := [], alts := [], laidByText := true, laidKinds := [.handle, .sentinel, .sentinel, .sentinel, .sentinel, .sentinel, .sentinel, .sentinel, .sentinel, .sentinel, .sentinel], laidTests := true, laidLooks := .later }
def TickStampsUptoCardSaid : Prop := Claim7.holds Tryd.pinned (.plain (OpenSpec.upto tickStampsSpec)) tickStampsUptoCard

/-- THE SECOND FORM's CARD OF 'meridianlaw1.ArcReads'. -/
def arcReadsUptoCard : Claim7 := { stood := { row := arcReadsUptoRow, standIns := [], harness := (true, "65e3583344ed0f9554293830e9a86fe07bbc9c6501f177d2b46ed7c08adc5f20"), looks := true }, kinds := [], alts := [], laidByText := true, laidKinds := [.handle, .sentinel, .sentinel, .sentinel, .sentinel, .sentinel, .sentinel, .sentinel, .sentinel, .sentinel, .sentinel], laidTests := true, laidLooks := .later }
def ArcReadsUptoCardSaid : Prop := Claim7.holds Tryd.pinned (.plain (OpenSpec.upto arcReadsSpec)) arcReadsUptoCard

/-- THE SECOND FORM's CARD OF 'meridianlaw1.ArcTexts'. -/
def arcTextsUptoCard : Claim7 := { stood := { row := arcTextsUptoRow, standIns := [], harness := (true, "65e3583344ed0f9554293830e9a86fe07bbc9c6501f177d2b46ed7c08adc5f20"), looks := true }, kinds := [], alts := [], laidByText := true, laidKinds := [.data, .data, .data], laidTests := true, laidLooks := .later }
def ArcTextsUptoCardSaid : Prop := Claim7.holds Tryd.pinned (.plain (OpenSpec.upto arcTextsSpec)) arcTextsUptoCard

/-- THE SECOND FORM's CARD OF 'meridianlaw1.BitsTexts'. -/
def bitsTextsUptoCard : Claim7 := { stood := { row := bitsTextsUptoRow, standIns := [], harness := (true, "65e3583344ed0f9554293830e9a86fe07bbc9c6501f177d2b46ed7c08adc5f20"), looks := true }, kinds := [], alts := [], laidByText := true, laidKinds := [.data, .data, .data, .handle, .sentinel, .sentinel, .sentinel, .sentinel, .sentinel, .sentinel, .sentinel, .sentinel, .sentinel, .sentinel], laidTests := true, laidLooks := .later }
def BitsTextsUptoCardSaid : Prop := Claim7.holds Tryd.pinned (.plain (OpenSpec.upto bitsTextsSpec)) bitsTextsUptoCard

/-- THE SECOND FORM's CARD OF 'meridianlaw1.ArcBack'. -/
def arcBackUptoCard : Claim7 := { stood := { row := arcBackUptoRow, standIns := [], harness := (true, "65e3583344ed0f9554293830e9a86fe07bbc9c6501f177d2b46ed7c08adc5f20"), looks := true }, kinds := [], alts := [], laidByText := true, laidKinds := [.data, .data, .data, .sentinel], laidTests := true, laidLooks := .later }
def ArcBackUptoCardSaid : Prop := Claim7.holds Tryd.pinned (.plain (OpenSpec.upto arcBackSpec)) arcBackUptoCard
end Rows
end Go.Proofs.YtegnjiecninlaaaDoor
