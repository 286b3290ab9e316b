/- PROVED: meridianlaw1.BitsSums answers true for every argument (told and tied card). -/
import Derived.Test.YtmkdcnemocdefaaGreatFmtRows
import Derived.Test.YtmkdcnemocdefaaGreatFmtCards
import Derived.Test.YtmkdcnemocdefaaGreatFmtTie
import Derived.Test.YtmkdcnemocdefaaGreatFmtLift
import Derived.Test.YtmkdcnemocdefaaGreatFmtParts
import Derived.Test.YtmkdcnemocdefaaGreatFmtDoor
import Derived.Lay
import Derived.ProofKit
import Derived.LaidMore
import Derived.LaidHandle
import Derived.OpenShut
import Derived.ShutString
import Derived.Stop.Joined
import Derived.SevenTiedAt
import Derived.LaidSub
import Derived.Stop.LaidErr
import Derived.Stop.JoinedTold
import Derived.Deep.DeepWitnessRef
import Derived.SevenToldTied
namespace Go.Proofs.YtmkdcnemocdefaaGreatFmt.bitsSums
open Go.ChangeShapes Go.WideShapes Go.ChangeAt Go.RowKit
open Go.ChangeMaps (open_string shut_string)
open Go.Extern.Stop Go.Stop Go.Extern

set_option maxRecDepth 100000 in
/-- ████ THE STATEMENT ████ -/
theorem proved : Rows.BitsSumsToldSaid :=
  Claim7.holds_of_told_tied_any_at .later 3 Tryz.f3 "fmt.Sprintf" [] [] (true, "0b1c70361dc04afb60c0a0917cb5d7f9df4a29da735bdc9f07ac713d5b74530c") true false [.data, .data, .data, .data, .data, .data, .data, .data, .data, .pinned] true hw hn hs hsp hl hmr hstart htold hout hnb htie hfn hf hr
    hinst hwrap hstops hname hknobs hword hin hop hrc hvs hmp hif hmo hlo hwk hnar hvars hleave hlists hstill hshort
    hag hmain hlooks hfun hfmt hgoes bitsSums_row_tie
    (OpenClaim.moreEntering_of m2 m4 m5 m6 m7 m8 m9 m10 m11 m12)
    ⟨_, WideRow.started_initial, quiet _⟩
    (fun os started _ H enc _ => lifted os started H enc) ⟨hvl1, hvl2⟩
#print axioms proved
end Go.Proofs.YtmkdcnemocdefaaGreatFmt.bitsSums
