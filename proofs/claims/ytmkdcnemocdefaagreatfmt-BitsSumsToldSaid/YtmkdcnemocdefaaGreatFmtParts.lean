/- The closed facts of the card, one by one. -/
import Derived.Test.YtmkdcnemocdefaaGreatFmtRows
import Derived.Test.YtmkdcnemocdefaaGreatFmtCards
import Derived.Test.YtmkdcnemocdefaaGreatFmtTie
import Derived.Test.YtmkdcnemocdefaaGreatFmtDoor
import Derived.Lay
import Derived.ProofKit
import Derived.LaidMore
import Derived.LaidHandle
import Derived.OpenShut
import Derived.ShutString
import Derived.Stop.Joined
import Derived.SevenTiedAt
import Derived.LaidSub
import Derived.Stop.LaidErr
import Derived.Stop.JoinedTold
import Derived.Deep.DeepWitnessRef
import Derived.SevenToldTied
namespace Go.Proofs.YtmkdcnemocdefaaGreatFmt.bitsSums
open Go.ChangeShapes Go.WideShapes Go.ChangeAt Go.RowKit
open Go.ChangeMaps (open_string shut_string)
open Go.Extern.Stop Go.Stop Go.Extern

set_option maxRecDepth 100000
theorem hw : Rows.bitsSumsRow.wfByText (OpenSpec.ofChange Rows.bitsSumsSpec) = true := by kernel_rfl
theorem hn : Rows.bitsSumsRow.program = Tryz.pinned.name := rfl
theorem hs : Rows.bitsSumsRow.sum = Tryz.pinned.sum := rfl
theorem hsp : Rows.bitsSumsRow.spec = (OpenSpec.ofChange Rows.bitsSumsSpec).name := rfl
theorem hl : laidOutB Tryz.pinned.checked.prog = true := by kernel_rfl
theorem hmr : mapsRowed Tryz.pinned.checked.prog = true := by kernel_rfl
theorem hstart : Rows.bitsSumsRow.start = .entering := rfl
theorem htold : Rows.bitsSumsRow.inits = [] ∧ Rows.bitsSumsRow.under = none ∧ Rows.bitsSumsRow.initsInPlace = [] ∧ Rows.bitsSumsRow.initsUnfollowed = false ∧ Rows.bitsSumsRow.initsRecurse = false ∧ Rows.bitsSumsRow.initsNamed = [] ∧ Rows.bitsSumsRow.initsPassed = [] := ⟨rfl, rfl, rfl, rfl, rfl, rfl, rfl⟩
theorem hout : Rows.bitsSumsRow.outside = [] := rfl
theorem hnb : Rows.bitsSumsRow.noBlocks = false := rfl
theorem htie : namedTie Tryz.pinned.checked.prog Rows.bitsSumsRow.namedList (OpenSpec.ofChange Rows.bitsSumsSpec).vars = true := by kernel_rfl
theorem hfn : Tryz.pinned.checked.prog.funcNamed Rows.bitsSumsRow.func = some 3 := by kernel_rfl
theorem hf : Tryz.pinned.checked.prog.funcs[3]? = some Tryz.f3 := Tryz.func3
theorem hr : (Tryz.f3.params.toList.all fun t => Tryz.pinned.checked.prog.readableRec t) = true := by kernel_rfl
theorem hinst : Tryz.f3.isInstance Tryz.pinned.checked.prog Rows.bitsSumsRow.origin Rows.bitsSumsRow.targs := of_decide_eq_true (by kernel_rfl)
theorem hwrap : Tryz.f3.isWrapper Tryz.pinned.checked.prog Rows.bitsSumsRow.wrapper Rows.bitsSumsRow.mainSum := by unfold Func.isWrapper; first | (rw [if_pos (by decide +kernel)]; kernel_rfl) | (rw [if_neg (by decide +kernel)]; exact ⟨rfl, rfl⟩)
theorem hstops : Rows.bitsSumsRow.stops = Tryz.pinned.checked.prog.stops := by kernel_rfl
theorem hname : Rows.bitsSumsRow.stops = "fmt.Sprintf" :: [] := rfl
theorem hknobs : Rows.bitsSumsRow.knobs = Tryz.pinned.checked.prog.stopKnobs := by kernel_rfl
theorem hword : Tryz.pinned.checked.prog.envWorded = true := by kernel_rfl
theorem hin : Rows.bitsSumsRow.inPlace = Tryz.pinned.checked.prog.inPlace 3 := by kernel_rfl
theorem hop : Rows.bitsSumsRow.unfollowed = Tryz.pinned.checked.prog.unfollowed 3 := by kernel_rfl
theorem hrc : Rows.bitsSumsRow.recurses = Tryz.pinned.checked.prog.recurses 3 := by kernel_rfl
theorem hvs : Rows.bitsSumsRow.named = Tryz.pinned.checked.prog.varsNamed 3 := by kernel_rfl
theorem hmp : Rows.bitsSumsRow.maps = (Tryz.f3.params.toList ++ (OpenSpec.ofChange Rows.bitsSumsSpec).bare.plain.varTypes Tryz.pinned.checked.prog).any (Tryz.pinned.checked.prog.mapsRec ·) := by kernel_rfl
theorem hif : Rows.bitsSumsRow.ifaces = (Tryz.f3.params.toList ++ (OpenSpec.ofChange Rows.bitsSumsSpec).bare.plain.varTypes Tryz.pinned.checked.prog).any (Tryz.pinned.checked.prog.ifacesRec ·) := by kernel_rfl
theorem hmo : Rows.bitsSumsRow.mapsOut = Tryz.pinned.checked.prog.mapsAmong Tryz.f3.resultTypes.toList := rfl
theorem hlo : Rows.bitsSumsRow.loops = (Tryz.f3.params.toList ++ (OpenSpec.ofChange Rows.bitsSumsSpec).bare.plain.varTypes Tryz.pinned.checked.prog).any (Tryz.pinned.checked.prog.loopsFrom ·) := by kernel_rfl
theorem hwk : Rows.bitsSumsRow.wideKeys = (Tryz.f3.params.toList ++ (OpenSpec.ofChange Rows.bitsSumsSpec).bare.plain.varTypes Tryz.pinned.checked.prog ++ Tryz.f3.resultTypes.toList).any (Tryz.pinned.checked.prog.wideKeysFrom ·) := by kernel_rfl
theorem hnar : Rows.bitsSumsRow.narrowed = (OpenSpec.ofChange Rows.bitsSumsSpec).cond.isSome := rfl
theorem hvars : ((OpenSpec.ofChange Rows.bitsSumsSpec).vars.all fun n => Tryz.pinned.checked.prog.varReadable n) = true := by kernel_rfl
theorem hleave : Rows.bitsSumsRow.leaving = false := rfl
theorem hlists : Rows.bitsSumsRow.lists Tryz.pinned.checked.prog [] := rfl
theorem hstill : Rows.bitsSumsRow.still = false := rfl
theorem hshort : Rows.bitsSumsRow.shortTexts = none := rfl
theorem hag : Rows.bitsSumsRow.again = false := rfl
theorem hmain : Tryz.pinned.checked.prog.mainIs = some ((true, "0b1c70361dc04afb60c0a0917cb5d7f9df4a29da735bdc9f07ac713d5b74530c").1, (true, "0b1c70361dc04afb60c0a0917cb5d7f9df4a29da735bdc9f07ac713d5b74530c").2.toList) := by kernel_rfl
theorem hlooks : true = Tryz.pinned.checked.prog.looks [] := by kernel_rfl
theorem hfun : (Tryz.f3.params.toList.all fun t => !Tryz.pinned.checked.prog.wantsStandIn t) = true := by kernel_rfl
theorem hfmt : Stop.anyFmt Rows.bitsSumsRow.stops = true := by decide
theorem hgoes : false = Rows.bitsSumsRow.goesBy Tryz.pinned.checked.prog := by kernel_rfl
theorem m2 : Tryz.pinned.checked.prog.mayEnter = true := by kernel_rfl
theorem m4 : (Tryz.f3.resultTypes.toList.all fun t => Tryz.pinned.checked.prog.readableRec t && decide (t < Tryz.pinned.checked.prog.types.size)) = true := by kernel_rfl
theorem m5 : Tryz.pinned.checked.prog.stopsHeard = true := by kernel_rfl
theorem m6 : Rows.bitsSumsRow.ifacesOut = Tryz.f3.resultTypes.toList.any (Tryz.pinned.checked.prog.ifacesRec ·) := by kernel_rfl
theorem m7 : Rows.bitsSumsRow.loopsOut = Tryz.f3.resultTypes.toList.any (Tryz.pinned.checked.prog.loopsFrom ·) := by kernel_rfl
theorem m8 : Rows.bitsSumsRow.kinds = (if Rows.bitsSumsRow.domain.isEmpty then [] else Tryz.f3.params.toList.map fun t => match Tryz.pinned.checked.prog.underlying t with | some (.int k) => some k | _ => none) := by kernel_rfl
theorem m9 : Rows.bitsSumsRow.pinned = Rows.bitsSumsRow.pinnedBy := by kernel_rfl
theorem m10 : Rows.bitsSumsRow.plainKeys = Tryz.pinned.checked.prog.plainKeys := by kernel_rfl
theorem m11 : Rows.bitsSumsRow.lifted = Tryz.pinned.checked.prog.liftsFinal := by kernel_rfl
theorem m12 : Tryz.pinned.checked.prog.make = some Rows.bitsSumsRow.make := by kernel_rfl
theorem hvl1 : Rows.bitsSumsRow.veiled = (Tryz.f3.params.toList ++ (OpenSpec.ofChange Rows.bitsSumsSpec).bare.plain.varTypes Tryz.pinned.checked.prog ++ Tryz.f3.resultTypes.toList).any (Tryz.pinned.checked.prog.veiledRec ·) := by kernel_rfl
theorem hvl2 : Rows.bitsSumsRow.veiledFits Tryz.pinned.checked.prog Tryz.f3.params.toList (Tryz.f3.params.toList ++ (OpenSpec.ofChange Rows.bitsSumsSpec).bare.plain.varTypes Tryz.pinned.checked.prog ++ Tryz.f3.resultTypes.toList) = true := by kernel_rfl
end Go.Proofs.YtmkdcnemocdefaaGreatFmt.bitsSums
