/-
  NARROWER THAN 'FOR EVERY INPUT', by the rows' own cells (each row's printed sentence says how): TickJulian: laid · SpotsLabels: laid · TickDays: laid · FrameCleans: laid · TickTables: laid · TickStamps: laid · ArcReads: laid · ArcTexts: laid · BitsTexts: laid · ArcBack: laid.
  DERIVED. THE GIVEN ROWS OF THIS SEAT. 10 by the template 'for every input the law returns true; each argument reads behind the call as it read before'; 0 by the template 'total and deterministic' (their statements: YtegnjiecninlaaaDoorTotals.lean).
  GIVEN WITH THE SEED: the statements are not yours to turn. If you find one false, say at which input.
  Laid BY PROGRAM, IN A SANDBOX (cutbox-rows.mjs): the forced cells as the released guide's own fill.sh prints them over the translation 1fa588e8d81411a5… (all of the seat's roots in one cut). By AI agents, Wed Nov 11 2026. No macro, syntax, notation, axiom, sorry.
-/
import Derived.Test.YtegnjiecninlaaaDoorChecked
import GoSem.Claim
import GoSem.ClaimJoined
import GoSem.ClaimMapViews
import Derived.JoinedTies
import Derived.KernelRfl
namespace Go.Proofs.YtegnjiecninlaaaDoor
/- THE CELL 'sum', in the pinned program and in every row, IS THE sha256 OF THE DUMP (.gsa) THAT YtegnjiecninlaaaDoorProg.lean LOADS. Nothing in Lean hashes anything: it is a label: what it is worth is what the hold of that sum in a sandbox is worth. -/
noncomputable def Tryd.pinned : Pinned := { name := "ytegnjiecninlaaadoor", sum := "1fa588e8d81411a5564929552e6d48072507c75ade16b4ae7fd5f870c12c2592", checked := Tryd.checked }
namespace Rows
def none {H : Type} : Left H := { results := [], args := [] }

/- WHAT THE LISTED PACKAGE-LEVEL VARIABLES READ AS WHEN THE CALL BEGINS. Each datum BY PROGRAM (the guide's laid-datum.mjs) off the statement by which the dump's own 'gosem.cut.vars' lays the variable. In a bare row this is a premise. The card (YtegnjiecninlaaaDoorCards.lean) ties it to the program's text. -/
def laid_errors_errorType {H : Type} : DataW H := .iface "internal/reflectlite.rtype" (.agg [.ptr (.lit (.string [101, 114, 114, 111, 114]))])
def laid_meridian_api_ErrText {H : Type} : DataW H := .iface "*errors.errorString" (.ptr (.agg [.lit (.string [109, 101, 114, 105, 100, 105, 97, 110, 58, 32, 116, 101, 120, 116])]))
def laid_meridian_api_ErrBound {H : Type} : DataW H := .iface "*errors.errorString" (.ptr (.agg [.lit (.string [109, 101, 114, 105, 100, 105, 97, 110, 58, 32, 98, 111, 117, 110, 100])]))
def laid_meridian_api_ErrTime {H : Type} : DataW H := .iface "*errors.errorString" (.ptr (.agg [.lit (.string [109, 101, 114, 105, 100, 105, 97, 110, 58, 32, 116, 105, 109, 101])]))
def laid_meridian_api_ErrTable {H : Type} : DataW H := .iface "*errors.errorString" (.ptr (.agg [.lit (.string [109, 101, 114, 105, 100, 105, 97, 110, 58, 32, 116, 97, 98, 108, 101])]))
def laid_meridian_api_ErrShape {H : Type} : DataW H := .iface "*errors.errorString" (.ptr (.agg [.lit (.string [109, 101, 114, 105, 100, 105, 97, 110, 58, 32, 115, 104, 97, 112, 101])]))
def laid_meridian_api_ErrLimit {H : Type} : DataW H := .iface "*errors.errorString" (.ptr (.agg [.lit (.string [109, 101, 114, 105, 100, 105, 97, 110, 58, 32, 108, 105, 109, 105, 116])]))
def laid_meridian_api_ErrState {H : Type} : DataW H := .iface "*errors.errorString" (.ptr (.agg [.lit (.string [109, 101, 114, 105, 100, 105, 97, 110, 58, 32, 115, 116, 97, 116, 101])]))
def laid_meridian_api_ErrFile {H : Type} : DataW H := .iface "*errors.errorString" (.ptr (.agg [.lit (.string [109, 101, 114, 105, 100, 105, 97, 110, 58, 32, 102, 105, 108, 101])]))
def laid_meridian_api_ErrNone {H : Type} : DataW H := .iface "*errors.errorString" (.ptr (.agg [.lit (.string [109, 101, 114, 105, 100, 105, 97, 110, 58, 32, 110, 111, 110, 101])]))
def laid_meridian_api_ErrName {H : Type} : DataW H := .iface "*errors.errorString" (.ptr (.agg [.lit (.string [109, 101, 114, 105, 100, 105, 97, 110, 58, 32, 110, 97, 109, 101])]))
def laid_math_bits_deBruijn32tab {H : Type} : DataW H := .agg [.lit (.int .u8 0), .lit (.int .u8 1), .lit (.int .u8 28), .lit (.int .u8 2), .lit (.int .u8 29), .lit (.int .u8 14), .lit (.int .u8 24), .lit (.int .u8 3), .lit (.int .u8 30), .lit (.int .u8 22), .lit (.int .u8 20), .lit (.int .u8 15), .lit (.int .u8 25), .lit (.int .u8 17), .lit (.int .u8 4), .lit (.int .u8 8), .lit (.int .u8 31), .lit (.int .u8 27), .lit (.int .u8 13), .lit (.int .u8 23), .lit (.int .u8 21), .lit (.int .u8 19), .lit (.int .u8 16), .lit (.int .u8 7), .lit (.int .u8 26), .lit (.int .u8 12), .lit (.int .u8 18), .lit (.int .u8 6), .lit (.int .u8 11), .lit (.int .u8 5), .lit (.int .u8 10), .lit (.int .u8 9)]
def laid_math_bits_deBruijn64tab {H : Type} : DataW H := .agg [.lit (.int .u8 0), .lit (.int .u8 1), .lit (.int .u8 56), .lit (.int .u8 2), .lit (.int .u8 57), .lit (.int .u8 49), .lit (.int .u8 28), .lit (.int .u8 3), .lit (.int .u8 61), .lit (.int .u8 58), .lit (.int .u8 42), .lit (.int .u8 50), .lit (.int .u8 38), .lit (.int .u8 29), .lit (.int .u8 17), .lit (.int .u8 4), .lit (.int .u8 62), .lit (.int .u8 47), .lit (.int .u8 59), .lit (.int .u8 36), .lit (.int .u8 45), .lit (.int .u8 43), .lit (.int .u8 51), .lit (.int .u8 22), .lit (.int .u8 53), .lit (.int .u8 39), .lit (.int .u8 33), .lit (.int .u8 30), .lit (.int .u8 24), .lit (.int .u8 18), .lit (.int .u8 12), .lit (.int .u8 5), .lit (.int .u8 63), .lit (.int .u8 55), .lit (.int .u8 48), .lit (.int .u8 27), .lit (.int .u8 60), .lit (.int .u8 41), .lit (.int .u8 37), .lit (.int .u8 16), .lit (.int .u8 46), .lit (.int .u8 35), .lit (.int .u8 44), .lit (.int .u8 21), .lit (.int .u8 52), .lit (.int .u8 32), .lit (.int .u8 23), .lit (.int .u8 11), .lit (.int .u8 54), .lit (.int .u8 26), .lit (.int .u8 40), .lit (.int .u8 15), .lit (.int .u8 34), .lit (.int .u8 20), .lit (.int .u8 31), .lit (.int .u8 10), .lit (.int .u8 25), .lit (.int .u8 14), .lit (.int .u8 19), .lit (.int .u8 9), .lit (.int .u8 13), .lit (.int .u8 8), .lit (.int .u8 7), .lit (.int .u8 6)]
def laid_internal_strconv_uint64pow10 {H : Type} : DataW H := .agg [.lit (.int .u64 1), .lit (.int .u64 10), .lit (.int .u64 100), .lit (.int .u64 1000), .lit (.int .u64 10000), .lit (.int .u64 100000), .lit (.int .u64 1000000), .lit (.int .u64 10000000), .lit (.int .u64 100000000), .lit (.int .u64 1000000000), .lit (.int .u64 10000000000), .lit (.int .u64 100000000000), .lit (.int .u64 1000000000000), .lit (.int .u64 10000000000000), .lit (.int .u64 100000000000000), .lit (.int .u64 1000000000000000), .lit (.int .u64 10000000000000000), .lit (.int .u64 100000000000000000), .lit (.int .u64 1000000000000000000), .lit (.int .u64 10000000000000000000)]

/-- 'meridianlaw1.TickJulian': WHATEVER THE INPUT: true; the input reads as it did. -/
def tickJulianSpec : ChangeSpec := { name := "tickJulian", fn := fun _ => fun
  | [d] => { results := [.lit (.bool true)], args := [d] }
  | _ => none }
def tickJulianRow : OpenClaim := { program := "ytegnjiecninlaaadoor", sum := "1fa588e8d81411a5564929552e6d48072507c75ade16b4ae7fd5f870c12c2592", func := "meridian/meridianlaw1.TickJulian", spec := "tickJulian", inPlace := ["internal/reflectlite.ValueOf", "(internal/reflectlite.Value).Type", "(internal/reflectlite.Value).IsNil", "internal/reflectlite.TypeOf", "(internal/reflectlite.Value).Elem", "(internal/reflectlite.Value).Set"], unfollowed := true, recurses := true, named := ["meridian/api.ErrTime", "meridian/api.ErrText", "meridian/api.ErrBound", "meridian/api.ErrTable", "meridian/api.ErrShape", "meridian/api.ErrLimit", "meridian/api.ErrState", "meridian/api.ErrFile", "meridian/api.ErrNone", "meridian/api.ErrName", "errors.errorType"], apart := false, laid := [("errors.errorType", laid_errors_errorType), ("meridian/api.ErrText", laid_meridian_api_ErrText), ("meridian/api.ErrBound", laid_meridian_api_ErrBound), ("meridian/api.ErrTime", laid_meridian_api_ErrTime), ("meridian/api.ErrTable", laid_meridian_api_ErrTable), ("meridian/api.ErrShape", laid_meridian_api_ErrShape), ("meridian/api.ErrLimit", laid_meridian_api_ErrLimit), ("meridian/api.ErrState", laid_meridian_api_ErrState), ("meridian/api.ErrFile", laid_meridian_api_ErrFile), ("meridian/api.ErrNone", laid_meridian_api_ErrNone), ("meridian/api.ErrName", laid_meridian_api_ErrName)] }
def TickJulianSaid : Prop := tickJulianRow.holds Tryd.pinned (OpenSpec.ofChange tickJulianSpec)

/-- ITS FALSE NEIGHBOUR: 'it returns false'. Refute it at one input. -/
def tickJulianWrong : ChangeSpec := { name := "tickJulian", fn := fun _ => fun
  | [d] => { results := [.lit (.bool false)], args := [d] }
  | _ => none }
def TickJulianWrongFalsely : Prop := tickJulianRow.holds Tryd.pinned (OpenSpec.ofChange tickJulianWrong)

/-- 'meridianlaw4.SpotsLabels': WHATEVER THE INPUT: true; the input reads as it did. -/
def spotsLabelsSpec : ChangeSpec := { name := "spotsLabels", fn := fun _ => fun
  | [d1, d2] => { results := [.lit (.bool true)], args := [d1, d2] }
  | _ => none }
def spotsLabelsRow : OpenClaim := { program := "ytegnjiecninlaaadoor", sum := "1fa588e8d81411a5564929552e6d48072507c75ade16b4ae7fd5f870c12c2592", func := "meridian/meridianlaw4.SpotsLabels", spec := "spotsLabels", inPlace := ["internal/reflectlite.ValueOf", "(internal/reflectlite.Value).Type", "(internal/reflectlite.Value).IsNil", "internal/reflectlite.TypeOf", "(internal/reflectlite.Value).Elem", "(internal/reflectlite.Value).Set"], unfollowed := true, recurses := true, named := ["meridian/api.ErrBound", "meridian/api.ErrShape", "meridian/api.ErrText", "meridian/api.ErrTime", "meridian/api.ErrTable", "meridian/api.ErrLimit", "meridian/api.ErrState", "meridian/api.ErrFile", "meridian/api.ErrNone", "meridian/api.ErrName", "errors.errorType"], apart := false, laid := [("errors.errorType", laid_errors_errorType), ("meridian/api.ErrText", laid_meridian_api_ErrText), ("meridian/api.ErrBound", laid_meridian_api_ErrBound), ("meridian/api.ErrTime", laid_meridian_api_ErrTime), ("meridian/api.ErrTable", laid_meridian_api_ErrTable), ("meridian/api.ErrShape", laid_meridian_api_ErrShape), ("meridian/api.ErrLimit", laid_meridian_api_ErrLimit), ("meridian/api.ErrState", laid_meridian_api_ErrState), ("meridian/api.ErrFile", laid_meridian_api_ErrFile), ("meridian/api.ErrNone", laid_meridian_api_ErrNone), ("meridian/api.ErrName", laid_meridian_api_ErrName)] }
def SpotsLabelsSaid : Prop := spotsLabelsRow.holds Tryd.pinned (OpenSpec.ofChange spotsLabelsSpec)

/-- ITS FALSE NEIGHBOUR: 'it returns false'. Refute it at one input. -/
def spotsLabelsWrong : ChangeSpec := { name := "spotsLabels", fn := fun _ => fun
  | [d1, d2] => { results := [.lit (.bool false)], args := [d1, d2] }
  | _ => none }
def SpotsLabelsWrongFalsely : Prop := spotsLabelsRow.holds Tryd.pinned (OpenSpec.ofChange spotsLabelsWrong)

/-- 'meridianlaw1.TickDays': WHATEVER THE INPUT: true; the input reads as it did. -/
def tickDaysSpec : ChangeSpec := { name := "tickDays", fn := fun _ => fun
  | [d1, d2, d3, d4] => { results := [.lit (.bool true)], args := [d1, d2, d3, d4] }
  | _ => none }
def tickDaysRow : OpenClaim := { program := "ytegnjiecninlaaadoor", sum := "1fa588e8d81411a5564929552e6d48072507c75ade16b4ae7fd5f870c12c2592", func := "meridian/meridianlaw1.TickDays", spec := "tickDays", inPlace := ["internal/reflectlite.ValueOf", "(internal/reflectlite.Value).Type", "(internal/reflectlite.Value).IsNil", "internal/reflectlite.TypeOf", "(internal/reflectlite.Value).Elem", "(internal/reflectlite.Value).Set"], unfollowed := true, recurses := true, named := ["meridian/api.ErrTime", "meridian/api.ErrText", "meridian/api.ErrBound", "meridian/api.ErrTable", "meridian/api.ErrShape", "meridian/api.ErrLimit", "meridian/api.ErrState", "meridian/api.ErrFile", "meridian/api.ErrNone", "meridian/api.ErrName", "errors.errorType"], apart := false, laid := [("errors.errorType", laid_errors_errorType), ("meridian/api.ErrText", laid_meridian_api_ErrText), ("meridian/api.ErrBound", laid_meridian_api_ErrBound), ("meridian/api.ErrTime", laid_meridian_api_ErrTime), ("meridian/api.ErrTable", laid_meridian_api_ErrTable), ("meridian/api.ErrShape", laid_meridian_api_ErrShape), ("meridian/api.ErrLimit", laid_meridian_api_ErrLimit), ("meridian/api.ErrState", laid_meridian_api_ErrState), ("meridian/api.ErrFile", laid_meridian_api_ErrFile), ("meridian/api.ErrNone", laid_meridian_api_ErrNone), ("meridian/api.ErrName", laid_meridian_api_ErrName)] }
def TickDaysSaid : Prop := tickDaysRow.holds Tryd.pinned (OpenSpec.ofChange tickDaysSpec)

/-- ITS FALSE NEIGHBOUR: 'it returns false'. Refute it at one input. -/
def tickDaysWrong : ChangeSpec := { name := "tickDays", fn := fun _ => fun
  | [d1, d2, d3, d4] => { results := [.lit (.bool false)], args := [d1, d2, d3, d4] }
  | _ => none }
def TickDaysWrongFalsely : Prop := tickDaysRow.holds Tryd.pinned (OpenSpec.ofChange tickDaysWrong)

/-- 'meridianlaw4.FrameCleans': WHATEVER THE INPUT: true; the input reads as it did. -/
def frameCleansSpec : ChangeSpec := { name := "frameCleans", fn := fun _ => fun
  | [d1, d2, d3, d4] => { results := [.lit (.bool true)], args := [d1, d2, d3, d4] }
  | _ => none }
def frameCleansRow : OpenClaim := { program := "ytegnjiecninlaaadoor", sum := "1fa588e8d81411a5564929552e6d48072507c75ade16b4ae7fd5f870c12c2592", func := "meridian/meridianlaw4.FrameCleans", spec := "frameCleans", inPlace := ["internal/reflectlite.ValueOf", "(internal/reflectlite.Value).Type", "(internal/reflectlite.Value).IsNil", "internal/reflectlite.TypeOf", "(internal/reflectlite.Value).Elem", "(internal/reflectlite.Value).Set"], unfollowed := true, recurses := true, named := ["meridian/api.ErrBound", "meridian/api.ErrShape", "meridian/api.ErrText", "meridian/api.ErrTime", "meridian/api.ErrTable", "meridian/api.ErrLimit", "meridian/api.ErrState", "meridian/api.ErrFile", "meridian/api.ErrNone", "meridian/api.ErrName", "errors.errorType"], apart := false, laid := [("errors.errorType", laid_errors_errorType), ("meridian/api.ErrText", laid_meridian_api_ErrText), ("meridian/api.ErrBound", laid_meridian_api_ErrBound), ("meridian/api.ErrTime", laid_meridian_api_ErrTime), ("meridian/api.ErrTable", laid_meridian_api_ErrTable), ("meridian/api.ErrShape", laid_meridian_api_ErrShape), ("meridian/api.ErrLimit", laid_meridian_api_ErrLimit), ("meridian/api.ErrState", laid_meridian_api_ErrState), ("meridian/api.ErrFile", laid_meridian_api_ErrFile), ("meridian/api.ErrNone", laid_meridian_api_ErrNone), ("meridian/api.ErrName", laid_meridian_api_ErrName)] }
def FrameCleansSaid : Prop := frameCleansRow.holds Tryd.pinned (OpenSpec.ofChange frameCleansSpec)

/-- ITS FALSE NEIGHBOUR: 'it returns false'. Refute it at one input. -/
def frameCleansWrong : ChangeSpec := { name := "frameCleans", fn := fun _ => fun
  | [d1, d2, d3, d4] => { results := [.lit (.bool false)], args := [d1, d2, d3, d4] }
  | _ => none }
def FrameCleansWrongFalsely : Prop := frameCleansRow.holds Tryd.pinned (OpenSpec.ofChange frameCleansWrong)

/-- 'meridianlaw1.TickTables': WHATEVER THE INPUT: true; the input reads as it did. -/
def tickTablesSpec : ChangeSpec := { name := "tickTables", fn := fun _ => fun
  | [d] => { results := [.lit (.bool true)], args := [d] }
  | _ => none }
def tickTablesRow : OpenClaim := { program := "ytegnjiecninlaaadoor", sum := "1fa588e8d81411a5564929552e6d48072507c75ade16b4ae7fd5f870c12c2592", func := "meridian/meridianlaw1.TickTables", spec := "tickTables", inPlace := ["internal/reflectlite.ValueOf", "(internal/reflectlite.Value).Type", "(internal/reflectlite.Value).IsNil", "internal/reflectlite.TypeOf", "(internal/reflectlite.Value).Elem", "(internal/reflectlite.Value).Set"], unfollowed := true, recurses := true, named := ["meridian/api.ErrTime", "meridian/api.ErrBound", "meridian/api.ErrTable", "meridian/api.ErrText", "meridian/api.ErrShape", "meridian/api.ErrLimit", "meridian/api.ErrState", "meridian/api.ErrFile", "meridian/api.ErrNone", "meridian/api.ErrName", "errors.errorType"], apart := false, laid := [("errors.errorType", laid_errors_errorType), ("meridian/api.ErrText", laid_meridian_api_ErrText), ("meridian/api.ErrBound", laid_meridian_api_ErrBound), ("meridian/api.ErrTime", laid_meridian_api_ErrTime), ("meridian/api.ErrTable", laid_meridian_api_ErrTable), ("meridian/api.ErrShape", laid_meridian_api_ErrShape), ("meridian/api.ErrLimit", laid_meridian_api_ErrLimit), ("meridian/api.ErrState", laid_meridian_api_ErrState), ("meridian/api.ErrFile", laid_meridian_api_ErrFile), ("meridian/api.ErrNone", laid_meridian_api_ErrNone), ("meridian/api.ErrName", laid_meridian_api_ErrName)] }
def TickTablesSaid : Prop := tickTablesRow.holds Tryd.pinned (OpenSpec.ofChange tickTablesSpec)

/-- ITS FALSE NEIGHBOUR: 'it returns false'. Refute it at one input. -/
def tickTablesWrong : ChangeSpec := { name := "tickTables", fn := fun _ => fun
  | [d] => { results := [.lit (.bool false)], args := [d] }
  | _ => none }
def TickTablesWrongFalsely : Prop := tickTablesRow.holds Tryd.pinned (OpenSpec.ofChange tickTablesWrong)

/-- 'meridianlaw1.TickStamps': WHATEVER THE INPUT: true; the input reads as it did. -/
def tickStampsSpec : ChangeSpec := { name := "tickStamps", fn := fun _ => fun
  | [d1, d2, d3] => { results := [.lit (.bool true)], args := [d1, d2, d3] }
  | _ => none }
def tickStampsRow : OpenClaim := { program := "ytegnjiecninlaaadoor", sum := "1fa588e8d81411a5564929552e6d48072507c75ade16b4ae7fd5f870c12c2592", func := "meridian/meridianlaw1.TickStamps", spec := "tickStamps", inPlace := ["internal/reflectlite.ValueOf", "(internal/reflectlite.Value).Type", "(internal/reflectlite.Value).IsNil", "internal/reflectlite.TypeOf", "(internal/reflectlite.Value).Elem", "(internal/reflectlite.Value).Set"], unfollowed := true, recurses := true, named := ["meridian/api.ErrTime", "meridian/api.ErrBound", "meridian/api.ErrTable", "meridian/api.ErrText", "meridian/api.ErrShape", "meridian/api.ErrLimit", "meridian/api.ErrState", "meridian/api.ErrFile", "meridian/api.ErrNone", "meridian/api.ErrName", "errors.errorType"], apart := false, laid := [("errors.errorType", laid_errors_errorType), ("meridian/api.ErrText", laid_meridian_api_ErrText), ("meridian/api.ErrBound", laid_meridian_api_ErrBound), ("meridian/api.ErrTime", laid_meridian_api_ErrTime), ("meridian/api.ErrTable", laid_meridian_api_ErrTable), ("meridian/api.ErrShape", laid_meridian_api_ErrShape), ("meridian/api.ErrLimit", laid_meridian_api_ErrLimit), ("meridian/api.ErrState", laid_meridian_api_ErrState), ("meridian/api.ErrFile", laid_meridian_api_ErrFile), ("meridian/api.ErrNone", laid_meridian_api_ErrNone), ("meridian/api.ErrName", laid_meridian_api_ErrName)] }
def TickStampsSaid : Prop := tickStampsRow.holds Tryd.pinned (OpenSpec.ofChange tickStampsSpec)

/-- ITS FALSE NEIGHBOUR: 'it returns false'. Refute it at one input. -/
def tickStampsWrong : ChangeSpec := { name := "tickStamps", fn := fun _ => fun
  | [d1, d2, d3] => { results := [.lit (.bool false)], args := [d1, d2, d3] }
  | _ => none }
def TickStampsWrongFalsely : Prop := tickStampsRow.holds Tryd.pinned (OpenSpec.ofChange tickStampsWrong)

/-- 'meridianlaw1.ArcReads': WHATEVER THE INPUT: true; the input reads as it did. -/
def arcReadsSpec : ChangeSpec := { name := "arcReads", fn := fun _ => fun
  | [d] => { results := [.lit (.bool true)], args := [d] }
  | _ => none }
def arcReadsRow : OpenClaim := { program := "ytegnjiecninlaaadoor", sum := "1fa588e8d81411a5564929552e6d48072507c75ade16b4ae7fd5f870c12c2592", func := "meridian/meridianlaw1.ArcReads", spec := "arcReads", inPlace := ["internal/reflectlite.ValueOf", "(internal/reflectlite.Value).Type", "(internal/reflectlite.Value).IsNil", "internal/reflectlite.TypeOf", "(internal/reflectlite.Value).Elem", "(internal/reflectlite.Value).Set"], unfollowed := true, recurses := true, named := ["meridian/api.ErrText", "meridian/api.ErrBound", "meridian/api.ErrTime", "meridian/api.ErrTable", "meridian/api.ErrShape", "meridian/api.ErrLimit", "meridian/api.ErrState", "meridian/api.ErrFile", "meridian/api.ErrNone", "meridian/api.ErrName", "errors.errorType"], apart := false, laid := [("errors.errorType", laid_errors_errorType), ("meridian/api.ErrText", laid_meridian_api_ErrText), ("meridian/api.ErrBound", laid_meridian_api_ErrBound), ("meridian/api.ErrTime", laid_meridian_api_ErrTime), ("meridian/api.ErrTable", laid_meridian_api_ErrTable), ("meridian/api.ErrShape", laid_meridian_api_ErrShape), ("meridian/api.ErrLimit", laid_meridian_api_ErrLimit), ("meridian/api.ErrState", laid_meridian_api_ErrState), ("meridian/api.ErrFile", laid_meridian_api_ErrFile), ("meridian/api.ErrNone", laid_meridian_api_ErrNone), ("meridian/api.ErrName", laid_meridian_api_ErrName)] }
def ArcReadsSaid : Prop := arcReadsRow.holds Tryd.pinned (OpenSpec.ofChange arcReadsSpec)

/-- ITS FALSE NEIGHBOUR: 'it returns false'. Refute it at one input. -/
def arcReadsWrong : ChangeSpec := { name := "arcReads", fn := fun _ => fun
  | [d] => { results := [.lit (.bool false)], args := [d] }
  | _ => none }
def ArcReadsWrongFalsely : Prop := arcReadsRow.holds Tryd.pinned (OpenSpec.ofChange arcReadsWrong)

/-- 'meridianlaw1.ArcTexts': WHATEVER THE INPUT: true; the input reads as it did. -/
def arcTextsSpec : ChangeSpec := { name := "arcTexts", fn := fun _ => fun
  | [d] => { results := [.lit (.bool true)], args := [d] }
  | _ => none }
def arcTextsRow : OpenClaim := { program := "ytegnjiecninlaaadoor", sum := "1fa588e8d81411a5564929552e6d48072507c75ade16b4ae7fd5f870c12c2592", func := "meridian/meridianlaw1.ArcTexts", spec := "arcTexts", inPlace := ["internal/abi.NoEscape", "internal/bytealg.MakeNoZero"], recurses := true, named := ["internal/strconv.uint64pow10", "math/bits.deBruijn32tab", "math/bits.deBruijn64tab"], apart := false, laid := [("math/bits.deBruijn32tab", laid_math_bits_deBruijn32tab), ("math/bits.deBruijn64tab", laid_math_bits_deBruijn64tab), ("internal/strconv.uint64pow10", laid_internal_strconv_uint64pow10)] }
def ArcTextsSaid : Prop := arcTextsRow.holds Tryd.pinned (OpenSpec.ofChange arcTextsSpec)

/-- ITS FALSE NEIGHBOUR: 'it returns false'. Refute it at one input. -/
def arcTextsWrong : ChangeSpec := { name := "arcTexts", fn := fun _ => fun
  | [d] => { results := [.lit (.bool false)], args := [d] }
  | _ => none }
def ArcTextsWrongFalsely : Prop := arcTextsRow.holds Tryd.pinned (OpenSpec.ofChange arcTextsWrong)

/-- 'meridianlaw1.BitsTexts': WHATEVER THE INPUT: true; the input reads as it did. -/
def bitsTextsSpec : ChangeSpec := { name := "bitsTexts", fn := fun _ => fun
  | [d1, d2] => { results := [.lit (.bool true)], args := [d1, d2] }
  | _ => none }
def bitsTextsRow : OpenClaim := { program := "ytegnjiecninlaaadoor", sum := "1fa588e8d81411a5564929552e6d48072507c75ade16b4ae7fd5f870c12c2592", func := "meridian/meridianlaw1.BitsTexts", spec := "bitsTexts", inPlace := ["math.Float64bits", "math.Float64frombits", "internal/reflectlite.ValueOf", "(internal/reflectlite.Value).Type", "(internal/reflectlite.Value).IsNil", "internal/reflectlite.TypeOf", "(internal/reflectlite.Value).Elem", "(internal/reflectlite.Value).Set"], unfollowed := true, recurses := true, named := ["internal/strconv.uint64pow10", "math/bits.deBruijn32tab", "math/bits.deBruijn64tab", "meridian/api.ErrText", "meridian/api.ErrBound", "meridian/api.ErrTime", "meridian/api.ErrTable", "meridian/api.ErrShape", "meridian/api.ErrLimit", "meridian/api.ErrState", "meridian/api.ErrFile", "meridian/api.ErrNone", "meridian/api.ErrName", "errors.errorType"], apart := false, laid := [("math/bits.deBruijn32tab", laid_math_bits_deBruijn32tab), ("math/bits.deBruijn64tab", laid_math_bits_deBruijn64tab), ("internal/strconv.uint64pow10", laid_internal_strconv_uint64pow10), ("errors.errorType", laid_errors_errorType), ("meridian/api.ErrText", laid_meridian_api_ErrText), ("meridian/api.ErrBound", laid_meridian_api_ErrBound), ("meridian/api.ErrTime", laid_meridian_api_ErrTime), ("meridian/api.ErrTable", laid_meridian_api_ErrTable), ("meridian/api.ErrShape", laid_meridian_api_ErrShape), ("meridian/api.ErrLimit", laid_meridian_api_ErrLimit), ("meridian/api.ErrState", laid_meridian_api_ErrState), ("meridian/api.ErrFile", laid_meridian_api_ErrFile), ("meridian/api.ErrNone", laid_meridian_api_ErrNone), ("meridian/api.ErrName", laid_meridian_api_ErrName)] }
def BitsTextsSaid : Prop := bitsTextsRow.holds Tryd.pinned (OpenSpec.ofChange bitsTextsSpec)

/-- ITS FALSE NEIGHBOUR: 'it returns false'. Refute it at one input. -/
def bitsTextsWrong : ChangeSpec := { name := "bitsTexts", fn := fun _ => fun
  | [d1, d2] => { results := [.lit (.bool false)], args := [d1, d2] }
  | _ => none }
def BitsTextsWrongFalsely : Prop := bitsTextsRow.holds Tryd.pinned (OpenSpec.ofChange bitsTextsWrong)

/-- 'meridianlaw1.ArcBack': WHATEVER THE INPUT: true; the input reads as it did. -/
def arcBackSpec : ChangeSpec := { name := "arcBack", fn := fun _ => fun
  | [d] => { results := [.lit (.bool true)], args := [d] }
  | _ => none }
def arcBackRow : OpenClaim := { program := "ytegnjiecninlaaadoor", sum := "1fa588e8d81411a5564929552e6d48072507c75ade16b4ae7fd5f870c12c2592", func := "meridian/meridianlaw1.ArcBack", spec := "arcBack", inPlace := ["internal/abi.NoEscape", "internal/bytealg.MakeNoZero"], unfollowed := true, recurses := true, named := ["internal/strconv.uint64pow10", "math/bits.deBruijn32tab", "math/bits.deBruijn64tab", "meridian/api.ErrText"], apart := false, laid := [("math/bits.deBruijn32tab", laid_math_bits_deBruijn32tab), ("math/bits.deBruijn64tab", laid_math_bits_deBruijn64tab), ("internal/strconv.uint64pow10", laid_internal_strconv_uint64pow10), ("meridian/api.ErrText", laid_meridian_api_ErrText)] }
def ArcBackSaid : Prop := arcBackRow.holds Tryd.pinned (OpenSpec.ofChange arcBackSpec)

/-- ITS FALSE NEIGHBOUR: 'it returns false'. Refute it at one input. -/
def arcBackWrong : ChangeSpec := { name := "arcBack", fn := fun _ => fun
  | [d] => { results := [.lit (.bool false)], args := [d] }
  | _ => none }
def ArcBackWrongFalsely : Prop := arcBackRow.holds Tryd.pinned (OpenSpec.ofChange arcBackWrong)

/- THE SECOND FORM. 'bulk': how many values and letters a reading holds, each counted each time it is reached (what is shared counts as often as it is met; a slice's spare places count too). A statement '..UptoSaid' is the law's where the arguments, and the package variables that the reading takes, are together of bulk at most 1048576: NARROWER than '..Said'. Prove '..Said' where nothing that the law and all that it calls make is longer than what came in: it says more and counts as full. Else prove '..UptoSaid'. A law counts once. -/
mutual
def uptoBulk {H : Type} : DataW H → Nat
  | .lit (.string bytes) => bytes.length + 1
  | .lit _ => 1
  | .nil => 1
  | .ptr d => uptoBulk d + 1
  | .slice elems spare => uptoBulkAll elems + uptoBulkAll spare + 1
  | .agg parts => uptoBulkAll parts + 1
  | .iface _ d => uptoBulk d + 1
  | .map entries => uptoBulkEntries entries + 1
  | .held _ => 1
def uptoBulkAll {H : Type} : List (DataW H) → Nat
  | [] => 0
  | d :: r => uptoBulk d + uptoBulkAll r
def uptoBulkEntries {H : Type} : List (Lit × DataW H) → Nat
  | [] => 0
  | x :: r => uptoBulkEntry x + uptoBulkEntries r
def uptoBulkEntry {H : Type} : Lit × DataW H → Nat
  | (.string bytes, d) => bytes.length + uptoBulk d + 1
  | (_, d) => uptoBulk d + 1
 end
def uptoSmall : (H : Type) → List (DataW H) → Bool := fun _ ds => decide (uptoBulkAll ds ≤ 1048576)
def OpenSpec.upto (s : _root_.Go.ChangeSpec) : _root_.Go.OpenSpec := { _root_.Go.OpenSpec.ofChange s with cond := some uptoSmall }

/-- 'meridianlaw1.TickJulian', WHERE WHAT IT READS IS OF BULK AT MOST 1048576: true; the input reads as it did. -/
def tickJulianUptoRow : OpenClaim := { program := "ytegnjiecninlaaadoor", sum := "1fa588e8d81411a5564929552e6d48072507c75ade16b4ae7fd5f870c12c2592", func := "meridian/meridianlaw1.TickJulian", spec := "tickJulian", inPlace := ["internal/reflectlite.ValueOf", "(internal/reflectlite.Value).Type", "(internal/reflectlite.Value).IsNil", "internal/reflectlite.TypeOf", "(internal/reflectlite.Value).Elem", "(internal/reflectlite.Value).Set"], unfollowed := true, recurses := true, named := ["meridian/api.ErrTime", "meridian/api.ErrText", "meridian/api.ErrBound", "meridian/api.ErrTable", "meridian/api.ErrShape", "meridian/api.ErrLimit", "meridian/api.ErrState", "meridian/api.ErrFile", "meridian/api.ErrNone", "meridian/api.ErrName", "errors.errorType"], apart := false, laid := [("errors.errorType", laid_errors_errorType), ("meridian/api.ErrText", laid_meridian_api_ErrText), ("meridian/api.ErrBound", laid_meridian_api_ErrBound), ("meridian/api.ErrTime", laid_meridian_api_ErrTime), ("meridian/api.ErrTable", laid_meridian_api_ErrTable), ("meridian/api.ErrShape", laid_meridian_api_ErrShape), ("meridian/api.ErrLimit", laid_meridian_api_ErrLimit), ("meridian/api.ErrState", laid_meridian_api_ErrState), ("meridian/api.ErrFile", laid_meridian_api_ErrFile), ("meridian/api.ErrNone", laid_meridian_api_ErrNone), ("meridian/api.ErrName", laid_meridian_api_ErrName)], narrowed := true }
def TickJulianUptoSaid : Prop := tickJulianUptoRow.holds Tryd.pinned (OpenSpec.upto tickJulianSpec)

/-- 'meridianlaw4.SpotsLabels', WHERE WHAT IT READS IS OF BULK AT MOST 1048576: true; the input reads as it did. -/
def spotsLabelsUptoRow : OpenClaim := { program := "ytegnjiecninlaaadoor", sum := "1fa588e8d81411a5564929552e6d48072507c75ade16b4ae7fd5f870c12c2592", func := "meridian/meridianlaw4.SpotsLabels", spec := "spotsLabels", inPlace := ["internal/reflectlite.ValueOf", "(internal/reflectlite.Value).Type", "(internal/reflectlite.Value).IsNil", "internal/reflectlite.TypeOf", "(internal/reflectlite.Value).Elem", "(internal/reflectlite.Value).Set"], unfollowed := true, recurses := true, named := ["meridian/api.ErrBound", "meridian/api.ErrShape", "meridian/api.ErrText", "meridian/api.ErrTime", "meridian/api.ErrTable", "meridian/api.ErrLimit", "meridian/api.ErrState", "meridian/api.ErrFile", "meridian/api.ErrNone", "meridian/api.ErrName", "errors.errorType"], apart := false, laid := [("errors.errorType", laid_errors_errorType), ("meridian/api.ErrText", laid_meridian_api_ErrText), ("meridian/api.ErrBound", laid_meridian_api_ErrBound), ("meridian/api.ErrTime", laid_meridian_api_ErrTime), ("meridian/api.ErrTable", laid_meridian_api_ErrTable), ("meridian/api.ErrShape", laid_meridian_api_ErrShape), ("meridian/api.ErrLimit", laid_meridian_api_ErrLimit), ("meridian/api.ErrState", laid_meridian_api_ErrState), ("meridian/api.ErrFile", laid_meridian_api_ErrFile), ("meridian/api.ErrNone", laid_meridian_api_ErrNone), ("meridian/api.ErrName", laid_meridian_api_ErrName)], narrowed := true }
def SpotsLabelsUptoSaid : Prop := spotsLabelsUptoRow.holds Tryd.pinned (OpenSpec.upto spotsLabelsSpec)

/-- 'meridianlaw1.TickDays', WHERE WHAT IT READS IS OF BULK AT MOST 1048576: true; the input reads as it did. -/
def tickDaysUptoRow : OpenClaim := { program := "ytegnjiecninlaaadoor", sum := "1fa588e8d81411a5564929552e6d48072507c75ade16b4ae7fd5f870c12c2592", func := "meridian/meridianlaw1.TickDays", spec := "tickDays", inPlace := ["internal/reflectlite.ValueOf", "(internal/reflectlite.Value).Type", "(internal/reflectlite.Value).IsNil", "internal/reflectlite.TypeOf", "(internal/reflectlite.Value).Elem", "(internal/reflectlite.Value).Set"], unfollowed := true, recurses := true, named := ["meridian/api.ErrTime", "meridian/api.ErrText", "meridian/api.ErrBound", "meridian/api.ErrTable", "meridian/api.ErrShape", "meridian/api.ErrLimit", "meridian/api.ErrState", "meridian/api.ErrFile", "meridian/api.ErrNone", "meridian/api.ErrName", "errors.errorType"], apart := false, laid := [("errors.errorType", laid_errors_errorType), ("meridian/api.ErrText", laid_meridian_api_ErrText), ("meridian/api.ErrBound", laid_meridian_api_ErrBound), ("meridian/api.ErrTime", laid_meridian_api_ErrTime), ("meridian/api.ErrTable", laid_meridian_api_ErrTable), ("meridian/api.ErrShape", laid_meridian_api_ErrShape), ("meridian/api.ErrLimit", laid_meridian_api_ErrLimit), ("meridian/api.ErrState", laid_meridian_api_ErrState), ("meridian/api.ErrFile", laid_meridian_api_ErrFile), ("meridian/api.ErrNone", laid_meridian_api_ErrNone), ("meridian/api.ErrName", laid_meridian_api_ErrName)], narrowed := true }
def TickDaysUptoSaid : Prop := tickDaysUptoRow.holds Tryd.pinned (OpenSpec.upto tickDaysSpec)

/-- 'meridianlaw4.FrameCleans', WHERE WHAT IT READS IS OF BULK AT MOST 1048576: true; the input reads as it did. -/
def frameCleansUptoRow : OpenClaim := { program := "ytegnjiecninlaaadoor", sum := "1fa588e8d81411a5564929552e6d48072507c75ade16b4ae7fd5f870c12c2592", func := "meridian/meridianlaw4.FrameCleans", spec := "frameCleans", inPlace := ["internal/reflectlite.ValueOf", "(internal/reflectlite.Value).Type", "(internal/reflectlite.Value).IsNil", "internal/reflectlite.TypeOf", "(internal/reflectlite.Value).Elem", "(internal/reflectlite.Value).Set"], unfollowed := true, recurses := true, named := ["meridian/api.ErrBound", "meridian/api.ErrShape", "meridian/api.ErrText", "meridian/api.ErrTime", "meridian/api.ErrTable", "meridian/api.ErrLimit", "meridian/api.ErrState", "meridian/api.ErrFile", "meridian/api.ErrNone", "meridian/api.ErrName", "errors.errorType"], apart := false, laid := [("errors.errorType", laid_errors_errorType), ("meridian/api.ErrText", laid_meridian_api_ErrText), ("meridian/api.ErrBound", laid_meridian_api_ErrBound), ("meridian/api.ErrTime", laid_meridian_api_ErrTime), ("meridian/api.ErrTable", laid_meridian_api_ErrTable), ("meridian/api.ErrShape", laid_meridian_api_ErrShape), ("meridian/api.ErrLimit", laid_meridian_api_ErrLimit), ("meridian/api.ErrState", laid_meridian_api_ErrState), ("meridian/api.ErrFile", laid_meridian_api_ErrFile), ("meridian/api.ErrNone", laid_meridian_api_ErrNone), ("meridian/api.ErrName", laid_meridian_api_ErrName)], narrowed := true }
def FrameCleansUptoSaid : Prop := frameCleansUptoRow.holds Tryd.pinned (OpenSpec.upto frameCleansSpec)

/-- 'meridianlaw1.TickTables', WHERE WHAT IT READS IS OF BULK AT MOST 1048576: true; the input reads as it did. -/
def tickTablesUptoRow : OpenClaim := { program := "ytegnjiecninlaaadoor", sum := "1fa588e8d81411a5564929552e6d48072507c75ade16b4ae7fd5f870c12c2592", func := "meridian/meridianlaw1.TickTables", spec := "tickTables", inPlace := ["internal/reflectlite.ValueOf", "(internal/reflectlite.Value).Type", "(internal/reflectlite.Value).IsNil", "internal/reflectlite.TypeOf", "(internal/reflectlite.Value).Elem", "(internal/reflectlite.Value).Set"], unfollowed := true, recurses := true, named := ["meridian/api.ErrTime", "meridian/api.ErrBound", "meridian/api.ErrTable", "meridian/api.ErrText", "meridian/api.ErrShape", "meridian/api.ErrLimit", "meridian/api.ErrState", "meridian/api.ErrFile", "meridian/api.ErrNone", "meridian/api.ErrName", "errors.errorType"], apart := false, laid := [("errors.errorType", laid_errors_errorType), ("meridian/api.ErrText", laid_meridian_api_ErrText), ("meridian/api.ErrBound", laid_meridian_api_ErrBound), ("meridian/api.ErrTime", laid_meridian_api_ErrTime), ("meridian/api.ErrTable", laid_meridian_api_ErrTable), ("meridian/api.ErrShape", laid_meridian_api_ErrShape), ("meridian/api.ErrLimit", laid_meridian_api_ErrLimit), ("meridian/api.ErrState", laid_meridian_api_ErrState), ("meridian/api.ErrFile", laid_meridian_api_ErrFile), ("meridian/api.ErrNone", laid_meridian_api_ErrNone), ("meridian/api.ErrName", laid_meridian_api_ErrName)], narrowed := true }
def TickTablesUptoSaid : Prop := tickTablesUptoRow.holds Tryd.pinned (OpenSpec.upto tickTablesSpec)

/-- 'meridianlaw1.TickStamps', WHERE WHAT IT READS IS OF BULK AT MOST 1048576: true; the input reads as it did. -/
def tickStampsUptoRow : OpenClaim := { program := "ytegnjiecninlaaadoor", sum := "1fa588e8d81411a5564929552e6d48072507c75ade16b4ae7fd5f870c12c2592", func := "meridian/meridianlaw1.TickStamps", spec := "tickStamps", inPlace := ["internal/reflectlite.ValueOf", "(internal/reflectlite.Value).Type", "(internal/reflectlite.Value).IsNil", "internal/reflectlite.TypeOf", "(internal/reflectlite.Value).Elem", "(internal/reflectlite.Value).Set"], unfollowed := true, recurses := true, named := ["meridian/api.ErrTime", "meridian/api.ErrBound", "meridian/api.ErrTable", "meridian/api.ErrText", "meridian/api.ErrShape", "meridian/api.ErrLimit", "meridian/api.ErrState", "meridian/api.ErrFile", "meridian/api.ErrNone", "meridian/api.ErrName", "errors.errorType"], apart := false, laid := [("errors.errorType", laid_errors_errorType), ("meridian/api.ErrText", laid_meridian_api_ErrText), ("meridian/api.ErrBound", laid_meridian_api_ErrBound), ("meridian/api.ErrTime", laid_meridian_api_ErrTime), ("meridian/api.ErrTable", laid_meridian_api_ErrTable), ("meridian/api.ErrShape", laid_meridian_api_ErrShape), ("meridian/api.ErrLimit", laid_meridian_api_ErrLimit), ("meridian/api.ErrState", laid_meridian_api_ErrState), ("meridian/api.ErrFile", laid_meridian_api_ErrFile), ("meridian/api.ErrNone", laid_meridian_api_ErrNone), ("meridian/api.ErrName", laid_meridian_api_ErrName)], narrowed := true }
def TickStampsUptoSaid : Prop := tickStampsUptoRow.holds Tryd.pinned (OpenSpec.upto tickStampsSpec)

/-- 'meridianlaw1.ArcReads', WHERE WHAT IT READS IS OF BULK AT MOST 1048576: true; the input reads as it did. -/
def arcReadsUptoRow : OpenClaim := { program := "ytegnjiecninlaaadoor", sum := "1fa588e8d81411a5564929552e6d48072507c75ade16b4ae7fd5f870c12c2592", func := "meridian/meridianlaw1.ArcReads", spec := "arcReads", inPlace := ["internal/reflectlite.ValueOf", "(internal/reflectlite.Value).Type", "(internal/reflectlite.Value).IsNil", "internal/reflectlite.TypeOf", "(internal/reflectlite.Value).Elem", "(internal/reflectlite.Value).Set"], unfollowed := true, recurses := true, named := ["meridian/api.ErrText", "meridian/api.ErrBound", "meridian/api.ErrTime", "meridian/api.ErrTable", "meridian/api.ErrShape", "meridian/api.ErrLimit", "meridian/api.ErrState", "meridian/api.ErrFile", "meridian/api.ErrNone", "meridian/api.ErrName", "errors.errorType"], apart := false, laid := [("errors.errorType", laid_errors_errorType), ("meridian/api.ErrText", laid_meridian_api_ErrText), ("meridian/api.ErrBound", laid_meridian_api_ErrBound), ("meridian/api.ErrTime", laid_meridian_api_ErrTime), ("meridian/api.ErrTable", laid_meridian_api_ErrTable), ("meridian/api.ErrShape", laid_meridian_api_ErrShape), ("meridian/api.ErrLimit", laid_meridian_api_ErrLimit), ("meridian/api.ErrState", laid_meridian_api_ErrState), ("meridian/api.ErrFile", laid_meridian_api_ErrFile), ("meridian/api.ErrNone", laid_meridian_api_ErrNone), ("meridian/api.ErrName", laid_meridian_api_ErrName)], narrowed := true }
def ArcReadsUptoSaid : Prop := arcReadsUptoRow.holds Tryd.pinned (OpenSpec.upto arcReadsSpec)

/-- 'meridianlaw1.ArcTexts', WHERE WHAT IT READS IS OF BULK AT MOST 1048576: true; the input reads as it did. -/
def arcTextsUptoRow : OpenClaim := { program := "ytegnjiecninlaaadoor", sum := "1fa588e8d81411a5564929552e6d48072507c75ade16b4ae7fd5f870c12c2592", func := "meridian/meridianlaw1.ArcTexts", spec := "arcTexts", inPlace := ["internal/abi.NoEscape", "internal/bytealg.MakeNoZero"], recurses := true, named := ["internal/strconv.uint64pow10", "math/bits.deBruijn32tab", "math/bits.deBruijn64tab"], apart := false, laid := [("math/bits.deBruijn32tab", laid_math_bits_deBruijn32tab), ("math/bits.deBruijn64tab", laid_math_bits_deBruijn64tab), ("internal/strconv.uint64pow10", laid_internal_strconv_uint64pow10)], narrowed := true }
def ArcTextsUptoSaid : Prop := arcTextsUptoRow.holds Tryd.pinned (OpenSpec.upto arcTextsSpec)

/-- 'meridianlaw1.BitsTexts', WHERE WHAT IT READS IS OF BULK AT MOST 1048576: true; the input reads as it did. -/
def bitsTextsUptoRow : OpenClaim := { program := "ytegnjiecninlaaadoor", sum := "1fa588e8d81411a5564929552e6d48072507c75ade16b4ae7fd5f870c12c2592", func := "meridian/meridianlaw1.BitsTexts", spec := "bitsTexts", inPlace := ["math.Float64bits", "math.Float64frombits", "internal/reflectlite.ValueOf", "(internal/reflectlite.Value).Type", "(internal/reflectlite.Value).IsNil", "internal/reflectlite.TypeOf", "(internal/reflectlite.Value).Elem", "(internal/reflectlite.Value).Set"], unfollowed := true, recurses := true, named := ["internal/strconv.uint64pow10", "math/bits.deBruijn32tab", "math/bits.deBruijn64tab", "meridian/api.ErrText", "meridian/api.ErrBound", "meridian/api.ErrTime", "meridian/api.ErrTable", "meridian/api.ErrShape", "meridian/api.ErrLimit", "meridian/api.ErrState", "meridian/api.ErrFile", "meridian/api.ErrNone", "meridian/api.ErrName", "errors.errorType"], apart := false, laid := [("math/bits.deBruijn32tab", laid_math_bits_deBruijn32tab), ("math/bits.deBruijn64tab", laid_math_bits_deBruijn64tab), ("internal/strconv.uint64pow10", laid_internal_strconv_uint64pow10), ("errors.errorType", laid_errors_errorType), ("meridian/api.ErrText", laid_meridian_api_ErrText), ("meridian/api.ErrBound", laid_meridian_api_ErrBound), ("meridian/api.ErrTime", laid_meridian_api_ErrTime), ("meridian/api.ErrTable", laid_meridian_api_ErrTable), ("meridian/api.ErrShape", laid_meridian_api_ErrShape), ("meridian/api.ErrLimit", laid_meridian_api_ErrLimit), ("meridian/api.ErrState", laid_meridian_api_ErrState), ("meridian/api.ErrFile", laid_meridian_api_ErrFile), ("meridian/api.ErrNone", laid_meridian_api_ErrNone), ("meridian/api.ErrName", laid_meridian_api_ErrName)], narrowed := true }
def BitsTextsUptoSaid : Prop := bitsTextsUptoRow.holds Tryd.pinned (OpenSpec.upto bitsTextsSpec)

/-- 'meridianlaw1.ArcBack', WHERE WHAT IT READS IS OF BULK AT MOST 1048576: true; the input reads as it did. -/
def arcBackUptoRow : OpenClaim := { program := "ytegnjiecninlaaadoor", sum := "1fa588e8d81411a5564929552e6d48072507c75ade16b4ae7fd5f870c12c2592", func := "meridian/meridianlaw1.ArcBack", spec := "arcBack", inPlace := ["internal/abi.NoEscape", "internal/bytealg.MakeNoZero"], unfollowed := true, recurses := true, named := ["internal/strconv.uint64pow10", "math/bits.deBruijn32tab", "math/bits.deBruijn64tab", "meridian/api.ErrText"], apart := false, laid := [("math/bits.deBruijn32tab", laid_math_bits_deBruijn32tab), ("math/bits.deBruijn64tab", laid_math_bits_deBruijn64tab), ("internal/strconv.uint64pow10", laid_internal_strconv_uint64pow10), ("meridian/api.ErrText", laid_meridian_api_ErrText)], narrowed := true }
def ArcBackUptoSaid : Prop := arcBackUptoRow.holds Tryd.pinned (OpenSpec.upto arcBackSpec)

end Rows
end Go.Proofs.YtegnjiecninlaaaDoor
