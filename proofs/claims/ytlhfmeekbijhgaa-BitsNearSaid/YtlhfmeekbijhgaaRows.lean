/-
  No cell of these rows narrows 'for every input' (looked for: loops, veiled, ifaces, maps, wideKeys, modest, calm, conditions, laid).
  DERIVED. THE GIVEN ROWS OF THIS SEAT. 7 by the template 'for every input the law returns true; each argument reads behind the call as it read before'; 0 by the template 'total and deterministic' (their statements: YtlhfmeekbijhgaaTotals.lean).
  GIVEN WITH THE SEED: the statements are not yours to turn. If you find one false, say at which input.
  Laid BY PROGRAM, IN A SANDBOX (cutbox-rows.mjs): the forced cells as the released guide's own fill.sh prints them over the translation d3ac0ade6875ef7f… (all of the seat's roots in one cut). By AI agents, Wed Nov 11 2026. No macro, syntax, notation, axiom, sorry.
-/
import Derived.Test.YtlhfmeekbijhgaaChecked
import GoSem.Claim
import GoSem.ClaimJoined
import GoSem.ClaimMapViews
import Derived.JoinedTies
import Derived.KernelRfl
namespace Go.Proofs.Ytlhfmeekbijhgaa
/- THE CELL 'sum', in the pinned program and in every row, IS THE sha256 OF THE DUMP (.gsa) THAT YtlhfmeekbijhgaaProg.lean LOADS. Nothing in Lean hashes anything: it is a label: what it is worth is what the hold of that sum in a sandbox is worth. -/
noncomputable def Try.pinned : Pinned := { name := "ytlhfmeekbijhgaa", sum := "d3ac0ade6875ef7f2a16e7127ab98b16c736de7a697eeeefb892999356585b1b", checked := Try.checked }
namespace Rows
def none {H : Type} : Left H := { results := [], args := [] }

/-- 'meridianlaw1.ArcNorms': WHATEVER THE INPUT: true; the input reads as it did. -/
def arcNormsSpec : ChangeSpec := { name := "arcNorms", fn := fun _ => fun
  | [d1, d2] => { results := [.lit (.bool true)], args := [d1, d2] }
  | _ => none }
def arcNormsRow : OpenClaim := { program := "ytlhfmeekbijhgaa", sum := "d3ac0ade6875ef7f2a16e7127ab98b16c736de7a697eeeefb892999356585b1b", func := "meridian/meridianlaw1.ArcNorms", spec := "arcNorms", apart := false }
def ArcNormsSaid : Prop := arcNormsRow.holds Try.pinned (OpenSpec.ofChange arcNormsSpec)

/-- ITS FALSE NEIGHBOUR: 'it returns false'. Refute it at one input. -/
def arcNormsWrong : ChangeSpec := { name := "arcNorms", fn := fun _ => fun
  | [d1, d2] => { results := [.lit (.bool false)], args := [d1, d2] }
  | _ => none }
def ArcNormsWrongFalsely : Prop := arcNormsRow.holds Try.pinned (OpenSpec.ofChange arcNormsWrong)

/-- 'meridianlaw1.ArcMean': WHATEVER THE INPUT: true; the input reads as it did. -/
def arcMeanSpec : ChangeSpec := { name := "arcMean", fn := fun _ => fun
  | [d] => { results := [.lit (.bool true)], args := [d] }
  | _ => none }
def arcMeanRow : OpenClaim := { program := "ytlhfmeekbijhgaa", sum := "d3ac0ade6875ef7f2a16e7127ab98b16c736de7a697eeeefb892999356585b1b", func := "meridian/meridianlaw1.ArcMean", spec := "arcMean", apart := false }
def ArcMeanSaid : Prop := arcMeanRow.holds Try.pinned (OpenSpec.ofChange arcMeanSpec)

/-- ITS FALSE NEIGHBOUR: 'it returns false'. Refute it at one input. -/
def arcMeanWrong : ChangeSpec := { name := "arcMean", fn := fun _ => fun
  | [d] => { results := [.lit (.bool false)], args := [d] }
  | _ => none }
def ArcMeanWrongFalsely : Prop := arcMeanRow.holds Try.pinned (OpenSpec.ofChange arcMeanWrong)

/-- 'meridianlaw1.BitsCircle': WHATEVER THE INPUT: true; the input reads as it did. -/
def bitsCircleSpec : ChangeSpec := { name := "bitsCircle", fn := fun _ => fun
  | [d] => { results := [.lit (.bool true)], args := [d] }
  | _ => none }
def bitsCircleRow : OpenClaim := { program := "ytlhfmeekbijhgaa", sum := "d3ac0ade6875ef7f2a16e7127ab98b16c736de7a697eeeefb892999356585b1b", func := "meridian/meridianlaw1.BitsCircle", spec := "bitsCircle", apart := false }
def BitsCircleSaid : Prop := bitsCircleRow.holds Try.pinned (OpenSpec.ofChange bitsCircleSpec)

/-- ITS FALSE NEIGHBOUR: 'it returns false'. Refute it at one input. -/
def bitsCircleWrong : ChangeSpec := { name := "bitsCircle", fn := fun _ => fun
  | [d] => { results := [.lit (.bool false)], args := [d] }
  | _ => none }
def BitsCircleWrongFalsely : Prop := bitsCircleRow.holds Try.pinned (OpenSpec.ofChange bitsCircleWrong)

/-- 'meridianlaw1.BitsSines': WHATEVER THE INPUT: true; the input reads as it did. -/
def bitsSinesSpec : ChangeSpec := { name := "bitsSines", fn := fun _ => fun
  | [d] => { results := [.lit (.bool true)], args := [d] }
  | _ => none }
def bitsSinesRow : OpenClaim := { program := "ytlhfmeekbijhgaa", sum := "d3ac0ade6875ef7f2a16e7127ab98b16c736de7a697eeeefb892999356585b1b", func := "meridian/meridianlaw1.BitsSines", spec := "bitsSines", inPlace := ["math.Float64bits"], apart := false }
def BitsSinesSaid : Prop := bitsSinesRow.holds Try.pinned (OpenSpec.ofChange bitsSinesSpec)

/-- ITS FALSE NEIGHBOUR: 'it returns false'. Refute it at one input. -/
def bitsSinesWrong : ChangeSpec := { name := "bitsSines", fn := fun _ => fun
  | [d] => { results := [.lit (.bool false)], args := [d] }
  | _ => none }
def BitsSinesWrongFalsely : Prop := bitsSinesRow.holds Try.pinned (OpenSpec.ofChange bitsSinesWrong)

/-- 'meridianlaw1.BitsRoots': WHATEVER THE INPUT: true; the input reads as it did. -/
def bitsRootsSpec : ChangeSpec := { name := "bitsRoots", fn := fun _ => fun
  | [d1, d2] => { results := [.lit (.bool true)], args := [d1, d2] }
  | _ => none }
def bitsRootsRow : OpenClaim := { program := "ytlhfmeekbijhgaa", sum := "d3ac0ade6875ef7f2a16e7127ab98b16c736de7a697eeeefb892999356585b1b", func := "meridian/meridianlaw1.BitsRoots", spec := "bitsRoots", inPlace := ["math.sqrt", "math.Float64bits"], apart := false }
def BitsRootsSaid : Prop := bitsRootsRow.holds Try.pinned (OpenSpec.ofChange bitsRootsSpec)

/-- ITS FALSE NEIGHBOUR: 'it returns false'. Refute it at one input. -/
def bitsRootsWrong : ChangeSpec := { name := "bitsRoots", fn := fun _ => fun
  | [d1, d2] => { results := [.lit (.bool false)], args := [d1, d2] }
  | _ => none }
def BitsRootsWrongFalsely : Prop := bitsRootsRow.holds Try.pinned (OpenSpec.ofChange bitsRootsWrong)

/-- 'meridianlaw1.BitsAngles': WHATEVER THE INPUT: true; the input reads as it did. -/
def bitsAnglesSpec : ChangeSpec := { name := "bitsAngles", fn := fun _ => fun
  | [d1, d2] => { results := [.lit (.bool true)], args := [d1, d2] }
  | _ => none }
def bitsAnglesRow : OpenClaim := { program := "ytlhfmeekbijhgaa", sum := "d3ac0ade6875ef7f2a16e7127ab98b16c736de7a697eeeefb892999356585b1b", func := "meridian/meridianlaw1.BitsAngles", spec := "bitsAngles", inPlace := ["math.Float64bits", "math.Float64frombits"], apart := false }
def BitsAnglesSaid : Prop := bitsAnglesRow.holds Try.pinned (OpenSpec.ofChange bitsAnglesSpec)

/-- ITS FALSE NEIGHBOUR: 'it returns false'. Refute it at one input. -/
def bitsAnglesWrong : ChangeSpec := { name := "bitsAngles", fn := fun _ => fun
  | [d1, d2] => { results := [.lit (.bool false)], args := [d1, d2] }
  | _ => none }
def BitsAnglesWrongFalsely : Prop := bitsAnglesRow.holds Try.pinned (OpenSpec.ofChange bitsAnglesWrong)

/-- 'meridianlaw1.BitsNear': WHATEVER THE INPUT: true; the input reads as it did. -/
def bitsNearSpec : ChangeSpec := { name := "bitsNear", fn := fun _ => fun
  | [d1, d2] => { results := [.lit (.bool true)], args := [d1, d2] }
  | _ => none }
def bitsNearRow : OpenClaim := { program := "ytlhfmeekbijhgaa", sum := "d3ac0ade6875ef7f2a16e7127ab98b16c736de7a697eeeefb892999356585b1b", func := "meridian/meridianlaw1.BitsNear", spec := "bitsNear", inPlace := ["math.Float64bits", "math.Float64frombits"], apart := false }
def BitsNearSaid : Prop := bitsNearRow.holds Try.pinned (OpenSpec.ofChange bitsNearSpec)

/-- ITS FALSE NEIGHBOUR: 'it returns false'. Refute it at one input. -/
def bitsNearWrong : ChangeSpec := { name := "bitsNear", fn := fun _ => fun
  | [d1, d2] => { results := [.lit (.bool false)], args := [d1, d2] }
  | _ => none }
def BitsNearWrongFalsely : Prop := bitsNearRow.holds Try.pinned (OpenSpec.ofChange bitsNearWrong)

/- THE SECOND FORM. 'bulk': how many values and letters a reading holds, each counted each time it is reached (what is shared counts as often as it is met; a slice's spare places count too). A statement '..UptoSaid' is the law's where the arguments, and the package variables that the reading takes, are together of bulk at most 1048576: NARROWER than '..Said'. Prove '..Said' where nothing that the law and all that it calls make is longer than what came in: it says more and counts as full. Else prove '..UptoSaid'. A law counts once. -/
mutual
def uptoBulk {H : Type} : DataW H → Nat
  | .lit (.string bytes) => bytes.length + 1
  | .lit _ => 1
  | .nil => 1
  | .ptr d => uptoBulk d + 1
  | .slice elems spare => uptoBulkAll elems + uptoBulkAll spare + 1
  | .agg parts => uptoBulkAll parts + 1
  | .iface _ d => uptoBulk d + 1
  | .map entries => uptoBulkEntries entries + 1
  | .held _ => 1
def uptoBulkAll {H : Type} : List (DataW H) → Nat
  | [] => 0
  | d :: r => uptoBulk d + uptoBulkAll r
def uptoBulkEntries {H : Type} : List (Lit × DataW H) → Nat
  | [] => 0
  | x :: r => uptoBulkEntry x + uptoBulkEntries r
def uptoBulkEntry {H : Type} : Lit × DataW H → Nat
  | (.string bytes, d) => bytes.length + uptoBulk d + 1
  | (_, d) => uptoBulk d + 1
 end
def uptoSmall : (H : Type) → List (DataW H) → Bool := fun _ ds => decide (uptoBulkAll ds ≤ 1048576)
def OpenSpec.upto (s : _root_.Go.ChangeSpec) : _root_.Go.OpenSpec := { _root_.Go.OpenSpec.ofChange s with cond := some uptoSmall }

/-- 'meridianlaw1.ArcNorms', WHERE WHAT IT READS IS OF BULK AT MOST 1048576: true; the input reads as it did. -/
def arcNormsUptoRow : OpenClaim := { program := "ytlhfmeekbijhgaa", sum := "d3ac0ade6875ef7f2a16e7127ab98b16c736de7a697eeeefb892999356585b1b", func := "meridian/meridianlaw1.ArcNorms", spec := "arcNorms", apart := false, narrowed := true }
def ArcNormsUptoSaid : Prop := arcNormsUptoRow.holds Try.pinned (OpenSpec.upto arcNormsSpec)

/-- 'meridianlaw1.ArcMean', WHERE WHAT IT READS IS OF BULK AT MOST 1048576: true; the input reads as it did. -/
def arcMeanUptoRow : OpenClaim := { program := "ytlhfmeekbijhgaa", sum := "d3ac0ade6875ef7f2a16e7127ab98b16c736de7a697eeeefb892999356585b1b", func := "meridian/meridianlaw1.ArcMean", spec := "arcMean", apart := false, narrowed := true }
def ArcMeanUptoSaid : Prop := arcMeanUptoRow.holds Try.pinned (OpenSpec.upto arcMeanSpec)

/-- 'meridianlaw1.BitsCircle', WHERE WHAT IT READS IS OF BULK AT MOST 1048576: true; the input reads as it did. -/
def bitsCircleUptoRow : OpenClaim := { program := "ytlhfmeekbijhgaa", sum := "d3ac0ade6875ef7f2a16e7127ab98b16c736de7a697eeeefb892999356585b1b", func := "meridian/meridianlaw1.BitsCircle", spec := "bitsCircle", apart := false, narrowed := true }
def BitsCircleUptoSaid : Prop := bitsCircleUptoRow.holds Try.pinned (OpenSpec.upto bitsCircleSpec)

/-- 'meridianlaw1.BitsSines', WHERE WHAT IT READS IS OF BULK AT MOST 1048576: true; the input reads as it did. -/
def bitsSinesUptoRow : OpenClaim := { program := "ytlhfmeekbijhgaa", sum := "d3ac0ade6875ef7f2a16e7127ab98b16c736de7a697eeeefb892999356585b1b", func := "meridian/meridianlaw1.BitsSines", spec := "bitsSines", inPlace := ["math.Float64bits"], apart := false, narrowed := true }
def BitsSinesUptoSaid : Prop := bitsSinesUptoRow.holds Try.pinned (OpenSpec.upto bitsSinesSpec)

/-- 'meridianlaw1.BitsRoots', WHERE WHAT IT READS IS OF BULK AT MOST 1048576: true; the input reads as it did. -/
def bitsRootsUptoRow : OpenClaim := { program := "ytlhfmeekbijhgaa", sum := "d3ac0ade6875ef7f2a16e7127ab98b16c736de7a697eeeefb892999356585b1b", func := "meridian/meridianlaw1.BitsRoots", spec := "bitsRoots", inPlace := ["math.sqrt", "math.Float64bits"], apart := false, narrowed := true }
def BitsRootsUptoSaid : Prop := bitsRootsUptoRow.holds Try.pinned (OpenSpec.upto bitsRootsSpec)

/-- 'meridianlaw1.BitsAngles', WHERE WHAT IT READS IS OF BULK AT MOST 1048576: true; the input reads as it did. -/
def bitsAnglesUptoRow : OpenClaim := { program := "ytlhfmeekbijhgaa", sum := "d3ac0ade6875ef7f2a16e7127ab98b16c736de7a697eeeefb892999356585b1b", func := "meridian/meridianlaw1.BitsAngles", spec := "bitsAngles", inPlace := ["math.Float64bits", "math.Float64frombits"], apart := false, narrowed := true }
def BitsAnglesUptoSaid : Prop := bitsAnglesUptoRow.holds Try.pinned (OpenSpec.upto bitsAnglesSpec)

/-- 'meridianlaw1.BitsNear', WHERE WHAT IT READS IS OF BULK AT MOST 1048576: true; the input reads as it did. -/
def bitsNearUptoRow : OpenClaim := { program := "ytlhfmeekbijhgaa", sum := "d3ac0ade6875ef7f2a16e7127ab98b16c736de7a697eeeefb892999356585b1b", func := "meridian/meridianlaw1.BitsNear", spec := "bitsNear", inPlace := ["math.Float64bits", "math.Float64frombits"], apart := false, narrowed := true }
def BitsNearUptoSaid : Prop := bitsNearUptoRow.holds Try.pinned (OpenSpec.upto bitsNearSpec)

end Rows
end Go.Proofs.Ytlhfmeekbijhgaa
