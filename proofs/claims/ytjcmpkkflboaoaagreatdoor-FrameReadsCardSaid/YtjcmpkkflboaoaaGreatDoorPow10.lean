/- The library's table of powers of ten (XFmtU's first part). -/
import Derived.Test.YtjcmpkkflboaoaaGreatDoorShelf
import Derived.Test.YtjcmpkkflboaoaaGreatDoorTxtP
import Derived.Lib.AppendIntMem
import Derived.Lib.ItoaMem
import Derived.WalkSmall
namespace Go.Proofs.YtjcmpkkflboaoaaGreatDoor
open Go.RowKit Go.Sort

/-- The library's table of powers of ten is as its text has it. -/
def Pow10 (w : World) : Prop := Lib.TabIs Tryz.prog w "internal/strconv.uint64pow10" .u64 Lib.pow10Tab
theorem pow10_named : Tryz.prog.globalNamed "internal/strconv.uint64pow10" = some 14 := by kernel_rfl
theorem Pow10.below {w w' : World} (h : Pow10 w) (hb : Below w.heap.size w w') : Pow10 w' := by
  have h0 := Lib.TabIs.cell h pow10_named 0 (by decide)
  have hlt := cell_lt h0
  have h : w.var? Tryz.prog "internal/strconv.uint64pow10" = some _ := h
  exact var?_below hb pow10_named hlt h

theorem nDigits_le20 (u : Nat) (h : u < 18446744073709551616) : Lib.nDigits u ≤ 20 := by
  rcases Nat.eq_zero_or_pos u with e | e
  · rw [e, Lib.nDigits_small (by decide)]; decide
  · have := Lib.numDigits_eq u e h
    split at this <;> omega
theorem repeat0 (c : Nat) : Lib.repeatL [48] c = List.replicate c 48 := by
  have h := Lib.repeatL_replicate 48 1 c
  simpa using h
end Go.Proofs.YtjcmpkkflboaoaaGreatDoor
