/- math/bits.TrailingZeros of 16, strconv's isPowerOfTwo of 16. -/
import Derived.Test.YtpkifhmnibepiaaDoorTab
import Derived.Lib.LaidTab
import Derived.WalkLawsBesides
namespace Go.Proofs.YtpkifhmnibepiaaDoor
open Go.RowKit

def dbTab : List Int := [0, 1, 56, 2, 57, 49, 28, 3, 61, 58, 42, 50, 38, 29, 17, 4, 62, 47, 59, 36, 45, 43, 51, 22, 53, 39, 33, 30, 24, 18, 12, 5, 63, 55, 48, 27, 60, 41, 37, 16, 46, 35, 44, 21, 52, 32, 23, 11, 54, 26, 40, 15, 34, 20, 31, 10, 25, 14, 19, 9, 13, 8, 7, 6]
def DB (w : World) : Prop := Lib.TabIs Tryd.prog w "math/bits.deBruijn64tab" .u8 dbTab
theorem db_named : Tryd.prog.globalNamed "math/bits.deBruijn64tab" = some 15 := by kernel_rfl
theorem DB.cell {w : World} (h : DB w) : w.cell? ⟨15, 15, none⟩ = some (.int .u8 4) := Lib.TabIs.cell h db_named 15 (by decide)
theorem DB.below {w w' : World} (h : DB w) (hb : Below w.heap.size w w') : DB w' := by
  have h0 := h.cell
  have hlt := cell_lt h0
  have h : w.var? Tryd.prog "math/bits.deBruijn64tab" = some _ := h
  exact var?_below hb db_named hlt h
theorem tz64_any (w : World) (h : DB w) :
    Calls Tryd.prog 185 #[.int .u64 16] w fun e w' => e = .returned (.int .i64 4) ∧ Below w.heap.size w w' := by
  have h0 := h.cell
  have hn : bits .and .u64 16 (IntKind.u64.wrap (-16)) = 16 := by decide
  have hw : IntKind.u64.wrap (16 * 285870213051353865) = 4573923408821661840 := by decide
  have hw2 : IntKind.u64.wrap 4573923408821661840 = 4573923408821661840 := by decide
  clear h
  go_enter Tryd.func185, Tryd.ntmps185
  go_wp2
  go_ret
  exact ⟨rfl, by go_grown⟩
theorem tz_any (w : World) (h : DB w) :
    Calls Tryd.prog 176 #[.int .u64 16] w fun e w' => e = .returned (.int .i64 4) ∧ Below w.heap.size w w' := by
  have H := Lib.hid (tz64_any w h)
  clear h
  go_enter Tryd.func176, Tryd.ntmps176
  go_wp2_with fail
  refine H.out.mono ?_; rintro e w1 ⟨rfl, hb⟩
  go_wp2
  go_ret
  exact ⟨rfl, hb⟩
theorem pow2_any (w : World) :
    Calls Tryd.prog 175 #[.int .i64 16] w fun e w' => e = .returned (.bool true) ∧ w = w' := by
  have hn : bits .and .i64 16 15 = 0 := by decide
  go_enter Tryd.func175, Tryd.ntmps175
  go_wp2
  go_ret
  exact ⟨rfl, rfl⟩
end Go.Proofs.YtpkifhmnibepiaaDoor
