/- A star read as an argument. -/
import Derived.Test.YtjdjncfpcbeedaaDoorTab
import Derived.Lib.SmallJoins
import Derived.ChangeSame
namespace Go.Proofs.YtjdjncfpcbeedaaDoor
open Go.RowKit Go.ChangeShapes Go.WideShapes Go.Joins

theorem cells_star : Tryd.prog.cellsOf 24 = 3 := by kernel_rfl
set_option maxRecDepth 100000 in
theorem open_star {H : Type} {enc : TypeId × Value → H} {w : World} {base b0 : Nat} {r : Reach} {spare : Nat → Bool} {held : Bool} {v : Value} {d : DataW H} {p : List MemPlace}
    (hv : Value.okWide Tryd.prog w r b0 24 v) (h : DataW.Trod enc Tryd.prog w base spare held 24 v d p) : ∃ x y z : Int, v = .agg #[.int .i64 x, .int .i64 y, .int .i64 z] ∧ In64 x ∧ In64 y ∧ In64 z := by
  obtain ⟨c0, c1, c2, y0, y1, y2, m, rfl, rfl, rfl, hy0, hy1, hy2⟩ := open_agg3 Tryd.underlying24 (by kernel_rfl) cells_star hv h
  obtain ⟨a, e0, _, wa⟩ := DataW.trod_int Tryd.underlying3 hy0
  obtain ⟨b, e1, _, wb⟩ := DataW.trod_int Tryd.underlying3 hy1
  obtain ⟨c, e2, _, wc⟩ := DataW.trod_int Tryd.underlying3 hy2
  simp at e0 e1 e2
  subst e0 e1 e2
  exact ⟨a, b, c, rfl, wf_in64 wa, wf_in64 wb, wf_in64 wc⟩
end Go.Proofs.YtjdjncfpcbeedaaDoor
