/- A stamp read as an argument. -/
import Derived.Test.YtjdjncfpcbeedaaDoorTab
import Derived.Lib.SmallJoins
import Derived.ChangeSame
namespace Go.Proofs.YtjdjncfpcbeedaaDoor
open Go.RowKit Go.ChangeShapes Go.WideShapes Go.Joins

theorem cells_stamp : Tryd.prog.cellsOf 52 = 2 := by kernel_rfl
set_option maxRecDepth 100000 in
theorem open_stamp {H : Type} {enc : TypeId × Value → H} {w : World} {base b0 : Nat} {r : Reach} {spare : Nat → Bool} {held : Bool} {v : Value} {d : DataW H} {p : List MemPlace}
    (hv : Value.okWide Tryd.prog w r b0 52 v) (h : DataW.Trod enc Tryd.prog w base spare held 52 v d p) : ∃ x y : Int, v = .agg #[.int .i64 x, .int .i64 y] ∧ In64 x ∧ In64 y := by
  obtain ⟨c0, c1, y0, y1, m, rfl, rfl, rfl, hy0, hy1⟩ := open_agg2 Tryd.underlying52 (by kernel_rfl) cells_stamp hv h
  obtain ⟨a, e0, _, wa⟩ := DataW.trod_int Tryd.underlying3 hy0
  obtain ⟨b, e1, _, wb⟩ := DataW.trod_int Tryd.underlying3 hy1
  simp at e0 e1
  subst e0 e1
  exact ⟨a, b, rfl, wf_in64 wa, wf_in64 wb⟩
end Go.Proofs.YtjdjncfpcbeedaaDoor
