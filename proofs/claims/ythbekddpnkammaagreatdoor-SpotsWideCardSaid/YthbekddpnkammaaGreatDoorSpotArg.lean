/- A spot read as an argument: nine numbers. -/
import Derived.Test.YthbekddpnkammaaGreatDoorDel
import Derived.Lib.SmallJoins
import Derived.ChangeSame
namespace Go.Proofs.YthbekddpnkammaaGreatDoor
open Go.RowKit Go.ChangeShapes Go.WideShapes Go.Joins

theorem array9 {α : Type} {cs : Array α} (h : cs.size = 9) : ∃ c0 c1 c2 c3 c4 c5 c6 c7 c8, cs = #[c0, c1, c2, c3, c4, c5, c6, c7, c8] := by
  obtain ⟨l⟩ := cs
  match l, h with
  | [c0, c1, c2, c3, c4, c5, c6, c7, c8], _ => exact ⟨c0, c1, c2, c3, c4, c5, c6, c7, c8, rfl⟩
theorem cells_spot4 : Tryz.prog.cellsOf 26 = 9 := by kernel_rfl
theorem cells_star4 : Tryz.prog.cellsOf 24 = 3 := by kernel_rfl
theorem cells_int4 : Tryz.prog.cellsOf 3 = 1 := by kernel_rfl
set_option maxRecDepth 100000 in
theorem open_spot {H : Type} {enc : TypeId × Value → H} {w : World} {base b0 : Nat} {r : Reach} {spare : Nat → Bool} {held : Bool} {v : Value} {d : DataW H} {p : List MemPlace}
    (hv : Value.okWide Tryz.prog w r b0 26 v) (h : DataW.Trod enc Tryz.prog w base spare held 26 v d p) : ∃ s : Sp, v = aggSp s := by
  obtain ⟨cs, rfl, hsz⟩ := okWide_struct Tryz.underlying26 hv
  obtain ⟨c0, c1, c2, c3, c4, c5, c6, c7, c8, rfl⟩ := array9 (hsz.trans cells_spot4)
  obtain ⟨fuel, hf⟩ := h
  obtain ⟨xs, n, _, _, _, hlen, hg⟩ := DataW.trod_struct Tryz.underlying26 hf
  match xs, hlen with
  | [y0, y1, y2, y3, y4, y5, y6], _ =>
    have g0 : DataW.trod enc Tryz.prog w base spare held n 3 [c0] = some y0 := by simpa [Value.cells, cells_int4] using hg 0 _ rfl
    have g1 : DataW.trod enc Tryz.prog w base spare held n 3 [c1] = some y1 := by simpa [Value.cells, cells_int4] using hg 1 _ rfl
    have g2 : DataW.trod enc Tryz.prog w base spare held n 3 [c2] = some y2 := by simpa [Value.cells, cells_int4] using hg 2 _ rfl
    have g3 : DataW.trod enc Tryz.prog w base spare held n 3 [c3] = some y3 := by simpa [Value.cells, cells_int4] using hg 3 _ rfl
    have g4 : DataW.trod enc Tryz.prog w base spare held n 3 [c4] = some y4 := by simpa [Value.cells, cells_int4] using hg 4 _ rfl
    have g5 : DataW.trod enc Tryz.prog w base spare held n 3 [c5] = some y5 := by simpa [Value.cells, cells_int4] using hg 5 _ rfl
    have g6 : DataW.trod enc Tryz.prog w base spare held n 24 [c6, c7, c8] = some y6 := by simpa [Value.cells, cells_star4] using hg 6 _ rfl
    obtain ⟨a0, e0, _, _⟩ := DataW.trod_int Tryz.underlying3 g0
    obtain ⟨a1, e1, _, _⟩ := DataW.trod_int Tryz.underlying3 g1
    obtain ⟨a2, e2, _, _⟩ := DataW.trod_int Tryz.underlying3 g2
    obtain ⟨a3, e3, _, _⟩ := DataW.trod_int Tryz.underlying3 g3
    obtain ⟨a4, e4, _, _⟩ := DataW.trod_int Tryz.underlying3 g4
    obtain ⟨a5, e5, _, _⟩ := DataW.trod_int Tryz.underlying3 g5
    obtain ⟨zs, m, _, _, _, hlen2, hs⟩ := DataW.trod_struct Tryz.underlying24 g6
    match zs, hlen2 with
    | [z0, z1, z2], _ =>
      have s0 : DataW.trod enc Tryz.prog w base spare held m 3 [c6] = some z0 := by simpa [cells_int4] using hs 0 _ rfl
      have s1 : DataW.trod enc Tryz.prog w base spare held m 3 [c7] = some z1 := by simpa [cells_int4] using hs 1 _ rfl
      have s2 : DataW.trod enc Tryz.prog w base spare held m 3 [c8] = some z2 := by simpa [cells_int4] using hs 2 _ rfl
      obtain ⟨a6, e6, _, _⟩ := DataW.trod_int Tryz.underlying3 s0
      obtain ⟨a7, e7, _, _⟩ := DataW.trod_int Tryz.underlying3 s1
      obtain ⟨a8, e8, _, _⟩ := DataW.trod_int Tryz.underlying3 s2
      simp only [List.cons.injEq, and_true] at e0 e1 e2 e3 e4 e5 e6 e7 e8
      subst e0 e1 e2 e3 e4 e5 e6 e7 e8
      exact ⟨⟨a0, a1, a2, a3, a4, a5, a6, a7, a8⟩, rfl⟩
end Go.Proofs.YthbekddpnkammaaGreatDoor
