/- Pictures in a row, read as an argument. -/
import Derived.Test.YtjdjncfpcbeedaaDoorPics
import Derived.Test.YtjdjncfpcbeedaaDoorPicArg
import Derived.Test.YtjdjncfpcbeedaaDoorLeaps
namespace Go.Proofs.YtjdjncfpcbeedaaDoor
open Go.RowKit Go.ChangeShapes Go.WideShapes Go.Deep

theorem cells_picture : Tryd.prog.cellsOf 31 = 3 := by kernel_rfl
theorem cells_ints : Tryd.prog.cellsOf 29 = 1 := by kernel_rfl
theorem three_cells {l : List Value} (h : l.length = 3) : ∃ u v t, l = [u, v, t] :=
  match l, h with
  | [u, v, t], _ => ⟨u, v, t, rfl⟩

set_option maxRecDepth 20000 in
theorem open_pics {H : Type} {enc : TypeId × Value → H} {w : World} {base : Nat} {spare : Nat → Bool} {held : Bool} {fuel : Nat} {a : Option Addr} {len cap : Nat} {x : DataW H × List MemPlace}
    (h : DataW.trod enc Tryd.prog w base spare held fuel 37 [.slice a len cap] = some x) : len ≤ 9223372036854775807 ∧ ∃ D, Pics w a len D := by
  rcases open_slice Tryd.underlying37 h with ⟨h0, _⟩ | ⟨x, l, c, m, n, D, Pl, hcs, _, hl, hm, hmm, _, hi⟩
  · simp at h0
    exact ⟨by omega, ⟨fun _ => 0, fun _ => 0, fun _ => none, fun _ => 0, fun _ => 0, fun _ _ => 0⟩, Or.inl h0.2.1⟩
  · simp at hcs
    obtain ⟨rfl, rfl, rfl⟩ := hcs
    refine ⟨by unfold maxLen at hm; omega, ?_⟩
    by_cases h0 : len = 0
    · exact ⟨⟨fun _ => 0, fun _ => 0, fun _ => none, fun _ => 0, fun _ => 0, fun _ _ => 0⟩, Or.inl h0⟩
    have hlm : len ≤ m := by rw [hmm]; split <;> omega
    have key : ∀ j, j < len → ∃ p : (Int × Int) × (Option Addr × Nat × Nat × (Nat → Int)), w.cell? (x.add (j * 3)) = some (.int .i64 p.1.1) ∧ w.cell? ((x.add (j * 3)).add 1) = some (.int .i64 p.1.2) ∧ w.cell? ((x.add (j * 3)).add 2) = some (.slice p.2.1 p.2.2.1 p.2.2.2.1) ∧ IRow w p.2.1 p.2.2.1 p.2.2.2.2 ∧ In64 p.1.1 ∧ In64 p.1.2 ∧ p.2.2.1 ≤ 9223372036854775807 := by
      intro j hj
      obtain ⟨cs', hc, ht⟩ := hi j (by omega)
      rw [cells_picture] at hc
      obtain ⟨_, hlen, hat⟩ := World.cells?_some hc
      obtain ⟨xs, n', _, _, _, hxl, hf⟩ := DataW.trod_struct Tryd.underlying31 ht
      clear ht
      obtain ⟨u, v, t, rfl⟩ := three_cells hlen
      clear hi hmm
      have f0 : DataW.trod enc Tryd.prog w base spare held n' 3 (([u, v, t].drop 0).take (Tryd.prog.cellsOf 3)) = xs[0]? := hf 0 _ rfl
      have f1 : DataW.trod enc Tryd.prog w base spare held n' 3 (([u, v, t].drop 1).take (Tryd.prog.cellsOf 3)) = xs[1]? := hf 1 _ rfl
      have f2 : DataW.trod enc Tryd.prog w base spare held n' 29 (([u, v, t].drop 2).take (Tryd.prog.cellsOf 29)) = xs[2]? := hf 2 _ rfl
      rw [cells_int] at f0 f1
      rw [cells_ints] at f2
      have hx0 : xs[0]? = some (xs[0]'(by rw [hxl]; decide)) := List.getElem?_eq_getElem _
      have hx1 : xs[1]? = some (xs[1]'(by rw [hxl]; decide)) := List.getElem?_eq_getElem _
      have hx2 : xs[2]? = some (xs[2]'(by rw [hxl]; decide)) := List.getElem?_eq_getElem _
      rw [hx0] at f0
      rw [hx1] at f1
      rw [hx2] at f2
      obtain ⟨p, e0, _, w0⟩ := DataW.trod_int Tryd.underlying3 f0
      obtain ⟨q, e1, _, w1⟩ := DataW.trod_int Tryd.underlying3 f1
      obtain ⟨a2, m2, c2, g2, e2, hm2, hr2⟩ := open_irow (v := t) (by simpa using f2)
      simp at e0 e1
      subst e0
      subst e1
      subst e2
      refine ⟨((p, q), (a2, m2, c2, g2)), ?_, ?_, ?_, hr2, wf_in64 w0, wf_in64 w1, hm2⟩
      · have := hat 0 (by omega); simpa [Addr.add] using this
      · have := hat 1 (by omega); simpa using this
      · have := hat 2 (by omega); simpa using this
    obtain ⟨f, hf⟩ := choose_lt key
    have hx := (hf 0 (by omega)).1
    have hx : w.cell? x = some (.int .i64 (f 0).1.1) := by simpa [Addr.add] using hx
    refine ⟨⟨fun j => (f j).1.1, fun j => (f j).1.2, fun j => (f j).2.1, fun j => (f j).2.2.1, fun j => (f j).2.2.2.1, fun j => (f j).2.2.2.2⟩, Or.inr ⟨x.block, x.off, ?_, ?_⟩⟩
    · obtain ⟨b, off, spot⟩ := x
      have hs : spot = none := World.cell?_spot hx
      rw [hs]
    · intro j hj
      obtain ⟨h1, h2, h3, h4, h5, h6, h7⟩ := hf j hj
      rw [add_some _ hx] at h1 h2 h3
      rw [add_some 1 h1] at h2
      rw [add_some 2 h1] at h3
      exact ⟨⟨h1, h2, h3, h4⟩, h5, h6, h7⟩
end Go.Proofs.YtjdjncfpcbeedaaDoor
