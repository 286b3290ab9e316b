/- A slice of leap seconds read as an argument: its cells. -/
import Derived.Test.YtjdjncfpcbeedaaDoorTab
import Derived.Deep.Slices
import Derived.Deep.Fields
import Derived.ChangeSame
namespace Go.Proofs.YtjdjncfpcbeedaaDoor
open Go.RowKit Go.ChangeShapes Go.WideShapes Go.Deep

theorem cells_leap : Tryd.prog.cellsOf 133 = 2 := by kernel_rfl
theorem cells_int : Tryd.prog.cellsOf 3 = 1 := by kernel_rfl
theorem add_some {w : World} {a : Addr} {v : Value} (n : Nat) (h : w.cell? a = some v) : a.add n = ⟨a.block, a.off + n, none⟩ := by
  obtain ⟨b, off, spot⟩ := a
  have hs : spot = none := World.cell?_spot h
  subst hs
  unfold Addr.add
  split <;> simp_all

theorem two_cells {l : List Value} (h : l.length = 2) : ∃ u v, l = [u, v] :=
  match l, h with
  | [u, v], _ => ⟨u, v, rfl⟩

set_option maxRecDepth 20000 in
theorem open_leaps {H : Type} {enc : TypeId × Value → H} {w : World} {base : Nat} {spare : Nat → Bool} {held : Bool} {fuel : Nat} {a : Option Addr} {len cap : Nat} {x : DataW H × List MemPlace}
    (h : DataW.trod enc Tryd.prog w base spare held fuel 50 [.slice a len cap] = some x) : ∃ D A, Tab w a len D A := by
  rcases open_slice Tryd.underlying50 h with ⟨h0, _⟩ | ⟨x, l, c, m, n, D, Pl, hcs, _, hl, hm, hmm, _, hi⟩
  · simp at h0
    exact ⟨fun _ => 0, fun _ => 0, Or.inl h0.2.1⟩
  · simp at hcs
    obtain ⟨rfl, rfl, rfl⟩ := hcs
    by_cases h0 : len = 0
    · exact ⟨fun _ => 0, fun _ => 0, Or.inl h0⟩
    have hlm : len ≤ m := by rw [hmm]; split <;> omega
    have key : ∀ j, j < len → ∃ p : Int × Int, w.cell? (x.add (j * 2)) = some (.int .i64 p.1) ∧ w.cell? ((x.add (j * 2)).add 1) = some (.int .i64 p.2) ∧ In64 p.1 ∧ In64 p.2 := by
      intro j hj
      obtain ⟨cs', hc, ht⟩ := hi j (by omega)
      rw [cells_leap] at hc
      obtain ⟨_, hlen, hat⟩ := World.cells?_some hc
      obtain ⟨xs, n', _, _, _, hxl, hf⟩ := DataW.trod_struct Tryd.underlying133 ht
      clear ht
      obtain ⟨u, v, rfl⟩ := two_cells hlen
      have hj := hj
      · clear hi hmm
        have f0 : DataW.trod enc Tryd.prog w base spare held n' 3 (([u, v].drop 0).take (Tryd.prog.cellsOf 3)) = xs[0]? := hf 0 _ rfl
        have f1 : DataW.trod enc Tryd.prog w base spare held n' 3 (([u, v].drop 1).take (Tryd.prog.cellsOf 3)) = xs[1]? := hf 1 _ rfl
        rw [cells_int] at f0 f1
        have hx0 : xs[0]? = some (xs[0]'(by rw [hxl]; decide)) := List.getElem?_eq_getElem _
        have hx1 : xs[1]? = some (xs[1]'(by rw [hxl]; decide)) := List.getElem?_eq_getElem _
        rw [hx0] at f0
        rw [hx1] at f1
        obtain ⟨p, e0, _, w0⟩ := DataW.trod_int Tryd.underlying3 f0
        obtain ⟨q, e1, _, w1⟩ := DataW.trod_int Tryd.underlying3 f1
        simp at e0 e1
        subst e0
        subst e1
        refine ⟨(p, q), ?_, ?_, wf_in64 w0, wf_in64 w1⟩
        · have := hat 0 (by omega); simpa [Addr.add] using this
        · have := hat 1 (by omega); simpa using this
    obtain ⟨f, hf⟩ := choose_lt key
    have hx := (hf 0 (by omega)).1
    have hx : w.cell? x = some (.int .i64 (f 0).1) := by simpa [Addr.add] using hx
    refine ⟨fun j => (f j).1, fun j => (f j).2, Or.inr ⟨x.block, x.off, ?_, ?_⟩⟩
    · obtain ⟨b, off, spot⟩ := x
      have hs : spot = none := World.cell?_spot hx
      rw [hs]
    · intro j hj
      obtain ⟨h1, h2, h3, h4⟩ := hf j hj
      rw [add_some _ hx] at h1 h2
      rw [add_some 1 h1] at h2
      exact ⟨h1, h2, h3, h4⟩
end Go.Proofs.YtjdjncfpcbeedaaDoor
