/- A slice of cards read as an argument: its cells. -/
import Derived.Test.YtjcmpkkflboaoaaGreatDoorCrdE
import Derived.Deep.Slices
import Derived.Deep.Fields
import Derived.ChangeSame
import Derived.ChangeArms
namespace Go.Proofs.YtjcmpkkflboaoaaGreatDoor
open Go.RowKit Go.ChangeShapes Go.WideShapes Go.Deep

theorem cells_card : Tryz.prog.cellsOf 51 = 2 := by kernel_rfl
theorem cells_str : Tryz.prog.cellsOf 9 = 1 := by kernel_rfl
theorem add_someC {w : World} {a : Addr} {v : Value} (n : Nat) (h : w.cell? a = some v) : a.add n = ⟨a.block, a.off + n, none⟩ := by
  obtain ⟨b, off, spot⟩ := a
  have hs : spot = none := World.cell?_spot h
  subst hs
  unfold Addr.add
  split <;> simp_all
theorem two_cellsC {l : List Value} (h : l.length = 2) : ∃ u v, l = [u, v] :=
  match l, h with
  | [u, v], _ => ⟨u, v, rfl⟩
set_option maxRecDepth 20000 in
theorem open_cards {H : Type} {enc : TypeId × Value → H} {w : World} {base : Nat} {spare : Nat → Bool} {held : Bool} {fuel : Nat} {a : Option Addr} {len cap : Nat} {x : DataW H × List MemPlace}
    (h : DataW.trod enc Tryz.prog w base spare held fuel 23 [.slice a len cap] = some x) : len ≤ 9223372036854775807 ∧ ∃ cs : List Crd, cs.length = len ∧ CRow w a cs := by
  rcases open_slice Tryz.underlying23 h with ⟨h0, _⟩ | ⟨x, l, c, m, n, D, Pl, hcs, _, hl, hm, hmm, _, hi⟩
  · simp at h0
    exact ⟨by omega, [], h0.2.1.symm, Or.inl rfl⟩
  · simp at hcs
    obtain ⟨rfl, rfl, rfl⟩ := hcs
    by_cases h0 : len = 0
    · exact ⟨by omega, [], h0.symm, Or.inl rfl⟩
    have hlm : len ≤ m := by rw [hmm]; split <;> omega
    have key : ∀ j, j < len → ∃ p : Crd, w.cell? (x.add (j * 2)) = some (.string (bs p.1)) ∧ w.cell? ((x.add (j * 2)).add 1) = some (.string (bs p.2)) ∧ p.1.length ≤ 9223372036854775807 ∧ p.2.length ≤ 9223372036854775807 := by
      intro j hj
      obtain ⟨cs', hc, ht⟩ := hi j (by omega)
      rw [cells_card] at hc
      obtain ⟨_, hlen, hat⟩ := World.cells?_some hc
      obtain ⟨xs, n', _, _, _, hxl, hf⟩ := DataW.trod_struct Tryz.underlying51 ht
      clear ht
      obtain ⟨u, v, rfl⟩ := two_cellsC hlen
      clear hi hmm
      have f0 : DataW.trod enc Tryz.prog w base spare held n' 9 (([u, v].drop 0).take (Tryz.prog.cellsOf 9)) = xs[0]? := hf 0 _ rfl
      have f1 : DataW.trod enc Tryz.prog w base spare held n' 9 (([u, v].drop 1).take (Tryz.prog.cellsOf 9)) = xs[1]? := hf 1 _ rfl
      rw [cells_str] at f0 f1
      have hx0 : xs[0]? = some (xs[0]'(by rw [hxl]; decide)) := List.getElem?_eq_getElem _
      have hx1 : xs[1]? = some (xs[1]'(by rw [hxl]; decide)) := List.getElem?_eq_getElem _
      rw [hx0] at f0
      rw [hx1] at f1
      obtain ⟨p, e0, _, w0⟩ := DataW.trod_string Tryz.underlying9 f0
      obtain ⟨q, e1, _, w1⟩ := DataW.trod_string Tryz.underlying9 f1
      simp at e0 e1
      subst e0
      subst e1
      have hb : ∀ s : ByteArray, bs s.data.toList = s := bs_of
      refine ⟨(p.data.toList, q.data.toList), ?_, ?_, ?_, ?_⟩
      · have := hat 0 (by omega); rw [hb]; simpa [Addr.add] using this
      · have := hat 1 (by omega); rw [hb]; simpa using this
      · rw [ba_len]; exact w0
      · rw [ba_len]; exact w1
    obtain ⟨f, hf⟩ := choose_lt key
    have hx := (hf 0 (by omega)).1
    have hx : w.cell? x = some (.string (bs (f 0).1)) := by simpa [Addr.add] using hx
    have hadd : ∀ k, x.add k = ⟨x.block, x.off + k, none⟩ := fun k => add_someC k hx
    have hxe : x = ⟨x.block, x.off, none⟩ := by
      have := World.cell?_spot hx
      obtain ⟨b, o, s⟩ := x
      simp at this
      subst this
      rfl
    refine ⟨by have hml : maxLen = 9223372036854775807 := rfl; omega, (List.range len).map f, by simp, Or.inr ⟨x.block, x.off, by rw [hxe], fun i hi2 => ?_⟩⟩
    have hi3 : i < len := by simpa using hi2
    have e : ((List.range len).map f).getD i ([], []) = f i := by
      rw [List.getD_eq_getElem?_getD, List.getElem?_map, List.getElem?_range hi3]
      rfl
    unfold nmC vlC
    rw [e]
    obtain ⟨h1, h2, h3, h4⟩ := hf i hi3
    rw [hadd] at h1
    rw [add_someC 1 (by rw [hadd]; exact h1), hadd] at h2
    exact ⟨⟨h1, h2⟩, h3, h4⟩
end Go.Proofs.YtjcmpkkflboaoaaGreatDoor
