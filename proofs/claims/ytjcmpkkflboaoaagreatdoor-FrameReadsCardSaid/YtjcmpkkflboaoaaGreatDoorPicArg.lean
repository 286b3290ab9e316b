/- A pointer to a picture read as an argument. -/
import Derived.Test.YtjcmpkkflboaoaaGreatDoorPicE
import Derived.Deep.Fields23
import Derived.ChangeSlices
import Derived.ChangeSame
namespace Go.Proofs.YtjcmpkkflboaoaaGreatDoor
open Go.RowKit Go.ChangeShapes Go.WideShapes Go.Deep

/-- What a pointer argument shows: nothing, or a picture. -/
def PicP (w : World) (x : Option Addr) : Prop :=
  x = none ∨ ∃ b o W H a n cap f, x = some ⟨b, o, none⟩ ∧ n ≤ 9223372036854775807 ∧ In64 W ∧ In64 H ∧ PicAt w b o W H a n cap f
theorem PicP.below {w w' : World} {x : Option Addr} (h : PicP w x) (hb : Below w.heap.size w w') : PicP w' x := by
  rcases h with h | ⟨b, o, W, H, a, n, cap, f, e, hn, iw, ih, hp⟩
  · exact Or.inl h
  · exact Or.inr ⟨b, o, W, H, a, n, cap, f, e, hn, iw, ih, hp.below hb⟩

theorem open_irow {H : Type} {enc : TypeId × Value → H} {w : World} {base : Nat} {spare : Nat → Bool} {held : Bool} {fuel : Nat} {v : Value} {y : DataW H × List MemPlace}
    (h : DataW.trod enc Tryz.prog w base spare held fuel 24 [v] = some y) : ∃ a n cap f, v = .slice a n cap ∧ n ≤ 9223372036854775807 ∧ IRow w a n f := by
  rcases open_ints Tryz.underlying24 Tryz.underlying3 (by kernel_rfl) h with ⟨hcs, _⟩ | ⟨a, len, cap, zs, hcs, _, hl, hm, hz, _, hc, _⟩
  · simp at hcs
    exact ⟨none, 0, 0, fun _ => 0, hcs, by omega, Or.inl rfl⟩
  · simp at hcs
    refine ⟨some a, len, cap, fun j => zs.getD j 0, hcs, by unfold maxLen at hm; omega, ?_⟩
    have hzl : len ≤ zs.length := by rw [hz]; split <;> omega
    by_cases h0 : len = 0
    · exact Or.inl h0
    · have h1 := hc 0 (by omega)
      obtain ⟨b, off, spot⟩ := a
      have hspot : spot = none := by simpa [Addr.add] using World.cell?_spot h1
      subst hspot
      exact Or.inr ⟨b, off, rfl, fun j hj => by have := hc j (by omega); rwa [Addr.add_lit] at this⟩

set_option maxRecDepth 20000 in
theorem open_pic {H : Type} {enc : TypeId × Value → H} {w : World} {base b0 : Nat} {r : Reach} {spare : Nat → Bool} {held : Bool} {v : Value} {d : DataW H} {p : List MemPlace}
    (hv : Value.okWide Tryz.prog w r b0 22 v) (h : DataW.Trod enc Tryz.prog w base spare held 22 v d p) : ∃ x, v = .pointer x ∧ PicP w x := by
  obtain ⟨fuel, hf⟩ := h
  obtain ⟨x, rfl⟩ : ∃ x, v = .pointer x := okWide_pointer Tryz.underlying22 hv
  refine ⟨x, rfl, ?_⟩
  rcases open_ptr_fields3 Tryz.underlying22 Tryz.underlying33 (by kernel_rfl) (by kernel_rfl) (by simpa [Value.cells] using hf) with ⟨hcs, _⟩ | ⟨b, o, n, v0, v1, v2, y0, y1, y2, hcs, _, _, k0, k1, k2, t0, t1, t2⟩
  · simp at hcs
    exact Or.inl hcs
  · simp at hcs
    obtain ⟨W, e0, _, w0⟩ := DataW.trod_int Tryz.underlying3 t0
    obtain ⟨H', e1, _, w1⟩ := DataW.trod_int Tryz.underlying3 t1
    obtain ⟨a, m, cap, f, e2, hm, hr⟩ := open_irow t2
    simp at e0 e1
    subst e0 e1 e2
    exact Or.inr ⟨b, o, W, H', a, m, cap, f, hcs, hm, wf_in64 w0, wf_in64 w1, k0, k1, k2, hr⟩
end Go.Proofs.YtjcmpkkflboaoaaGreatDoor
