/- Arguments: pictures, whole numbers, cards and bytes behind slices, with the room that they have. -/
import Derived.Test.YtjcmpkkflboaoaaGreatDoorPicArg
import Derived.Test.YtjcmpkkflboaoaaGreatDoorCrdArg
import Derived.Test.YtjcmpkkflboaoaaGreatDoorAto
namespace Go.Proofs.YtjcmpkkflboaoaaGreatDoor
open Go.RowKit Go.ChangeShapes Go.WideShapes Go.Deep

theorem add_plain {w : World} {x : Addr} {v : Value} (h : w.cell? x = some v) : x = ⟨x.block, x.off, none⟩ := by
  have := World.cell?_spot h
  obtain ⟨b, o, s⟩ := x
  simp at this
  subst this
  rfl
theorem open_irow2 {H : Type} {enc : TypeId × Value → H} {w : World} {base : Nat} {spare : Nat → Bool} {held : Bool} {fuel : Nat} {v : Value} {y : DataW H × List MemPlace}
    (h : DataW.trod enc Tryz.prog w base spare held fuel 24 [v] = some y) : ∃ a n cap f, v = .slice a n cap ∧ n ≤ cap ∧ cap ≤ 9223372036854775807 ∧ IRow w a n f ∧ ∀ j, j < n → In64 (f j) := by
  rcases open_ints Tryz.underlying24 Tryz.underlying3 (by kernel_rfl) h with ⟨hcs, _⟩ | ⟨a, len, cap, zs, hcs, _, hl, hm, hz, _, hc, hw⟩
  · simp at hcs
    exact ⟨none, 0, 0, fun _ => 0, hcs, Nat.le_refl _, by omega, Or.inl rfl, fun j hj => absurd hj (Nat.not_lt_zero _)⟩
  · simp at hcs
    have hzl : len ≤ zs.length := by rw [hz]; split <;> omega
    refine ⟨some a, len, cap, fun j => zs.getD j 0, hcs, hl, by unfold maxLen at hm; omega, ?_, fun j hj => ?_⟩
    · by_cases h0 : len = 0
      · exact Or.inl h0
      · have h1 := hc 0 (by omega)
        obtain ⟨b, off, spot⟩ := a
        have hspot : spot = none := by simpa [Addr.add] using World.cell?_spot h1
        subst hspot
        exact Or.inr ⟨b, off, rfl, fun j hj => by have := hc j (by omega); rwa [Addr.add_lit] at this⟩
    · refine wf_in64 (hw _ ?_)
      show zs.getD j 0 ∈ zs
      rw [List.getD_eq_getElem?_getD, List.getElem?_eq_getElem (by omega)]
      exact List.getElem_mem _
theorem open_bytes2 {H : Type} {enc : TypeId × Value → H} {w : World} {base : Nat} {spare : Nat → Bool} {held : Bool} {fuel : Nat} {v : Value} {y : DataW H × List MemPlace}
    (h : DataW.trod enc Tryz.prog w base spare held fuel 27 [v] = some y) : ∃ a cap l, v = .slice a l.length cap ∧ l.length ≤ cap ∧ cap ≤ 9223372036854775807 ∧ BSl w a l := by
  rcases open_ints Tryz.underlying27 Tryz.underlying5 (by kernel_rfl) h with ⟨hcs, _⟩ | ⟨a, len, cap, zs, hcs, _, hl, hm, hz, _, hc, hw⟩
  · simp at hcs
    exact ⟨none, 0, [], hcs, Nat.le_refl _, by omega, Or.inl rfl⟩
  · simp at hcs
    have hzl : len ≤ zs.length := by rw [hz]; split <;> omega
    have hll : ((zs.take len).map fun n => UInt8.ofNat n.toNat).length = len := by rw [List.length_map, List.length_take]; omega
    refine ⟨some a, cap, (zs.take len).map fun n => UInt8.ofNat n.toNat, by rw [hll]; exact hcs, by rw [hll]; exact hl, by unfold maxLen at hm; omega, ?_⟩
    by_cases h0 : len = 0
    · subst h0
      exact Or.inl rfl
    · have h1 := hc 0 (by omega)
      obtain ⟨b, off, spot⟩ := a
      have hspot : spot = none := by simpa [Addr.add] using World.cell?_spot h1
      subst hspot
      refine Or.inr ⟨b, off, rfl, fun i x hx => ?_⟩
      rw [List.getElem?_map] at hx
      obtain ⟨z, hz2, rfl⟩ := Option.map_eq_some_iff.1 hx
      have hi : i < len := by
        have := (List.getElem?_eq_some_iff.1 hz2).1
        rw [List.length_take] at this
        omega
      rw [List.getElem?_take_of_lt hi] at hz2
      have hcell := hc i (by omega)
      rw [Addr.add_lit, List.getD_eq_getElem?_getD, hz2] at hcell
      rw [hcell]
      have hwz := hw z (List.mem_of_getElem? hz2)
      have hwz2 : 0 ≤ z ∧ z ≤ 255 := by
        simp [Lit.wf] at hwz
        exact hwz
      have e : ((UInt8.ofNat z.toNat).toNat : Int) = z := by
        rw [UInt8.toNat_ofNat']
        omega
      rw [e]
      rfl
/-- What a pointer argument shows: nothing, or a picture (with the room of its counts). -/
def PicP2 (w : World) (x : Option Addr) : Prop :=
  x = none ∨ ∃ b o W H a n cap f, x = some ⟨b, o, none⟩ ∧ n ≤ cap ∧ cap ≤ 9223372036854775807 ∧ In64 W ∧ In64 H ∧ PicAt w b o W H a n cap f
theorem PicP2.one {w : World} {x : Option Addr} (h : PicP2 w x) : PicP w x := by
  rcases h with h | ⟨b, o, W, H, a, n, cap, f, h1, h2, h3, h4⟩
  · exact Or.inl h
  · exact Or.inr ⟨b, o, W, H, a, n, cap, f, h1, by omega, h4⟩
set_option maxRecDepth 20000 in
theorem open_pic2 {H : Type} {enc : TypeId × Value → H} {w : World} {base b0 : Nat} {r : Reach} {spare : Nat → Bool} {held : Bool} {v : Value} {d : DataW H} {p : List MemPlace}
    (hv : Value.okWide Tryz.prog w r b0 22 v) (h : DataW.Trod enc Tryz.prog w base spare held 22 v d p) : ∃ x, v = .pointer x ∧ PicP2 w x := by
  obtain ⟨fuel, hf⟩ := h
  obtain ⟨x, rfl⟩ : ∃ x, v = .pointer x := okWide_pointer Tryz.underlying22 hv
  refine ⟨x, rfl, ?_⟩
  rcases open_ptr_fields3 Tryz.underlying22 Tryz.underlying33 (by kernel_rfl) (by kernel_rfl) (by simpa [Value.cells] using hf) with ⟨hcs, _⟩ | ⟨b, o, n, v0, v1, v2, y0, y1, y2, hcs, _, _, k0, k1, k2, t0, t1, t2⟩
  · simp at hcs
    exact Or.inl hcs
  · simp at hcs
    obtain ⟨W, e0, _, w0⟩ := DataW.trod_int Tryz.underlying3 t0
    obtain ⟨H', e1, _, w1⟩ := DataW.trod_int Tryz.underlying3 t1
    obtain ⟨a, m, cap, f, e2, hm, hm2, hr, _⟩ := open_irow2 t2
    simp at e0 e1
    subst e0 e1 e2
    exact Or.inr ⟨b, o, W, H', a, m, cap, f, hcs, hm, hm2, wf_in64 w0, wf_in64 w1, k0, k1, k2, hr⟩
theorem open_cards2 {H : Type} {enc : TypeId × Value → H} {w : World} {base : Nat} {spare : Nat → Bool} {held : Bool} {fuel : Nat} {a : Option Addr} {len cap : Nat} {x : DataW H × List MemPlace}
    (h : DataW.trod enc Tryz.prog w base spare held fuel 23 [.slice a len cap] = some x) : len ≤ cap ∧ cap ≤ 9223372036854775807 ∧ ∃ cs : List Crd, cs.length = len ∧ CRow w a cs := by
  obtain ⟨_, hcs⟩ := open_cards h
  rcases open_slice Tryz.underlying23 h with ⟨h0, _⟩ | ⟨x, l, c, m, n, D, Pl, hc, _, hl, hm, _⟩
  · simp at h0
    obtain ⟨rfl, rfl, rfl⟩ := h0
    exact ⟨Nat.le_refl _, by omega, hcs⟩
  · simp at hc
    obtain ⟨rfl, rfl, rfl⟩ := hc
    exact ⟨hl, by unfold maxLen at hm; omega, hcs⟩
end Go.Proofs.YtjcmpkkflboaoaaGreatDoor
