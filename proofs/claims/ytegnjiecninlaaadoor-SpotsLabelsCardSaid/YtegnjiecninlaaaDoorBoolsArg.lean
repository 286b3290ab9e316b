/- A slice of bools read as an argument. -/
import Derived.Test.YtegnjiecninlaaaDoorInts
import Derived.Deep.Grids
namespace Go.Proofs.YtegnjiecninlaaaDoor
open Go.RowKit Go.ChangeShapes Go.WideShapes Go.Deep

set_option maxRecDepth 20000 in
theorem open_bools' {H : Type} {enc : TypeId × Value → H} {w : World} {base : Nat} {held : Bool} {fuel : Nat} {a : Option Addr} {len cap : Nat} {x : DataW H × List MemPlace}
    (h : DataW.trod enc Tryd.prog w base (fun _ => true) held fuel 29 [.slice a len cap] = some x) : ∃ L, Bools w a len L := by
  rcases open_bools Tryd.underlying29 Tryd.underlying4 (by kernel_rfl) h with ⟨hcs, _⟩ | ⟨a', len', cap', B, hcs, _, hl, hm, _, hc⟩
  · simp at hcs
    exact ⟨fun _ => false, Or.inl hcs.2.1⟩
  · simp at hcs
    obtain ⟨rfl, rfl, rfl⟩ := hcs
    by_cases h0 : len = 0
    · exact ⟨fun _ => false, Or.inl h0⟩
    · have h1 := hc 0 (by omega)
      obtain ⟨b, off, spot⟩ := a'
      have hspot : spot = none := by simpa [Addr.add] using World.cell?_spot h1
      subst hspot
      exact ⟨B, Or.inr ⟨b, off, rfl, fun j hj => by have := hc j (by omega); rwa [Addr.add_lit] at this⟩⟩
end Go.Proofs.YtegnjiecninlaaaDoor
