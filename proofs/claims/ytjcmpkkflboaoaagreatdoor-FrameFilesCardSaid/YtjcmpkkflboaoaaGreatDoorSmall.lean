/- small of package meridianlaw4, at a pointer argument. -/
import Derived.Test.YtjcmpkkflboaoaaGreatDoorPicE
import Derived.Test.YtjcmpkkflboaoaaGreatDoorPicArg
namespace Go.Proofs.YtjcmpkkflboaoaaGreatDoor
open Go.RowKit

/-- small, whatever the pointer. -/
theorem small_is {w : World} {x : Option Addr} (h : PicP w x) : ∃ s : Bool, (∀ W, Below w.heap.size w W → Calls Tryz.prog 6 #[.pointer x] W fun e w' => e = .returned (.bool s) ∧ W = w') ∧ (s = true → ∃ b o W H a n cap f, x = some ⟨b, o, none⟩ ∧ n ≤ 700 ∧ In64 W ∧ In64 H ∧ PicAt w b o W H a n cap f) := by
  rcases h with rfl | ⟨b, o, W, H, a, n, cap, f, rfl, hn, iw, ih, hp⟩
  · exact ⟨false, fun W _ => small_nil W, fun h => by cases h⟩
  · exact ⟨decide ((n : Int) ≤ 700), fun W' hb => small_pic b o W H f a n cap W' (hp.below hb), fun h => ⟨b, o, W, H, a, n, cap, f, rfl, by have := of_decide_eq_true h; omega, iw, ih, hp⟩⟩
end Go.Proofs.YtjcmpkkflboaoaaGreatDoor
