/- The bounds of a picture's area. -/
import Derived.Test.YtjcmpkkflboaoaaGreatDoorPic
namespace Go.Proofs.YtjcmpkkflboaoaaGreatDoor
open Go.RowKit

theorem area_bd {W H : Int} {n : Nat} {f : Nat → Int} (g : picG W H n f) : 1 ≤ n ∧ n ≤ 65536 := by
  obtain ⟨w1, w2, h1, h2, c4, _⟩ := g
  have p1 : 1 ≤ W * H := by
    have := Int.mul_le_mul (show (1 : Int) ≤ W by omega) (show (1 : Int) ≤ H by omega) (by decide) (by omega)
    omega
  have p2 : W * H ≤ 65536 := by
    have := Int.mul_le_mul (show W ≤ (256 : Int) by omega) (show H ≤ (256 : Int) by omega) (by omega) (by decide)
    omega
  omega
end Go.Proofs.YtjcmpkkflboaoaaGreatDoor
