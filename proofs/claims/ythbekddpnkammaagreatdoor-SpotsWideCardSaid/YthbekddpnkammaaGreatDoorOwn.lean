/- Rows that the call gathers, kept; the bounds of a picture. -/
import Derived.Test.YthbekddpnkammaaGreatDoorMed
import Derived.Test.YthbekddpnkammaaGreatDoorPic
namespace Go.Proofs.YthbekddpnkammaaGreatDoor
open Go.RowKit

theorem own_below {w w' : World} {base e size k : Nat} {v : Value} {xs : List Value} (h : w.ownsRow base e size v k xs) (hb : Below w.heap.size w w') : w'.ownsRow base e size v k xs := by
  refine ⟨h.1, ?_⟩
  rcases h.2 with h0 | ⟨g, cap, cur, e1, e2, e3, e4⟩
  · exact Or.inl h0
  · exact Or.inr ⟨g, cap, cur, e1, e2, (hb.block g (Array.getElem?_eq_some_iff.1 e3).1).trans e3, e4⟩
theorem Gath.below {w wr w' : World} {v : Value} {L : List Int} (h : Gath w v L wr) (hb : Below wr.heap.size wr w') : Gath w v L w' := ⟨own_below h.1 hb, below_step h.2 hb⟩
theorem divmod_bd {W : Int} (h1 : 1 ≤ W) (k : Nat) : 0 ≤ (k : Int) % W ∧ (k : Int) % W < W ∧ 0 ≤ (k : Int) / W ∧ (k : Int) / W ≤ k :=
  ⟨Int.emod_nonneg _ (by omega), Int.emod_lt_of_pos _ (by omega), Int.ediv_nonneg (by omega) (by omega), Int.ediv_le_self _ (by omega)⟩
theorem area_bd {W H : Int} {n : Nat} {f : Nat → Int} (g : picG W H n f) : 1 ≤ n ∧ n ≤ 65536 := by
  obtain ⟨w1, w2, h1, h2, c4, _⟩ := g
  have p1 : 1 ≤ W * H := by
    have := Int.mul_le_mul (show (1 : Int) ≤ W by omega) (show (1 : Int) ≤ H by omega) (by decide) (by omega)
    omega
  have p2 : W * H ≤ 65536 := by
    have := Int.mul_le_mul (show W ≤ (256 : Int) by omega) (show H ≤ (256 : Int) by omega) (by omega) (by decide)
    omega
  omega
theorem below2 {w : World} (o1 o2 : Obj) : Below w.heap.size w ((w.alloc o1).alloc o2) := ((Below.refl _ _).alloc (Nat.le_refl _) _).alloc (by simp) _
end Go.Proofs.YthbekddpnkammaaGreatDoor
