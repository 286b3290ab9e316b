/- The least label around a pixel: what the reference's leastAround computes. -/
import Derived.Test.YthbekddpnkammaaGreatDoorLabel
namespace Go.Proofs.YthbekddpnkammaaGreatDoor
open Go.RowKit

/-- What the search has found, rows up to d and columns up to e being looked at. -/
def leastP (M : Nat → Nat) (wide n i : Nat) (d e : Nat) (b : Nat) : Prop :=
  (b = M i ∨ ∃ j, Adj wide n i j ∧ 0 < M j ∧ b = M j) ∧ b ≤ M i ∧
  ∀ d' e', (d' < d ∨ (d' = d ∧ e' < e)) → d' < 3 → e' < 3 → ∀ m : Nat, m < n → 0 ≤ ((i % wide : Nat) : Int) + ((e' : Int) - 1) → ((i % wide : Nat) : Int) + ((e' : Int) - 1) < wide → (m : Int) = nbAt i wide d' e' → 0 < M m → b ≤ M m
section
variable {M : Nat → Nat} {wide n i d e b : Nat}
theorem leastP.zero (M : Nat → Nat) (wide n i : Nat) : leastP M wide n i 0 0 (M i) := ⟨Or.inl rfl, Nat.le_refl _, fun d' e' h => by omega⟩
theorem leastP.row (h : leastP M wide n i d 3 b) : leastP M wide n i (d + 1) 0 b :=
  ⟨h.1, h.2.1, fun d' e' hd h1 h2 => h.2.2 d' e' (by omega) h1 h2⟩
theorem leastP.out (h : leastP M wide n i d e b) (ho : ∀ m : Nat, m < n → 0 ≤ ((i % wide : Nat) : Int) + ((e : Int) - 1) → ((i % wide : Nat) : Int) + ((e : Int) - 1) < wide → (m : Int) = nbAt i wide d e → 0 < M m → b ≤ M m) : leastP M wide n i d (e + 1) b := by
  refine ⟨h.1, h.2.1, fun d' e' hd h1 h2 m hm => ?_⟩
  by_cases c : d' = d ∧ e' = e
  · obtain ⟨rfl, rfl⟩ := c
    exact ho m hm
  · exact h.2.2 d' e' (by omega) h1 h2 m hm
theorem leastP.in (h : leastP M wide n i d e b) {m : Nat} (hi : i < n) (hm : m < n) (hd : d < 3) (he : e < 3) (h1 : 0 ≤ ((i % wide : Nat) : Int) + ((e : Int) - 1)) (h2 : ((i % wide : Nat) : Int) + ((e : Int) - 1) < wide) (h3 : (m : Int) = nbAt i wide d e) (h4 : 0 < M m) (h5 : M m < b) : leastP M wide n i d (e + 1) (M m) := by
  refine ⟨Or.inr ⟨m, ⟨hi, hm, fun e => ?_, (d : Int) - 1, (e : Int) - 1, by omega, by omega, by omega, by omega, h3, h1, h2⟩, h4, rfl⟩, ?_, fun d' e' hd' g1 g2 m' hm' a1 a2 a3 a4 => ?_⟩
  · rw [e] at h5; have := h.2.1; omega
  · have := h.2.1; omega
  · by_cases c : d' = d ∧ e' = e
    · obtain ⟨rfl, rfl⟩ := c
      have : m = m' := by omega
      rw [this]; exact Nat.le_refl _
    · have := h.2.2 d' e' (by omega) g1 g2 m' hm' a1 a2 a3 a4
      omega
theorem leastP.all (h : leastP M wide n i 3 0 b) {j : Nat} (ha : Adj wide n i j) (hj : 0 < M j) : b ≤ M j := by
  obtain ⟨_, h2, _, dy, dx, a1, a2, b1, b2, e, c1, c2⟩ := ha
  refine h.2.2 (dy + 1).toNat (dx + 1).toNat (by omega) (by omega) (by omega) j h2 (by omega) (by omega) ?_ hj
  unfold nbAt
  rw [show (((dy + 1).toNat : Nat) : Int) - 1 = dy by omega, show (((dx + 1).toNat : Nat) : Int) - 1 = dx by omega]; exact e
end

end Go.Proofs.YthbekddpnkammaaGreatDoor
