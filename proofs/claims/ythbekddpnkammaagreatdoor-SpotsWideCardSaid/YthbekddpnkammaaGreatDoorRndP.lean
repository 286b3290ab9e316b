/- Round a star: plain laws. -/
import Derived.Test.YthbekddpnkammaaGreatDoorMedP
namespace Go.Proofs.YthbekddpnkammaaGreatDoor
open Go.RowKit

/-- How far a pixel's middle is from a place. -/
def midF (X Y x y : Int) : Int := (1024 * x + 512 - X) * (1024 * x + 512 - X) + (1024 * y + 512 - Y) * (1024 * y + 512 - Y)
theorem sq_bd {A B : Int} (h1 : -B ≤ A) (h2 : A ≤ B) : 0 ≤ A * A ∧ A * A ≤ B * B := by
  refine ⟨?_, ?_⟩
  · rcases Int.le_total 0 A with h | h
    · exact Int.mul_nonneg h h
    · exact Int.mul_nonneg_of_nonpos_of_nonpos h h
  · rcases Int.le_total 0 A with h | h
    · exact Int.mul_le_mul h2 h2 h (by omega)
    · have := Int.mul_le_mul (show -A ≤ B by omega) (show -A ≤ B by omega) (by omega) (by omega)
      rwa [Int.neg_mul_neg] at this
theorem sq_bd30 {A : Int} (h1 : -1000000000 ≤ A) (h2 : A ≤ 1000000000) : 0 ≤ A * A ∧ A * A ≤ 1000000000000000000 := sq_bd h1 h2
section
variable (f q : Nat → Int) (a b : Int)
/-- Light, pixels and those around, of the first k pixels. -/
def rL : Nat → Int
  | 0 => 0
  | k + 1 => rL k + (if q k ≤ a then f k else 0)
def rP : Nat → Nat
  | 0 => 0
  | k + 1 => rP k + (if q k ≤ a then 1 else 0)
def rA : Nat → List Int
  | 0 => []
  | k + 1 => rA k ++ (if q k ≤ a then [] else if q k ≤ b then [f k] else [])
end
section
variable {f q : Nat → Int} {a b : Int}
theorem rL_in {k : Nat} (h : q k ≤ a) : rL f q a (k + 1) = rL f q a k + f k := by rw [rL, if_pos h]
theorem rL_out {k : Nat} (h : ¬ q k ≤ a) : rL f q a (k + 1) = rL f q a k := by rw [rL, if_neg h, Int.add_zero]
theorem rP_in {k : Nat} (h : q k ≤ a) : rP q a (k + 1) = rP q a k + 1 := by rw [rP, if_pos h]
theorem rP_out {k : Nat} (h : ¬ q k ≤ a) : rP q a (k + 1) = rP q a k := by rw [rP, if_neg h]; rfl
theorem rA_in {k : Nat} (h : q k ≤ a) : rA f q a b (k + 1) = rA f q a b k := by rw [rA, if_pos h, List.append_nil]
theorem rA_mid {k : Nat} (h : ¬ q k ≤ a) (h2 : q k ≤ b) : rA f q a b (k + 1) = rA f q a b k ++ [f k] := by rw [rA, if_neg h, if_pos h2]
theorem rA_out {k : Nat} (h : ¬ q k ≤ a) (h2 : ¬ q k ≤ b) : rA f q a b (k + 1) = rA f q a b k := by rw [rA, if_neg h, if_neg h2, List.append_nil]
theorem rP_le (k : Nat) : rP q a k ≤ k := by
  induction k with
  | zero => exact Nat.le_refl _
  | succ k ih => rw [rP]; split <;> omega
theorem rA_len (k : Nat) : (rA f q a b k).length ≤ k := by
  induction k with
  | zero => exact Nat.le_refl _
  | succ k ih =>
    rw [rA, List.length_append]
    split
    · simp; omega
    · split
      · simp; omega
      · simp; omega
theorem rL_bd {n : Nat} (hc : ∀ j, j < n → 0 ≤ f j ∧ f j ≤ 65535) : ∀ k, k ≤ n → 0 ≤ rL f q a k ∧ rL f q a k ≤ 65535 * (k : Int)
  | 0, _ => ⟨Int.le_refl _, Int.le_refl _⟩
  | k + 1, h => by
    have ih := rL_bd hc k (by omega)
    have := hc k (by omega)
    rw [rL]
    split <;> omega
theorem rA_mem {n : Nat} (hc : ∀ j, j < n → 0 ≤ f j ∧ f j ≤ 65535) : ∀ k, k ≤ n → ∀ x, x ∈ rA f q a b k → 0 ≤ x ∧ x ≤ 65535
  | 0, _, x, hx => by simp [rA] at hx
  | k + 1, h, x, hx => by
    rw [rA, List.mem_append] at hx
    rcases hx with hx | hx
    · exact rA_mem hc k (by omega) x hx
    · split at hx
      · simp at hx
      · split at hx
        · rw [List.mem_singleton] at hx
          subst hx
          exact hc k (by omega)
        · simp at hx
end
/-- The ground around. -/
noncomputable def rG (L : List Int) : Int := if L = [] then 0 else medL L
theorem rG_nil : rG [] = 0 := if_pos rfl
theorem rG_some {L : List Int} (h : L ≠ []) : rG L = medL L := if_neg h
theorem medL_bd {L : List Int} (h : L ≠ []) (hc : ∀ x, x ∈ L → 0 ≤ x ∧ x ≤ 65535) : 0 ≤ medL L ∧ medL L ≤ 65535 := hc _ (medL_mem h)
end Go.Proofs.YthbekddpnkammaaGreatDoor
